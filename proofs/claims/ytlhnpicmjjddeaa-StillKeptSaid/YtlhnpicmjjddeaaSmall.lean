/- Small functions of the statements: Cut, In, Same (layer 1's reference). -/
import Derived.Test.YtlhnpicmjjddeaaRows
import Derived.Test.YtlhnpicmjjddeaaMem
namespace Go.Proofs.Ytlhnpicmjjddeaa
open Go.RowKit

theorem r01Cut (w : World) (e : TypeId) (v : Value) (l : List UInt8) (n : Nat) (hb : Bytes w e v l) :
    Calls Try.prog 22 #[v, .int .i64 n] w (RetBytes e (l.take n) w) := by
  obtain ⟨ao, cap, rfl, h1, h2⟩ := hb.form
  unfold maxLen at h2
  by_cases h : n < l.length
  · have hh := hb.head n (by omega)
    have H := hid hh; clear hh
    go_enter Try.func22, Try.ntmps22
    go_wp2
    go_ret
    exact ⟨_, rfl, H.out, rfl⟩
  · have ht : l.take n = l := List.take_of_length_le (by omega)
    rw [ht]; clear ht
    go_enter Try.func22, Try.ntmps22
    go_wp2
    go_ret
    exact ⟨_, rfl, hb, rfl⟩

theorem r01In (w : World) (n lo hi : Int) : Calls Try.prog 31 #[.int .i64 n, .int .i64 lo, .int .i64 hi] w
    fun e w' => e = .returned (.int .i64 (if n < lo then lo else if hi < n then hi else n)) ∧ w = w' := by
  by_cases h1 : n < lo
  · rw [if_pos h1]
    go_enter Try.func31, Try.ntmps31
    go_wp2
    go_ret
    exact ⟨rfl, rfl⟩
  · rw [if_neg h1]
    by_cases h2 : hi < n
    · rw [if_pos h2]
      go_enter Try.func31, Try.ntmps31
      go_wp2
      go_ret
      exact ⟨rfl, rfl⟩
    · rw [if_neg h2]
      go_enter Try.func31, Try.ntmps31
      go_wp2
      go_ret
      exact ⟨rfl, rfl⟩

theorem take_ext {l r : List UInt8} (k : Nat) (h1 : k < l.length) (h2 : k < r.length) (h : l.take k = r.take k) (hk : l[k].toNat = r[k].toNat) : l.take (k + 1) = r.take (k + 1) := by
  rw [List.take_succ_eq_append_getElem h1, List.take_succ_eq_append_getElem h2, h, UInt8.toNat_inj.1 hk]
theorem ne_of_at {l r : List UInt8} (k : Nat) (h1 : k < l.length) (h2 : k < r.length) (h : l[k].toNat ≠ r[k].toNat) : decide (l = r) = false := by
  apply decide_eq_false
  intro e
  subst e
  exact h rfl

set_option maxHeartbeats 800000 in
theorem r01Same (w : World) (e1 e2 : TypeId) (v1 v2 : Value) (l r : List UInt8) (hl : Bytes w e1 v1 l) (hr : Bytes w e2 v2 r) :
    Calls Try.prog 29 #[v1, v2] w (RetBool (decide (l = r)) w) := by
  obtain ⟨a1, c1, rfl, h1, h2⟩ := hl.form
  obtain ⟨a2, c2, rfl, h3, h4⟩ := hr.form
  unfold maxLen at h2 h4
  by_cases hlen : l.length = r.length
  · have hd : ((l.length : Int) != (r.length : Int)) = false := by simp [hlen]
    have hl1 : l.length ≤ r.length := by omega
    have hl2 : r.length ≤ l.length := by omega
    have HL := hid hlen; clear hlen
    go_enter Try.func29, Try.ntmps29
    go_wp2
    go_loopw [5] (fun i wr => ∃ k : Nat, ∃ n : Nat, k ≤ l.length ∧ i = .int .i64 k ∧ l.take k = r.take k ∧ wr = w.drewN n) (fun i _ => l.length - (intOf i).toNat)
    case atStart => exact ⟨0, 0, Nat.zero_le _, rfl, rfl, rfl⟩
    case round =>
      obtain ⟨k, n, hk, rfl, ht, rfl⟩ := hrel
      have HT := hid ht; clear ht
      by_cases hlt : k < l.length
      · obtain ⟨g, o, rfl, hcell⟩ := hl.cells (by omega)
        obtain ⟨g', o', rfl, hcell'⟩ := hr.cells (by omega)
        have hk2 : k < r.length := by omega
        have hc1 := hcell k hlt
        have hc2 := hcell' k hk2
        clear hcell hcell'
        by_cases hne : l[k].toNat = r[k].toNat
        · have HN := hid hne
          have hq : ((l[k].toNat : Int) != (r[k].toNat : Int)) = false := by simp [hne]
          clear hne
          go_wp2
          go_quiet (fail)
          go_wp2
          go_roundw
          case rel => exact ⟨k + 1, _, by omega, by go_num, take_ext k hlt hk2 HT.out HN.out, rfl⟩
          case measure => simp [intOf]; omega
        · have HN := hid (ne_of_at k hlt hk2 hne)
          have hq : ((l[k].toNat : Int) != (r[k].toNat : Int)) = true := by simp; omega
          clear hne
          go_wp2
          go_quiet (fail)
          go_wp2
          go_ret
          rw [HN.out]
          exact ⟨_, rfl, World.drewN_drewN _ _ _⟩
      · have HE : Hid (decide (l = r) = true) := by
          apply decide_eq_true
          have h5 := HT.out
          rwa [List.take_of_length_le (by omega), List.take_of_length_le (by omega)] at h5
        go_wp2
        go_ret
        rw [HE.out]
        exact ⟨_, rfl, rfl⟩
  · have hd : ((l.length : Int) != (r.length : Int)) = true := by simp; omega
    have HE : Hid (decide (l = r) = false) := decide_eq_false (fun e => hlen (by rw [e]))
    clear hlen
    go_enter Try.func29, Try.ntmps29
    go_wp2
    go_ret
    rw [HE.out]
    exact ⟨0, rfl, rfl⟩
theorem r01SameS (w : World) (e1 e2 : TypeId) (v1 v2 : Value) (l r : List UInt8) (hl : Bytes w e1 v1 l) (hr : Bytes w e2 v2 r) :
    Calls Try.prog 29 #[v1, v2] w (RetSame (.bool (decide (l = r))) w) :=
  (r01Same w e1 e2 v1 v2 l r hl hr).mono fun _ _ ⟨n, he, hw⟩ => ⟨he, by rw [hw]; exact Same.of_drewN w n⟩
end Go.Proofs.Ytlhnpicmjjddeaa
