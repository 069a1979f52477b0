/- What the functions of Go's library compute here: Clone, Grow, Concat of rows of bytes; Equal. -/
import Derived.Test.YtlhnpicmjjddeaaTys
import Derived.Test.YtlhnpicmjjddeaaZeros
namespace Go.Proofs.Ytlhnpicmjjddeaa
open Go.RowKit

/-- a call hands back a new row of bytes, its own; only new blocks -/
def RetOwn (l : List UInt8) (w : World) (en : Ending) (w' : World) : Prop := ∃ v, en = .returned v ∧ OwnB w' w.heap.size v l ∧ Same w w'

theorem OwnB.made {w : World} (base g n : Nat) (cur : Array Value) (l : List UInt8) (hg : w.heap[g]? = some (.cells cur 5 (0, 0))) (hb : base ≤ g) (hm : n ≤ maxLen)
    (hl : l.length = n) (hp : cur.toList = l.map u8) : OwnB w base (.slice (some ⟨g, 0, none⟩) n n) l := by
  subst hl
  have hs : cur.size = l.length := by rw [← Array.length_toList, hp, List.length_map]
  exact ⟨by simp, .inr ⟨g, l.length, cur, rfl, hb, hg, Nat.le_refl _, hm, by omega, by rw [hp]; exact List.take_of_length_le (by simp)⟩⟩

theorem OwnB.made_none (w : World) : OwnB (w.alloc (.cells #[] 5)) w.heap.size (.slice (some ⟨w.heap.size, 0, none⟩) 0 0) [] :=
  OwnB.made _ _ 0 #[] [] (heap_alloc_new w _) (Nat.le_refl _) (by decide) rfl rfl

set_option maxRecDepth 100000 in
theorem cloneBytes (w : World) (e : TypeId) (v : Value) (l : List UInt8) (hb : Bytes w e v l) (hl : Hid (l.length ≤ 1000000)) :
    Calls Try.prog 85 #[v] w (RetOwn l w) := by
  obtain ⟨ao, cap, rfl, h1, h2⟩ := hb.form
  have S0 := Same.refl w
  have kn := fun (w : World) => Lib.run_eql_slice_nil (P := Try.prog) w 23 5 ao l.length cap 0 0 Try.underlying23
  cases ao with
  | none =>
    obtain ⟨_, _, _, hv, _, _, hn, _⟩ := id hb
    simp only [Value.slice.injEq] at hv
    obtain ⟨rfl, _, rfl⟩ := hv
    have hl0 : l = [] := List.eq_nil_of_length_eq_zero (by have := hn rfl; omega)
    subst hl0
    have hcap := hn rfl
    subst hcap
    simp only [Option.isNone_none, List.length_nil] at kn ⊢
    go_enter Try.func85, Try.ntmps85
    go_wp2_with fail
    go_ret
    exact ⟨_, rfl, OwnB.nil _ _, S0⟩
  | some a =>
    simp only [Option.isNone_some] at kn
    have S1 := S0.alloc (.cells #[] 5)
    have hb1 := hb.same S1
    have HO := OwnB.made_none w
    go_enter Try.func85, Try.ntmps85
    go_wp2_with (at_builtin; refine wpList_append_bytes rfl (.tmp 5) (.tmp 6) 23 tyBytes rfl HO hb1 rfl rfl (by have := hl.out; simp; omega) (by simp) ?_; intro x1 w1 ho1 hg1; simp only [List.nil_append] at ho1; have S2 := S1.grown_own HO (Nat.le_refl _) hg1)
    go_ret
    exact ⟨_, rfl, ho1, S2⟩

theorem OwnB.none_left {w : World} {base : Nat} {a : Option Addr} {n c : Nat} {l : List UInt8} (h : OwnB w base (.slice a n c) l) : OwnB w base (.slice a 0 c) [] := by
  obtain ⟨h1, h2⟩ := h
  refine ⟨rfl, ?_⟩
  rcases h2 with ⟨h2, _⟩ | ⟨g, cap, cur, hv, b, hg, hn, hm, hs, _⟩
  · simp only [Value.slice.injEq] at h2
    obtain ⟨rfl, _, rfl⟩ := h2
    exact .inl ⟨rfl, rfl⟩
  · simp only [Value.slice.injEq] at hv
    obtain ⟨rfl, _, rfl⟩ := hv
    exact .inr ⟨g, c, cur, rfl, b, hg, Nat.zero_le _, hm, hs, by simp⟩

set_option maxRecDepth 100000 in
theorem growNone (w : World) (n : Nat) (hn : Hid (n ≤ 1000000)) :
    Calls Try.prog 116 #[.slice none 0 0, .int .i64 n] w (RetOwn [] w) := by
  have S0 := Same.refl w
  have hn' : n ≤ 9223372036854775807 := by have := hn.out; omega
  by_cases h : n = 0
  · subst h
    go_enter Try.func116, Try.ntmps116
    go_wp2_with fail
    go_ret
    exact ⟨_, rfl, OwnB.nil _ _, S0⟩
  · go_enter Try.func116, Try.ntmps116
    go_wp2_with (at_builtin; refine wpList_append_zeros rfl (.tmp 20) (.tmp 21) 23 3 tyBytes Try.underlying3 rfl (OwnB.nil w w.heap.size) .i64 n rfl rfl (by have := hn.out; simp; omega) (Nat.le_refl _) ?_; intro x1 w1 ho1 hg1; simp only [List.nil_append] at ho1; have S1 := S0.grown_nil hg1; obtain ⟨ax, cx, rfl, hx1, hx2⟩ := ho1.bytes.form; have ho2 := ho1.none_left; unfold maxLen at hx2; simp only [List.length_replicate] at hx1 ⊢)
    go_ret
    exact ⟨_, rfl, ho2, S1⟩

theorem ret_beq (l r : List UInt8) : Ending.returned (.bool (l == r)) = .returned (.bool (decide (l = r))) := by
  by_cases h : l = r <;> simp [h]
theorem convertBytes (w : World) (e : TypeId) (ao : Option Addr) (cap : Nat) (l : List UInt8) (hb : Bytes w e (.slice ao l.length cap) l) :
    (convert 23 9 (.slice ao l.length cap)).run Try.prog w = .ok (.string ⟨l.toArray⟩) w := by
  cases ao with
  | none =>
    obtain ⟨_, _, _, hv, hc, _, hn, _⟩ := id hb
    simp only [Value.slice.injEq] at hv
    obtain ⟨rfl, _, rfl⟩ := hv
    have hl0 : l = [] := List.eq_nil_of_length_eq_zero (by have := hn rfl; omega)
    subst hl0
    rw [run_convert_bytes_string w 23 9 5 none _ _ Try.underlying23 Try.underlying5 Try.underlying9]
    rfl
  | some a =>
    refine run_convert_bytes_back w 23 9 5 a cap l Try.underlying23 Try.underlying5 Try.underlying9 fun j hj => ?_
    obtain ⟨g, o, ha, hc⟩ := hb.cells (by omega)
    cases ha
    have hadd : (⟨g, o, none⟩ : Addr).add j = ⟨g, o + j, none⟩ := by unfold Addr.add; split <;> simp_all
    rw [hadd]
    exact hc j hj

set_option maxRecDepth 100000 in
/-- Equal of two rows of bytes -/
theorem equalBytes (w : World) (e1 e2 : TypeId) (v1 v2 : Value) (l r : List UInt8) (hl : Bytes w e1 v1 l) (hr : Bytes w e2 v2 r) :
    Calls Try.prog 86 #[v1, v2] w fun en w' => en = .returned (.bool (decide (l = r))) ∧ w = w' := by
  obtain ⟨a1, c1, rfl, h1, h2⟩ := hl.form
  obtain ⟨a2, c2, rfl, h3, h4⟩ := hr.form
  have k1 := convertBytes w e1 a1 c1 l hl
  have k2 := convertBytes w e2 a2 c2 r hr
  go_enter Try.func86, Try.ntmps86
  go_wp2_with fail
  go_ret
  exact ⟨ret_beq l r, rfl⟩
set_option maxHeartbeats 800000 in
set_option maxRecDepth 100000 in
theorem concatBytes (w : World) (e : TypeId) (v : Value) (ls : List (List UInt8)) (hr : Rows2 w e v ls) (hl : ls.flatten.length ≤ 1000000) :
    Calls Try.prog 84 #[v] w (RetOwn ls.flatten w) := by
  obtain ⟨ao, cap, rfl, h1, h2⟩ := hr.form
  unfold maxLen at h2
  have HL := hid hl; clear hl
  go_enter Try.func84, Try.ntmps84
  go_wp2_with fail
  go_loop [3, 11] (fun s i => ∃ k : Nat, k ≤ ls.length ∧ i = .int .i64 k ∧ s = .int .i64 (tot ls k : Nat)) (fun _ i => ls.length - (intOf i).toNat)
  case atStart => exact ⟨0, Nat.zero_le _, rfl, rfl⟩
  case round =>
    obtain ⟨k, hk, rfl, rfl⟩ := hrel
    by_cases hlt : k < ls.length
    · obtain ⟨g, o, a, c, e', rfl, hcell, hb⟩ := hr.row k hlt
      have HS := hid (tot_succ ls k hlt)
      have hB : tot ls k + ls[k].length ≤ 1000000 := by have := HS.out; have := HL.out; have := tot_le ls (k + 1); omega
      clear hb
      generalize tot ls k = n at *
      generalize ls[k].length = m at *
      have hneg : ¬ ((n : Int) + (m : Int) < 0) := by omega
      go_wp2_with fail
      go_round
      case rel => exact ⟨k + 1, by omega, by go_num, by rw [HS.out]; go_num⟩
      case measure => simp [intOf]; omega
    · obtain rfl : k = ls.length := by omega
      have HT : Hid (tot ls ls.length = ls.flatten.length) := by show _ = _; unfold tot; rw [cat_all]
      have h99 : tot ls ls.length ≤ 9223372036854775807 := by have := HL.out; have := tot_le ls ls.length; omega
      have HG : Hid (tot ls ls.length ≤ 1000000) := by rw [HT.out]; exact HL
      go_wp2_with fail
      refine (growNone _ (tot ls ls.length) HG).mono ?_
      rintro en w1 ⟨v0, rfl, ho0, S1⟩
      go_wp2_with fail
      go_loopw [6, 27] (fun v i wr => ∃ k : Nat, k ≤ ls.length ∧ i = .int .i64 k ∧ OwnB wr w.heap.size v (cat ls k) ∧ Same w wr) (fun _ i _ => ls.length - (intOf i).toNat)
      case atStart => exact ⟨0, Nat.zero_le _, rfl, ho0, S1⟩
      case round =>
        obtain ⟨k, hk, rfl, ho, S2⟩ := hrel
        by_cases hlt : k < ls.length
        · obtain ⟨g, o, a, c, e', rfl, hcell, hb⟩ := (hr.same S2).row k hlt
          have hB : Hid ((cat ls k).length + ls[k].length ≤ 140737488355328) := by
            have := HL.out; have := tot_le ls (k + 1); have := tot_succ ls k hlt
            show tot ls k + _ ≤ _
            omega
          have HS := hid (cat_succ ls k hlt)
          go_wp2_with (at_builtin; refine wpList_append_bytes rfl (.tmp 31) (.tmp 32) 23 tyBytes rfl ho hb rfl rfl hB.out S2.size ?_; intro x1 w1 ho1 hg1; have S3 := S2.grown_own ho (Nat.le_refl _) hg1)
          go_roundw
          case rel => exact ⟨k + 1, by omega, by go_num, by rw [HS.out]; exact ho1, S3⟩
          case measure => simp [intOf]; omega
        · obtain rfl : k = ls.length := by omega
          go_wp2_with fail
          go_ret
          exact ⟨_, rfl, by rw [cat_all] at ho; exact ho, S2⟩
end Go.Proofs.Ytlhnpicmjjddeaa
