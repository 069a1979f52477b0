/- DISK: slices.IndexFunc, ContainsFunc with long; slices.Index, Contains of ints. -/
import Derived.Test.YtlhnpicmjjddeaaDr
import Derived.Test.YtlhnpicmjjddeaaDvPure
namespace Go.Proofs.Ytlhnpicmjjddeaa
open Go.RowKit

theorem call89 (args : Array Value) (W : World) : (callFunc 89 args).run Try.prog W = .ok (.enter 89 args) W := by kernel_rfl
def idxLong (ls : List (List UInt8)) : Int := if ls.any isLong then (ls.findIdx isLong : Int) else -1
theorem idxLong_at {ls : List (List UInt8)} {k : Nat} (hk : k < ls.length) (h : isLong ls[k] = true) (hb : ∀ j (hj : j < ls.length), j < k → isLong ls[j] = false) : idxLong ls = k := by
  unfold idxLong
  rw [if_pos (List.any_eq_true.2 ⟨ls[k], List.getElem_mem hk, h⟩), (List.findIdx_eq hk).2 ⟨h, fun j hj => hb j (by omega) hj⟩]
theorem idxLong_none {ls : List (List UInt8)} (hb : ∀ j (hj : j < ls.length), isLong ls[j] = false) : idxLong ls = -1 := by
  unfold idxLong
  rw [if_neg]
  intro h
  obtain ⟨x, hx, h⟩ := List.any_eq_true.1 h
  obtain ⟨k, hk, rfl⟩ := List.mem_iff_getElem.1 hx
  rw [hb k hk] at h
  cases h
theorem idxLong_any (ls : List (List UInt8)) : decide (0 ≤ idxLong ls) = ls.any isLong := by
  unfold idxLong
  split
  · rename_i h; rw [h]; simp
  · rename_i h; simp only [Bool.not_eq_true] at h; rw [h]; rfl

set_option maxHeartbeats 800000 in
theorem dIndexFunc (w : World) (e : TypeId) (v : Value) (ls : List (List UInt8)) (h : Rows2 w e v ls) :
    Calls Try.prog 117 #[v, .func (.func 89) #[] #[]] w (RetSame (.int .i64 (idxLong ls)) w) := by
  obtain ⟨ao, cap, rfl, h1, h2⟩ := h.form
  unfold maxLen at h2
  have HL := hid dLong
  have hc := call89
  go_enter Try.func117, Try.ntmps117
  go_wp2_with fail
  go_loopw [8] (fun i wr => ∃ k : Nat, k ≤ ls.length ∧ i = .int .i64 k ∧ (∀ j (hj : j < ls.length), j < k → isLong ls[j] = false) ∧ Same w wr) (fun i _ => ls.length - (intOf i).toNat)
  case atStart => exact ⟨0, Nat.zero_le _, rfl, fun j _ hj => absurd hj (Nat.not_lt_zero j), Same.refl w⟩
  case round =>
    obtain ⟨k, hk, rfl, hb, S⟩ := hrel
    by_cases hlt : k < ls.length
    · obtain ⟨g, o, a, c, e', rfl, c1, hB⟩ := (h.same S).row k hlt
      have HB := hid hb
      clear hb
      cases hq : isLong ls[k]
      · have HI : ∀ j (hj : j < ls.length), j < k + 1 → isLong ls[j] = false := fun j hj hjk => by
          by_cases e : j = k
          · subst e; exact hq
          · exact HB.out j hj (by omega)
        have HI := hid HI
        have HK := hid (HL.out _ _ _ _ hB)
        have hq' : decide (ls[k].length ≠ 96) = false := hq
        rw [hq'] at HK
        clear hq hq' hB
        generalize ls[k].length = n at *
        go_wp2_with fail
        refine HK.out.mono ?_
        rintro en w1 ⟨rfl, S1⟩
        go_wp2_with fail
        go_roundw
        case rel => exact ⟨k + 1, by omega, by go_num, HI.out, S.trans S1⟩
        case measure => simp [intOf]; omega
      · have HZ := hid (idxLong_at hlt hq HB.out)
        have HK := hid (HL.out _ _ _ _ hB)
        have hq' : decide (ls[k].length ≠ 96) = true := hq
        rw [hq'] at HK
        clear hq hq' hB
        generalize ls[k].length = n at *
        go_wp2_with fail
        refine HK.out.mono ?_
        rintro en w1 ⟨rfl, S1⟩
        go_wp2_with fail
        go_ret
        exact ⟨by rw [HZ.out]; rfl, S.trans S1⟩
    · have HZ := hid (idxLong_none fun j hj => hb j hj (by omega))
      clear hb
      go_wp2_with fail
      go_ret
      exact ⟨by rw [HZ.out]; rfl, S⟩

theorem dContainsFunc (w : World) (e : TypeId) (v : Value) (ls : List (List UInt8)) (h : Rows2 w e v ls) :
    Calls Try.prog 88 #[v, .func (.func 89) #[] #[]] w (RetSame (.bool (ls.any isLong)) w) := by
  have H := hid (dIndexFunc w e v ls h)
  have HA := hid (idxLong_any ls)
  go_enter Try.func88, Try.ntmps88
  go_wp2_with fail
  refine H.out.mono ?_
  rintro en w1 ⟨rfl, S1⟩
  generalize idxLong ls = n at *
  generalize ls.any isLong = b at *
  go_wp2_with fail
  go_ret
  exact ⟨by rw [← HA.out]; rfl, S1⟩

/-! ints -/
def i64 (n : Int) : Value := .int .i64 n
def Ints (w : World) (e : TypeId) (v : Value) (l : List Int) : Prop := Sl w e 1 v l.length (l.map i64)
theorem Ints.nil (w : World) (e : TypeId) : Ints w e (.slice none 0 0) [] := Sl.nil w e 1
theorem Ints.form {w : World} {e : TypeId} {v : Value} {l : List Int} (h : Ints w e v l) : ∃ ao cap, v = .slice ao l.length cap ∧ l.length ≤ cap ∧ cap ≤ maxLen := Sl.form h
theorem Ints.same {w w' : World} {e : TypeId} {v : Value} {l : List Int} (h : Ints w e v l) (k : Same w w') : Ints w' e v l := Sl.same h k
theorem Ints.at {w : World} {e : TypeId} {ao : Option Addr} {cap : Nat} {l : List Int} (h : Ints w e (.slice ao l.length cap) l) (hn : l.length ≠ 0) :
    ∃ g o, ao = some ⟨g, o, none⟩ ∧ ∀ k (hk : k < l.length), w.cell? ⟨g, o + k, none⟩ = some (.int .i64 l[k]) := by
  obtain ⟨g, o, h1, h2⟩ := Sl.cells h hn
  exact ⟨g, o, h1, fun k hk => h2 k _ (by rw [List.getElem?_map, List.getElem?_eq_getElem hk]; rfl)⟩

def idxInt (l : List Int) (n : Int) : Int := if l.any (fun x => n == x) then (l.findIdx (fun x => n == x) : Int) else -1
theorem idxInt_at {l : List Int} {n : Int} {k : Nat} (hk : k < l.length) (h : (n == l[k]) = true) (hb : ∀ j (hj : j < l.length), j < k → (n == l[j]) = false) : idxInt l n = k := by
  unfold idxInt
  rw [if_pos (List.any_eq_true.2 ⟨l[k], List.getElem_mem hk, h⟩), (List.findIdx_eq hk).2 ⟨h, fun j hj => hb j (by omega) hj⟩]
theorem idxInt_none {l : List Int} {n : Int} (hb : ∀ j (hj : j < l.length), (n == l[j]) = false) : idxInt l n = -1 := by
  unfold idxInt
  rw [if_neg]
  intro h
  obtain ⟨x, hx, h⟩ := List.any_eq_true.1 h
  obtain ⟨k, hk, rfl⟩ := List.mem_iff_getElem.1 hx
  rw [hb k hk] at h
  cases h
theorem idxInt_any (l : List Int) (n : Int) : decide (0 ≤ idxInt l n) = l.any (fun x => n == x) := by
  unfold idxInt
  split
  · rename_i h; rw [h]; simp
  · rename_i h; simp only [Bool.not_eq_true] at h; rw [h]; rfl

set_option maxHeartbeats 800000 in
theorem dIndex (w : World) (e : TypeId) (v : Value) (l : List Int) (n : Int) (h : Ints w e v l) :
    Calls Try.prog 118 #[v, .int .i64 n] w (RetSame (.int .i64 (idxInt l n)) w) := by
  obtain ⟨ao, cap, rfl, h1, h2⟩ := h.form
  unfold maxLen at h2
  go_enter Try.func118, Try.ntmps118
  go_wp2_with fail
  go_loopw [8] (fun i wr => ∃ k : Nat, k ≤ l.length ∧ i = .int .i64 k ∧ (∀ j (hj : j < l.length), j < k → (n == l[j]) = false) ∧ Same w wr) (fun i _ => l.length - (intOf i).toNat)
  case atStart => exact ⟨0, Nat.zero_le _, rfl, fun j _ hj => absurd hj (Nat.not_lt_zero j), Same.refl w⟩
  case round =>
    obtain ⟨k, hk, rfl, hb, S⟩ := hrel
    by_cases hlt : k < l.length
    · obtain ⟨g, o, rfl, hc⟩ := (h.same S).at (by omega)
      have c1 := hc k hlt
      clear hc
      have HB := hid hb
      clear hb
      cases hq : n == l[k]
      · have HI : ∀ j (hj : j < l.length), j < k + 1 → (n == l[j]) = false := fun j hj hjk => by
          by_cases e : j = k
          · subst e; exact hq
          · exact HB.out j hj (by omega)
        have HI := hid HI
        generalize l[k] = x at *
        go_wp2_with fail
        go_roundw
        case rel => exact ⟨k + 1, by omega, by go_num, HI.out, S⟩
        case measure => simp [intOf]; omega
      · have HZ := hid (idxInt_at hlt hq HB.out)
        generalize l[k] = x at *
        go_wp2_with fail
        go_ret
        exact ⟨by rw [HZ.out]; rfl, S⟩
    · have HZ := hid (idxInt_none fun j hj => hb j hj (by omega))
      clear hb
      go_wp2_with fail
      go_ret
      exact ⟨by rw [HZ.out]; rfl, S⟩
theorem dContains (w : World) (e : TypeId) (v : Value) (l : List Int) (n : Int) (h : Ints w e v l) :
    Calls Try.prog 91 #[v, .int .i64 n] w (RetSame (.bool (l.any fun x => n == x)) w) := by
  have H := hid (dIndex w e v l n h)
  have HA := hid (idxInt_any l n)
  go_enter Try.func91, Try.ntmps91
  go_wp2_with fail
  refine H.out.mono ?_
  rintro en w1 ⟨rfl, S1⟩
  generalize idxInt l n = m at *
  go_wp2_with fail
  go_ret
  exact ⟨by rw [← HA.out]; rfl, S1⟩
end Go.Proofs.Ytlhnpicmjjddeaa
