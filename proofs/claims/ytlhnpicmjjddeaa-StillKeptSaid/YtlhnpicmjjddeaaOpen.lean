/- What comes in, opened: rows of bytes, rows of rows, rows of ints. No further condition. -/
import Derived.Test.YtlhnpicmjjddeaaArgs
import Derived.Test.YtlhnpicmjjddeaaDr2
import Derived.Deep.Matrix
namespace Go.Proofs.Ytlhnpicmjjddeaa
open Go.RowKit Go.ChangeShapes Go.WideShapes

theorem list_of_lt {α : Type} (n : Nat) (R : Nat → α → Prop) (h : ∀ i, i < n → ∃ x, R i x) : ∃ L : List α, L.length = n ∧ ∀ i (hi : i < L.length), R i L[i] := by
  induction n with
  | zero => exact ⟨[], rfl, fun i hi => absurd hi (Nat.not_lt_zero i)⟩
  | succ n ih =>
    obtain ⟨L, hL, hR⟩ := ih fun i hi => h i (by omega)
    obtain ⟨x, hx⟩ := h n (by omega)
    refine ⟨L ++ [x], by simp [hL], fun i hi => ?_⟩
    rw [List.length_append] at hi
    simp only [List.length_singleton] at hi
    rcases Nat.lt_or_ge i L.length with h1 | h1
    · rw [List.getElem_append_left h1]; exact hR i h1
    · obtain rfl : i = L.length := by omega
      rw [List.getElem_append_right (Nat.le_refl _)]
      simpa [hL] using hx
theorem Sl.of_cells0 {w : World} (size : Nat) {a : Addr} {n cap : Nat} {xs : List Value} (hx : xs.length = n * size) (hs : 0 < size) (hn : n ≤ cap) (hm : cap ≤ maxLen)
    (hc : ∀ j u, xs[j]? = some u → w.cell? (a.add j) = some u) : ∃ e, Sl w e size (.slice (some a) n cap) n xs := Sl.of_cells size hx hs hn hm hc

section
variable {H : Type} {enc : TypeId × Value → H} {w : World} {base : Nat} {held : Bool}
theorem open_bytes {fuel : Nat} {a1 : Option Addr} {len1 cap1 : Nat} {x : DataW H × List MemPlace} {t : TypeId} (ht : Try.prog.underlying t = some (.slice 5))
    (h : DataW.trod enc Try.prog w base (fun _ => true) held fuel t (Value.cells (.slice a1 len1 cap1)).toList = some x) : ∃ e l, Bytes w e (.slice a1 len1 cap1) l := by
  rcases open_ints ht Try.underlying5 (by kernel_rfl) h with ⟨hcs, _⟩ | ⟨a, len, cap, zs, hcs, hb, hl, hm, hz, _, hel, hw⟩
  · simp [Value.cells] at hcs
    obtain ⟨rfl, rfl, rfl⟩ := hcs
    exact ⟨0, [], Bytes.nil w 0⟩
  · simp [Value.cells] at hcs
    obtain ⟨rfl, rfl, rfl⟩ := hcs
    simp only [if_true] at hz
    exact Bytes.of_row (.inr ⟨a, rfl, hl, hm, hz, hel, hw⟩)
theorem open_intl {spare : Nat → Bool} {fuel : Nat} {a1 : Option Addr} {len1 cap1 : Nat} {x : DataW H × List MemPlace} {t : TypeId} (ht : Try.prog.underlying t = some (.slice 3))
    (h : DataW.trod enc Try.prog w base spare held fuel t (Value.cells (.slice a1 len1 cap1)).toList = some x) : ∃ e l, Ints w e (.slice a1 len1 cap1) l ∧ ∀ n ∈ l, -9223372036854775808 ≤ n ∧ n ≤ 9223372036854775807 := by
  rcases open_ints ht Try.underlying3 (by kernel_rfl) h with ⟨hcs, _⟩ | ⟨a, len, cap, zs, hcs, hb, hl, hm, hz, _, hel, hw⟩
  · simp [Value.cells] at hcs
    obtain ⟨rfl, rfl, rfl⟩ := hcs
    exact ⟨0, [], Ints.nil w 0, by simp⟩
  · simp [Value.cells] at hcs
    obtain ⟨rfl, rfl, rfl⟩ := hcs
    have hl1 : len1 ≤ zs.length := by rw [hz]; split <;> omega
    have hll : (zs.take len1).length = len1 := by simp; omega
    obtain ⟨e, he⟩ := Sl.of_cells (w := w) 1 (a := a) (n := len1) (cap := cap1) (xs := (zs.take len1).map i64) (by rw [List.length_map, hll]; omega) (by omega) hl hm fun j u hu => by
      have hj : j < len1 := by
        have := (List.getElem?_eq_some_iff.1 hu).1
        rw [List.length_map, hll] at this
        exact this
      have hz' : j < zs.length := by omega
      rw [hel j hz']
      simp [hz', hj] at hu
      subst hu
      simp only [i64, List.getD_eq_getElem?_getD, List.getElem?_eq_getElem hz', Option.getD_some]
    refine ⟨e, zs.take len1, ?_, fun n hn => i64_of_wf (hw n (List.mem_of_mem_take hn))⟩
    unfold Ints
    rw [hll]
    exact he
theorem open_rows {fuel : Nat} {a1 : Option Addr} {len1 cap1 : Nat} {x : DataW H × List MemPlace}
    (h : DataW.trod enc Try.prog w base (fun _ => true) held fuel 36 (Value.cells (.slice a1 len1 cap1)).toList = some x) : ∃ e ls, Rows2 w e (.slice a1 len1 cap1) ls := by
  rcases Deep.open_int_rows Try.underlying36 Try.underlying23 Try.underlying5 (by kernel_rfl) (by kernel_rfl) h with ⟨hcs, _⟩ | ⟨a, len, cap, A, L, C, Z, hcs, hb, hl, hm, _, hel⟩
  · simp [Value.cells] at hcs
    obtain ⟨rfl, rfl, rfl⟩ := hcs
    exact ⟨0, [], Rows2.nil w 0⟩
  · simp [Value.cells] at hcs
    obtain ⟨rfl, rfl, rfl⟩ := hcs
    obtain ⟨Q, hQ, hR⟩ := list_of_lt len1 (fun i (q : Value × List UInt8) => w.cell? (a.add i) = some q.1 ∧ q.1.oneCell' = true ∧ ∃ e', Bytes w e' q.1 q.2) fun i hi => by
      obtain ⟨c1, c2, c3, c4, c5, c6, c7⟩ := hel i (by omega)
      have hrow : IsRow .u8 w (A i) (L i) (C i) (Z i) := by
        cases hA : A i with
        | none => have := c6 hA; exact .inl ⟨rfl, by omega, this, List.eq_nil_of_length_eq_zero (by omega)⟩
        | some a' => exact .inr ⟨a', rfl, c2, c3, c4, fun j hj => (c7 a' hA).2 j (by omega), c5⟩
      obtain ⟨e', l, hb⟩ := Bytes.of_row hrow
      exact ⟨(.slice (A i) (L i) (C i), l), c1, rfl, e', hb⟩
    have hq : (Q.map Prod.snd).length = len1 := by rw [List.length_map, hQ]
    obtain ⟨e, he⟩ := Sl.of_cells (w := w) 1 (a := a) (n := len1) (cap := cap1) (xs := Q.map Prod.fst) (by rw [List.length_map, hQ]; omega) (by omega) hl hm fun j u hu => by
      rw [List.getElem?_map] at hu
      have hj : j < Q.length := by
        rcases Nat.lt_or_ge j Q.length with h | h
        · exact h
        · rw [List.getElem?_eq_none h] at hu; cases hu
      rw [List.getElem?_eq_getElem hj] at hu
      simp only [Option.map_some, Option.some.injEq] at hu
      subst hu
      exact (hR j hj).1
    refine ⟨e, Q.map Prod.snd, Q.map Prod.fst, by simp, by rw [hq]; exact he, fun i hi u hu => ?_⟩
    have hi' : i < Q.length := by simpa using hi
    rw [List.getElem?_map, List.getElem?_eq_getElem hi'] at hu
    simp only [Option.map_some, Option.some.injEq] at hu
    subst hu
    rw [List.getElem_map]
    exact (hR i hi').2.2
end
end Go.Proofs.Ytlhnpicmjjddeaa
