/- What comes in, opened: rows of structs whose fields lie in one cell each. No further condition. -/
import Derived.Test.YtlhnpicmjjddeaaOpen2
namespace Go.Proofs.Ytlhnpicmjjddeaa
open Go.RowKit Go.ChangeShapes Go.WideShapes Go.Deep

section
variable {H : Type} {enc : TypeId × Value → H} {w : World} {base : Nat} {held : Bool}
theorem addr_add_add' (a : Addr) (m n : Nat) : (a.add m).add n = a.add (m + n) := by
  unfold Addr.add
  by_cases hm : m = 0
  · subst hm; simp
  · by_cases hn : n = 0
    · subst hn; simp [hm]
    · simp [hm, hn, Nat.add_assoc]
/-- a row of structs: each cell reads by its field's type -/
theorem open_structs {spare : Nat → Bool} {t e : TypeId} {fs : Array Field} {size : Nat} {fuel : Nat} {a1 : Option Addr} {len1 cap1 : Nat} {x : DataW H × List MemPlace} (ht : Try.prog.underlying t = some (.slice e)) (hs : Try.prog.underlying e = some (.struct fs))
    (hone : oneCellFields Try.prog fs = true) (hz : fs.size = size) (hC : Try.prog.cellsOf e = size) (hpos : 0 < size)
    (h : DataW.trod enc Try.prog w base spare held fuel t (Value.cells (.slice a1 len1 cap1)).toList = some x) :
    len1 ≤ cap1 ∧ cap1 ≤ maxLen ∧ (a1 = none → cap1 = 0) ∧ (len1 = 0 ∨ ∃ g o, a1 = some ⟨g, o, none⟩ ∧ ∀ i, i < len1 → ∃ n, ∀ (j : Nat) (f : Field), fs[j]? = some f → ∃ v y, w.cell? ⟨g, o + i * size + j, none⟩ = some v ∧ DataW.trod enc Try.prog w base spare held n f.type [v] = some y) := by
  rcases open_slice ht h with ⟨hcs, _⟩ | ⟨a, len, cap, m, n, D, Pl, hcs, hb, hl, hm, hmm, _, hel⟩
  · simp [Value.cells] at hcs
    obtain ⟨rfl, rfl, rfl⟩ := hcs
    exact ⟨Nat.le_refl _, Nat.zero_le _, fun _ => rfl, .inl rfl⟩
  · simp [Value.cells] at hcs
    obtain ⟨rfl, rfl, rfl⟩ := hcs
    have hlm : len1 ≤ m := by rw [hmm]; split <;> omega
    refine ⟨hl, hm, (fun x => nomatch x), ?_⟩
    rcases Nat.eq_zero_or_pos len1 with h0 | h0
    · exact .inl h0
    right
    have each : ∀ i, i < len1 → ∃ n, ∀ (j : Nat) (f : Field), fs[j]? = some f → ∃ v y, w.cell? (a.add (i * size + j)) = some v ∧ DataW.trod enc Try.prog w base spare held n f.type [v] = some y := by
      intro i hi
      obtain ⟨cs', hc, hr⟩ := hel i (by omega)
      rw [hC] at hc
      obtain ⟨_, hlen, hcell⟩ := World.cells?_some hc
      obtain ⟨n', hn'⟩ := struct_cells hs hone hr (by rw [hz]; exact hlen)
      refine ⟨n', fun j f hj => ?_⟩
      obtain ⟨v, y, h1, h2⟩ := hn' j f hj
      have hj' : j < size := by rw [← hz]; exact (Array.getElem?_eq_some_iff.1 hj).1
      refine ⟨v, y, ?_, h2⟩
      have hcj := hcell j hj'
      rw [addr_add_add'] at hcj
      rw [hcj, ← h1]
    obtain ⟨n0, hn0⟩ := each 0 h0
    obtain ⟨v0, y0, hc0, _⟩ := hn0 0 fs[0] (Array.getElem?_eq_getElem (by omega))
    have ha : a.add (0 * size + 0) = a := by simp [Addr.add]
    rw [ha] at hc0
    obtain ⟨cur, e', fr, hbk, hsp, _⟩ := block_of_cell hc0
    obtain ⟨b, o, sp⟩ := a
    simp only at hsp hbk
    subst hsp
    refine ⟨b, o, rfl, fun i hi => ?_⟩
    obtain ⟨n', hn'⟩ := each i hi
    refine ⟨n', fun j f hj => ?_⟩
    obtain ⟨v, y, h1, h2⟩ := hn' j f hj
    have hadd : (⟨b, o, none⟩ : Addr).add (i * size + j) = ⟨b, o + i * size + j, none⟩ := by unfold Addr.add; split <;> simp_all <;> omega
    rw [hadd] at h1
    exact ⟨v, y, h1, h2⟩
theorem ints_cell {n : Nat} {v : Value} {y : DataW H × List MemPlace} {spare : Nat → Bool} (h : DataW.trod enc Try.prog w base spare held n 37 [v] = some y) : ∃ e l, Ints w e v l ∧ ∀ k ∈ l, -9223372036854775808 ≤ k ∧ k ≤ 9223372036854775807 := by
  have hv : ∃ ao len cap, v = .slice ao len cap := by
    rcases open_slice (show Try.prog.underlying 37 = some (.slice 3) by kernel_rfl) h with ⟨hcs, _⟩ | ⟨a, len, cap, m, n, D, Pl, hcs, _⟩
    · cases hcs; exact ⟨_, _, _, rfl⟩
    · cases hcs; exact ⟨_, _, _, rfl⟩
  obtain ⟨ao, len, cap, rfl⟩ := hv
  obtain ⟨e, l, h1, h2⟩ := open_intl (t := 37) (by kernel_rfl) (show DataW.trod enc Try.prog w base spare held n 37 (Value.cells (.slice ao len cap)).toList = some y from h)
  exact ⟨e, l, h1, h2⟩

/-! a row of still's steps -/
structure SDo where
  (kind n at_ each life era : Int)
  (b : List UInt8)
  (keep : List Int)
def SDoAt (w : World) (g o : Nat) (d : SDo) : Prop :=
  ∃ ab cb eb ak ck ek, w.cell? ⟨g, o, none⟩ = some (.int .i64 d.kind) ∧ w.cell? ⟨g, o + 1, none⟩ = some (.int .i64 d.n) ∧ w.cell? ⟨g, o + 2, none⟩ = some (.int .i64 d.at_) ∧ w.cell? ⟨g, o + 3, none⟩ = some (.int .i64 d.each) ∧
    w.cell? ⟨g, o + 4, none⟩ = some (.int .i64 d.life) ∧ w.cell? ⟨g, o + 5, none⟩ = some (.int .i64 d.era) ∧ w.cell? ⟨g, o + 6, none⟩ = some (.slice ab d.b.length cb) ∧ Bytes w eb (.slice ab d.b.length cb) d.b ∧
    w.cell? ⟨g, o + 7, none⟩ = some (.slice ak d.keep.length ck) ∧ Ints w ek (.slice ak d.keep.length ck) d.keep ∧ ∀ k ∈ d.keep, -9223372036854775808 ≤ k ∧ k ≤ 9223372036854775807
def SDos (w : World) (v : Value) (n : Nat) : Prop := ∃ ao cap, v = .slice ao n cap ∧ n ≤ cap ∧ cap ≤ maxLen ∧ (n = 0 ∨ ∃ g o, ao = some ⟨g, o, none⟩ ∧ ∀ i, i < n → ∃ d, SDoAt w g (o + i * 8) d)
theorem fields86 : Try.prog.underlying 86 = some (.struct (Try.prog.fieldsOf 86)) := by kernel_rfl
theorem one86 : oneCellFields Try.prog (Try.prog.fieldsOf 86) = true := by kernel_rfl
theorem size86 : (Try.prog.fieldsOf 86).size = 8 := by kernel_rfl
theorem types86 : ((Try.prog.fieldsOf 86).toList.map (·.type)) = [3, 3, 3, 3, 3, 3, 23, 37] := by kernel_rfl
theorem cells86 : Try.prog.cellsOf 86 = 8 := by kernel_rfl
theorem slice84 : Try.prog.underlying 84 = some (.slice 86) := by kernel_rfl
theorem Ints.form' {w : World} {e : TypeId} {v : Value} {l : List Int} (h : Ints w e v l) : ∃ ao cap, v = .slice ao l.length cap := by obtain ⟨ao, cap, rfl, _⟩ := h.form; exact ⟨ao, cap, rfl⟩
theorem open_sdos {fuel : Nat} {a1 : Option Addr} {len1 cap1 : Nat} {x : DataW H × List MemPlace}
    (h : DataW.trod enc Try.prog w base (fun _ => true) held fuel 84 (Value.cells (.slice a1 len1 cap1)).toList = some x) : SDos w (.slice a1 len1 cap1) len1 := by
  obtain ⟨h1, h2, _, h3⟩ := open_structs slice84 fields86 one86 size86 cells86 (by omega) h
  refine ⟨a1, cap1, rfl, h1, h2, ?_⟩
  rcases h3 with h3 | ⟨g, o, rfl, h3⟩
  · exact .inl h3
  refine .inr ⟨g, o, rfl, fun i hi => ?_⟩
  obtain ⟨n, hn⟩ := h3 i hi
  have key : ∀ j (hj : j < 8), ∃ v y, w.cell? ⟨g, o + i * 8 + j, none⟩ = some v ∧ DataW.trod enc Try.prog w base (fun _ => true) held n ([3, 3, 3, 3, 3, 3, 23, 37][j]'hj) [v] = some y := by
    intro j hj
    obtain ⟨f, hf, ht⟩ := type_at types86 j hj
    obtain ⟨v, y, h1, h2⟩ := hn j f hf
    rw [ht] at h2
    exact ⟨v, y, h1, h2⟩
  obtain ⟨v0, y0, e0, t0⟩ := key 0 (by omega)
  obtain ⟨v1, y1, e1, t1⟩ := key 1 (by omega)
  obtain ⟨v2, y2, e2, t2⟩ := key 2 (by omega)
  obtain ⟨v3, y3, e3, t3⟩ := key 3 (by omega)
  obtain ⟨v4, y4, e4, t4⟩ := key 4 (by omega)
  obtain ⟨v5, y5, e5, t5⟩ := key 5 (by omega)
  obtain ⟨v6, y6, e6, t6⟩ := key 6 (by omega)
  obtain ⟨v7, y7, e7, t7⟩ := key 7 (by omega)
  obtain ⟨i0, rfl⟩ := int_cell t0
  obtain ⟨i1, rfl⟩ := int_cell t1
  obtain ⟨i2, rfl⟩ := int_cell t2
  obtain ⟨i3, rfl⟩ := int_cell t3
  obtain ⟨i4, rfl⟩ := int_cell t4
  obtain ⟨i5, rfl⟩ := int_cell t5
  obtain ⟨eb, b, hb⟩ := bytes_cell t6
  obtain ⟨ek, ks, hk, hk2⟩ := ints_cell t7
  obtain ⟨ab, cb, rfl, _, _⟩ := hb.form
  obtain ⟨ak, ck, rfl, _, _⟩ := hk.form
  exact ⟨⟨i0, i1, i2, i3, i4, i5, b, ks⟩, ab, cb, eb, ak, ck, ek, e0, e1, e2, e3, e4, e5, e6, hb, e7, hk, hk2⟩
end
end Go.Proofs.Ytlhnpicmjjddeaa
