/- What comes in, opened: a frame by value. No further condition. -/
import Derived.Test.YtlhnpicmjjddeaaOpen
import Derived.Test.YtlhnpicmjjddeaaFw
import Derived.Deep.Fields
import Derived.Lib.SmallJoins
namespace Go.Proofs.Ytlhnpicmjjddeaa
open Go.RowKit Go.ChangeShapes Go.WideShapes Go.Deep

section
variable {H : Type} {enc : TypeId × Value → H} {w : World} {base : Nat} {held : Bool}
/-- the fields of a struct whose fields lie in one cell each -/
theorem struct_cells {spare : Nat → Bool} {t : TypeId} {fs : Array Field} {fuel : Nat} {cs : List Value} {x : DataW H × List MemPlace} (hs : Try.prog.underlying t = some (.struct fs)) (hone : oneCellFields Try.prog fs = true)
    (h : DataW.trod enc Try.prog w base spare held fuel t cs = some x) (hl : cs.length = fs.size) :
    ∃ n, ∀ (j : Nat) (f : Field), fs[j]? = some f → ∃ v y, cs[j]? = some v ∧ DataW.trod enc Try.prog w base spare held n f.type [v] = some y := by
  obtain ⟨xs, n, _, hx, _, hlen, hg⟩ := DataW.trod_struct hs h
  refine ⟨n, fun j f hj => ?_⟩
  obtain ⟨o, k⟩ := hone_of hone j f hj
  have hj' : j < fs.size := (Array.getElem?_eq_some_iff.1 hj).1
  have h1 := hg j f hj
  rw [o, k] at h1
  have e1 : (cs.drop j).take 1 = [cs[j]'(by omega)] := by
    rw [List.drop_eq_getElem_cons (by omega)]; rfl
  rw [e1] at h1
  rw [List.getElem?_eq_getElem (by omega : j < xs.length)] at h1
  exact ⟨_, _, List.getElem?_eq_getElem (by omega), h1⟩
theorem bytes_cell {n : Nat} {v : Value} {y : DataW H × List MemPlace} (h : DataW.trod enc Try.prog w base (fun _ => true) held n 23 [v] = some y) : ∃ e l, Bytes w e v l := by
  rcases open_ints Try.underlying23 Try.underlying5 (by kernel_rfl) h with ⟨hcs, _⟩ | ⟨a, len, cap, zs, hcs, hb, hl, hm, hz, _, hel, hw⟩
  · cases hcs; exact ⟨0, [], Bytes.nil w 0⟩
  · cases hcs
    simp only [if_true] at hz
    exact Bytes.of_row (.inr ⟨a, rfl, hl, hm, hz, hel, hw⟩)
theorem int_cell {n : Nat} {v : Value} {y : DataW H × List MemPlace} {spare : Nat → Bool} (h : DataW.trod enc Try.prog w base spare held n 3 [v] = some y) : ∃ i, v = .int .i64 i := by
  obtain ⟨i, hi, _⟩ := DataW.trod_int Try.underlying3 h
  cases hi
  exact ⟨i, rfl⟩
theorem fields59 : Try.prog.underlying 59 = some (.struct (Try.prog.fieldsOf 59)) := by kernel_rfl
theorem one59 : oneCellFields Try.prog (Try.prog.fieldsOf 59) = true := by kernel_rfl
theorem size59 : (Try.prog.fieldsOf 59).size = 6 := by kernel_rfl
theorem types59 : ((Try.prog.fieldsOf 59).toList.map (·.type)) = [3, 3, 3, 3, 3, 23] := by kernel_rfl
theorem cells59 : Try.prog.cellsOf 59 = 6 := by kernel_rfl
theorem type_at {fs : Array Field} {ts : List TypeId} (h : fs.toList.map (·.type) = ts) (j : Nat) (hj : j < ts.length) : ∃ f, fs[j]? = some f ∧ f.type = ts[j] := by
  subst h
  simp only [List.length_map, Array.length_toList] at hj
  exact ⟨fs[j], Array.getElem?_eq_getElem hj, by simp⟩
/-- six cells that read as a frame -/
theorem frame_cells {fuel : Nat} {cs : List Value} {x : DataW H × List MemPlace} (h : DataW.trod enc Try.prog w base (fun _ => true) held fuel 59 cs = some x) (hl : cs.length = 6) :
    ∃ (f : Fr) (v : Value) (e : TypeId), cs = [.int .i64 f.life, .int .i64 f.era, .int .i64 f.seq, .int .i64 f.part, .int .i64 f.parts, v] ∧ Bytes w e v f.data := by
  obtain ⟨n, hn⟩ := struct_cells fields59 one59 h (by rw [size59]; exact hl)
  match cs, hl with
  | [c0, c1, c2, c3, c4, c5], _ =>
    have key : ∀ j (hj : j < 6), ∃ v y, [c0, c1, c2, c3, c4, c5][j]? = some v ∧ DataW.trod enc Try.prog w base (fun _ => true) held n ([3, 3, 3, 3, 3, 23][j]'hj) [v] = some y := by
      intro j hj
      obtain ⟨f, hf, ht⟩ := type_at types59 j hj
      obtain ⟨v, y, h1, h2⟩ := hn j f hf
      rw [ht] at h2
      exact ⟨v, y, h1, h2⟩
    obtain ⟨v0, y0, e0, t0⟩ := key 0 (by omega)
    obtain ⟨v1, y1, e1, t1⟩ := key 1 (by omega)
    obtain ⟨v2, y2, e2, t2⟩ := key 2 (by omega)
    obtain ⟨v3, y3, e3, t3⟩ := key 3 (by omega)
    obtain ⟨v4, y4, e4, t4⟩ := key 4 (by omega)
    obtain ⟨v5, y5, e5, t5⟩ := key 5 (by omega)
    cases e0; cases e1; cases e2; cases e3; cases e4; cases e5
    obtain ⟨i0, rfl⟩ := int_cell t0
    obtain ⟨i1, rfl⟩ := int_cell t1
    obtain ⟨i2, rfl⟩ := int_cell t2
    obtain ⟨i3, rfl⟩ := int_cell t3
    obtain ⟨i4, rfl⟩ := int_cell t4
    obtain ⟨e, l, hb⟩ := bytes_cell t5
    exact ⟨⟨i0, i1, i2, i3, i4, l⟩, _, e, rfl, hb⟩
set_option maxRecDepth 100000 in
theorem open_frame {r : Reach} {b0 : Nat} {v : Value} {d : DataW H} {p : List MemPlace} (hv : Value.okWide Try.prog w r b0 59 v) (h : DataW.Trod enc Try.prog w base (fun _ => true) held 59 v d p) : ∃ f, FrV w v f := by
  obtain ⟨cs, rfl, hsz⟩ := okWide_struct fields59 hv
  obtain ⟨fuel, hf⟩ := h
  obtain ⟨f, u, e, hc, hb⟩ := frame_cells hf (by show cs.toList.length = 6; rw [Array.length_toList]; exact hsz.trans cells59)
  refine ⟨f, u, e, ?_, hb⟩
  have hc' : cs.toList = [.int .i64 f.life, .int .i64 f.era, .int .i64 f.seq, .int .i64 f.part, .int .i64 f.parts, u] := hc
  have : cs = #[.int .i64 f.life, .int .i64 f.era, .int .i64 f.seq, .int .i64 f.part, .int .i64 f.parts, u] := Array.toList_inj.1 hc'
  rw [this]
  rfl
end
end Go.Proofs.Ytlhnpicmjjddeaa
