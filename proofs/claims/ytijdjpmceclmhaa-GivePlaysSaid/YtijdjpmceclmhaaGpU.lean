/- GIVE: a unit that came in by value (two numbers). -/
import Derived.Test.YtijdjpmceclmhaaGvArgs
import Derived.Deep.Fields
namespace Go.Proofs.Ytijdjpmceclmhaa
open Go.RowKit Go.ChangeShapes Go.WideShapes Go.Deep

theorem fields25 : Try.prog.underlying 25 = some (.struct (Try.prog.fieldsOf 25)) := by kernel_rfl
theorem cells25 : Try.prog.cellsOf 25 = 2 := by kernel_rfl
theorem leafUnit : leafInt Try.prog 3 25 = true := by kernel_rfl
theorem open_unit {H : Type} {enc : TypeId × Value → H} {w : World} {base b0 : Nat} {held : Bool} {r : Reach} {v : Value} {d : DataW H} {p : List MemPlace} (hv : Value.okWide Try.prog w r b0 25 v)
    (h : DataW.Trod enc Try.prog w base (fun _ => true) held 25 v d p) : ∃ a c : Int, v = .agg #[.int .i64 a, .int .i64 c] := by
  obtain ⟨cs, rfl, hsz⟩ := okWide_struct fields25 hv
  obtain ⟨fuel, hf⟩ := h
  have hi := leafInt_cells 3 25 fuel cs.toList _ leafUnit hf
  have hl : cs.toList.length = 2 := by rw [Array.length_toList]; exact hsz.trans cells25
  obtain ⟨l⟩ := cs
  match l, hl with
  | [x, y], _ =>
    obtain ⟨a, rfl⟩ := hi x (by simp)
    obtain ⟨c, rfl⟩ := hi y (by simp)
    exact ⟨a, c, rfl⟩
end Go.Proofs.Ytijdjpmceclmhaa
