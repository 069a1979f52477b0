/- A region that draws its order, whose operations only read, and whose calls read and make new memory: one walk. No program in sight. -/
import Derived.Test.YtlhnpicmjjddeaaMem
import Derived.Deep.QuietTactic
import Derived.BigQuiet
namespace Go.Proofs.Ytlhnpicmjjddeaa
open Go.RowKit

/-- worlds that are w with new blocks alone -/
def After (w : World) : Type := { w' : World // Same w w' }
instance afterNonempty (w : World) : Nonempty (After w) := ⟨⟨w, Same.refl w⟩⟩
def After.to {w : World} (x : After w) : World := x.1
theorem After.same {w : World} (x : After w) : Same w x.to := x.2
theorem After.mk' {w w' : World} (h : Same w w') : ∃ x : After w, w' = x.to := ⟨⟨w', h⟩, rfl⟩
theorem wp_region_after {P : Program} {id : Nat} {Q : Exit → Act → World → Prop} {a : Act} {w : World} {l : List Oper} (hm : P.follows .mixedOrders = true) (hB : Region.lexB .any l.toArray = true)
    (h : wpQuiet P l.toArray (fun w' => ∃ x : After w, w' = x.to) (fun a' => ∀ w', (∃ x : After w, w' = x.to) → Q .normal a' w') l a) : (Code.region id l.toArray true).wp P Q a w :=
  wp_region_quiet (C := fun w' => ∃ x : After w, w' = x.to) hm hB (After.mk' (Same.refl w).drew) (by simpa using h)
/-- a contract met in such a world -/
theorem Calls.after {P : Program} {f : FuncId} {args : Array Value} {w : World} {x : After w} {v : Value} (h : Calls P f args x.to (RetSame v x.to)) :
    Calls P f args x.to fun e w'' => e = .returned v ∧ ∃ y : After w, w'' = y.to :=
  h.mono fun _ _ ⟨he, S⟩ => ⟨he, After.mk' (x.same.trans S)⟩
theorem After.cell {w : World} {p : Addr} {u : Value} (h : w.cell? p = some u) (x : After w) : x.to.cell? p = some u := (x.same.cell (World.block_lt_of_cell? w _ h)).trans h
end Go.Proofs.Ytlhnpicmjjddeaa
