/- The three closed facts of a row that cost the kernel most, told cheaply: the signs of the program's head are written as numbers. -/
import Derived.Test.YtijdjpmceclmhaaRows
import Derived.JoinedOf
import Derived.KernelRfl
namespace Go.Proofs.Ytijdjpmceclmhaa
open Go
def headSigns : List Nat := [104, 97, 114, 110, 101, 115, 115, 32, 51, 53, 57, 102, 101, 57, 102, 55, 54, 99, 48, 51, 48, 57, 48, 52, 50, 56, 98, 102, 97, 52, 54, 56, 101, 49, 54, 56, 51, 97, 50, 98, 101, 56, 54, 56, 51, 50, 49, 101, 49, 49, 50, 100, 50, 98, 101, 49, 99, 97, 99, 102, 56, 55, 57, 49, 49, 100, 101, 57, 102, 51, 101, 99, 32, 99, 117, 116, 32, 97, 116, 32, 110, 111, 118, 97, 116, 105, 111, 110, 47, 110, 111, 118, 97, 116, 105, 111, 110, 108, 97, 119, 50, 51, 46, 71, 105, 118, 101, 83, 116, 97, 121, 115, 32, 110, 111, 118, 97, 116, 105, 111, 110, 47, 110, 111, 118, 97, 116, 105, 111, 110, 108, 97, 119, 50, 51, 46, 71, 105, 118, 101, 76, 97, 116, 101, 32, 110, 111, 118, 97, 116, 105, 111, 110, 47, 110, 111, 118, 97, 116, 105, 111, 110, 108, 97, 119, 50, 51, 46, 71, 105, 118, 101, 80, 108, 97, 121, 115]
theorem headIs : Try.prog.initOrder = String.ofList (headSigns.map Char.ofNat) := by kernel_rfl
theorem headList : Try.prog.initOrder.toList = headSigns.map Char.ofNat := by rw [headIs, String.toList_ofList]
def signsH : List Char := [104, 97, 114, 110, 101, 115, 115].map Char.ofNat
def signsS : List Char := [51, 53, 57, 102, 101, 57, 102, 55, 54, 99, 48, 51, 48, 57, 48, 52, 50, 56, 98, 102, 97, 52, 54, 56, 101, 49, 54, 56, 51, 97, 50, 98, 101, 56, 54, 56, 51, 50, 49, 101, 49, 49, 50, 100, 50, 98, 101, 49, 99, 97, 99, 102, 56, 55, 57, 49, 49, 100, 101, 57, 102, 51, 101, 99].map Char.ofNat
def signsC : List Char := [99, 117, 116].map Char.ofNat
theorem headWords : wordsSigns (headSigns.map Char.ofNat) = signsH :: signsS :: signsC :: (wordsSigns (headSigns.map Char.ofNat)).drop 3 := by kernel_rfl
theorem harnessIs : "harness".toList = signsH := by rw [show "harness" = String.ofList signsH from by kernel_rfl, String.toList_ofList]
theorem cutIs : "cut".toList = signsC := by rw [show "cut" = String.ofList signsC from by kernel_rfl, String.toList_ofList]
theorem sumIs : isSumSigns signsS = true := by kernel_rfl
theorem behind : behindMainWord (wordsSigns Try.prog.initOrder.toList) = signsC :: (wordsSigns (headSigns.map Char.ofNat)).drop 3 := by
  rw [headList, headWords]
  rw [List.drop_succ_cons, List.drop_succ_cons, List.drop_succ_cons, List.drop_zero]
  simp only [behindMainWord, harnessIs, beq_self_eq_true, Bool.true_or, sumIs, Bool.and_self, if_true]
theorem cutNot (o : String) (h : o ≠ "cut") : (signsC == o.toList) = false := by
  rw [← cutIs]
  exact beq_eq_false_iff_ne.2 fun e => h (String.toList_inj.1 e).symm
theorem stripNone (ws : List (List Char)) : ∀ os : List String, (∀ o ∈ os, o ≠ "cut") → stripLifts os (signsC :: ws) = ([], signsC :: ws)
  | [], _ => by rw [stripLifts]
  | o :: os, h => by
    rw [stripLifts, cutNot o (h o (List.mem_cons_self ..)), if_neg (by decide)]
    exact stripNone ws os fun x hx => h x (List.mem_cons_of_mem _ hx)
theorem strip (ws : List (List Char)) : stripLifts liftWords (signsC :: ws) = ([], signsC :: ws) := stripNone ws _ (by unfold liftWords; decide)
theorem laysNot : Try.prog.laysLater = false := by kernel_rfl
theorem bearsNot : Try.prog.bearsReflect = false := by kernel_rfl
theorem doorsFit : Try.prog.doorFits [] = true := by kernel_rfl
theorem mayEnterOf {P : Program} {ws : List (List Char)} (h : behindMainWord (wordsSigns P.initOrder.toList) = signsC :: ws) (h1 : P.laysLater = false) (h2 : P.bearsReflect = false) (h3 : P.doorFits [] = true) : P.mayEnter = true := by
  unfold Program.mayEnter
  rw [h]
  simp only [strip, h1, h2, h3, cutIs, List.head?_cons, beq_self_eq_true, Bool.not_false, Bool.or_true, Bool.and_self, List.contains_nil]
theorem headLiftsOf {P : Program} {ws : List (List Char)} (h : behindMainWord (wordsSigns P.initOrder.toList) = signsC :: ws) : P.headLifts = [] := by
  unfold Program.headLifts
  rw [h, strip]
  simp only [List.head?_cons, cutIs, beq_self_eq_true, if_true]
theorem liftsNoneOf {P : Program} {ws : List (List Char)} (h : behindMainWord (wordsSigns P.initOrder.toList) = signsC :: ws) : P.liftsFinal = false := by
  unfold Program.liftsFinal
  rw [h, headLiftsOf h]
  have : (signsC == "carried".toList) = false := cutNot _ (by decide)
  simp only [List.head?_cons, List.contains_nil, Bool.or_false]
  have e : (some signsC == some "carried".toList) = false := this
  rw [e]; rfl
theorem makeOf {P : Program} {ws : List (List Char)} (h : behindMainWord (wordsSigns P.initOrder.toList) = signsC :: ws) : P.make = some .cut := by
  unfold Program.make
  rw [h]
  have h1 : (signsC == "gc".toList) = false := cutNot _ (by decide)
  have h2 : (signsC == "spec".toList) = false := cutNot _ (by decide)
  simp only [h1, h2, cutIs, beq_self_eq_true, Bool.or_self, Bool.true_or, if_true, Bool.false_eq_true, if_false]
theorem mayEnter : Try.prog.mayEnter = true := mayEnterOf behind laysNot bearsNot doorsFit
theorem liftsNone : Try.prog.liftsFinal = false := liftsNoneOf behind
theorem makeIs : Try.prog.make = some .cut := makeOf behind
end Go.Proofs.Ytijdjpmceclmhaa
