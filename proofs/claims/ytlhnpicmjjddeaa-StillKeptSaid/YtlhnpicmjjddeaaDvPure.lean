/- DRIVE, plainly. No condition; no program in sight. -/
import Derived.Test.YtlhnpicmjjddeaaFrPure
namespace Go.Proofs.Ytlhnpicmjjddeaa

/-- A drive with power or without, fused or not: after 'left' writes the power goes off, and of that write the sectors 'keep' are written. -/
structure Dv where
  C : List (List UInt8)
  off : Bool
  fused : Bool
  left : Int
  keep : List Int
def isLong (l : List UInt8) : Bool := decide (l.length ≠ 96)
def hasInt (l : List Int) (n : Int) : Bool := l.any fun x => n == x
/-- which sector the write of ls at 'at' leaves in place i -/
def landed (C : List (List UInt8)) (at_ : Nat) (ls : List (List UInt8)) (is : Nat → Bool) (k : Nat) : List (List UInt8) :=
  C.mapIdx fun i c => if at_ ≤ i ∧ i < at_ + min k ls.length ∧ is (i - at_) = true then ls.getD (i - at_) [] else c
theorem landed_length (C : List (List UInt8)) (at_ : Nat) (ls : List (List UInt8)) (is : Nat → Bool) (k : Nat) : (landed C at_ ls is k).length = C.length := by simp [landed]
theorem landed_at (C : List (List UInt8)) (at_ : Nat) (ls : List (List UInt8)) (is : Nat → Bool) (k i : Nat) :
    (landed C at_ ls is k)[i]? = if at_ ≤ i ∧ i < at_ + min k ls.length ∧ is (i - at_) = true ∧ i < C.length then ls[i - at_]? else C[i]? := by
  unfold landed
  rw [List.getElem?_mapIdx]
  by_cases h : i < C.length
  · rw [List.getElem?_eq_getElem h]
    by_cases h2 : at_ ≤ i ∧ i < at_ + min k ls.length ∧ is (i - at_) = true
    · obtain ⟨a, b, c⟩ := h2
      have : i - at_ < ls.length := by omega
      simp [a, b, c, h, List.getD_eq_getElem?_getD, List.getElem?_eq_getElem this]
    · rw [if_neg (fun x => h2 ⟨x.1, x.2.1, x.2.2.1⟩)]
      simp [h2]
  · rw [List.getElem?_eq_none (by omega)]
    simp
    intro _ _ _ hh
    omega
theorem landed_zero (C : List (List UInt8)) (at_ : Nat) (ls : List (List UInt8)) (is : Nat → Bool) : landed C at_ ls is 0 = C := by
  refine List.ext_getElem? fun i => ?_
  rw [landed_at, if_neg]
  rintro ⟨a, b, _⟩
  simp at b
  omega
def Dv.blown (D : Dv) : Bool := D.fused && decide (D.left - 1 < 0)
def Dv.bad (D : Dv) (at_ : Int) (ls : List (List UInt8)) : Bool := decide (at_ < 0) || (decide ((D.C.length : Int) < at_) || (decide ((D.C.length : Int) - at_ < ls.length) || ls.any isLong))
def Dv.keeps (D : Dv) (i : Nat) : Bool := !D.blown || hasInt D.keep i
def Dv.wrote (D : Dv) (at_ : Int) (ls : List (List UInt8)) : Dv :=
  { D with C := landed D.C at_.toNat ls D.keeps ls.length, off := D.blown, left := if D.fused then D.left - 1 else D.left }
/-- Write -/
def Dv.write (D : Dv) (at_ : Int) (ls : List (List UInt8)) : Int × Dv :=
  if D.off then (9, D) else if D.bad at_ ls then (2, D) else if ls = [] then (0, D) else (if D.blown then 9 else 0, D.wrote at_ ls)
/-- Fuse -/
def Dv.fuse (D : Dv) (n : Int) (keep : List Int) : Int × Dv := if D.off then (9, D) else (0, { D with fused := decide (0 ≤ n), left := n, keep := keep })
/-- Start -/
def Dv.start (D : Dv) : Dv := { D with off := false, fused := false, left := 0, keep := [] }
def Dv.new (n : Nat) : Dv := ⟨List.replicate n (List.replicate 96 0), false, false, 0, []⟩
def Dv.Ok (D : Dv) : Prop := D.C.length ≤ 2048 ∧ 1 ≤ D.C.length ∧ (∀ c ∈ D.C, c.length = 96) ∧ (D.off = false → D.fused = true → 0 ≤ D.left) ∧ -9223372036854775808 ≤ D.left ∧ D.left ≤ 9223372036854775807 ∧ D.keep.length ≤ 1000
end Go.Proofs.Ytlhnpicmjjddeaa
