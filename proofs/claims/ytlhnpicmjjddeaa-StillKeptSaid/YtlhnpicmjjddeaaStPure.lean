/- STILL, plainly: what stands in a place. No program in sight. -/
import Derived.Test.YtlhnpicmjjddeaaFw7
import Derived.Test.YtlhnpicmjjddeaaDw4
namespace Go.Proofs.Ytlhnpicmjjddeaa

/-- the frames of n sectors from 'at_' on -/
def Dv.frs (D : Dv) (at_ : Int) (n : Nat) : List Fr := (List.range n).map fun (i : Nat) => decF (D.sector (at_ + (i : Int)))
theorem Dv.frs_length (D : Dv) (at_ : Int) (n : Nat) : (D.frs at_ n).length = n := by simp [Dv.frs]
theorem Dv.frs_at (D : Dv) (at_ : Int) (n i : Nat) (h : i < n) : (D.frs at_ n)[i]? = some (decF (D.sector (at_ + i))) := by simp [Dv.frs, h]
theorem Dv.frs_succ (D : Dv) (at_ : Int) (n : Nat) : D.frs at_ (n + 1) = D.frs at_ n ++ [decF (D.sector (at_ + n))] := by
  unfold Dv.frs; rw [List.range_succ, List.map_append]; rfl
/-- whether a record stands in a place, of this kind -/
def Dv.holds (D : Dv) (at_ : Int) (each : Int) (odd : Int) : Bool :=
  decide ((decF (D.sector at_)).parts ≤ each) && (joinsB (D.frs at_ (decF (D.sector at_)).parts.toNat) && (decide ((decF (D.sector at_)).seq = 1) && decide ((decF (D.sector at_)).era % 2 = odd)))
/-- what stands in a place: an era (0: nothing), and bytes -/
def Dv.place (D : Dv) (at_ each odd : Int) : Int × List UInt8 :=
  if D.holds at_ each odd then ((decF (D.sector at_)).era, joined (D.frs at_ (decF (D.sector at_)).parts.toNat)) else (0, [])
theorem decE_zero {b : List UInt8} : decE b = 0 ↔ (decF b).right = true := by
  unfold decE decF
  cases h : dec b with
  | none => simp [Fr.zero, Fr.right, stampOk]
  | some f =>
    have := (dec_some.1 h).1
    simp [this]
theorem decE_three {b : List UInt8} (h : ¬ decE b = 0) : decE b = 3 := by
  unfold decE at *
  split at h
  · exact absurd rfl h
  · rename_i h2; rw [if_neg h2]
theorem right_parts {f : Fr} (h : f.right = true) : 1 ≤ f.parts ∧ f.parts ≤ 255 ∧ f.data.length ≤ 80 := by
  obtain ⟨q1, q2, q3, q4, q5⟩ := partOk_iff.1 (Fr.right_iff.1 h).2
  exact ⟨q1, q2, q5⟩
/-- what the frames that are read hold: n of them, all right, none of more than 'most' parts; and if n sectors are frames of n parts, there are n -/
def Read (D : Dv) (at_ most : Int) (n : Nat) : Prop :=
  (∀ i : Nat, i < n → (decF (D.sector (at_ + i))).right = true ∧ (decF (D.sector (at_ + i))).parts ≤ most) ∧
  ∀ m : Nat, 1 ≤ m → (m : Int) ≤ most → (∀ i : Nat, i < m → (decF (D.sector (at_ + i))).right = true ∧ (decF (D.sector (at_ + i))).parts = m) → n = m
theorem joins_frs {D : Dv} {at_ : Int} {n : Nat} (h : joinsB (D.frs at_ n) = true) : 1 ≤ n ∧ (decF (D.sector at_)).parts = n ∧ ∀ i : Nat, i < n → (decF (D.sector (at_ + i))).right = true ∧ (decF (D.sector (at_ + i))).parts = n := by
  obtain ⟨f, hf, hl, ha⟩ := joinsB_iff.1 h
  rw [D.frs_length] at hl
  have hn : 1 ≤ n := by
    rcases Nat.eq_zero_or_pos n with h0 | h0
    · subst h0; simp [Dv.frs] at hf
    · exact h0
  have h0 := D.frs_at at_ n 0 hn
  rw [hf] at h0
  have e0 : f = decF (D.sector at_) := by
    have := Option.some.inj h0
    rw [this]
    congr 2
    simp
  subst e0
  refine ⟨hn, hl.symm, fun i hi => ?_⟩
  have := Fr.fits_iff.1 (ha i _ (D.frs_at at_ n i hi))
  exact ⟨this.2.2.1, this.1.2.2.2.trans hl.symm⟩
/-- the place, told by the frames that were read -/
theorem place_of_read {D : Dv} {at_ most odd : Int} {n : Nat} (hr : Read D at_ most n) :
    D.place at_ most odd = if joinsB (D.frs at_ n) && (decide ((decF (D.sector at_)).seq = 1) && decide ((decF (D.sector at_)).era % 2 = odd)) then ((decF (D.sector at_)).era, joined (D.frs at_ n)) else (0, []) := by
  unfold Dv.place Dv.holds
  by_cases h : joinsB (D.frs at_ n) = true
  · obtain ⟨h1, h2, h3⟩ := joins_frs h
    have hm : (decF (D.sector at_)).parts ≤ most := by
      have := (hr.1 0 (by omega)).2
      simpa using this
    rw [h2, Int.toNat_natCast, h]
    rw [h2] at hm
    rw [decide_eq_true hm, Bool.true_and]
  · have h' : joinsB (D.frs at_ n) = false := by simpa using h
    rw [h', Bool.false_and]
    have hneg : ¬ (decide ((decF (D.sector at_)).parts ≤ most) && (joinsB (D.frs at_ (decF (D.sector at_)).parts.toNat) && (decide ((decF (D.sector at_)).seq = 1) && decide ((decF (D.sector at_)).era % 2 = odd)))) = true := by
     intro hh
     simp only [Bool.and_eq_true, decide_eq_true_eq] at hh
     obtain ⟨q1, q2, _⟩ := hh
     obtain ⟨r1, r2, r3⟩ := joins_frs q2
     have := hr.2 _ r1 (by rw [← r2]; exact q1) r3
     rw [this] at h
     exact h q2
    rw [if_neg hneg, if_neg (by simp)]
/-- Load -/
def Dv.loadE (D : Dv) (at_ each : Int) : Int :=
  if at_ < 0 ∨ each < 1 ∨ (D.C.length : Int) < each ∨ (D.C.length : Int) - 2 * each < at_ then 2 else 0
def Dv.load (D : Dv) (at_ each : Int) : Int × List UInt8 :=
  if (D.place at_ each 0).1 < (D.place (at_ + each) each 1).1 then D.place (at_ + each) each 1 else D.place at_ each 0
end Go.Proofs.Ytlhnpicmjjddeaa
