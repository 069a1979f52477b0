/- STILL, plainly: what StillKept says of a drive. No program in sight. -/
import Derived.Test.YtlhnpicmjjddeaaSnN
namespace Go.Proofs.Ytlhnpicmjjddeaa

/-- what was saved last stands in its place; every frame on the drive is of an older life -/
structure Kp (D : Dv) (era life : Int) (was : List UInt8) : Prop where
  len : D.C.length = 20
  on : D.off = false
  low : ∀ i : Int, (decF (D.sector i)).right = true → (decF (D.sector i)).life < life
  mine : D.place (2 + era % 2 * 9) 9 (era % 2) = (era, was)
  other : (D.place (2 + (era + 1) % 2 * 9) 9 ((era + 1) % 2)).1 < era ∨ (D.place (2 + (era + 1) % 2 * 9) 9 ((era + 1) % 2)).1 = 0
  nought : era = 0 → was = []

theorem Kp.new : Kp (Dv.new 20) 0 1 [] := by
  refine ⟨by simp [Dv.new], rfl, fun i => ?_, ?_, ?_, fun _ => rfl⟩
  · rw [decF_new]; intro h; cases h
  · exact place_new _ _ _ _
  · rw [place_new]; exact .inr rfl
theorem Kp.load {D : Dv} {era life : Int} {was : List UInt8} (h : Kp D era life was) (he : 0 ≤ era) : D.loadR 2 9 = if era = 0 then (0, [], 11) else (era, was, 0) := by
  have hE : D.loadE 2 9 = 0 := by unfold Dv.loadE; rw [h.len]; rfl
  have hL : D.load 2 9 = (era, was) := by
    have h1 := h.mine
    have h2 := h.other
    unfold Dv.load
    rcases Int.emod_two_eq era with p | p
    · have p' : (era + 1) % 2 = 1 := by omega
      rw [p] at h1
      rw [p'] at h2
      have h1' : D.place 2 9 0 = (era, was) := h1
      have h2' : (D.place (2 + 9) 9 1).1 < era ∨ (D.place (2 + 9) 9 1).1 = 0 := h2
      rw [h1']
      rw [if_neg (by show ¬ era < _; omega)]
    · have p' : (era + 1) % 2 = 0 := by omega
      rw [p] at h1
      rw [p'] at h2
      have h1' : D.place (2 + 9) 9 1 = (era, was) := h1
      have h2' : (D.place 2 9 0).1 < era ∨ (D.place 2 9 0).1 = 0 := h2
      rw [h1']
      rw [if_pos (by show _ < era; omega)]
  unfold Dv.loadR
  rw [if_pos hE, hL]
theorem place_congr {D D' : Dv} {at_ each odd : Int} (h : ∀ i : Nat, (i : Int) < each → D'.sector (at_ + i) = D.sector (at_ + i)) (h1 : 1 ≤ each) : D'.place at_ each odd = D.place at_ each odd := by
  have h0 : D'.sector at_ = D.sector at_ := by have := h 0 (by omega); rwa [show at_ + ((0 : Nat) : Int) = at_ by simp] at this
  have hf : (decF (D.sector at_)).parts ≤ each → D'.frs at_ (decF (D.sector at_)).parts.toNat = D.frs at_ (decF (D.sector at_)).parts.toNat := by
    intro hp
    unfold Dv.frs
    refine List.map_congr_left fun i hi => ?_
    rw [List.mem_range] at hi
    rw [h i (by omega)]
  unfold Dv.place Dv.holds
  rw [h0]
  by_cases hp : (decF (D.sector at_)).parts ≤ each
  · rw [hf hp]
  · rw [decide_eq_false hp]; rfl

/-- each sector of a row that was written, or was under way: the new one or the elder -/
def Torn (D D' : Dv) (at_ life era : Int) (b : List UInt8) (is : Nat → Bool) : Prop :=
  (∀ i : Nat, i < nparts b.length → is i = true → D'.sector (at_ + i) = enc (cutAt life era 1 b i)) ∧
  ∀ i : Int, (∀ k : Nat, k < nparts b.length → is k = true → i ≠ at_ + k) → D'.sector i = D.sector i

theorem decF_enc {f : Fr} (h : f.right = true) : decF (enc f) = f := by unfold decF; rw [dec_enc h]; rfl
theorem place_new' {D' : Dv} {at_ life era : Int} {b : List UInt8} (hc : cutE life era 1 b = 0) (hn : nparts b.length ≤ 9)
    (h : ∀ i : Nat, i < nparts b.length → decF (D'.sector (at_ + i)) = cutAt life era 1 b i) : D'.place at_ 9 (era % 2) = (era, b) := by
  have h0 : decF (D'.sector at_) = cutAt life era 1 b 0 := by simpa using h 0 (nparts_pos _)
  have hf : D'.frs at_ (nparts b.length) = cutFr life era 1 b := by
    unfold Dv.frs cutFr
    refine List.map_congr_left fun i hi => ?_
    rw [List.mem_range] at hi
    exact h i hi
  unfold Dv.place Dv.holds
  rw [h0]
  have e1 : (cutAt life era 1 b 0).parts = (nparts b.length : Int) := rfl
  have e2 : (cutAt life era 1 b 0).seq = 1 := rfl
  have e3 : (cutAt life era 1 b 0).era = era := rfl
  rw [e1, e2, e3, Int.toNat_natCast, hf, joinsB_iff.2 (joins_cut hc), joined_cut, decide_eq_true (by omega : (nparts b.length : Int) ≤ 9)]
  simp

theorem place_torn {D D' : Dv} {at_ life era : Int} {b : List UInt8} {is : Nat → Bool} (hc : cutE life era 1 b = 0) (hn : nparts b.length ≤ 9) (ht : Torn D D' at_ life era b is)
    (hl : ∀ i : Int, (decF (D.sector i)).right = true → (decF (D.sector i)).life < life) :
    D'.place at_ 9 (era % 2) = (era, b) ∨ D'.place at_ 9 (era % 2) = D.place at_ 9 (era % 2) ∨ D'.place at_ 9 (era % 2) = (0, []) := by
  by_cases hh : D'.holds at_ 9 (era % 2) = true
  case neg => right; right; unfold Dv.place; rw [if_neg hh]
  have hh0 := hh
  unfold Dv.holds at hh
  simp only [Bool.and_eq_true, decide_eq_true_eq] at hh
  obtain ⟨q1, q2, q3, q4⟩ := hh
  obtain ⟨f, hf, hlen, hall⟩ := joinsB_iff.1 q2
  obtain ⟨r1, r2, r3⟩ := joins_frs q2
  have hlife : ∀ i : Nat, i < (decF (D'.sector at_)).parts.toNat → (decF (D'.sector (at_ + i))).life = (decF (D'.sector at_)).life := by
    intro i hi
    have a := (Fr.fits_iff.1 (hall i _ (D'.frs_at at_ _ i hi))).1.1
    have c := (Fr.fits_iff.1 (hall 0 _ (D'.frs_at at_ _ 0 (by omega)))).1.1
    rw [a, ← c]
    simp
  have hnew : ∀ i : Nat, i < nparts b.length → is i = true → decF (D'.sector (at_ + i)) = cutAt life era 1 b i := fun i hi h => by
    rw [ht.1 i hi h, decF_enc (cutAt_right hc hi)]
  have hold : ∀ i : Nat, ¬ (i < nparts b.length ∧ is i = true) → D'.sector (at_ + i) = D.sector (at_ + i) := fun i h =>
    ht.2 _ fun k hk hs e => h (by have : k = i := by omega
                                  subst this; exact ⟨hk, hs⟩)
  have hat : at_ + ((0 : Nat) : Int) = at_ := by simp
  by_cases h0 : is 0 = true
  · have e0 := hnew 0 (nparts_pos _) h0
    rw [hat] at e0
    have em : (decF (D'.sector at_)).parts.toNat = nparts b.length := by rw [e0]; exact Int.toNat_natCast _
    left
    refine place_new' hc hn fun i hi => ?_
    by_cases hs : is i = true
    · exact hnew i hi hs
    · exfalso
      have a := hlife i (by omega)
      rw [e0] at a
      have c := hl _ (by rw [← hold i (fun x => hs x.2)]; exact (r3 i (by omega)).1)
      rw [← hold i (fun x => hs x.2), a] at c
      exact absurd c (Int.lt_irrefl _)
  · right; left
    have e0 : D'.sector at_ = D.sector at_ := by have := hold 0 (fun x => h0 x.2); rwa [hat] at this
    have hlow : (decF (D'.sector at_)).life < life := by
      rw [e0]
      refine hl _ ?_
      have := (r3 0 (by omega)).1
      rwa [hat, e0] at this
    have hs : ∀ i : Nat, i < (decF (D'.sector at_)).parts.toNat → D'.sector (at_ + i) = D.sector (at_ + i) := by
      intro i hi
      by_cases hx : i < nparts b.length ∧ is i = true
      · exfalso
        have a := hlife i hi
        rw [hnew i hx.1 hx.2] at a
        have : (cutAt life era 1 b i).life = life := rfl
        omega
      · exact hold i hx
    have hfr : D'.frs at_ (decF (D'.sector at_)).parts.toNat = D.frs at_ (decF (D'.sector at_)).parts.toNat := by
      unfold Dv.frs
      refine List.map_congr_left fun i hi => ?_
      rw [List.mem_range] at hi
      rw [hs i hi]
    unfold Dv.place Dv.holds
    rw [hfr, e0]

theorem nparts_700 {b : List UInt8} (h : b.length ≤ 700) : nparts b.length ≤ 9 := by unfold nparts; omega
theorem cutE_700 {b : List UInt8} (h : b.length ≤ 700) {life era : Int} (h1 : 1 ≤ life ∧ life ≤ 100) (h2 : 0 ≤ era ∧ era ≤ 100) : cutE life era 1 b = 0 := by
  have := nparts_700 h
  exact cutE_zero.2 ⟨by omega, stampOk_iff.2 ⟨by omega, by omega, by omega, by omega, by omega, by omega⟩⟩
theorem cutL_long {life era seq : Int} {b : List UInt8} (h : cutE life era seq b = 0) : (cutL life era seq b).any isLong = false := by
  rw [List.any_eq_false]
  intro x hx
  unfold cutL cutFr at hx
  obtain ⟨f, hf, rfl⟩ := List.mem_map.1 hx
  obtain ⟨i, hi, rfl⟩ := List.mem_map.1 hf
  have := (partOk_iff.1 (Fr.right_iff.1 (cutAt_right h (List.mem_range.1 hi))).2).2.2.2.2
  unfold isLong
  rw [enc_length _ this]
  simp
theorem sector_of' {D : Dv} {a i : Nat} {c : List UInt8} (h : D.C[a + i]? = some c) : D.sector (a + i) = c := by
  unfold Dv.sector
  rw [if_pos (by omega), show ((a : Int) + (i : Int)).toNat = a + i by omega, List.getD_eq_getElem?_getD, h]; rfl
/-- the writing of a record: which sectors it leaves -/
theorem Dv.torn {D : Dv} {at_ : Nat} {life era : Int} {b : List UInt8} (hc : cutE life era 1 b = 0) (hl : at_ + nparts b.length ≤ D.C.length) :
    Torn D (D.wrote at_ (cutL life era 1 b)) at_ life era b D.keeps := by
  have hlen := cutL_length life era 1 b
  have hC : (D.wrote at_ (cutL life era 1 b)).C = landed D.C at_ (cutL life era 1 b) D.keeps (cutL life era 1 b).length := by unfold Dv.wrote; rw [Int.toNat_natCast]
  constructor
  · intro i hi hs
    refine sector_of' ?_
    rw [hC, landed_at, if_pos ⟨by omega, by omega, by rw [Nat.add_sub_cancel_left]; exact hs, by omega⟩, Nat.add_sub_cancel_left, List.getElem?_eq_getElem (by omega), cutL_at hi]
  · intro i hi
    unfold Dv.sector
    split
    · rename_i h0
      rw [List.getD_eq_getElem?_getD, List.getD_eq_getElem?_getD, hC, landed_at, if_neg]
      rintro ⟨a, c, d, _⟩
      rw [hlen] at c
      refine hi (i.toNat - at_) (by omega) d ?_
      omega
    · rfl

theorem sector_C {D D' : Dv} (h : D'.C = D.C) (i : Int) : D'.sector i = D.sector i := by unfold Dv.sector; rw [h]
theorem Kp.of_C {D D' : Dv} {era life : Int} {was : List UInt8} (h : Kp D era life was) (hC : D'.C = D.C) (ho : D'.off = false) : Kp D' era life was := by
  have hs := sector_C hC
  have hp : ∀ a c, D'.place a 9 c = D.place a 9 c := fun a c => place_congr (fun i _ => hs _) (by omega)
  refine ⟨by rw [hC]; exact h.len, ho, fun i hr => ?_, ?_, ?_, h.nought⟩
  · rw [hs] at hr ⊢; exact h.low i hr
  · rw [hp]; exact h.mine
  · rw [hp]; exact h.other
/-- after a write, whole or torn -/
theorem Kp.turn {D D' : Dv} {era life : Int} {was b : List UInt8} {is : Nat → Bool} (h : Kp D era life was) (he : 0 ≤ era) (hc : cutE life (era + 1) 1 b = 0) (hn : nparts b.length ≤ 9)
    (ht : Torn D D' (2 + (era + 1) % 2 * 9) life (era + 1) b is) (hlen : D'.C.length = 20) (ho : D'.off = false) :
    Kp D' era (life + 1) was ∨ Kp D' (era + 1) (life + 1) b := by
  have hlow : ∀ i : Int, (decF (D'.sector i)).right = true → (decF (D'.sector i)).life < life + 1 := by
    intro i hr
    by_cases hx : ∃ k : Nat, k < nparts b.length ∧ is k = true ∧ i = 2 + (era + 1) % 2 * 9 + k
    · obtain ⟨k, hk, hs, rfl⟩ := hx
      rw [ht.1 k hk hs, decF_enc (cutAt_right hc hk)]
      show life < life + 1
      omega
    · have e := ht.2 i fun k hk hs e => hx ⟨k, hk, hs, e⟩
      rw [e] at hr ⊢
      have := h.low i hr
      omega
  have hmine : D'.place (2 + era % 2 * 9) 9 (era % 2) = (era, was) := by
    rw [← h.mine]
    refine place_congr (fun i hi => ht.2 _ fun k hk _ e => ?_) (by omega)
    omega
  rcases place_torn hc hn ht h.low with hp | hp | hp
  · right
    have hpar : (era + 1 + 1) % 2 = era % 2 := by omega
    refine ⟨hlen, ho, hlow, hp, ?_, fun e => by omega⟩
    rw [hpar, hmine]
    exact .inl (by show era < era + 1; omega)
  · left
    refine ⟨hlen, ho, hlow, hmine, ?_, h.nought⟩
    rw [hp]; exact h.other
  · left
    refine ⟨hlen, ho, hlow, hmine, ?_, h.nought⟩
    rw [hp]; exact .inr rfl
/-- after a write as a whole -/
theorem Kp.whole {D D' : Dv} {era life : Int} {was b : List UInt8} (h : Kp D era life was) (he : 0 ≤ era) (hc : cutE life (era + 1) 1 b = 0) (hn : nparts b.length ≤ 9)
    (ht : Torn D D' (2 + (era + 1) % 2 * 9) life (era + 1) b fun _ => true) (hlen : D'.C.length = 20) (ho : D'.off = false) : Kp D' (era + 1) (life + 1) b := by
  have hp : D'.place (2 + (era + 1) % 2 * 9) 9 ((era + 1) % 2) = (era + 1, b) :=
    place_new' hc hn fun i hi => by rw [ht.1 i hi rfl, decF_enc (cutAt_right hc hi)]
  rcases h.turn he hc hn ht hlen ho with k | k
  · have hmine := k.mine
    have hpar : (era + 1 + 1) % 2 = era % 2 := by omega
    refine ⟨hlen, ho, k.low, hp, ?_, fun e => by omega⟩
    rw [hpar, hmine]
    exact .inl (by show era < era + 1; omega)
  · exact k

theorem Kp.save {D : Dv} {era life : Int} {was b : List UInt8} (h : Kp D era life was) (he : 0 ≤ era ∧ era ≤ 50) (hl : 1 ≤ life ∧ life ≤ 50) (hb : b.length ≤ 700) :
    ((D.save 2 9 life (era + 1) b).1 = 0 ∧ Kp (D.save 2 9 life (era + 1) b).2.start (era + 1) (life + 1) b) ∨
    ((D.save 2 9 life (era + 1) b).1 = 9 ∧ (Kp (D.save 2 9 life (era + 1) b).2.start era (life + 1) was ∨ Kp (D.save 2 9 life (era + 1) b).2.start (era + 1) (life + 1) b)) := by
  have hc := cutE_700 hb (life := life) (era := era + 1) (by omega) (by omega)
  have hn := nparts_700 hb
  have hE : D.loadE 2 9 = 0 := by unfold Dv.loadE; rw [h.len]; rfl
  have hR : (D.loadR 2 9).1 = era := by
    rw [h.load he.1]
    split
    · exact .symm ‹_›
    · rfl
  have hlen := cutL_length life (era + 1) 1 b
  have hC := h.len
  obtain ⟨A, hA, hA2⟩ : ∃ A : Nat, 2 + (era + 1) % 2 * 9 = (A : Int) ∧ A + 9 ≤ 20 := ⟨(2 + (era + 1) % 2 * 9).toNat, by omega, by omega⟩
  have hpos := nparts_pos b.length
  have hbad : D.bad A (cutL life (era + 1) 1 b) = false := by
    unfold Dv.bad
    rw [cutL_long hc, decide_eq_false (by omega), decide_eq_false (by omega), decide_eq_false (by omega)]
    rfl
  have hS : D.save 2 9 life (era + 1) b = (if D.blown then 9 else 0, D.wrote A (cutL life (era + 1) 1 b)) := by
    unfold Dv.save Dv.write
    rw [if_neg (by rw [hE]; decide), if_neg (by omega), if_neg (by rw [hc]; exact fun x => x rfl), if_neg (by omega), hA, h.on, hbad, if_neg (by decide), if_neg (by decide), if_neg (by intro e; rw [e] at hlen; simp at hlen; omega)]
  have ht := D.torn (at_ := A) hc (by omega)
  have hl2 : (D.wrote A (cutL life (era + 1) 1 b)).C.length = 20 := by unfold Dv.wrote; rw [← hC]; exact landed_length _ _ _ _ _
  rw [hS]
  have hT : ∀ is, Torn D (D.wrote A (cutL life (era + 1) 1 b)) A life (era + 1) b is → Torn D (D.wrote A (cutL life (era + 1) 1 b)).start (2 + (era + 1) % 2 * 9) life (era + 1) b is := fun is x => by rw [hA]; exact x
  cases hB : D.blown
  · left
    refine ⟨rfl, h.whole he.1 hc hn (hT _ ?_) hl2 rfl⟩
    have : D.keeps = fun _ => true := by funext i; unfold Dv.keeps; rw [hB]; rfl
    rwa [this] at ht
  · right
    exact ⟨rfl, h.turn he.1 hc hn (hT _ ht) hl2 rfl⟩
end Go.Proofs.Ytlhnpicmjjddeaa
