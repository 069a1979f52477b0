/- STILL: place, check, Load. -/
import Derived.Test.YtlhnpicmjjddeaaSt
namespace Go.Proofs.Ytlhnpicmjjddeaa
open Go.RowKit

def RetPl (n : Int) (l : List UInt8) (w : World) (en : Ending) (w' : World) : Prop := ∃ v, en = .returned (.tuple #[.int .i64 n, v]) ∧ OwnB w' w.heap.size v l ∧ Same w w'
theorem small_read {D : Dv} {at_ most : Int} {n : Nat} (h : Read D at_ most n) : Small (D.frs at_ n) := by
  intro f hf
  unfold Dv.frs at hf
  obtain ⟨i, hi, rfl⟩ := List.mem_map.1 hf
  obtain ⟨q1, q2, q3⟩ := right_parts (h.1 i (List.mem_range.1 hi)).1
  exact ⟨by omega, q2, q3⟩
theorem right_era {f : Fr} (h : f.right = true) : 1 ≤ f.life ∧ f.life ≤ 16777215 ∧ 0 ≤ f.era ∧ f.era ≤ 16777215 ∧ 1 ≤ f.seq ∧ f.seq ≤ 4294967295 := stampOk_iff.1 (Fr.right_iff.1 h).1
set_option maxHeartbeats 6400000 in
set_option maxRecDepth 100000 in
theorem sPlace (w : World) (p : Value) (F : Nat → Prop) (D : Dv) (at_ each odd : Int) (hD : IsDv w p F D) (ha : 0 ≤ at_ ∧ at_ ≤ 10000) :
    Calls Try.prog 103 #[p, .int .i64 at_, .int .i64 each, .int .i64 odd] w (RetPl (D.place at_ each odd).1 (D.place at_ each odd).2 w) := by
  have HFr := hid (sFrames w p F D at_ each hD ha)
  have HJo := hid fJoin
  obtain ⟨b, hp⟩ : ∃ b, p = .pointer (some ⟨b, 0, none⟩) := by obtain ⟨b, _, _, _, e, _⟩ := hD; exact ⟨b, e⟩
  subst hp
  clear hD
  go_enter Try.func103, Try.ntmps103
  go_wp2_with fail
  refine HFr.out.mono ?_
  rintro en w1 ⟨v1, n, rfl, O1, S1, R, hn⟩
  have HPl := hid (place_of_read (odd := odd) R)
  have HSm := hid (small_read R)
  have hfl : (D.frs at_ n).length = n := D.frs_length at_ n
  obtain ⟨a1, c1, rfl, f1, f2⟩ := O1.frs.form
  have HJ := hid (HJo.out w1 _ _ _ O1.frs HSm.out (by rw [hfl]; omega))
  rw [hfl] at O1 HJ f1 ⊢
  have S1 := hid S1
  by_cases hj : joinsB (D.frs at_ n) = true
  · obtain ⟨j1, j2, j3⟩ := joins_frs hj
    have hr0 := (j3 0 (by omega)).1
    rw [show at_ + ((0 : Nat) : Int) = at_ from by simp] at hr0
    obtain ⟨_, _, q3, q4, _, _⟩ := right_era hr0
    have hjo : joinOf (D.frs at_ n) = joined (D.frs at_ n) := by unfold joinOf; rw [hj]; rfl
    rw [hj, hjo] at HJ
    rw [hj, Bool.true_and] at HPl
    have hrow : ∃ g o a c, a1 = some ⟨g, o, none⟩ ∧ Cells6 w1 g o (decF (D.sector at_)) (.slice a (decF (D.sector at_)).data.length c) := by
      have O1' := O1
      rw [show (Value.slice a1 n c1) = .slice a1 (D.frs at_ n).length c1 from by rw [hfl]] at O1'
      obtain ⟨g, o, ha1, hk⟩ := O1'.frs.rows (by rw [hfl]; omega)
      obtain ⟨a, c, e', hc, _⟩ := hk 0 (by rw [hfl]; omega)
      have e0 : (D.frs at_ n)[0]'(by rw [hfl]; omega) = decF (D.sector at_) := by
        have h1 := D.frs_at at_ n 0 (by omega)
        rw [List.getElem?_eq_getElem (by rw [hfl]; omega)] at h1
        have := Option.some.inj h1
        rw [this]
        congr 2
        simp
      rw [e0, Nat.zero_mul, Nat.add_zero] at hc
      exact ⟨g, o, a, c, ha1, hc⟩
    obtain ⟨g, o, a, c, rfl, hc6⟩ := hrow
    have HC6 := hid hc6
    have hn1 : 0 < n := by omega
    clear hj hjo j1 j2 j3 hr0 O1 hfl HSm R hc6
    generalize joined (D.frs at_ n) = jl at *
    generalize decF (D.sector at_) = f at *
    go_wp2_with fail
    refine HJ.out.mono ?_
    rintro en w2 ⟨v2, rfl, O2, S2⟩
    obtain ⟨c0, d1, d2, d3, d4, d5⟩ := HC6.out.same S2
    obtain ⟨a2, c2, rfl, _, _⟩ := O2.bytes.form
    have O2 := hid (O2.mono (Nat.le_refl _))
    have S2 := hid (S1.out.trans S2)
    by_cases hs : f.seq = 1
    · have hsb : (f.seq != 1) = false := by rw [hs]; rfl
      by_cases ho : f.era % 2 = odd
      · have hob : (f.era % 2 != odd) = false := by rw [ho]; simp
        have hz : D.place at_ each odd = (f.era, jl) := by rw [HPl.out, decide_eq_true hs, decide_eq_true ho]; rfl
        have HZ := hid hz
        clear hs ho hz
        go_wp2_with fail
        go_ret2
        rw [HZ.out]
        exact ⟨_, rfl, O2.out.mono S1.out.size, S2.out⟩
      · have hob : (f.era % 2 != odd) = true := by rw [bne_iff_ne]; exact ho
        have hz : D.place at_ each odd = (0, []) := by rw [HPl.out, decide_eq_false ho, Bool.and_false]; rfl
        have HZ := hid hz
        clear hs ho hz
        go_wp2_with fail
        go_ret2
        rw [HZ.out]
        exact ⟨_, rfl, OwnB.nil _ _, S2.out⟩
    · have hsb : (f.seq != 1) = true := by rw [bne_iff_ne]; exact hs
      have hz : D.place at_ each odd = (0, []) := by rw [HPl.out, decide_eq_false hs, Bool.false_and]; rfl
      have HZ := hid hz
      clear hs hz
      go_wp2_with fail
      go_ret2
      rw [HZ.out]
      exact ⟨_, rfl, OwnB.nil _ _, S2.out⟩
  · have hj' : joinsB (D.frs at_ n) = false := by simpa using hj
    have hz : D.place at_ each odd = (0, []) := by rw [HPl.out, hj', Bool.false_and]; rfl
    have HZ := hid hz
    rw [hj'] at HJ
    clear hj hj' hz O1
    go_wp2_with fail
    refine HJ.out.mono ?_
    rintro en w2 ⟨v2, rfl, O2, S2⟩
    obtain ⟨a2, c2, rfl, _, _⟩ := O2.bytes.form
    have S2 := hid (S1.out.trans S2)
    clear O2
    go_wp2_with fail
    go_ret2
    rw [HZ.out]
    exact ⟨_, rfl, OwnB.nil _ _, S2.out⟩

set_option maxHeartbeats 1600000 in
set_option maxRecDepth 100000 in
theorem sCheck (w : World) (p : Value) (F : Nat → Prop) (D : Dv) (at_ each : Int) (hD : IsDv w p F D) (hb : -9223372036854775808 ≤ each ∧ each ≤ 9223372036854775807) :
    Calls Try.prog 102 #[p, .int .i64 at_, .int .i64 each] w (RetSame (.int .i64 (D.loadE at_ each)) w) := by
  have HS := hid (fun w' (S : Same w w') => dSizeD w' p F D (hD.same S))
  have hl := hD.ok.1
  have hl1 := hD.ok.2.1
  have HE : Hid (D.loadE at_ each = if at_ < 0 ∨ each < 1 ∨ (D.C.length : Int) < each ∨ (D.C.length : Int) - 2 * each < at_ then 2 else 0) := rfl
  obtain ⟨b, hp⟩ : ∃ b, p = .pointer (some ⟨b, 0, none⟩) := by obtain ⟨b, _, _, _, e, _⟩ := hD; exact ⟨b, e⟩
  subst hp
  clear hD
  generalize D.C.length = n at *
  have h0 : ((n : Int) == 0) = false := by rw [beq_eq_false_iff_ne]; omega
  by_cases h1 : at_ < 0
  · have HZ := hid (HE.out.trans (if_pos (.inl h1)))
    rw [HZ.out]
    clear HE
    go_enter Try.func102, Try.ntmps102
    go_wp2_with fail
    refine (HS.out _ (Same.refl _)).mono ?_
    rintro en w1 ⟨rfl, S1⟩
    go_wp2_with fail
    go_ret
    exact ⟨rfl, S1⟩
  · have d1 : decide (at_ < 0) = false := by simpa using h1
    by_cases h2 : each < 1
    · have HZ := hid (HE.out.trans (if_pos (.inr (.inl h2))))
      rw [HZ.out]
      clear HE h1
      go_enter Try.func102, Try.ntmps102
      go_wp2_with fail
      refine (HS.out _ (Same.refl _)).mono ?_
      rintro en w1 ⟨rfl, S1⟩
      go_wp2_with fail
      go_ret
      exact ⟨rfl, S1⟩
    · have d2 : decide (each < 1) = false := by simpa using h2
      by_cases h3 : (n : Int) < each
      · have HZ := hid (HE.out.trans (if_pos (.inr (.inr (.inl h3)))))
        rw [HZ.out]
        have d3 : decide ((n : Int) < each) = true := by simpa using h3
        clear HE h1 h2 h3
        go_enter Try.func102, Try.ntmps102
        go_wp2_with fail
        refine (HS.out _ (Same.refl _)).mono ?_
        rintro en w1 ⟨rfl, S1⟩
        go_wp2_with fail
        refine (HS.out _ S1).mono ?_
        rintro en w2 ⟨rfl, S2⟩
        go_wp2_with fail
        go_ret
        exact ⟨rfl, S1.trans S2⟩
      · have d3 : decide ((n : Int) < each) = false := by simpa using h3
        have b1 : 1 ≤ each := by omega
        have b2 : each ≤ 2048 := by omega
        by_cases h4 : (n : Int) - 2 * each < at_
        · have HZ := hid (HE.out.trans (if_pos (.inr (.inr (.inr h4)))))
          rw [HZ.out]
          have d4 : decide ((n : Int) - 2 * each < at_) = true := by simpa using h4
          clear HE h1 h2 h3 h4
          go_enter Try.func102, Try.ntmps102
          go_wp2_with fail
          refine (HS.out _ (Same.refl _)).mono ?_
          rintro en w1 ⟨rfl, S1⟩
          go_wp2_with fail
          refine (HS.out _ S1).mono ?_
          rintro en w2 ⟨rfl, S2⟩
          go_wp2_with fail
          refine (HS.out _ (S1.trans S2)).mono ?_
          rintro en w3 ⟨rfl, S3⟩
          go_wp2_with fail
          go_ret
          exact ⟨rfl, (S1.trans S2).trans S3⟩
        · have HZ := hid (HE.out.trans (if_neg (by omega)))
          rw [HZ.out]
          have d4 : decide ((n : Int) - 2 * each < at_) = false := by simpa using h4
          clear HE h1 h2 h3 h4
          go_enter Try.func102, Try.ntmps102
          go_wp2_with fail
          refine (HS.out _ (Same.refl _)).mono ?_
          rintro en w1 ⟨rfl, S1⟩
          go_wp2_with fail
          refine (HS.out _ S1).mono ?_
          rintro en w2 ⟨rfl, S2⟩
          go_wp2_with fail
          refine (HS.out _ (S1.trans S2)).mono ?_
          rintro en w3 ⟨rfl, S3⟩
          go_wp2_with fail
          go_ret
          exact ⟨rfl, (S1.trans S2).trans S3⟩
end Go.Proofs.Ytlhnpicmjjddeaa
