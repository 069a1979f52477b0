/- STILL: Load, Save. -/
import Derived.Test.YtlhnpicmjjddeaaSt2
namespace Go.Proofs.Ytlhnpicmjjddeaa
open Go.RowKit

/-- what Load answers -/
def Dv.loadR (D : Dv) (at_ each : Int) : Int × List UInt8 × Int :=
  if D.loadE at_ each = 0 then (if (D.load at_ each).1 = 0 then (0, [], 11) else ((D.load at_ each).1, (D.load at_ each).2, 0)) else (0, [], 2)
def RetLoad (r : Int × List UInt8 × Int) (w : World) (en : Ending) (w' : World) : Prop := ∃ v, en = .returned (.tuple #[.int .i64 r.1, v, .int .i64 r.2.2]) ∧ OwnB w' w.heap.size v r.2.1 ∧ Same w w'
theorem loadE_cases (D : Dv) (at_ each : Int) : D.loadE at_ each = 0 ∨ D.loadE at_ each = 2 := by unfold Dv.loadE; split <;> simp
set_option maxHeartbeats 6400000 in
set_option maxRecDepth 100000 in
theorem sLoad (w : World) (p : Value) (F : Nat → Prop) (D : Dv) (at_ each : Int) (hD : IsDv w p F D) (hb : -9223372036854775808 ≤ each ∧ each ≤ 9223372036854775807) :
    Calls Try.prog 55 #[p, .int .i64 at_, .int .i64 each] w (RetLoad (D.loadR at_ each) w) := by
  have HC := hid (sCheck w p F D at_ each hD hb)
  have hl := hD.ok.1
  by_cases hE : D.loadE at_ each = 0
  · have hR : D.loadR at_ each = (if (D.load at_ each).1 = 0 then (0, [], 11) else ((D.load at_ each).1, (D.load at_ each).2, 0)) := by unfold Dv.loadR; rw [if_pos hE]
    have hbd : 0 ≤ at_ ∧ 1 ≤ each ∧ each ≤ 2048 ∧ at_ + each ≤ 2048 := by
      unfold Dv.loadE at hE
      split at hE
      · cases hE
      · omega
    have HA := hid (fun w' (S : Same w w') => sPlace w' p F D at_ each 0 (hD.same S) (by omega))
    have HB := hid (fun w' (S : Same w w') => sPlace w' p F D (at_ + each) each 1 (hD.same S) (by omega))
    rw [hE] at HC
    have hLd : Hid (D.load at_ each = if (D.place at_ each 0).1 < (D.place (at_ + each) each 1).1 then D.place (at_ + each) each 1 else D.place at_ each 0) := rfl
    obtain ⟨b, hp⟩ : ∃ b, p = .pointer (some ⟨b, 0, none⟩) := by obtain ⟨b, _, _, _, e, _⟩ := hD; exact ⟨b, e⟩
    subst hp
    have HR := hid hR
    clear hR hD hE hl
    generalize D.loadR at_ each = R at *
    generalize D.load at_ each = L at *
    generalize D.place at_ each 0 = A at *
    generalize D.place (at_ + each) each 1 = B at *
    obtain ⟨a, la⟩ := A
    obtain ⟨c, lb⟩ := B
    simp only at *
    go_enter Try.func55, Try.ntmps55
    go_wp2_with fail
    refine HC.out.mono ?_
    rintro en w1 ⟨rfl, S1⟩
    go_wp2_with fail
    refine (HA.out _ S1).mono ?_
    rintro en w2 ⟨v2, rfl, O2, S2⟩
    have O2 := hid O2
    have T2 := hid (S1.trans S2)
    clear S2
    go_wp2_with fail
    refine (HB.out _ T2.out).mono ?_
    rintro en w3 ⟨v3, rfl, O3, S3⟩
    have O2 := hid ((O2.out.keep S3 (fun _ _ x => x)).mono S1.size)
    have O3 := hid (O3.mono T2.out.size)
    have T3 := hid (T2.out.trans S3)
    obtain ⟨a2, c2, rfl, _, _⟩ := O2.out.bytes.form
    obtain ⟨a3, c3, rfl, _, _⟩ := O3.out.bytes.form
    clear S3 S1
    by_cases hlt : a < c
    · rw [if_pos hlt] at hLd
      have hz := hLd.out
      rw [hz] at HR
      clear hLd hz
      simp only at HR
      by_cases hc0 : c = 0
      · have hcb : (c == 0) = true := by rw [beq_iff_eq]; exact hc0
        rw [if_pos hc0] at HR
        have h2 : decide (a < c) = true := by simpa using hlt
        clear hc0 hlt
        go_wp2_with fail
        go_ret3
        rw [HR.out]
        exact ⟨_, rfl, OwnB.nil _ _, T3.out⟩
      · have hcb : (c == 0) = false := by rw [beq_eq_false_iff_ne]; exact hc0
        rw [if_neg hc0] at HR
        have h2 : decide (a < c) = true := by simpa using hlt
        clear hc0 hlt
        go_wp2_with fail
        go_ret3
        rw [HR.out]
        exact ⟨_, rfl, O3.out, T3.out⟩
    · rw [if_neg hlt] at hLd
      have hz := hLd.out
      rw [hz] at HR
      clear hLd hz
      simp only at HR
      by_cases hc0 : a = 0
      · have hcb : (a == 0) = true := by rw [beq_iff_eq]; exact hc0
        rw [if_pos hc0] at HR
        have h2 : decide (a < c) = false := by simpa using hlt
        clear hc0 hlt
        go_wp2_with fail
        go_ret3
        rw [HR.out]
        exact ⟨_, rfl, OwnB.nil _ _, T3.out⟩
      · have hcb : (a == 0) = false := by rw [beq_eq_false_iff_ne]; exact hc0
        rw [if_neg hc0] at HR
        have h2 : decide (a < c) = false := by simpa using hlt
        clear hc0 hlt
        go_wp2_with fail
        go_ret3
        rw [HR.out]
        exact ⟨_, rfl, O2.out, T3.out⟩
  · have hR : D.loadR at_ each = (0, [], 2) := by unfold Dv.loadR; rw [if_neg hE]
    have h2 : D.loadE at_ each = 2 := by
      rcases loadE_cases D at_ each with h | h
      · exact absurd h hE
      · exact h
    rw [hR]
    rw [h2] at HC
    obtain ⟨b, hp⟩ : ∃ b, p = .pointer (some ⟨b, 0, none⟩) := by obtain ⟨b, _, _, _, e, _⟩ := hD; exact ⟨b, e⟩
    subst hp
    clear hR h2 hE hD
    go_enter Try.func55, Try.ntmps55
    go_wp2_with fail
    refine HC.out.mono ?_
    rintro en w1 ⟨rfl, S1⟩
    go_wp2_with fail
    go_ret3
    exact ⟨_, rfl, OwnB.nil _ _, S1⟩

/-- Save -/
def Dv.save (D : Dv) (at_ each life era : Int) (b : List UInt8) : Int × Dv :=
  if D.loadE at_ each = 2 then (2, D)
  else if era < 1 ∨ era ≤ (D.loadR at_ each).1 then (2, D)
  else if cutE life era 1 b ≠ 0 then (cutE life era 1 b, D)
  else if each < (cutL life era 1 b).length then (10, D)
  else D.write (at_ + era % 2 * each) (cutL life era 1 b)
theorem loadR_err (D : Dv) (at_ each : Int) : (D.loadR at_ each).2.2 = 2 ↔ D.loadE at_ each = 2 := by
  unfold Dv.loadR
  rcases loadE_cases D at_ each with h | h
  · rw [h, if_pos rfl]; split <;> simp
  · rw [h]; simp
theorem loadR_errs (D : Dv) (at_ each : Int) : (D.loadR at_ each).2.2 = 2 ∨ (D.loadR at_ each).2.2 = 0 ∨ (D.loadR at_ each).2.2 = 11 := by
  unfold Dv.loadR
  split
  · split <;> simp
  · simp
set_option maxHeartbeats 6400000 in
set_option maxRecDepth 100000 in
theorem sSave (w : World) (p v : Value) (F : Nat → Prop) (D : Dv) (at_ each life era : Int) (b : List UInt8) (e : TypeId) (hD : IsDv w p F D) (hF : ∀ k, F k → k < w.heap.size) (hb : Bytes w e v b) (hl : b.length ≤ 30000)
    (hea : -9223372036854775808 ≤ each ∧ each ≤ 9223372036854775807) (her : era ≤ 9223372036854775807) :
    Calls Try.prog 56 #[p, .int .i64 at_, .int .i64 each, .int .i64 life, .int .i64 era, v] w (RetDv (D.save at_ each life era b) p F w) := by
  have HL := hid (sLoad w p F D at_ each hD hea)
  have HC := hid (fun w' (S : Same w w') => fCut w' e v life era 1 b (hb.same S) hl)
  have HD := hid hD
  have HF := hid hF
  have hlen := hD.ok.1
  obtain ⟨pb, hp⟩ : ∃ b, p = .pointer (some ⟨b, 0, none⟩) := by obtain ⟨b, _, _, _, e, _⟩ := hD; exact ⟨b, e⟩
  subst hp
  obtain ⟨av, cv, rfl, _, _⟩ := hb.form
  have HS : Hid (D.save at_ each life era b = if D.loadE at_ each = 2 then (2, D)
    else if era < 1 ∨ era ≤ (D.loadR at_ each).1 then (2, D)
    else if cutE life era 1 b ≠ 0 then (cutE life era 1 b, D)
    else if each < (cutL life era 1 b).length then (10, D)
    else D.write (at_ + era % 2 * each) (cutL life era 1 b)) := rfl
  have hbd : D.loadE at_ each ≠ 2 → 0 ≤ at_ ∧ 1 ≤ each ∧ each ≤ 2048 ∧ at_ + each ≤ 2048 := by
    intro h
    unfold Dv.loadE at h
    split at h
    · exact absurd rfl h
    · omega
  have HBd := hid hbd
  have HRe := hid (loadR_err D at_ each)
  have HRs := hid (loadR_errs D at_ each)
  clear hD hb hF hl hbd
  generalize hR : D.loadR at_ each = R at *
  clear hR
  obtain ⟨last, lb, le⟩ := R
  simp only at *
  go_enter Try.func56, Try.ntmps56
  go_wp2_with fail
  refine HL.out.mono ?_
  rintro en w1 ⟨v1, rfl, O1, S1⟩
  obtain ⟨a1, c1, rfl, _, _⟩ := O1.bytes.form
  have S1 := hid S1
  clear O1
  simp only
  by_cases h2 : D.loadE at_ each = 2
  · have hle : le = 2 := HRe.out.2 h2
    have hz := hid (HS.out.trans (if_pos h2))
    subst hle
    clear h2
    go_wp2_with fail
    go_ret
    rw [hz.out]
    exact ⟨rfl, S1.out.keep _, HD.out.same S1.out⟩
  · have hz1 := hid (HS.out.trans (if_neg h2))
    obtain ⟨b1, b2, b3, b4⟩ := HBd.out h2
    have hle : le = 0 ∨ le = 11 := by
      rcases HRs.out with h | h
      · exact absurd (HRe.out.1 h) h2
      · exact h
    have hok : ∀ q : Int, (q = 0 ∨ q = 11) → ((q != 0) && (q != 11)) = false := by
      intro q hq; rcases hq with rfl | rfl <;> rfl
    clear h2 HS
    by_cases h3 : era < 1 ∨ era ≤ last
    · have hz := hid (hz1.out.trans (if_pos h3))
      by_cases h3a : era < 1
      · have d3 : decide (era < 1) = true := by simpa using h3a
        clear h3 h3a
        rcases hle with rfl | rfl
        all_goals
          go_wp2_with fail
          go_ret
          rw [hz.out]
          exact ⟨rfl, S1.out.keep _, HD.out.same S1.out⟩
      · have d3 : decide (era < 1) = false := by simpa using h3a
        have d4 : decide (era ≤ last) = true := by
          rcases h3 with h | h
          · exact absurd h h3a
          · simpa using h
        clear h3 h3a
        rcases hle with rfl | rfl
        all_goals
          go_wp2_with fail
          go_ret
          rw [hz.out]
          exact ⟨rfl, S1.out.keep _, HD.out.same S1.out⟩
    · have hz2 := hid (hz1.out.trans (if_neg h3))
      have he1 : 1 ≤ era := by omega
      have d3 : decide (era < 1) = false := by simp; omega
      have d4 : decide (era ≤ last) = false := by simp; omega
      clear h3 hz1
      rcases hle with rfl | rfl
      all_goals
        go_wp2_with fail
        refine (HC.out _ S1.out).mono ?_
        rintro en w2 ⟨v2, rfl, O2, S2⟩
        obtain ⟨a2, c2, rfl, _, _⟩ := O2.rows.form
        have T2 := hid (S1.out.trans S2)
        have N2 := hid (O2.rows2N (M := F) (fun k hk => Nat.lt_of_lt_of_le (HF.out k hk) S1.out.size))
        clear O2 S2
        by_cases hce : cutE life era 1 b = 0
        · have hz3 := hid (hz2.out.trans (if_neg (by simp [hce])))
          have hca : cutAll life era 1 b = cutL life era 1 b := by unfold cutAll; rw [if_pos hce]
          rw [hca] at N2 ⊢
          rw [hce]
          clear hca hce hz2
          generalize hls : cutL life era 1 b = ls at *
          clear hls
          by_cases h5 : each < ls.length
          · have hz := hid (hz3.out.trans (if_pos h5))
            have d5 : decide (each < (ls.length : Int)) = true := by simpa using h5
            clear h5 hz3
            go_wp2_with fail
            go_ret
            rw [hz.out]
            exact ⟨rfl, T2.out.keep _, HD.out.same T2.out⟩
          · have hz := hid (hz3.out.trans (if_neg h5))
            have d5 : decide (each < (ls.length : Int)) = false := by simpa using h5
            have hm2 : 0 ≤ era % 2 ∧ era % 2 ≤ 1 := by omega
            have hmul : 0 ≤ era % 2 * each ∧ era % 2 * each ≤ 2048 := by
              have : era % 2 = 0 ∨ era % 2 = 1 := by omega
              rcases this with h | h <;> rw [h] <;> omega
            have HW := hid (dWrite w2 _ F D (at_ + era % 2 * each) _ _ ls (HD.out.same T2.out) N2.out)
            clear h5 hz3
            go_wp2_with fail
            refine HW.out.mono ?_
            rintro en w3 ⟨rfl, K3, D3⟩
            go_wp2_with fail
            go_ret
            rw [hz.out]
            exact ⟨rfl, (T2.out.keep F).trans K3, D3⟩
        · have hz := hid (hz2.out.trans (if_pos hce))
          have hnz : (cutE life era 1 b != 0) = true := by rw [bne_iff_ne]; exact hce
          clear hce hz2
          generalize cutE life era 1 b = ce at *
          go_wp2_with fail
          go_ret
          rw [hz.out]
          exact ⟨rfl, T2.out.keep _, HD.out.same T2.out⟩
end Go.Proofs.Ytlhnpicmjjddeaa
