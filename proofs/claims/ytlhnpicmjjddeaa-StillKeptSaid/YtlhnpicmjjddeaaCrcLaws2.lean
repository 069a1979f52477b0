/- The walks of the statements of layer 5 on sealing. -/
import Derived.Test.YtlhnpicmjjddeaaCrcSeal
import Derived.Test.YtlhnpicmjjddeaaSmall
namespace Go.Proofs.Ytlhnpicmjjddeaa
open Go.RowKit

theorem openIn_sealed (l : List UInt8) : openIn (CrcPure.sealed l) = l := by
  unfold openIn
  rw [CrcPure.sealed_length]
  unfold CrcPure.sealed
  simp
theorem openOk_sealed (l : List UInt8) : openOk (CrcPure.sealed l) = true := by
  unfold openOk
  rw [openIn_sealed]
  simp

set_option maxHeartbeats 1600000 in
set_option maxRecDepth 100000 in
theorem crcSealsWalk (va vb : Value) (e1 e2 : TypeId) (la lb : List UInt8) (w : World) (ha : Bytes w e1 va la) (hb : Bytes w e2 vb lb) :
    Calls Try.prog 5 #[va, vb] w (RetSame (.bool true) w) := by
  have H := hid crcLives
  go_enter Try.func5, Try.ntmps5
  go_wp2_with fail
  refine (r01Cut w e1 va la 300 ha).mono ?_
  rintro en w' ⟨v1, rfl, h1, rfl⟩
  go_wp2_with fail
  refine (r01Cut w e2 vb lb 300 hb).mono ?_
  rintro en w' ⟨v2, rfl, h2, rfl⟩
  have L1 : (la.take 300).length ≤ 300 := by rw [List.length_take]; omega
  have L2 : (lb.take 300).length ≤ 300 := by rw [List.length_take]; omega
  clear ha hb
  generalize la.take 300 = p at *
  generalize lb.take 300 = q at *
  go_wp2_with fail
  refine (crcSeal _ e1 _ p h1 (by omega)).mono ?_
  rintro en w1 ⟨v3, rfl, h3, S1⟩
  go_wp2_with fail
  refine (crcOpen _ 5 _ _ h3.bytes (by rw [CrcPure.sealed_length]; omega)).mono ?_
  rintro en w2 ⟨v4, rfl, h4, S2⟩
  rw [openIn_sealed] at h4
  rw [openOk_sealed]
  go_wp2_with fail
  refine (refSeal _ e1 _ p (h1.same (S1.trans S2)) (by omega)).mono ?_
  rintro en w3 ⟨v5, rfl, h5, S3⟩
  go_wp2_with fail
  refine (r01SameS _ 5 5 _ _ _ _ (h3.bytes.same (S2.trans S3)) h5.bytes).mono ?_
  rintro en w4 ⟨rfl, S4⟩
  rw [decide_eq_true rfl]
  go_wp2_with fail
  refine (r01SameS _ 5 e1 _ _ _ _ (h4.bytes.same (S3.trans S4)) (h1.same (((S1.trans S2).trans S3).trans S4))).mono ?_
  rintro en w5 ⟨rfl, S5⟩
  rw [decide_eq_true rfl]
  have T := (((S1.trans S2).trans S3).trans S4).trans S5
  replace h2 := h2.same T
  clear S1 S2 S3 S4 S5 h1 h3 h4 h5
  go_wp2_with fail
  refine (crcOpen _ e2 _ q h2 (by omega)).mono ?_
  rintro en w6 ⟨v6, rfl, h6, S6⟩
  have T6 := T.trans S6
  obtain ⟨a6, c6, rfl, f1, f2⟩ := h6.bytes.form
  obtain ⟨a2, c2, rfl, f3, f4⟩ := h2.form
  unfold maxLen at f2 f4
  have HK : Hid (openOk q = decide (CrcPure.sealed (openIn q) = q)) := rfl
  have HQ : Hid (openIn q = q.take (q.length - 3)) := rfl
  by_cases hq : q.length < 3
  · have e1 : openIn q = [] := by rw [HQ.out, show q.length - 3 = 0 from by omega]; rfl
    rw [openOk_short q hq]
    rw [e1] at *
    clear e1
    go_wp2_with fail
    refine (H.out _).mono ?_
    rintro en w7 ⟨rfl, S7⟩
    go_wp2_with fail
    go_ret
    exact ⟨rfl, T6.trans S7⟩
  · have hh := h2.head (q.length - 3) (by omega)
    rw [← HQ.out] at hh
    have HH := hid (hh.same S6)
    have hle : (openIn q).length ≤ 900000 := by rw [HQ.out, List.length_take]; omega
    have HL := hid hle
    clear hh hle
    have HS := hid (h2.same S6)
    generalize openOk q = ok at *
    go_wp2_with fail
    refine (r01SameS _ 5 e2 _ _ _ _ h6.bytes HH.out).mono ?_
    rintro en w7 ⟨rfl, S7⟩
    rw [decide_eq_true rfl]
    go_wp2_with fail
    refine (refSeal _ 5 _ _ (h6.bytes.same S7) HL.out).mono ?_
    rintro en w8 ⟨v8, rfl, h8, S8⟩
    go_wp2_with fail
    refine (r01SameS _ 5 e2 _ _ _ _ h8.bytes (HS.out.same (S7.trans S8))).mono ?_
    rintro en w9 ⟨rfl, S9⟩
    rw [← HK.out]
    go_wp2_with fail
    refine (H.out _).mono ?_
    rintro en w10 ⟨rfl, S10⟩
    go_wp2_with fail
    go_ret
    exact ⟨rfl, (((T6.trans S7).trans S8).trans S9).trans S10⟩
end Go.Proofs.Ytlhnpicmjjddeaa
