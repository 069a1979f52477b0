/- GIVE: the statements' own lives; the walk of GiveStays. -/
import Derived.Test.YtijdjpmceclmhaaGv4
namespace Go.Proofs.Ytijdjpmceclmhaa
open Go.RowKit

def liveG : Gv := ⟨0, 1, 0, 2, 0, 1, 5, 0, 0, 0, 0⟩
def liveOne : Gv := ⟨1, 1, 0, 2, 0, 1, 5, 0, 0, 11, 1⟩
theorem rising_nil : rising [] := fun k hk => absurd hk (Nat.not_lt_zero k)
theorem live_new : newErr [] liveG 3 = 0 := by decide
theorem live_one : [] ++ [newOne [] liveG 3] = [liveOne] := rfl
theorem live_turn : turnErr [liveOne] 1 2 = 0 := by decide
theorem live_turned : turned [liveOne] 1 2 = [liveOne.to 2] := by kernel_rfl
theorem live_again : turnErr [liveOne.to 2] 1 4 = 13 := by decide
theorem live_late : sel [liveOne] (fun g => decide (g.day < 12)) = [1] := by decide
theorem live_late2 : sel [liveOne] (fun g => decide (g.day < 11)) = [] := by decide

set_option maxHeartbeats 1600000 in
set_option maxRecDepth 100000 in
theorem giveLives (w : World) : Calls Try.prog 8 #[] w (RetSame (.bool true) w) := by
  have h1 := fun w0 => giveNew_ok w0 (.slice none 0 0) [] liveG 3 (Gs.nil w0) rising_nil live_new
  rw [live_one, show 1 + (([] : List Gv).length : Int) = 1 from rfl] at h1
  have h2 := fun w0 v h => giveTurn_ok w0 v [liveOne] 1 2 h (by decide) live_turn
  rw [live_turned] at h2
  have h3 := fun w0 v h => giveTurn_err w0 v [liveOne.to 2] 1 4 h (by rw [live_again]; decide)
  rw [live_again] at h3
  have h4 := fun w0 v h => giveLate w0 v [liveOne] 12 h (by decide)
  rw [live_late] at h4
  have h5 := fun w0 v h => giveLate w0 v [liveOne] 11 h (by decide)
  rw [live_late2] at h5
  unfold aggG liveG at h1
  have H1 := hid h1; have H2 := hid h2; have H3 := hid h3; have H4 := hid h4; have H5 := hid h5
  clear h1 h2 h3 h4 h5
  go_enter Try.func8, Try.ntmps8
  go_wp2_with fail
  refine (H1.out _).mono ?_
  rintro en w1 ⟨v1, rfl, g1, S1⟩
  go_wp2_with fail
  refine (H2.out _ _ g1).mono ?_
  rintro en w2 ⟨v2, rfl, g2, S2⟩
  go_wp2_with fail
  refine (H3.out _ _ g2).mono ?_
  rintro en w3 ⟨v3, rfl, g3, S3⟩
  go_wp2_with fail
  refine (H4.out _ _ (g1.same (S2.trans S3))).mono ?_
  rintro en w4 ⟨v4, rfl, g4, S4⟩
  go_wp2_with fail
  refine (refSameIds _ 3 3 _ _ _ _ (g4.same ((Same.refl _).alloc _)) (int_made _ 1)).mono ?_
  rintro en w5 ⟨rfl, S5⟩
  rw [decide_eq_true rfl]
  have T := ((((S1.trans S2).trans S3).trans S4).alloc (.cells #[.int .i64 1] 3)).trans S5
  go_wp2_with fail
  refine (H5.out _ _ (g1.same ((((S2.trans S3).trans S4).alloc (.cells #[.int .i64 1] 3)).trans S5))).mono ?_
  rintro en w6 ⟨v6, rfl, g6, S6⟩
  obtain ⟨a6, c6, rfl, _, _⟩ := g6.form
  go_wp2_with fail
  go_ret
  exact ⟨rfl, (((Same.refl w).alloc _).trans T).trans S6⟩
end Go.Proofs.Ytijdjpmceclmhaa
