/- DISK: the walk of DriveNobody. -/
import Derived.Test.YtlhnpicmjjddeaaL06b
namespace Go.Proofs.Ytlhnpicmjjddeaa
open Go.RowKit

theorem Nobody.same {w w' : World} {p : Value} (h : Nobody w p) (S : Same w w') : Nobody w' p := by
  rcases h with h | ⟨b, h, d⟩
  · exact .inl h
  · exact .inr ⟨b, h, d.same S⟩
theorem Nobody.boxed (w : World) : Nobody (w.alloc (.cells #[.bool false, .bool false, .int .i64 0, .slice none 0 0, .slice none 0 0, .int .i64 0] 55)) (.pointer (some ⟨w.heap.size, 0, none⟩)) := by
  have hn := heap_alloc_new w (.cells #[.bool false, .bool false, .int .i64 0, .slice none 0 0, .slice none 0 0, .int .i64 0] 55)
  refine .inr ⟨_, rfl, ?_, ?_, ?_, ?_, ?_, ?_⟩
  all_goals (rw [cell_of_row _ _ _ _ _ _ hn]; rfl)

set_option maxHeartbeats 1600000 in
set_option maxRecDepth 100000 in
theorem driveNobodyWalk (w : World) (at_ n : Int) : Calls Try.prog 9 #[.int .i64 at_, .int .i64 n] w (RetSame (.bool true) w) := by
  have H1 := hid dRead_none
  have H2 := hid lWas
  have H3 := hid dWrite_none
  have H4 := hid dFuse_none
  have H5 := hid dStart_none
  have H6 := hid dLive_none
  have H7 := hid dSize_none
  have H8 := hid dWrites_none
  have H9 := hid lLives
  have HB := hid Nobody.boxed
  go_enter Try.func9, Try.ntmps9
  go_wp2_with fail
  go_loopw [5] (fun i wr => ∃ k : Nat, k ≤ 2 ∧ i = .int .i64 k ∧ Same w wr) (fun i _ => 2 - (intOf i).toNat)
  case atStart => exact ⟨0, by omega, rfl, Same.refl w⟩
  case round =>
    obtain ⟨k, hk, rfl, S⟩ := hrel
    have S := hid S
    match k, hk with
    | 2, _ =>
      go_wp2_with fail
      refine (H9.out _).mono ?_
      rintro en w1 ⟨rfl, S1⟩
      go_wp2_with fail
      go_ret
      exact ⟨rfl, S.out.trans S1⟩
    | 0, _ =>
      have N0 : Hid (Nobody wr (.pointer none)) := .inl rfl
      go_wp2_with fail
      refine (H1.out _ _ _ N0.out).mono ?_
      rintro en w1 ⟨rfl, S1⟩
      go_wp2_with fail
      refine (H2.out _).mono ?_
      rintro en w2 ⟨v2, rfl, O2, S2⟩
      obtain ⟨a2, c2, rfl, _, _⟩ := O2.bytes.form
      clear O2
      have T2 := hid ((S1.trans S2).alloc (.cells #[.slice a2 nought.length c2] 23))
      clear S1 S2
      go_wp2_with fail
      refine (H3.out _ _ _ _ (N0.out.same T2.out)).mono ?_
      rintro en w3 ⟨rfl, S3⟩
      have T3 := hid (T2.out.trans S3)
      clear T2 S3
      go_wp2_with fail
      refine (H4.out _ _ _ _ (N0.out.same T3.out)).mono ?_
      rintro en w4 ⟨rfl, S4⟩
      have T4 := hid (T3.out.trans S4)
      clear T3 S4
      go_wp2_with fail
      refine (H5.out _ _ (N0.out.same T4.out)).mono ?_
      rintro en w5 ⟨rfl, S5⟩
      have T5 := hid (T4.out.trans S5)
      clear T4 S5
      go_wp2_with fail
      refine (H6.out _ _ (N0.out.same T5.out)).mono ?_
      rintro en w6 ⟨rfl, S6⟩
      have T6 := hid (T5.out.trans S6)
      clear T5 S6
      go_wp2_with fail
      refine (H7.out _ _ (N0.out.same T6.out)).mono ?_
      rintro en w7 ⟨rfl, S7⟩
      have T7 := hid (T6.out.trans S7)
      clear T6 S7
      go_wp2_with fail
      refine (H8.out _ _ (N0.out.same T7.out)).mono ?_
      rintro en w8 ⟨rfl, S8⟩
      have T8 := hid (T7.out.trans S8)
      clear T7 S8
      go_wp2_with fail
      go_roundw
      case rel => exact ⟨1, by omega, rfl, S.out.trans T8.out⟩
      case measure => simp [intOf]
    | 1, _ =>
      have N0 := hid (HB.out wr)
      go_wp2_with fail
      refine (H1.out _ _ _ N0.out).mono ?_
      rintro en w1 ⟨rfl, S1⟩
      go_wp2_with fail
      refine (H2.out _).mono ?_
      rintro en w2 ⟨v2, rfl, O2, S2⟩
      obtain ⟨a2, c2, rfl, _, _⟩ := O2.bytes.form
      clear O2
      have T2 := hid ((S1.trans S2).alloc (.cells #[.slice a2 nought.length c2] 23))
      clear S1 S2
      go_wp2_with fail
      refine (H3.out _ _ _ _ (N0.out.same T2.out)).mono ?_
      rintro en w3 ⟨rfl, S3⟩
      have T3 := hid (T2.out.trans S3)
      clear T2 S3
      go_wp2_with fail
      refine (H4.out _ _ _ _ (N0.out.same T3.out)).mono ?_
      rintro en w4 ⟨rfl, S4⟩
      have T4 := hid (T3.out.trans S4)
      clear T3 S4
      go_wp2_with fail
      refine (H5.out _ _ (N0.out.same T4.out)).mono ?_
      rintro en w5 ⟨rfl, S5⟩
      have T5 := hid (T4.out.trans S5)
      clear T4 S5
      go_wp2_with fail
      refine (H6.out _ _ (N0.out.same T5.out)).mono ?_
      rintro en w6 ⟨rfl, S6⟩
      have T6 := hid (T5.out.trans S6)
      clear T5 S6
      go_wp2_with fail
      refine (H7.out _ _ (N0.out.same T6.out)).mono ?_
      rintro en w7 ⟨rfl, S7⟩
      have T7 := hid (T6.out.trans S7)
      clear T6 S7
      go_wp2_with fail
      refine (H8.out _ _ (N0.out.same T7.out)).mono ?_
      rintro en w8 ⟨rfl, S8⟩
      have T8 := hid (T7.out.trans S8)
      clear T7 S8
      go_wp2_with fail
      go_roundw
      case rel => exact ⟨2, by omega, rfl, (S.out.alloc _).trans T8.out⟩
      case measure => simp [intOf]
end Go.Proofs.Ytlhnpicmjjddeaa
