/- STILL: a drive that no call made; lives of layer 9; the walk of StillNobody. -/
import Derived.Test.YtlhnpicmjjddeaaSt3
import Derived.Test.YtlhnpicmjjddeaaDrN
import Derived.Test.YtlhnpicmjjddeaaL07b
namespace Go.Proofs.Ytlhnpicmjjddeaa
open Go.RowKit

theorem sCheck_none (w : World) (p : Value) (at_ each : Int) (h : Nobody w p) : Calls Try.prog 102 #[p, .int .i64 at_, .int .i64 each] w (RetSame (.int .i64 1) w) := by
  have H := hid dSize_none
  go_enter Try.func102, Try.ntmps102
  go_wp2_with fail
  refine (H.out _ _ h).mono ?_
  rintro en w1 ⟨rfl, S1⟩
  go_wp2_with fail
  go_ret
  exact ⟨rfl, S1⟩
theorem sLoad_none (w : World) (p : Value) (at_ each : Int) (h : Nobody w p) : Calls Try.prog 55 #[p, .int .i64 at_, .int .i64 each] w (RetSame (.tuple #[.int .i64 0, .slice none 0 0, .int .i64 1]) w) := by
  have H := hid sCheck_none
  go_enter Try.func55, Try.ntmps55
  go_wp2_with fail
  refine (H.out _ _ _ _ h).mono ?_
  rintro en w1 ⟨rfl, S1⟩
  go_wp2_with fail
  go_ret3
  exact ⟨rfl, S1⟩
set_option maxRecDepth 100000 in
theorem sSave_none (w : World) (p v : Value) (at_ each life era : Int) (h : Nobody w p) : Calls Try.prog 56 #[p, .int .i64 at_, .int .i64 each, .int .i64 life, .int .i64 era, v] w (RetSame (.int .i64 1) w) := by
  have H := hid sLoad_none
  go_enter Try.func56, Try.ntmps56
  go_wp2_with fail
  refine (H.out _ _ _ _ h).mono ?_
  rintro en w1 ⟨rfl, S1⟩
  go_wp2_with fail
  go_ret
  exact ⟨rfl, S1⟩

theorem b1_made' (w : World) (n : Nat) (hn : n < 256) (fr : Nat × Nat) : Bytes (w.alloc (.cells #[.int .u8 (n : Int)] 5 fr)) 5 (.slice (some ⟨w.heap.size, 0, none⟩) 1 1) [n.toUInt8] :=
  Bytes.made 5 w.heap.size 1 1 _ _ (heap_alloc_new w _) (Nat.le_refl _) (by decide) rfl (by
    have : (n : Int) % 256 = n := by omega
    simp [u8, this])
def live9a : Int × Dv := (Dv.new 8).save 0 4 1 1 [97]
def live9b : Int × Dv := live9a.2.save 0 4 1 2 [98]
theorem live9a_ok : live9a.1 = 0 := by kernel_rfl
theorem live9b_ok : live9b.1 = 0 := by kernel_rfl
theorem live9c_ok : live9b.2.loadR 0 4 = (2, [98], 0) := by kernel_rfl
set_option maxHeartbeats 1600000 in
set_option maxRecDepth 100000 in
theorem sLives (w : World) : Calls Try.prog 57 #[] w (RetSame (.bool true) w) := by
  have HS := hid sSave
  have A1 := hid live9a_ok
  have A2 := hid live9b_ok
  have A3 := hid live9c_ok
  have HL := hid sLoad
  have kcc := fun (w : World) (C : Array Value) (n c : Nat) => Lib.run_convert_bytes_const (P := Try.prog) w 23 5 C n c Try.underlying23 Try.underlying5
  go_enter Try.func57, Try.ntmps57
  go_wp2_with fail
  refine (dNewD w 8 (by omega) (by omega)).mono ?_
  rintro en w1 ⟨p, F, rfl, S1, D1, B1⟩
  have D1 := hid D1
  have B1 := hid B1
  have S1 := hid S1
  obtain ⟨b, hp⟩ : ∃ b, p = .pointer (some ⟨b, 0, none⟩) := by obtain ⟨b, _, _, _, e, _⟩ := D1.out; exact ⟨b, e⟩
  subst hp
  go_wp2_with fail
  have T1 := hid ((Same.refl w1).alloc (.cells #[.int .u8 97] 5 (1, 2)))
  refine (HS.out _ _ _ F (Dv.new 8) 0 4 1 1 [97] 5 (D1.out.same T1.out) (fun k hk => Nat.lt_of_lt_of_le (B1.out k hk).2 T1.out.size) (b1_made' w1 97 (by omega) (1, 2)) (by simp) (by omega) (by omega)).mono ?_
  rintro en w2 ⟨rfl, K2, D2⟩
  have e1 : ((Dv.new 8).save 0 4 1 1 [97]).1 = 0 := A1.out
  rw [e1]
  have D2 : IsDv w2 (.pointer (some ⟨b, 0, none⟩)) F live9a.2 := D2
  have D2 := hid D2
  have B2 := hid (B1.out.mono (Nat.le_trans T1.out.size K2.size))
  have S2 := hid ((S1.out.trans T1.out).keepOwn K2 (fun k hk => (B1.out k hk).1))
  clear K2 e1
  go_wp2_with fail
  have T2 := hid ((Same.refl w2).alloc (.cells #[.int .u8 98] 5 (1, 2)))
  refine (HS.out _ _ _ F live9a.2 0 4 1 2 [98] 5 (D2.out.same T2.out) (fun k hk => Nat.lt_of_lt_of_le (B2.out k hk).2 T2.out.size) (b1_made' w2 98 (by omega) (1, 2)) (by simp) (by omega) (by omega)).mono ?_
  rintro en w3 ⟨rfl, K3, D3⟩
  have e2 : (live9a.2.save 0 4 1 2 [98]).1 = 0 := A2.out
  rw [e2]
  have D3 : IsDv w3 (.pointer (some ⟨b, 0, none⟩)) F live9b.2 := D3
  have D3 := hid D3
  have S3 := hid ((S2.out.trans T2.out).keepOwn K3 (fun k hk => (B2.out k hk).1))
  clear K3 e2
  go_wp2_with fail
  refine (HL.out _ _ _ _ 0 4 D3.out (by omega)).mono ?_
  rintro en w4 ⟨v4, rfl, O4, S4⟩
  rw [A3.out] at O4 ⊢
  obtain ⟨a4, c4, rfl, _, _⟩ := O4.bytes.form
  have kc := convertBytes w4 5 a4 c4 [98] O4.bytes
  simp only [List.length_cons, List.length_nil] at *
  clear O4
  go_wp2_with fail
  go_ret
  exact ⟨rfl, S3.out.trans S4⟩
end Go.Proofs.Ytlhnpicmjjddeaa
