/- GIVE: the walk of GivePlays. Printed by mkgp.py. -/
import Derived.Test.YtijdjpmceclmhaaGr4
import Derived.Test.YtijdjpmceclmhaaGv6
import Derived.Deep.CutBlock
namespace Go.Proofs.Ytijdjpmceclmhaa
open Go.RowKit

theorem cells31 {w : World} {b : Nat} {u0 u1 u2 u3 u4 u5 u6 u7 u8 u9 u10 u11 u12 u13 u14 : Value} (h : w.heap[b]? = some (.cells #[u0, u1, u2, u3, u4, u5, u6, u7, u8, u9, u10, u11, u12, u13, u14] 31 (0, 0))) :
    w.cell? ⟨b, 0, none⟩ = some u0 ∧ w.cell? ⟨b, 1, none⟩ = some u1 ∧ w.cell? ⟨b, 2, none⟩ = some u2 ∧ w.cell? ⟨b, 3, none⟩ = some u3 ∧ w.cell? ⟨b, 4, none⟩ = some u4 ∧ w.cell? ⟨b, 5, none⟩ = some u5 ∧ w.cell? ⟨b, 6, none⟩ = some u6 ∧ w.cell? ⟨b, 7, none⟩ = some u7 ∧ w.cell? ⟨b, 8, none⟩ = some u8 ∧ w.cell? ⟨b, 9, none⟩ = some u9 ∧ w.cell? ⟨b, 10, none⟩ = some u10 ∧ w.cell? ⟨b, 11, none⟩ = some u11 ∧ w.cell? ⟨b, 12, none⟩ = some u12 ∧ w.cell? ⟨b, 13, none⟩ = some u13 ∧ w.cell? ⟨b, 14, none⟩ = some u14 := by
  refine ⟨?_, ?_, ?_, ?_, ?_, ?_, ?_, ?_, ?_, ?_, ?_, ?_, ?_, ?_, ?_⟩
  all_goals (rw [cell_of_row w b _ _ 31 _ h]; rfl)

theorem idsEq (w : World) (e1 e2 : TypeId) (v1 v2 : Value) (l : List Int) (hl : Ints w e1 v1 l) (hr : Ints w e2 v2 l) : Calls Try.prog 15 #[v1, v2] w (RetSame (.bool true) w) := by
  have h := refSameIds w e1 e2 v1 v2 l l hl hr
  rw [decide_eq_true rfl] at h
  exact h

set_option maxHeartbeats 6400000 in
set_option maxRecDepth 100000 in
theorem givePlaysWalk (w : World) (e : TypeId) (v : Value) (D : List Dv) (ua uc : Int) (hD : Ds w e v D) :
    Calls Try.prog 5 #[v, .agg #[.int .i64 ua, .int .i64 uc]] w (RetSame (.bool true) w) := by
  obtain ⟨ao, cap, rfl, h1, h2⟩ := hD.form
  unfold maxLen at h2
  have HV := hid giveLives
  have HD := hid (hD.same ((Same.refl w).alloc (.cells #[.int .i64 ua, .int .i64 uc] 25)))
  have HS0 := hid ((Same.refl w).alloc (.cells #[.int .i64 ua, .int .i64 uc] 25))
  have HU : Hid (∀ wz : World, Same (w.alloc (.cells #[.int .i64 ua, .int .i64 uc] 25)) wz → wz.cell? ⟨w.heap.size, 0, none⟩ = some (.int .i64 ua) ∧ wz.cell? ⟨w.heap.size, 1, none⟩ = some (.int .i64 uc)) := fun wz Z =>
    ⟨(Z.cell (by simp)).trans (by simp), (Z.cell (by simp)).trans (by simp)⟩
  clear hD
  go_enter Try.func5, Try.ntmps5
  go_wp2_with fail
  generalize w.alloc (.cells #[.int .i64 ua, .int .i64 uc] 25) = w0 at *
  generalize hub : w.heap.size = ub at *
  clear hub
  go_loopg [5, 6, 7] D.length (fun gk a b i wr => ∃ k : Nat, ∃ L : List Gv, k + gk = D.length ∧ i = .int .i64 k ∧ Gs wr a L ∧ Gs wr b L ∧ rising L ∧ L.length ≤ 64 ∧ Same w0 wr)
  case atStart => exact ⟨0, [], by omega, rfl, Gs.nil _, Gs.nil _, rising_nil, Nat.zero_le _, Same.refl w0⟩
  case round =>
    obtain ⟨k, L, hk, rfl, hL, hM, hr, hl, S⟩ := hrel
    have HL := hid hL
    have HM := hid hM
    have HR := hid hr
    have HS := hid S
    have HK0 := hid hk
    have hkq : k ≤ D.length := by omega
    clear hL hM hr S hk
    by_cases hlt : k < D.length ∧ k < 90
    case neg =>
      have hlt' : ¬ k < D.length ∨ (k < D.length ∧ ¬ k < 90) := by omega
      clear hlt
      rcases hlt' with hlt | ⟨hlt, h90⟩
      all_goals
        go_wp2_with fail
        refine (HV.out _).mono ?_
        rintro en w1 ⟨rfl, S1⟩
        have S1 := hid S1
        go_wp2_with fail
        go_ret
        exact ⟨rfl, HS0.out.trans (HS.out.trans S1.out)⟩
    obtain ⟨hlt, h90⟩ := hlt
    have hrow := (HD.out.same HS.out).row k hlt
    obtain ⟨g, o, rfl, c0, c1, c2, c3, c4, c5, c6, c7, c8, c9, c10, c11, c12, c13, c14⟩ := hrow
    generalize D[k] = d at *
    have hki : (0 : Int) ≤ (k : Int) := by omega
    have hkl : (k : Int) < (D.length : Int) := by omega
    go_upto_block 2 with fail
    clear c0 c1 c2 c3 c4 c5 c6 c7 c8 c9 c10 c11 c12 c13 c14
    have HB0 := hid (cells31 (heap_alloc_new wr (.cells #[.int .i64 d.kind, .int .i64 d.day, .int .i64 d.id, .int .i64 d.state, .int .i64 d.g.id, .int .i64 d.g.fa, .int .i64 d.g.fc, .int .i64 d.g.ta, .int .i64 d.g.tc, .int .i64 d.g.inst, .int .i64 d.g.qty, .int .i64 d.g.price, .int .i64 d.g.group, .int .i64 d.g.day, .int .i64 d.g.state] 31)))
    have hbx : wr.heap.size < (wr.alloc (.cells #[.int .i64 d.kind, .int .i64 d.day, .int .i64 d.id, .int .i64 d.state, .int .i64 d.g.id, .int .i64 d.g.fa, .int .i64 d.g.fc, .int .i64 d.g.ta, .int .i64 d.g.tc, .int .i64 d.g.inst, .int .i64 d.g.qty, .int .i64 d.g.price, .int .i64 d.g.group, .int .i64 d.g.day, .int .i64 d.g.state] 31)).heap.size := by simp
    have HSB := hid ((Same.refl wr).alloc (.cells #[.int .i64 d.kind, .int .i64 d.day, .int .i64 d.id, .int .i64 d.state, .int .i64 d.g.id, .int .i64 d.g.fa, .int .i64 d.g.fc, .int .i64 d.g.ta, .int .i64 d.g.tc, .int .i64 d.g.inst, .int .i64 d.g.qty, .int .i64 d.g.price, .int .i64 d.g.group, .int .i64 d.g.day, .int .i64 d.g.state] 31))
    generalize wr.alloc (.cells #[.int .i64 d.kind, .int .i64 d.day, .int .i64 d.id, .int .i64 d.state, .int .i64 d.g.id, .int .i64 d.g.fa, .int .i64 d.g.fc, .int .i64 d.g.ta, .int .i64 d.g.tc, .int .i64 d.g.inst, .int .i64 d.g.qty, .int .i64 d.g.price, .int .i64 d.g.group, .int .i64 d.g.day, .int .i64 d.g.state] 31) = wB at *
    generalize hbe : wr.heap.size = bx at *
    clear hbe
    have HB : Hid (∀ wz : World, Same wB wz → wz.cell? ⟨bx, 0, none⟩ = some (.int .i64 d.kind) ∧ wz.cell? ⟨bx, 1, none⟩ = some (.int .i64 d.day) ∧ wz.cell? ⟨bx, 2, none⟩ = some (.int .i64 d.id) ∧ wz.cell? ⟨bx, 3, none⟩ = some (.int .i64 d.state) ∧ wz.cell? ⟨bx, 4, none⟩ = some (.int .i64 d.g.id) ∧ wz.cell? ⟨bx, 5, none⟩ = some (.int .i64 d.g.fa) ∧ wz.cell? ⟨bx, 6, none⟩ = some (.int .i64 d.g.fc) ∧ wz.cell? ⟨bx, 7, none⟩ = some (.int .i64 d.g.ta) ∧ wz.cell? ⟨bx, 8, none⟩ = some (.int .i64 d.g.tc) ∧ wz.cell? ⟨bx, 9, none⟩ = some (.int .i64 d.g.inst) ∧ wz.cell? ⟨bx, 10, none⟩ = some (.int .i64 d.g.qty) ∧ wz.cell? ⟨bx, 11, none⟩ = some (.int .i64 d.g.price) ∧ wz.cell? ⟨bx, 12, none⟩ = some (.int .i64 d.g.group) ∧ wz.cell? ⟨bx, 13, none⟩ = some (.int .i64 d.g.day) ∧ wz.cell? ⟨bx, 14, none⟩ = some (.int .i64 d.g.state)) := fun wz Z => by
      obtain ⟨b0, b1, b2, b3, b4, b5, b6, b7, b8, b9, b10, b11, b12, b13, b14⟩ := HB0.out
      exact ⟨(Z.cell (p := ⟨bx, 0, none⟩) hbx).trans b0, (Z.cell (p := ⟨bx, 1, none⟩) hbx).trans b1, (Z.cell (p := ⟨bx, 2, none⟩) hbx).trans b2, (Z.cell (p := ⟨bx, 3, none⟩) hbx).trans b3, (Z.cell (p := ⟨bx, 4, none⟩) hbx).trans b4, (Z.cell (p := ⟨bx, 5, none⟩) hbx).trans b5, (Z.cell (p := ⟨bx, 6, none⟩) hbx).trans b6, (Z.cell (p := ⟨bx, 7, none⟩) hbx).trans b7, (Z.cell (p := ⟨bx, 8, none⟩) hbx).trans b8, (Z.cell (p := ⟨bx, 9, none⟩) hbx).trans b9, (Z.cell (p := ⟨bx, 10, none⟩) hbx).trans b10, (Z.cell (p := ⟨bx, 11, none⟩) hbx).trans b11, (Z.cell (p := ⟨bx, 12, none⟩) hbx).trans b12, (Z.cell (p := ⟨bx, 13, none⟩) hbx).trans b13, (Z.cell (p := ⟨bx, 14, none⟩) hbx).trans b14⟩
    have HT0 := hid (HS.out.trans HSB.out)
    have HLB := hid (HL.out.same HSB.out)
    have HMB := hid (HM.out.same HSB.out)
    clear HB0 HD HV HS0
    go_cut [5, 6] (fun a5 b6 w9 => ∃ N : List Gv, Gs w9 a5 N ∧ Gs w9 b6 N ∧ rising N ∧ N.length ≤ 64 ∧ Same wB w9)
    case first =>
     obtain ⟨b0, b1, b2, b3, b4, b5, b6, b7, b8, b9, b10, b11, b12, b13, b14⟩ := HB.out _ (Same.refl wB)
     cases hk0 : d.kind == 0
     case true =>
      by_cases he : newErr L d.g d.day = 0
      case pos =>
        have HT := hid (giveNew_ok · · L d.g d.day · HR.out he)
        have HT2 := hid (rgNew_ok · · L d.g d.day · HR.out he)
        have HO := hid (ok_new L d.g d.day HR.out he)
        unfold aggG at HT HT2
        clear he
        generalize L ++ [newOne L d.g d.day] = L' at *
        generalize (1 + (L.length : Int)) = nn at *
        go_wp2_with fail
        refine (HT.out _ _ HLB.out).mono ?_
        rintro en w1 ⟨v1, rfl, g1, S1⟩
        have G1 := hid g1
        have S1 := hid S1
        clear g1 b0 b1 b2 b3 b4 b5 b6 b7 b8 b9 b10 b11 b12 b13 b14
        obtain ⟨b0, b1, b2, b3, b4, b5, b6, b7, b8, b9, b10, b11, b12, b13, b14⟩ := HB.out _ S1.out
        go_wp2_with fail
        refine (HT2.out _ _ (HMB.out.same S1.out)).mono ?_
        rintro en w2 ⟨v2, rfl, g2, S2⟩
        have G2 := hid g2
        have S2 := hid S2
        clear g2
        go_wp2_with fail
        refine (rgSame _ _ _ _ (G1.out.same S2.out) G2.out).mono ?_
        rintro en w3 ⟨rfl, S3⟩
        have S3 := hid S3
        go_wp2_with fail
        go_meet
        case rel => exact ⟨_, (G1.out.same S2.out).same S3.out, G2.out.same S3.out, HO.out.1, HO.out.2.2.1, S1.out.trans (S2.out.trans S3.out)⟩
      case neg =>
        have HT := hid (giveNew_err · · L d.g d.day · he)
        have HT2 := hid (rgNew_err · · L d.g d.day · he)
        unfold aggG at HT HT2
        have hne : (newErr L d.g d.day == 0) = false := beq_eq_false_iff_ne.2 he
        clear he
        generalize newErr L d.g d.day = er at *
        go_wp2_with fail
        refine (HT.out _ _ HLB.out).mono ?_
        rintro en w1 ⟨v1, rfl, g1, S1⟩
        have G1 := hid g1
        have S1 := hid S1
        clear g1 b0 b1 b2 b3 b4 b5 b6 b7 b8 b9 b10 b11 b12 b13 b14
        obtain ⟨b0, b1, b2, b3, b4, b5, b6, b7, b8, b9, b10, b11, b12, b13, b14⟩ := HB.out _ S1.out
        go_wp2_with fail
        refine (HT2.out _ _ (HMB.out.same S1.out)).mono ?_
        rintro en w2 ⟨v2, rfl, g2, S2⟩
        have G2 := hid g2
        have S2 := hid S2
        clear g2
        go_wp2_with fail
        refine (rgSame _ _ _ _ (G1.out.same S2.out) G2.out).mono ?_
        rintro en w3 ⟨rfl, S3⟩
        have S3 := hid S3
        go_wp2_with fail
        go_meet
        case rel => exact ⟨_, ((HLB.out.same S1.out).same S2.out).same S3.out, ((HMB.out.same S1.out).same S2.out).same S3.out, HR.out, hl, S1.out.trans (S2.out.trans S3.out)⟩
     cases hk1 : d.kind == 1
     case true =>
      by_cases he : turnErr L d.id d.state = 0
      case pos =>
        have HT := hid (giveTurn_ok · · L d.id d.state · hl he)
        have HT2 := hid (rgTurn_ok · · L d.id d.state · hl he)
        have HO := hid (ok_turn L d.id d.state HR.out hl he)
        clear he
        generalize turned L d.id d.state = L' at *
        go_wp2_with fail
        refine (HT.out _ _ HLB.out).mono ?_
        rintro en w1 ⟨v1, rfl, g1, S1⟩
        have G1 := hid g1
        have S1 := hid S1
        clear g1 b0 b1 b2 b3 b4 b5 b6 b7 b8 b9 b10 b11 b12 b13 b14
        obtain ⟨b0, b1, b2, b3, b4, b5, b6, b7, b8, b9, b10, b11, b12, b13, b14⟩ := HB.out _ S1.out
        go_wp2_with fail
        refine (HT2.out _ _ (HMB.out.same S1.out)).mono ?_
        rintro en w2 ⟨v2, rfl, g2, S2⟩
        have G2 := hid g2
        have S2 := hid S2
        clear g2
        go_wp2_with fail
        refine (rgSame _ _ _ _ (G1.out.same S2.out) G2.out).mono ?_
        rintro en w3 ⟨rfl, S3⟩
        have S3 := hid S3
        go_wp2_with fail
        go_meet
        case rel => exact ⟨_, (G1.out.same S2.out).same S3.out, G2.out.same S3.out, HO.out.1, HO.out.2.2.1, S1.out.trans (S2.out.trans S3.out)⟩
      case neg =>
        have HT := hid (giveTurn_err · · L d.id d.state · he)
        have HT2 := hid (rgTurn_err · · L d.id d.state · he)
        have hne : (turnErr L d.id d.state == 0) = false := beq_eq_false_iff_ne.2 he
        clear he
        generalize turnErr L d.id d.state = er at *
        go_wp2_with fail
        refine (HT.out _ _ HLB.out).mono ?_
        rintro en w1 ⟨v1, rfl, g1, S1⟩
        have G1 := hid g1
        have S1 := hid S1
        clear g1 b0 b1 b2 b3 b4 b5 b6 b7 b8 b9 b10 b11 b12 b13 b14
        obtain ⟨b0, b1, b2, b3, b4, b5, b6, b7, b8, b9, b10, b11, b12, b13, b14⟩ := HB.out _ S1.out
        go_wp2_with fail
        refine (HT2.out _ _ (HMB.out.same S1.out)).mono ?_
        rintro en w2 ⟨v2, rfl, g2, S2⟩
        have G2 := hid g2
        have S2 := hid S2
        clear g2
        go_wp2_with fail
        refine (rgSame _ _ _ _ (G1.out.same S2.out) G2.out).mono ?_
        rintro en w3 ⟨rfl, S3⟩
        have S3 := hid S3
        go_wp2_with fail
        go_meet
        case rel => exact ⟨_, ((HLB.out.same S1.out).same S2.out).same S3.out, ((HMB.out.same S1.out).same S2.out).same S3.out, HR.out, hl, S1.out.trans (S2.out.trans S3.out)⟩
     go_wp2_with fail
     go_meet
     case rel => exact ⟨_, HLB.out, HMB.out, HR.out, hl, Same.refl wB⟩
    case rest =>
      obtain ⟨N, hN1, hN2, hN3, hl2, hN4⟩ := hcut
      have HLB := hid hN1
      have HMB := hid hN2
      have HR2 := hid hN3
      have hbx := Nat.lt_of_lt_of_le hbx hN4.size
      have HT0 := hid (HT0.out.trans hN4)
      have HN4 := hid hN4
      have HB : Hid (∀ wz : World, Same wc wz → wz.cell? ⟨bx, 0, none⟩ = some (.int .i64 d.kind) ∧ wz.cell? ⟨bx, 1, none⟩ = some (.int .i64 d.day) ∧ wz.cell? ⟨bx, 2, none⟩ = some (.int .i64 d.id) ∧ wz.cell? ⟨bx, 3, none⟩ = some (.int .i64 d.state) ∧ wz.cell? ⟨bx, 4, none⟩ = some (.int .i64 d.g.id) ∧ wz.cell? ⟨bx, 5, none⟩ = some (.int .i64 d.g.fa) ∧ wz.cell? ⟨bx, 6, none⟩ = some (.int .i64 d.g.fc) ∧ wz.cell? ⟨bx, 7, none⟩ = some (.int .i64 d.g.ta) ∧ wz.cell? ⟨bx, 8, none⟩ = some (.int .i64 d.g.tc) ∧ wz.cell? ⟨bx, 9, none⟩ = some (.int .i64 d.g.inst) ∧ wz.cell? ⟨bx, 10, none⟩ = some (.int .i64 d.g.qty) ∧ wz.cell? ⟨bx, 11, none⟩ = some (.int .i64 d.g.price) ∧ wz.cell? ⟨bx, 12, none⟩ = some (.int .i64 d.g.group) ∧ wz.cell? ⟨bx, 13, none⟩ = some (.int .i64 d.g.day) ∧ wz.cell? ⟨bx, 14, none⟩ = some (.int .i64 d.g.state)) := fun wz Z => HB.out wz (HN4.out.trans Z)
      clear hN1 hN2 hN3 hN4
      obtain ⟨b0, b1, b2, b3, b4, b5, b6, b7, b8, b9, b10, b11, b12, b13, b14⟩ := HB.out _ (Same.refl wc)
      go_wp2_with fail
      have HF1 := hid (giveFind · · N d.id ·)
      have HF2 := hid (rgFind · · N d.id ·)
      refine (HF1.out _ _ HLB.out).mono ?_
      rintro en w1 ⟨rfl, S1⟩
      have S1 := hid S1
      unfold aggG
      generalize hxx : foundG N d.id = x
      have HXX := hid hxx
      generalize hhh : hasG N d.id = hb
      have HHH := hid hhh
      clear hxx hhh b0 b1 b2 b3 b4 b5 b6 b7 b8 b9 b10 b11 b12 b13 b14
      have S1b := hid (S1.out.alloc (.cells #[.int .i64 x.id, .int .i64 x.fa, .int .i64 x.fc, .int .i64 x.ta, .int .i64 x.tc, .int .i64 x.inst, .int .i64 x.qty, .int .i64 x.price, .int .i64 x.group, .int .i64 x.day, .int .i64 x.state] 29))
      have HX1 := hid (cells29 (heap_alloc_new w1 (.cells #[.int .i64 x.id, .int .i64 x.fa, .int .i64 x.fc, .int .i64 x.ta, .int .i64 x.tc, .int .i64 x.inst, .int .i64 x.qty, .int .i64 x.price, .int .i64 x.group, .int .i64 x.day, .int .i64 x.state] 29)))
      have hx1 : w1.heap.size < (w1.alloc (.cells #[.int .i64 x.id, .int .i64 x.fa, .int .i64 x.fc, .int .i64 x.ta, .int .i64 x.tc, .int .i64 x.inst, .int .i64 x.qty, .int .i64 x.price, .int .i64 x.group, .int .i64 x.day, .int .i64 x.state] 29)).heap.size := by simp
      have hbb : bx < (w1.alloc (.cells #[.int .i64 x.id, .int .i64 x.fa, .int .i64 x.fc, .int .i64 x.ta, .int .i64 x.tc, .int .i64 x.inst, .int .i64 x.qty, .int .i64 x.price, .int .i64 x.group, .int .i64 x.day, .int .i64 x.state] 29)).heap.size := Nat.lt_of_lt_of_le hbx S1b.out.size
      obtain ⟨b0, b1, b2, b3, b4, b5, b6, b7, b8, b9, b10, b11, b12, b13, b14⟩ := HB.out _ S1b.out
      go_upto_region 22 with fail
      generalize w1.alloc (.cells #[.int .i64 x.id, .int .i64 x.fa, .int .i64 x.fc, .int .i64 x.ta, .int .i64 x.tc, .int .i64 x.inst, .int .i64 x.qty, .int .i64 x.price, .int .i64 x.group, .int .i64 x.day, .int .i64 x.state] 29) = wC at *
      generalize hx1e : w1.heap.size = x1 at *
      clear hx1e
      go_wp2_with fail
      refine (HF2.out _ _ (HMB.out.same S1b.out)).mono ?_
      rintro en w2 ⟨rfl, S2⟩
      have S2 := hid S2
      rw [HXX.out, HHH.out]
      unfold aggG
      clear b0 b1 b2 b3 b4 b5 b6 b7 b8 b9 b10 b11 b12 b13 b14
      go_upto_region 23 with fail
      have S2b := hid (S2.out.alloc (.cells #[.int .i64 x.id, .int .i64 x.fa, .int .i64 x.fc, .int .i64 x.ta, .int .i64 x.tc, .int .i64 x.inst, .int .i64 x.qty, .int .i64 x.price, .int .i64 x.group, .int .i64 x.day, .int .i64 x.state] 29))
      have HX2 := hid (cells29 (heap_alloc_new w2 (.cells #[.int .i64 x.id, .int .i64 x.fa, .int .i64 x.fc, .int .i64 x.ta, .int .i64 x.tc, .int .i64 x.inst, .int .i64 x.qty, .int .i64 x.price, .int .i64 x.group, .int .i64 x.day, .int .i64 x.state] 29)))
      have hx2 : w2.heap.size < (w2.alloc (.cells #[.int .i64 x.id, .int .i64 x.fa, .int .i64 x.fc, .int .i64 x.ta, .int .i64 x.tc, .int .i64 x.inst, .int .i64 x.qty, .int .i64 x.price, .int .i64 x.group, .int .i64 x.day, .int .i64 x.state] 29)).heap.size := by simp
      have hx12 : x1 < (w2.alloc (.cells #[.int .i64 x.id, .int .i64 x.fa, .int .i64 x.fc, .int .i64 x.ta, .int .i64 x.tc, .int .i64 x.inst, .int .i64 x.qty, .int .i64 x.price, .int .i64 x.group, .int .i64 x.day, .int .i64 x.state] 29)).heap.size := Nat.lt_of_lt_of_le hx1 S2b.out.size
      generalize w2.alloc (.cells #[.int .i64 x.id, .int .i64 x.fa, .int .i64 x.fc, .int .i64 x.ta, .int .i64 x.tc, .int .i64 x.inst, .int .i64 x.qty, .int .i64 x.price, .int .i64 x.group, .int .i64 x.day, .int .i64 x.state] 29) = wE at *
      generalize hx2e : w2.heap.size = x2 at *
      clear hx2e
      have HBE := hid (S1b.out.trans S2b.out)
      have HTE := hid (HT0.out.trans HBE.out)
      have HLE := hid (HLB.out.same HBE.out)
      have HME := hid (HMB.out.same HBE.out)
      have HK : Hid (∀ wz : World, Same wE wz → wz.cell? ⟨x1, 0, none⟩ = some (.int .i64 x.id) ∧ wz.cell? ⟨x1, 1, none⟩ = some (.int .i64 x.fa) ∧ wz.cell? ⟨x1, 2, none⟩ = some (.int .i64 x.fc) ∧ wz.cell? ⟨x1, 3, none⟩ = some (.int .i64 x.ta) ∧ wz.cell? ⟨x1, 4, none⟩ = some (.int .i64 x.tc) ∧ wz.cell? ⟨x1, 5, none⟩ = some (.int .i64 x.inst) ∧ wz.cell? ⟨x1, 6, none⟩ = some (.int .i64 x.qty) ∧ wz.cell? ⟨x1, 7, none⟩ = some (.int .i64 x.price) ∧ wz.cell? ⟨x1, 8, none⟩ = some (.int .i64 x.group) ∧ wz.cell? ⟨x1, 9, none⟩ = some (.int .i64 x.day) ∧ wz.cell? ⟨x1, 10, none⟩ = some (.int .i64 x.state) ∧ wz.cell? ⟨x2, 0, none⟩ = some (.int .i64 x.id) ∧ wz.cell? ⟨x2, 1, none⟩ = some (.int .i64 x.fa) ∧ wz.cell? ⟨x2, 2, none⟩ = some (.int .i64 x.fc) ∧ wz.cell? ⟨x2, 3, none⟩ = some (.int .i64 x.ta) ∧ wz.cell? ⟨x2, 4, none⟩ = some (.int .i64 x.tc) ∧ wz.cell? ⟨x2, 5, none⟩ = some (.int .i64 x.inst) ∧ wz.cell? ⟨x2, 6, none⟩ = some (.int .i64 x.qty) ∧ wz.cell? ⟨x2, 7, none⟩ = some (.int .i64 x.price) ∧ wz.cell? ⟨x2, 8, none⟩ = some (.int .i64 x.group) ∧ wz.cell? ⟨x2, 9, none⟩ = some (.int .i64 x.day) ∧ wz.cell? ⟨x2, 10, none⟩ = some (.int .i64 x.state) ∧ wz.cell? ⟨ub, 0, none⟩ = some (.int .i64 ua) ∧ wz.cell? ⟨ub, 1, none⟩ = some (.int .i64 uc) ∧ wz.cell? ⟨bx, 1, none⟩ = some (.int .i64 d.day)) := fun wz Z => by
        obtain ⟨⟨y0, y1, y2, y3, y4, y5, y6, y7, y8, y9, y10⟩, _⟩ := HX1.out
        obtain ⟨⟨z0, z1, z2, z3, z4, z5, z6, z7, z8, z9, z10⟩, _⟩ := HX2.out
        obtain ⟨q0, q1⟩ := HU.out wz (HTE.out.trans Z)
        obtain ⟨b0, b1, b2, b3, b4, b5, b6, b7, b8, b9, b10, b11, b12, b13, b14⟩ := HB.out wz (HBE.out.trans Z)
        refine ⟨(Z.cell (p := ⟨x1, 0, none⟩) hx12).trans ((S2b.out.cell (p := ⟨x1, 0, none⟩) hx1).trans y0), (Z.cell (p := ⟨x1, 1, none⟩) hx12).trans ((S2b.out.cell (p := ⟨x1, 1, none⟩) hx1).trans y1), (Z.cell (p := ⟨x1, 2, none⟩) hx12).trans ((S2b.out.cell (p := ⟨x1, 2, none⟩) hx1).trans y2), (Z.cell (p := ⟨x1, 3, none⟩) hx12).trans ((S2b.out.cell (p := ⟨x1, 3, none⟩) hx1).trans y3), (Z.cell (p := ⟨x1, 4, none⟩) hx12).trans ((S2b.out.cell (p := ⟨x1, 4, none⟩) hx1).trans y4), (Z.cell (p := ⟨x1, 5, none⟩) hx12).trans ((S2b.out.cell (p := ⟨x1, 5, none⟩) hx1).trans y5), (Z.cell (p := ⟨x1, 6, none⟩) hx12).trans ((S2b.out.cell (p := ⟨x1, 6, none⟩) hx1).trans y6), (Z.cell (p := ⟨x1, 7, none⟩) hx12).trans ((S2b.out.cell (p := ⟨x1, 7, none⟩) hx1).trans y7), (Z.cell (p := ⟨x1, 8, none⟩) hx12).trans ((S2b.out.cell (p := ⟨x1, 8, none⟩) hx1).trans y8), (Z.cell (p := ⟨x1, 9, none⟩) hx12).trans ((S2b.out.cell (p := ⟨x1, 9, none⟩) hx1).trans y9), (Z.cell (p := ⟨x1, 10, none⟩) hx12).trans ((S2b.out.cell (p := ⟨x1, 10, none⟩) hx1).trans y10), (Z.cell (p := ⟨x2, 0, none⟩) hx2).trans z0, (Z.cell (p := ⟨x2, 1, none⟩) hx2).trans z1, (Z.cell (p := ⟨x2, 2, none⟩) hx2).trans z2, (Z.cell (p := ⟨x2, 3, none⟩) hx2).trans z3, (Z.cell (p := ⟨x2, 4, none⟩) hx2).trans z4, (Z.cell (p := ⟨x2, 5, none⟩) hx2).trans z5, (Z.cell (p := ⟨x2, 6, none⟩) hx2).trans z6, (Z.cell (p := ⟨x2, 7, none⟩) hx2).trans z7, (Z.cell (p := ⟨x2, 8, none⟩) hx2).trans z8, (Z.cell (p := ⟨x2, 9, none⟩) hx2).trans z9, (Z.cell (p := ⟨x2, 10, none⟩) hx2).trans z10, q0, q1, b1⟩
      have P9 : Hid (∀ wz vz, Gs wz vz N → Calls Try.prog 9 #[vz, .int .i64 d.day] wz fun en w' => ∃ v, en = .returned v ∧ Ints w' 3 v (sel N fun g => decide (g.day < d.day)) ∧ Same wz w') := fun wz vz h => giveLate wz vz N d.day h hl2
      have P16 : Hid (∀ wz vz, Gs wz vz N → Calls Try.prog 16 #[vz, .int .i64 d.day] wz fun en w' => ∃ v, en = .returned v ∧ Ints w' 3 v (sel N fun g => decide (g.day < d.day)) ∧ Same wz w') := fun wz vz h => (rgLate wz vz N d.day h hl2).mono fun en w' hr => RetInts.weak (Same.refl wz) hr
      have P17 : Hid (∀ wz vz, Gs wz vz N → Calls Try.prog 17 #[vz, .agg #[.int .i64 ua, .int .i64 uc]] wz fun en w' => ∃ v, en = .returned v ∧ Ints w' 3 v (sel N (isOf ua uc)) ∧ Same wz w') := fun wz vz h => giveOf wz vz N ua uc h hl2
      have P18 : Hid (∀ wz vz, Gs wz vz N → Calls Try.prog 18 #[vz, .agg #[.int .i64 ua, .int .i64 uc]] wz fun en w' => ∃ v, en = .returned v ∧ Ints w' 3 v (sel N (isOf ua uc)) ∧ Same wz w') := fun wz vz h => (rgOf wz vz N ua uc h hl2).mono fun en w' hr => RetInts.weak (Same.refl wz) hr
      generalize (sel N fun g => decide (g.day < d.day)) = la at *
      generalize sel N (isOf ua uc) = lb at *
      obtain ⟨s0, s1, s2, s3, s4, s5, s6, s7, s8, s9, s10, s11, s12, s13, s14, s15, s16, s17, s18, s19, s20, s21, s22, s23, s24⟩ := HK.out _ (Same.refl wE)
      clear hbx hbb hx1 hx2 hx12
      go_wp2_with fail
      go_region_held3 (fun w' => w'.cell? ⟨x1, 0, none⟩ = some (.int .i64 x.id) ∧ w'.cell? ⟨x1, 1, none⟩ = some (.int .i64 x.fa) ∧ w'.cell? ⟨x1, 2, none⟩ = some (.int .i64 x.fc) ∧ w'.cell? ⟨x1, 3, none⟩ = some (.int .i64 x.ta) ∧ w'.cell? ⟨x1, 4, none⟩ = some (.int .i64 x.tc) ∧ w'.cell? ⟨x1, 5, none⟩ = some (.int .i64 x.inst) ∧ w'.cell? ⟨x1, 6, none⟩ = some (.int .i64 x.qty) ∧ w'.cell? ⟨x1, 7, none⟩ = some (.int .i64 x.price) ∧ w'.cell? ⟨x1, 8, none⟩ = some (.int .i64 x.group) ∧ w'.cell? ⟨x1, 9, none⟩ = some (.int .i64 x.day) ∧ w'.cell? ⟨x1, 10, none⟩ = some (.int .i64 x.state) ∧ w'.cell? ⟨x2, 0, none⟩ = some (.int .i64 x.id) ∧ w'.cell? ⟨x2, 1, none⟩ = some (.int .i64 x.fa) ∧ w'.cell? ⟨x2, 2, none⟩ = some (.int .i64 x.fc) ∧ w'.cell? ⟨x2, 3, none⟩ = some (.int .i64 x.ta) ∧ w'.cell? ⟨x2, 4, none⟩ = some (.int .i64 x.tc) ∧ w'.cell? ⟨x2, 5, none⟩ = some (.int .i64 x.inst) ∧ w'.cell? ⟨x2, 6, none⟩ = some (.int .i64 x.qty) ∧ w'.cell? ⟨x2, 7, none⟩ = some (.int .i64 x.price) ∧ w'.cell? ⟨x2, 8, none⟩ = some (.int .i64 x.group) ∧ w'.cell? ⟨x2, 9, none⟩ = some (.int .i64 x.day) ∧ w'.cell? ⟨x2, 10, none⟩ = some (.int .i64 x.state) ∧ w'.cell? ⟨ub, 0, none⟩ = some (.int .i64 ua) ∧ w'.cell? ⟨ub, 1, none⟩ = some (.int .i64 uc) ∧ w'.cell? ⟨bx, 1, none⟩ = some (.int .i64 d.day))
        (first | with_reducible exact ⟨by assumption, by assumption, by assumption, by assumption, by assumption, by assumption, by assumption, by assumption, by assumption, by assumption, by assumption, by assumption, by assumption, by assumption, by assumption, by assumption, by assumption, by assumption, by assumption, by assumption, by assumption, by assumption, by assumption, by assumption, by assumption⟩ | go_keep)
        (first
          | (go_at_call 15; (with_reducible refine (idsEq _ 3 3 _ _ _ O17' O18).mono ?_); rintro en w9 ⟨rfl, K9⟩; have K9' := K18'.trans K9; clear s0 s1 s2 s3 s4 s5 s6 s7 s8 s9 s10 s11 s12 s13 s14 s15 s16 s17 s18 s19 s20 s21 s22 s23 s24; obtain ⟨s0, s1, s2, s3, s4, s5, s6, s7, s8, s9, s10, s11, s12, s13, s14, s15, s16, s17, s18, s19, s20, s21, s22, s23, s24⟩ := HK.out _ K9')
          | (go_at_call 18; (with_reducible refine (P18.out _ _ (HME.out.same K17')).mono ?_); rintro en w8 ⟨v8, rfl, O18, K18⟩; have K18' := K17'.trans K18; have O17' := O17.same K18; clear s0 s1 s2 s3 s4 s5 s6 s7 s8 s9 s10 s11 s12 s13 s14 s15 s16 s17 s18 s19 s20 s21 s22 s23 s24; obtain ⟨s0, s1, s2, s3, s4, s5, s6, s7, s8, s9, s10, s11, s12, s13, s14, s15, s16, s17, s18, s19, s20, s21, s22, s23, s24⟩ := HK.out _ K18')
          | (go_at_call 17; (with_reducible refine (P17.out _ _ (HLE.out.same K15')).mono ?_); rintro en w7 ⟨v7, rfl, O17, K17⟩; have K17' := K15'.trans K17; clear s0 s1 s2 s3 s4 s5 s6 s7 s8 s9 s10 s11 s12 s13 s14 s15 s16 s17 s18 s19 s20 s21 s22 s23 s24; obtain ⟨s0, s1, s2, s3, s4, s5, s6, s7, s8, s9, s10, s11, s12, s13, s14, s15, s16, s17, s18, s19, s20, s21, s22, s23, s24⟩ := HK.out _ K17')
          | (go_at_call 15; (with_reducible refine (idsEq _ 3 3 _ _ _ O9' O16).mono ?_); rintro en w6 ⟨rfl, K15⟩; have K15' := K16'.trans K15; clear s0 s1 s2 s3 s4 s5 s6 s7 s8 s9 s10 s11 s12 s13 s14 s15 s16 s17 s18 s19 s20 s21 s22 s23 s24; obtain ⟨s0, s1, s2, s3, s4, s5, s6, s7, s8, s9, s10, s11, s12, s13, s14, s15, s16, s17, s18, s19, s20, s21, s22, s23, s24⟩ := HK.out _ K15')
          | (go_at_call 16; (with_reducible refine (P16.out _ _ (HME.out.same K9a')).mono ?_); rintro en w5 ⟨v5, rfl, O16, K16⟩; have K16' := K9a'.trans K16; have O9' := O9.same K16; clear s0 s1 s2 s3 s4 s5 s6 s7 s8 s9 s10 s11 s12 s13 s14 s15 s16 s17 s18 s19 s20 s21 s22 s23 s24; obtain ⟨s0, s1, s2, s3, s4, s5, s6, s7, s8, s9, s10, s11, s12, s13, s14, s15, s16, s17, s18, s19, s20, s21, s22, s23, s24⟩ := HK.out _ K16')
          | (go_at_call 9; (with_reducible refine (P9.out _ _ (HLE.out.same (Same.refl _).drew)).mono ?_); rintro en w4 ⟨v4, rfl, O9, K9a⟩; have K9a' := (Same.refl wE).drew.trans K9a; clear s0 s1 s2 s3 s4 s5 s6 s7 s8 s9 s10 s11 s12 s13 s14 s15 s16 s17 s18 s19 s20 s21 s22 s23 s24; obtain ⟨s0, s1, s2, s3, s4, s5, s6, s7, s8, s9, s10, s11, s12, s13, s14, s15, s16, s17, s18, s19, s20, s21, s22, s23, s24⟩ := HK.out _ K9a'))
      have K9' := hid K9'
      clear O9 O9' O16 O17 O17' O18 K9 K9a K9a' K15 K15' K16 K16' K17 K17' K18 K18'
      clear s0 s1 s2 s3 s4 s5 s6 s7 s8 s9 s10 s11 s12 s13 s14 s15 s16 s17 s18 s19 s20 s21 s22 s23 s24
      go_wp2_with fail
      go_roundg (gk - 1)
      case measure => have := HK0.out; omega
      case rel => exact ⟨k + 1, N, by have := HK0.out; omega, by go_num, HLE.out.same K9'.out, HME.out.same K9'.out, HR2.out, hl2, HTE.out.trans K9'.out⟩
end Go.Proofs.Ytijdjpmceclmhaa
