/- FRAME: lives, short, plain of layer 7. -/
import Derived.Test.YtlhnpicmjjddeaaFw7
import Derived.Test.YtlhnpicmjjddeaaSmall
namespace Go.Proofs.Ytlhnpicmjjddeaa
open Go.RowKit

def b100 : List UInt8 := List.replicate 100 0
theorem nparts100 : nparts b100.length = 2 := by decide
theorem cutE100 : cutE 1 0 1 b100 = 0 := by decide
theorem cutAll100 : cutAll 1 0 1 b100 = cutL 1 0 1 b100 := by unfold cutAll; rw [if_pos cutE100]
theorem Frs.two (w : World) (e1 e2 : TypeId) (f1 f2 : Fr) (u1 u2 : Value) (h1 : Bytes w e1 u1 f1.data) (h2 : Bytes w e2 u2 f2.data) :
    Frs (w.alloc (.cells #[.int .i64 f1.life, .int .i64 f1.era, .int .i64 f1.seq, .int .i64 f1.part, .int .i64 f1.parts, u1, .int .i64 f2.life, .int .i64 f2.era, .int .i64 f2.seq, .int .i64 f2.part, .int .i64 f2.parts, u2] 60)) 60 (.slice (some ⟨w.heap.size, 0, none⟩) 2 2) [f1, f2] := by
  refine ⟨[(f1, u1), (f2, u2)], rfl, Sl.made 60 6 w.heap.size 2 2 _ _ (heap_alloc_new w _) (Nat.le_refl _) (by decide) rfl ⟨[], rfl⟩, fun p hp => ?_⟩
  simp at hp
  rcases hp with rfl | rfl
  · exact ⟨e1, h1.same ((Same.refl w).alloc _)⟩
  · exact ⟨e2, h2.same ((Same.refl w).alloc _)⟩
theorem runMake100 (w : World) : (Instr.makeSlice 23 (.int .i64 100) (.int .i64 100)).run Try.prog w = .ok (.slice (some ⟨w.heap.size, 0, none⟩) 100 100) (w.alloc (.cells (zeros 100) 5)) := runMakeBytes w 100 (by omega)
theorem dec_cut {life era seq : Int} {b : List UInt8} {i : Nat} (h : cutE life era seq b = 0) (hi : i < nparts b.length) : decF (enc (cutAt life era seq b i)) = cutAt life era seq b i ∧ decE (enc (cutAt life era seq b i)) = 0 :=
  decF_some (dec_enc (cutAt_right h hi))
theorem OwnR.one {w : World} {base : Nat} {ao : Option Addr} {cap : Nat} {ls : List (List UInt8)} (h : OwnR w base (.slice ao ls.length cap) ls) (k : Nat) (hk : k < ls.length) :
    ∃ g o a c e', ao = some ⟨g, o, none⟩ ∧ w.cell? ⟨g, o + k, none⟩ = some (.slice a ls[k].length c) ∧ Bytes w e' (.slice a ls[k].length c) ls[k] := h.rows.row k hk

set_option maxHeartbeats 3200000 in
set_option maxRecDepth 100000 in
theorem fLives (w : World) : Calls Try.prog 51 #[] w (RetSame (.bool true) w) := by
  have hm := runMake100
  have HC := hid (fCut (w.alloc (.cells (zeros 100) 5)) 5 _ 1 0 1 b100 (OwnB.zeros w 100 (by omega)).bytes (by decide))
  rw [cutAll100, cutE100] at HC
  have hr0 : (cutAt 1 0 1 b100 0).right = true := cutAt_right cutE100 (by rw [nparts100]; omega)
  have hr1 : (cutAt 1 0 1 b100 1).right = true := cutAt_right cutE100 (by rw [nparts100]; omega)
  have hcut : cutFr 1 0 1 b100 = [cutAt 1 0 1 b100 0, cutAt 1 0 1 b100 1] := by unfold cutFr; rw [nparts100]; rfl
  have hcl : cutL 1 0 1 b100 = [enc (cutAt 1 0 1 b100 0), enc (cutAt 1 0 1 b100 1)] := by unfold cutL; rw [hcut]; rfl
  rw [hcl] at HC
  have hj : joinsB [cutAt 1 0 1 b100 0, cutAt 1 0 1 b100 1] = true := by rw [← hcut]; exact joinsB_iff.2 (joins_cut cutE100)
  have hjo : joinOf [cutAt 1 0 1 b100 0, cutAt 1 0 1 b100 1] = b100 := by unfold joinOf; rw [hj, if_pos rfl, ← hcut, joined_cut]
  have D0 := hid (decF_some (dec_enc hr0))
  have D1 := hid (decF_some (dec_enc hr1))
  have L0 : Hid ((enc (cutAt 1 0 1 b100 0)).length ≤ 900000) := by
    show _ ≤ _; rw [enc_length _ (partOk_iff.1 (Fr.right_iff.1 hr0).2).2.2.2.2]; omega
  have L1 : Hid ((enc (cutAt 1 0 1 b100 1)).length ≤ 900000) := by
    show _ ≤ _; rw [enc_length _ (partOk_iff.1 (Fr.right_iff.1 hr1).2).2.2.2.2]; omega
  have hd1 : (cutAt 1 0 1 b100 1).data.length = 20 := by decide
  have hs : Small [cutAt 1 0 1 b100 0, cutAt 1 0 1 b100 1] := by
    intro f hf
    simp at hf
    rcases hf with rfl | rfl
    · obtain ⟨q1, q2, q3, q4, q5⟩ := partOk_iff.1 (Fr.right_iff.1 hr0).2; exact ⟨by omega, q2, q5⟩
    · obtain ⟨q1, q2, q3, q4, q5⟩ := partOk_iff.1 (Fr.right_iff.1 hr1).2; exact ⟨by omega, q2, q5⟩
  have Hj := hid (And.intro hj (And.intro hjo hs))
  have Hd1 := hid hd1
  have h100 : Hid (b100.length = 100) := by show _ = _; decide
  clear hcut hcl hj hjo hs hr0 hr1 hd1
  generalize cutAt 1 0 1 b100 0 = f0 at *
  generalize cutAt 1 0 1 b100 1 = f1 at *
  generalize enc f0 = s0 at *
  generalize enc f1 = s1 at *
  have HDec := hid fDecode
  have HJn := hid fJoin
  go_enter Try.func51, Try.ntmps51
  go_wp2_with fail
  refine HC.out.mono ?_
  rintro en w1 ⟨v1, rfl, O1, S1⟩
  have S1 := hid (((Same.refl w).alloc _).trans S1)
  obtain ⟨a1, c1, rfl, f1', f2'⟩ := O1.rows.form
  obtain ⟨g, o, z0, y0, e0, rfl, k0, B0⟩ := O1.one 0 (by simp)
  obtain ⟨g', o', z1, y1, e1, hgg, k1, B1⟩ := O1.one 1 (by simp)
  cases hgg
  simp only [List.getElem_cons_zero, List.getElem_cons_succ, Nat.add_zero, List.length_cons, List.length_nil] at *
  have HB0 := hid B0
  have HB1 := hid B1
  have K1 := hid k1
  clear O1 B0 B1
  go_wp2_with fail
  refine (HDec.out _ _ _ _ HB0.out L0.out).mono ?_
  rintro en w2 ⟨x2, rfl, F2, S2⟩
  rw [D0.out.1] at F2
  rw [D0.out.2]
  obtain ⟨u2, rfl, O2⟩ := F2
  obtain ⟨au2, cu2, rfl, _, _⟩ := O2.bytes.form
  have hgl := World.block_lt_of_cell? w1 _ K1.out
  have k1' := (S2.cell (p := ⟨g, o + 1, none⟩) hgl).trans K1.out
  have O2 := hid O2
  have S2 := hid S2
  clear k0 k1 hgl
  have hgl := World.block_lt_of_cell? w2 _ k1'
  unfold Fr.agg
  go_wp2_with fail
  have T2 := hid ((Same.refl w2).alloc (.cells #[.int .i64 f0.life, .int .i64 f0.era, .int .i64 f0.seq, .int .i64 f0.part, .int .i64 f0.parts, .slice au2 f0.data.length cu2] 60))
  have BX := hid (Box6.new w2 (.int .i64 f0.life) (.int .i64 f0.era) (.int .i64 f0.seq) (.int .i64 f0.part) (.int .i64 f0.parts) (.slice au2 f0.data.length cu2))
  refine (HDec.out _ _ _ _ (HB1.out.same (S2.out.trans T2.out)) L1.out).mono ?_
  rintro en w3 ⟨x3, rfl, F3, S3⟩
  rw [D1.out.1] at F3
  rw [D1.out.2]
  obtain ⟨u3, rfl, O3⟩ := F3
  obtain ⟨au3, cu3, rfl, _, _⟩ := O3.bytes.form
  obtain ⟨b0, b1, b2, b3, b4, b5⟩ := (BX.out.same S3).cells
  have BXl := (BX.out.same S3).lt
  have O3 := hid O3
  have O2' := hid (O2.out.bytes.same (T2.out.trans S3))
  have S3 := hid (((S1.out.trans S2.out).trans T2.out).trans S3)
  clear k1' hgl
  have HFr := hid (Frs.two (w3.alloc (.cells #[.int .i64 f1.life, .int .i64 f1.era, .int .i64 f1.seq, .int .i64 f1.part, .int .i64 f1.parts, .slice au3 f1.data.length cu3] 60)) 5 5 f0 f1 (.slice au2 f0.data.length cu2) (.slice au3 f1.data.length cu3) (O2'.out.same ((Same.refl _).alloc _)) (O3.out.bytes.same ((Same.refl _).alloc _)))
  have T3 := hid (((Same.refl w3).alloc (.cells #[.int .i64 f1.life, .int .i64 f1.era, .int .i64 f1.seq, .int .i64 f1.part, .int .i64 f1.parts, .slice au3 f1.data.length cu3] 60)).alloc (.cells #[.int .i64 f0.life, .int .i64 f0.era, .int .i64 f0.seq, .int .i64 f0.part, .int .i64 f0.parts, .slice au2 f0.data.length cu2, .int .i64 f1.life, .int .i64 f1.era, .int .i64 f1.seq, .int .i64 f1.part, .int .i64 f1.parts, .slice au3 f1.data.length cu3] 60))
  have BY := hid ((Box6.new w3 (.int .i64 f1.life) (.int .i64 f1.era) (.int .i64 f1.seq) (.int .i64 f1.part) (.int .i64 f1.parts) (.slice au3 f1.data.length cu3)).same ((Same.refl _).alloc (.cells #[.int .i64 f0.life, .int .i64 f0.era, .int .i64 f0.seq, .int .i64 f0.part, .int .i64 f0.parts, .slice au2 f0.data.length cu2, .int .i64 f1.life, .int .i64 f1.era, .int .i64 f1.seq, .int .i64 f1.part, .int .i64 f1.parts, .slice au3 f1.data.length cu3] 60)))
  simp only [World.size_alloc] at HFr
  unfold Fr.agg
  go_wp2_with fail
  refine (HJn.out _ _ _ [f0, f1] HFr.out Hj.out.2.2 (by simp)).mono ?_
  rintro en w4 ⟨v4, rfl, O4, S4⟩
  rw [Hj.out.2.1] at O4
  rw [Hj.out.1]
  obtain ⟨a4, c4, rfl, _, _⟩ := O4.bytes.form
  obtain ⟨q0, q1, q2, q3, q4, q5⟩ := (BY.out.same S4).cells
  have S4 := hid ((S3.out.trans T3.out).trans S4)
  rw [h100.out]
  rw [Hd1.out] at *
  clear b0 b1 b2 b3 b4 b5 O4
  go_wp2_with fail
  go_ret
  exact ⟨rfl, S4.out⟩
end Go.Proofs.Ytlhnpicmjjddeaa
