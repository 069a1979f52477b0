/- FRAME: the walk of FrameBack. -/
import Derived.Test.YtlhnpicmjjddeaaL07b
import Derived.Test.YtlhnpicmjjddeaaOpen2
namespace Go.Proofs.Ytlhnpicmjjddeaa
open Go.RowKit

theorem nparts_zeros (N : Nat) : nparts (List.replicate N (0 : UInt8)).length ≤ 255 ↔ N ≤ 20400 := by
  rw [List.length_replicate]; unfold nparts; omega
theorem cutE_le {N : Nat} (h : N ≤ 20400) : cutE 1 0 1 (List.replicate N 0) = 0 := by
  unfold cutE; rw [if_pos ((nparts_zeros N).2 h), if_pos (by decide)]
theorem cutE_gt {N : Nat} (h : ¬ N ≤ 20400) : cutE 1 0 1 (List.replicate N 0) = 6 := by
  unfold cutE; rw [if_neg (fun x => h ((nparts_zeros N).1 x))]
theorem small_cut {life era seq : Int} {b : List UInt8} (h : cutE life era seq b = 0) : Small (cutFr life era seq b) := by
  intro f hf
  unfold cutFr at hf
  obtain ⟨i, hi, rfl⟩ := List.mem_map.1 hf
  have hr := cutAt_right h (List.mem_range.1 hi)
  obtain ⟨q1, q2, q3, q4, q5⟩ := partOk_iff.1 (Fr.right_iff.1 hr).2
  exact ⟨by omega, q2, q5⟩
theorem cutFr_take {life era seq : Int} {b : List UInt8} (k : Nat) (hk : k < nparts b.length) : (cutFr life era seq b).take (k + 1) = (cutFr life era seq b).take k ++ [cutAt life era seq b k] := by
  have h : k < (cutFr life era seq b).length := by rw [cutFr_length]; exact hk
  rw [List.take_succ_eq_append_getElem h]
  congr 2
  have := cutFr_at (life := life) (era := era) (seq := seq) hk
  rw [List.getElem?_eq_getElem h] at this
  exact Option.some.inj this
theorem OwnF.one {w : World} {base : Nat} {v : Value} {L : List Fr} (h : OwnF w base v L) : v.oneCell' = true := by obtain ⟨ao, cap, rfl, _⟩ := h.frs.form; rfl

set_option maxHeartbeats 12800000 in
set_option maxRecDepth 100000 in
theorem frameBackWalk (w : World) (x v : Value) (e : TypeId) (f : Fr) (life era seq n : Int) (b : List UInt8) (hx : FrV w x f) (hb : Bytes w e v b) :
    Calls Try.prog 12 #[x, .int .i64 life, .int .i64 era, .int .i64 seq, v, .int .i64 n] w (RetSame (.bool true) w) := by
  have HLv := hid fLives
  have HSh := hid (fun w' (S : Same w w') => fShort w' x f (hx.same S))
  have HCt := hid (fun w' => show Calls Try.prog 22 #[v, .int .i64 400] w' _ from r01Cut0 w w' e v b 400 hb)
  obtain ⟨N, hN, hN1, hN2⟩ : ∃ a : Nat, (if n < 20390 then 20390 else if 20410 < n then 20410 else n) = (a : Int) ∧ 20390 ≤ a ∧ a ≤ 20410 := by
    refine ⟨(if n < 20390 then 20390 else if 20410 < n then 20410 else n).toNat, ?_, ?_, ?_⟩ <;> split <;> (try split) <;> omega
  have HIn : Hid (∀ w, Calls Try.prog 31 #[.int .i64 n, .int .i64 20390, .int .i64 20410] w fun e w' => e = .returned (.int .i64 N) ∧ w = w') := fun w => by rw [← hN]; exact r01In w n 20390 20410
  have hmk := fun W => runMakeBytes W N (by omega)
  have HCu := hid fCut
  have HEn := hid fEncode
  have HDe := hid fDecode
  have HJo0 := hid fJoin
  have HPl := hid fPlain
  have HSe := hid refSameEq
  have HSB := hid r01SameS
  obtain ⟨xv, xe, rfl, xb⟩ := hx
  obtain ⟨xa, xc, rfl, _, _⟩ := xb.form
  obtain ⟨av, cv, rfl, _, _⟩ := hb.form
  clear xb hb hN
  unfold Fr.agg at HSh ⊢
  go_enter Try.func12, Try.ntmps12
  go_wp2_with fail
  refine (HSh.out _ ((Same.refl w).alloc _)).mono ?_
  rintro en w1 ⟨x1, rfl, F1, S1⟩
  have S1 := hid (((Same.refl w).alloc (.cells #[.int .i64 f.life, .int .i64 f.era, .int .i64 f.seq, .int .i64 f.part, .int .i64 f.parts, .slice xa f.data.length xc] 59)).trans S1)
  generalize f.cut90 = g at *
  obtain ⟨gv, ge, rfl, gb⟩ := F1
  obtain ⟨ga, gc, rfl, _, _⟩ := gb.form
  have GB := hid gb
  clear gb
  unfold Fr.agg
  go_wp2_with fail
  refine (HCt.out _).mono ?_
  rintro en w1' ⟨v1, rfl, B1, rfl⟩
  have hle : (b.take 400).length ≤ 400 := by rw [List.length_take]; omega
  have B1 := hid B1
  generalize b.take 400 = b at *
  obtain ⟨a1, c1, rfl, _, _⟩ := B1.out.form
  go_wp2_with fail
  have S2 := hid (S1.out.alloc (.cells #[.int .i64 g.life, .int .i64 g.era, .int .i64 g.seq, .int .i64 g.part, .int .i64 g.parts, .slice ga g.data.length gc] 60))
  have BX := hid (Box6.new w1 (.int .i64 g.life) (.int .i64 g.era) (.int .i64 g.seq) (.int .i64 g.part) (.int .i64 g.parts) (.slice ga g.data.length gc))
  have GV : FrV (w1.alloc (.cells #[.int .i64 g.life, .int .i64 g.era, .int .i64 g.seq, .int .i64 g.part, .int .i64 g.parts, .slice ga g.data.length gc] 60)) (.agg #[.int .i64 g.life, .int .i64 g.era, .int .i64 g.seq, .int .i64 g.part, .int .i64 g.parts, .slice ga g.data.length gc]) g := ⟨_, ge, rfl, GB.out.same ((Same.refl _).alloc _)⟩
  have GV := hid GV
  refine (HEn.out _ _ g GV.out).mono ?_
  rintro en w3 ⟨v3, rfl, O3, S3⟩
  have BX3 := hid (BX.out.same S3)
  have GV3 := hid (GV.out.same S3)
  have S3 := hid (S2.out.trans S3)
  obtain ⟨a3, c3, rfl, _, _⟩ := O3.bytes.form
  have O3 := hid O3
  clear GV BX
  cases hr : g.right
  · have e1 : encE g = 2 := by unfold encE; rw [hr]; rfl
    rw [e1]
    clear hr e1
    go_wp2_with fail
    refine (HIn.out _).mono ?_
    rintro en w1' ⟨rfl, rfl⟩
    go_wp2_with fail
    have OZ := OwnB.zeros w3 N (by omega)
    refine (HCu.out _ _ _ 1 0 1 _ OZ.bytes (by rw [List.length_replicate]; omega)).mono ?_
    rintro en w7 ⟨v7, rfl, O7, S7⟩
    have S7 := hid ((S3.out.alloc (.cells (zeros N) 5)).trans S7)
    obtain ⟨a7, c7, rfl, _, _⟩ := O7.rows.form
    by_cases hle : N ≤ 20400
    · rw [cutE_le hle]
      have hN20 : decide ((N : Int) ≤ 20400) = true := by simp; omega
      have hN21 : decide ((20400 : Int) < (N : Int)) = false := by simp; omega
      clear OZ O7
      generalize (cutAll 1 0 1 (List.replicate N 0)).length = ln at *
      go_wp2_with fail
      refine (HCu.out _ _ _ life era seq b (B1.out.same S7.out) (by omega)).mono ?_
      rintro en w8 ⟨v8, rfl, O8, S8⟩
      have S8 := hid (S7.out.trans S8)
      obtain ⟨a8, c8, rfl, _, _⟩ := O8.rows.form
      by_cases hce : cutE life era seq b = 0
      · have hca : cutAll life era seq b = cutL life era seq b := by unfold cutAll; rw [if_pos hce]
        rw [hca] at O8 ⊢
        rw [hce]
        have O8 := hid O8
        have HLn := hid (cutL_length life era seq b)
        have HAt := hid (fun (i : Nat) (hi : i < nparts b.length) => And.intro (cutL_at (life := life) (era := era) (seq := seq) hi) (dec_cut hce hi))
        have HTk := hid (fun (k : Nat) (hk : k < nparts b.length) => cutFr_take (life := life) (era := era) (seq := seq) (b := b) k hk)
        have HJ := hid (And.intro (joinsB_iff.2 (joins_cut hce)) (And.intro (joined_cut life era seq b) (And.intro (small_cut hce) (cutFr_length life era seq b))))
        have hnp : nparts b.length ≤ 5 := by unfold nparts; omega
        have hnl : (cutL life era seq b).length = nparts b.length := cutL_length life era seq b
        have HR8 := hid (O8.out.rows)
        rw [hnl] at HR8
        have HRow : Hid (∀ wz, Same w8 wz → ∀ k (hk : k < nparts b.length), ∃ g o a c e', a8 = some ⟨g, o, none⟩ ∧ wz.cell? ⟨g, o + k, none⟩ = some (.slice a (enc (cutAt life era seq b k)).length c) ∧ Bytes wz e' (.slice a (enc (cutAt life era seq b k)).length c) (enc (cutAt life era seq b k))) := by
          intro wz Sz k hk
          obtain ⟨g, o, a, c, e', q1, q2, q3⟩ := (O8.out.rows.same Sz).row k (by rw [HLn.out]; exact hk)
          rw [(HAt.out k hk).1] at q2 q3
          exact ⟨g, o, a, c, e', q1, q2, q3⟩
        have HLe : Hid (∀ k (hk : k < nparts b.length), (enc (cutAt life era seq b k)).length ≤ 900000) := by
          intro k hk
          rw [enc_length _ (partOk_iff.1 (Fr.right_iff.1 (cutAt_right hce hk)).2).2.2.2.2]
          omega
        rw [hnl]
        clear hca hce hnl O8
        have HDc := hid (fun (i : Nat) (hi : i < nparts b.length) => (HAt.out i hi).2)
        have hjo : joinOf (cutFr life era seq b) = b := by unfold joinOf; rw [HJ.out.1, if_pos rfl, HJ.out.2.1]
        have HJo := hid hjo
        clear HAt HR8 HLn hjo
        generalize nparts b.length = q at *
        go_wp2_with fail
        go_loopw [21, 22] (fun all i wr => ∃ k : Nat, k ≤ q ∧ i = .int .i64 k ∧ OwnF wr w8.heap.size all ((cutFr life era seq b).take k) ∧ Same w8 wr) (fun _ i _ => q - (intOf i).toNat)
        case atStart => exact ⟨0, Nat.zero_le _, rfl, OwnF.nil _ _, Same.refl _⟩
        case round =>
          obtain ⟨k, hk, rfl, hO, S⟩ := hrel
          have HO := hid hO
          have HS := hid S
          clear hO S
          by_cases hlt : k < q
          · obtain ⟨g9, o9, a9, c9, e9, rfl, hcell, hby⟩ := HRow.out _ HS.out k hlt
            have HD := hid (HDe.out _ _ _ _ hby (HLe.out k hlt))
            obtain ⟨u2, u3⟩ := HDc.out k hlt
            rw [u2, u3] at HD
            have HT := hid (HTk.out k hlt)
            have hlf : (cutAt life era seq b k).life = life ∧ (cutAt life era seq b k).era = era ∧ (cutAt life era seq b k).seq = seq := ⟨rfl, rfl, rfl⟩
            have hTl : Hid (((cutFr life era seq b).take k).length ≤ 1000000) := by show _ ≤ _; rw [List.length_take]; omega
            clear hby u2 u3
            generalize cutAt life era seq b k = fk at *
            generalize (enc fk).length = el at *
            go_wp2_with fail
            refine HD.out.mono ?_
            rintro en w9 ⟨x9, rfl, F9, S9⟩
            obtain ⟨v9, rfl, O9⟩ := F9
            obtain ⟨a9', c9', rfl, _, _⟩ := O9.bytes.form
            have HO9 := hid ((HO.out.same S9).same ((Same.refl w9).alloc (.cells #[.int .i64 fk.life, .int .i64 fk.era, .int .i64 fk.seq, .int .i64 fk.part, .int .i64 fk.parts, .slice a9' fk.data.length c9'] 60)))
            have HB9 := hid ((O9.bytes.same ((Same.refl w9).alloc (.cells #[.int .i64 fk.life, .int .i64 fk.era, .int .i64 fk.seq, .int .i64 fk.part, .int .i64 fk.parts, .slice a9' fk.data.length c9'] 60))).same ((Same.refl _).alloc (.cells #[.int .i64 fk.life, .int .i64 fk.era, .int .i64 fk.seq, .int .i64 fk.part, .int .i64 fk.parts, .slice a9' fk.data.length c9'] 60)))
            have S9 := hid (HS.out.trans S9)
            have S9' := hid ((S9.out.alloc (.cells #[.int .i64 fk.life, .int .i64 fk.era, .int .i64 fk.seq, .int .i64 fk.part, .int .i64 fk.parts, .slice a9' fk.data.length c9'] 60)).alloc (.cells #[.int .i64 fk.life, .int .i64 fk.era, .int .i64 fk.seq, .int .i64 fk.part, .int .i64 fk.parts, .slice a9' fk.data.length c9'] 60))
            have HBs := hid S9'.out.size
            have HOne := hid (one_frame (w9.alloc (.cells #[.int .i64 fk.life, .int .i64 fk.era, .int .i64 fk.seq, .int .i64 fk.part, .int .i64 fk.parts, .slice a9' fk.data.length c9'] 60)) fk (.slice a9' fk.data.length c9'))
            rw [World.size_alloc] at HOne
            have O9' := hid O9
            clear O9 hcell
            unfold Fr.agg
            obtain ⟨z1, z2, z3⟩ := hlf
            have Z := hid (And.intro z1 (And.intro z2 z3))
            have m1 : (fk.life != life) = false := by rw [z1]; simp
            have m2 : (fk.era != era) = false := by rw [z2]; simp
            have m3 : (fk.seq != seq) = false := by rw [z3]; simp
            clear z1 z2 z3
            go_wp2_with (at_builtin; refine wpList_append_frame rfl (.tmp 124) (.tmp 126) 77 tyFrames rfl (HO9.out.same ((Same.refl _).alloc _)) HOne.out HB9.out rfl rfl hTl.out HBs.out ?_; intro x10 w10 ho10 K10)
            go_roundw
            case rel => exact ⟨k + 1, by omega, by go_num, by rw [HT.out]; exact ho10, S9'.out.keepOwn K10 (fun j hj => (HO9.out.lt j hj).1)⟩
            case measure => simp [intOf]; omega
          · obtain rfl : k = q := by omega
            have hall : (cutFr life era seq b).take k = cutFr life era seq b := List.take_of_length_le (by rw [HJ.out.2.2.2]; omega)
            rw [hall] at HO
            have HJn := hid (HJo.out)
            obtain ⟨aj, cj, rfl, _, _⟩ := HO.out.frs.form
            have HJc := hid (HJo0.out _ _ _ _ HO.out.frs HJ.out.2.2.1 (by rw [HJ.out.2.2.2]; omega))
            rw [HJ.out.1, HJo.out] at HJc
            have S10 := hid (S8.out.trans HS.out)
            clear hall
            go_wp2_with fail
            refine HJc.out.mono ?_
            rintro en w11 ⟨v11, rfl, O11, S11⟩
            obtain ⟨a11, c11, rfl, _, _⟩ := O11.bytes.form
            have S11 := hid (S10.out.trans S11)
            have HEq := hid (HSB.out w11 5 e _ _ b b O11.bytes (B1.out.same S11.out))
            rw [decide_eq_true rfl] at HEq
            clear O11
            go_wp2_with fail
            refine HEq.out.mono ?_
            rintro en w12 ⟨rfl, S12⟩
            go_wp2_with fail
            refine (HLv.out _).mono ?_
            rintro en w13 ⟨rfl, S13⟩
            go_wp2_with fail
            go_ret
            exact ⟨rfl, (S11.out.trans S12).trans S13⟩
      · have hnz : (cutE life era seq b == 0) = false := by rw [beq_eq_false_iff_ne]; exact hce
        have hnz2 : (cutE life era seq b != 0) = true := by rw [bne_iff_ne]; exact hce
        generalize cutE life era seq b = ce at *
        clear hce
        go_wp2_with fail
        refine (HLv.out _).mono ?_
        rintro en w9 ⟨rfl, S9⟩
        go_wp2_with fail
        go_ret
        exact ⟨rfl, S8.out.trans S9⟩
    · have hz7 : cutAll 1 0 1 (List.replicate N 0) = [] := by unfold cutAll; rw [cutE_gt hle]; rfl
      rw [cutE_gt hle]
      rw [hz7] at O7 ⊢
      have hN20 : decide ((N : Int) ≤ 20400) = false := by simp; omega
      have hN21 : decide ((20400 : Int) < (N : Int)) = true := by simp; omega
      clear OZ O7
      go_wp2_with fail
      refine (HCu.out _ _ _ life era seq b (B1.out.same S7.out) (by omega)).mono ?_
      rintro en w8 ⟨v8, rfl, O8, S8⟩
      have S8 := hid (S7.out.trans S8)
      obtain ⟨a8, c8, rfl, _, _⟩ := O8.rows.form
      by_cases hce : cutE life era seq b = 0
      · have hca : cutAll life era seq b = cutL life era seq b := by unfold cutAll; rw [if_pos hce]
        rw [hca] at O8 ⊢
        rw [hce]
        have O8 := hid O8
        have HLn := hid (cutL_length life era seq b)
        have HAt := hid (fun (i : Nat) (hi : i < nparts b.length) => And.intro (cutL_at (life := life) (era := era) (seq := seq) hi) (dec_cut hce hi))
        have HTk := hid (fun (k : Nat) (hk : k < nparts b.length) => cutFr_take (life := life) (era := era) (seq := seq) (b := b) k hk)
        have HJ := hid (And.intro (joinsB_iff.2 (joins_cut hce)) (And.intro (joined_cut life era seq b) (And.intro (small_cut hce) (cutFr_length life era seq b))))
        have hnp : nparts b.length ≤ 5 := by unfold nparts; omega
        have hnl : (cutL life era seq b).length = nparts b.length := cutL_length life era seq b
        have HR8 := hid (O8.out.rows)
        rw [hnl] at HR8
        have HRow : Hid (∀ wz, Same w8 wz → ∀ k (hk : k < nparts b.length), ∃ g o a c e', a8 = some ⟨g, o, none⟩ ∧ wz.cell? ⟨g, o + k, none⟩ = some (.slice a (enc (cutAt life era seq b k)).length c) ∧ Bytes wz e' (.slice a (enc (cutAt life era seq b k)).length c) (enc (cutAt life era seq b k))) := by
          intro wz Sz k hk
          obtain ⟨g, o, a, c, e', q1, q2, q3⟩ := (O8.out.rows.same Sz).row k (by rw [HLn.out]; exact hk)
          rw [(HAt.out k hk).1] at q2 q3
          exact ⟨g, o, a, c, e', q1, q2, q3⟩
        have HLe : Hid (∀ k (hk : k < nparts b.length), (enc (cutAt life era seq b k)).length ≤ 900000) := by
          intro k hk
          rw [enc_length _ (partOk_iff.1 (Fr.right_iff.1 (cutAt_right hce hk)).2).2.2.2.2]
          omega
        rw [hnl]
        clear hca hce hnl O8
        have HDc := hid (fun (i : Nat) (hi : i < nparts b.length) => (HAt.out i hi).2)
        have hjo : joinOf (cutFr life era seq b) = b := by unfold joinOf; rw [HJ.out.1, if_pos rfl, HJ.out.2.1]
        have HJo := hid hjo
        clear HAt HR8 HLn hjo
        generalize nparts b.length = q at *
        go_wp2_with fail
        go_loopw [21, 22] (fun all i wr => ∃ k : Nat, k ≤ q ∧ i = .int .i64 k ∧ OwnF wr w8.heap.size all ((cutFr life era seq b).take k) ∧ Same w8 wr) (fun _ i _ => q - (intOf i).toNat)
        case atStart => exact ⟨0, Nat.zero_le _, rfl, OwnF.nil _ _, Same.refl _⟩
        case round =>
          obtain ⟨k, hk, rfl, hO, S⟩ := hrel
          have HO := hid hO
          have HS := hid S
          clear hO S
          by_cases hlt : k < q
          · obtain ⟨g9, o9, a9, c9, e9, rfl, hcell, hby⟩ := HRow.out _ HS.out k hlt
            have HD := hid (HDe.out _ _ _ _ hby (HLe.out k hlt))
            obtain ⟨u2, u3⟩ := HDc.out k hlt
            rw [u2, u3] at HD
            have HT := hid (HTk.out k hlt)
            have hlf : (cutAt life era seq b k).life = life ∧ (cutAt life era seq b k).era = era ∧ (cutAt life era seq b k).seq = seq := ⟨rfl, rfl, rfl⟩
            have hTl : Hid (((cutFr life era seq b).take k).length ≤ 1000000) := by show _ ≤ _; rw [List.length_take]; omega
            clear hby u2 u3
            generalize cutAt life era seq b k = fk at *
            generalize (enc fk).length = el at *
            go_wp2_with fail
            refine HD.out.mono ?_
            rintro en w9 ⟨x9, rfl, F9, S9⟩
            obtain ⟨v9, rfl, O9⟩ := F9
            obtain ⟨a9', c9', rfl, _, _⟩ := O9.bytes.form
            have HO9 := hid ((HO.out.same S9).same ((Same.refl w9).alloc (.cells #[.int .i64 fk.life, .int .i64 fk.era, .int .i64 fk.seq, .int .i64 fk.part, .int .i64 fk.parts, .slice a9' fk.data.length c9'] 60)))
            have HB9 := hid ((O9.bytes.same ((Same.refl w9).alloc (.cells #[.int .i64 fk.life, .int .i64 fk.era, .int .i64 fk.seq, .int .i64 fk.part, .int .i64 fk.parts, .slice a9' fk.data.length c9'] 60))).same ((Same.refl _).alloc (.cells #[.int .i64 fk.life, .int .i64 fk.era, .int .i64 fk.seq, .int .i64 fk.part, .int .i64 fk.parts, .slice a9' fk.data.length c9'] 60)))
            have S9 := hid (HS.out.trans S9)
            have S9' := hid ((S9.out.alloc (.cells #[.int .i64 fk.life, .int .i64 fk.era, .int .i64 fk.seq, .int .i64 fk.part, .int .i64 fk.parts, .slice a9' fk.data.length c9'] 60)).alloc (.cells #[.int .i64 fk.life, .int .i64 fk.era, .int .i64 fk.seq, .int .i64 fk.part, .int .i64 fk.parts, .slice a9' fk.data.length c9'] 60))
            have HBs := hid S9'.out.size
            have HOne := hid (one_frame (w9.alloc (.cells #[.int .i64 fk.life, .int .i64 fk.era, .int .i64 fk.seq, .int .i64 fk.part, .int .i64 fk.parts, .slice a9' fk.data.length c9'] 60)) fk (.slice a9' fk.data.length c9'))
            rw [World.size_alloc] at HOne
            have O9' := hid O9
            clear O9 hcell
            unfold Fr.agg
            obtain ⟨z1, z2, z3⟩ := hlf
            have Z := hid (And.intro z1 (And.intro z2 z3))
            have m1 : (fk.life != life) = false := by rw [z1]; simp
            have m2 : (fk.era != era) = false := by rw [z2]; simp
            have m3 : (fk.seq != seq) = false := by rw [z3]; simp
            clear z1 z2 z3
            go_wp2_with (at_builtin; refine wpList_append_frame rfl (.tmp 124) (.tmp 126) 77 tyFrames rfl (HO9.out.same ((Same.refl _).alloc _)) HOne.out HB9.out rfl rfl hTl.out HBs.out ?_; intro x10 w10 ho10 K10)
            go_roundw
            case rel => exact ⟨k + 1, by omega, by go_num, by rw [HT.out]; exact ho10, S9'.out.keepOwn K10 (fun j hj => (HO9.out.lt j hj).1)⟩
            case measure => simp [intOf]; omega
          · obtain rfl : k = q := by omega
            have hall : (cutFr life era seq b).take k = cutFr life era seq b := List.take_of_length_le (by rw [HJ.out.2.2.2]; omega)
            rw [hall] at HO
            have HJn := hid (HJo.out)
            obtain ⟨aj, cj, rfl, _, _⟩ := HO.out.frs.form
            have HJc := hid (HJo0.out _ _ _ _ HO.out.frs HJ.out.2.2.1 (by rw [HJ.out.2.2.2]; omega))
            rw [HJ.out.1, HJo.out] at HJc
            have S10 := hid (S8.out.trans HS.out)
            clear hall
            go_wp2_with fail
            refine HJc.out.mono ?_
            rintro en w11 ⟨v11, rfl, O11, S11⟩
            obtain ⟨a11, c11, rfl, _, _⟩ := O11.bytes.form
            have S11 := hid (S10.out.trans S11)
            have HEq := hid (HSB.out w11 5 e _ _ b b O11.bytes (B1.out.same S11.out))
            rw [decide_eq_true rfl] at HEq
            clear O11
            go_wp2_with fail
            refine HEq.out.mono ?_
            rintro en w12 ⟨rfl, S12⟩
            go_wp2_with fail
            refine (HLv.out _).mono ?_
            rintro en w13 ⟨rfl, S13⟩
            go_wp2_with fail
            go_ret
            exact ⟨rfl, (S11.out.trans S12).trans S13⟩
      · have hnz : (cutE life era seq b == 0) = false := by rw [beq_eq_false_iff_ne]; exact hce
        have hnz2 : (cutE life era seq b != 0) = true := by rw [bne_iff_ne]; exact hce
        generalize cutE life era seq b = ce at *
        clear hce
        go_wp2_with fail
        refine (HLv.out _).mono ?_
        rintro en w9 ⟨rfl, S9⟩
        go_wp2_with fail
        go_ret
        exact ⟨rfl, S8.out.trans S9⟩
  · have e1 : encE g = 0 := by unfold encE; rw [hr]; rfl
    have e2 : encOf g = enc g := by unfold encOf; rw [hr]; rfl
    rw [e2] at O3 ⊢
    rw [e1]
    have HDg := hid (HDe.out _ _ _ _ O3.out.bytes (by rw [enc_length _ (partOk_iff.1 (Fr.right_iff.1 hr).2).2.2.2.2]; omega))
    rw [(decF_some (dec_enc hr)).1, (decF_some (dec_enc hr)).2] at HDg
    clear hr e1 e2
    go_wp2_with fail
    refine HDg.out.mono ?_
    rintro en w4 ⟨x4, rfl, F4, S4⟩
    obtain ⟨v4, rfl, O4⟩ := F4
    obtain ⟨a4, c4, rfl, _, _⟩ := O4.bytes.form
    have O4 := hid O4
    unfold Fr.agg
    have BX4 := hid ((BX3.out.same S4).same ((Same.refl _).alloc (.cells #[.int .i64 g.life, .int .i64 g.era, .int .i64 g.seq, .int .i64 g.part, .int .i64 g.parts, .slice a4 g.data.length c4] 60)))
    have BY4 := hid (Box6.new w4 (.int .i64 g.life) (.int .i64 g.era) (.int .i64 g.seq) (.int .i64 g.part) (.int .i64 g.parts) (.slice a4 g.data.length c4))
    have V1 := hid (show FrV (w4.alloc (.cells #[.int .i64 g.life, .int .i64 g.era, .int .i64 g.seq, .int .i64 g.part, .int .i64 g.parts, .slice a4 g.data.length c4] 60)) (.agg #[.int .i64 g.life, .int .i64 g.era, .int .i64 g.seq, .int .i64 g.part, .int .i64 g.parts, .slice a4 g.data.length c4]) g from ⟨_, 5, rfl, O4.out.bytes.same ((Same.refl _).alloc _)⟩)
    have V2 := hid (GV3.out.same (S4.trans ((Same.refl _).alloc (.cells #[.int .i64 g.life, .int .i64 g.era, .int .i64 g.seq, .int .i64 g.part, .int .i64 g.parts, .slice a4 g.data.length c4] 60))))
    have S4 := hid ((S3.out.trans S4).alloc (.cells #[.int .i64 g.life, .int .i64 g.era, .int .i64 g.seq, .int .i64 g.part, .int .i64 g.parts, .slice a4 g.data.length c4] 60))
    go_wp2_with fail
    generalize w4.alloc (.cells #[.int .i64 g.life, .int .i64 g.era, .int .i64 g.seq, .int .i64 g.part, .int .i64 g.parts, .slice a4 g.data.length c4] 60) = w5 at *
    have A1 := hid (fun x : After w5 => Calls.after (HPl.out x.to _ _ (V1.out.same x.same)))
    have A2 := hid (fun x : After w5 => Calls.after (HPl.out x.to _ _ (V2.out.same x.same)))
    have A3 := hid (fun x : After w5 => Calls.after (HSe.out x.to _ _ _ (V1.out.same x.same) (V2.out.same x.same)))
    obtain ⟨c0, c1, c2, c3, c4, c5⟩ := BX4.out.cells
    obtain ⟨d0, d1, d2, d3, d4, d5⟩ := BY4.out.cells
    have xc0 := fun x => After.cell c0 x
    have xc1 := fun x => After.cell c1 x
    have xc2 := fun x => After.cell c2 x
    have xc3 := fun x => After.cell c3 x
    have xc4 := fun x => After.cell c4 x
    have xc5 := fun x => After.cell c5 x
    have xd0 := fun x => After.cell d0 x
    have xd1 := fun x => After.cell d1 x
    have xd2 := fun x => After.cell d2 x
    have xd3 := fun x => After.cell d3 x
    have xd4 := fun x => After.cell d4 x
    have xd5 := fun x => After.cell d5 x
    clear c0 c1 c2 c3 c4 c5 d0 d1 d2 d3 d4 d5
    refine wp_region_after (by kernel_rfl) (by kernel_rfl) ?_
    repeat (go_big_quiet_step (first
      | (go_at_call 47; with_reducible exact A1.out _)
      | (go_at_call 47; with_reducible exact A2.out _)
      | (go_at_call 50; with_reducible exact A3.out _)))
    refine wpQuiet_nil ?_
    intro _ hw'
    obtain ⟨x5, hw''⟩ := hw'
    subst hw''
    have S5 := hid (S4.out.trans x5.same)
    generalize x5.to = w6 at *
    clear xc0 xc1 xc2 xc3 xc4 xc5 xd0 xd1 xd2 xd3 xd4 xd5 A1 A2 A3 V1 V2 BX4 BY4
    go_wp2_with fail
    refine (HIn.out _).mono ?_
    rintro en w1' ⟨rfl, rfl⟩
    go_wp2_with fail
    have OZ := OwnB.zeros w6 N (by omega)
    refine (HCu.out _ _ _ 1 0 1 _ OZ.bytes (by rw [List.length_replicate]; omega)).mono ?_
    rintro en w7 ⟨v7, rfl, O7, S7⟩
    have S7 := hid ((S5.out.alloc (.cells (zeros N) 5)).trans S7)
    obtain ⟨a7, c7, rfl, _, _⟩ := O7.rows.form
    by_cases hle : N ≤ 20400
    · rw [cutE_le hle]
      have hN20 : decide ((N : Int) ≤ 20400) = true := by simp; omega
      have hN21 : decide ((20400 : Int) < (N : Int)) = false := by simp; omega
      clear OZ O7
      generalize (cutAll 1 0 1 (List.replicate N 0)).length = ln at *
      go_wp2_with fail
      refine (HCu.out _ _ _ life era seq b (B1.out.same S7.out) (by omega)).mono ?_
      rintro en w8 ⟨v8, rfl, O8, S8⟩
      have S8 := hid (S7.out.trans S8)
      obtain ⟨a8, c8, rfl, _, _⟩ := O8.rows.form
      by_cases hce : cutE life era seq b = 0
      · have hca : cutAll life era seq b = cutL life era seq b := by unfold cutAll; rw [if_pos hce]
        rw [hca] at O8 ⊢
        rw [hce]
        have O8 := hid O8
        have HLn := hid (cutL_length life era seq b)
        have HAt := hid (fun (i : Nat) (hi : i < nparts b.length) => And.intro (cutL_at (life := life) (era := era) (seq := seq) hi) (dec_cut hce hi))
        have HTk := hid (fun (k : Nat) (hk : k < nparts b.length) => cutFr_take (life := life) (era := era) (seq := seq) (b := b) k hk)
        have HJ := hid (And.intro (joinsB_iff.2 (joins_cut hce)) (And.intro (joined_cut life era seq b) (And.intro (small_cut hce) (cutFr_length life era seq b))))
        have hnp : nparts b.length ≤ 5 := by unfold nparts; omega
        have hnl : (cutL life era seq b).length = nparts b.length := cutL_length life era seq b
        have HR8 := hid (O8.out.rows)
        rw [hnl] at HR8
        have HRow : Hid (∀ wz, Same w8 wz → ∀ k (hk : k < nparts b.length), ∃ g o a c e', a8 = some ⟨g, o, none⟩ ∧ wz.cell? ⟨g, o + k, none⟩ = some (.slice a (enc (cutAt life era seq b k)).length c) ∧ Bytes wz e' (.slice a (enc (cutAt life era seq b k)).length c) (enc (cutAt life era seq b k))) := by
          intro wz Sz k hk
          obtain ⟨g, o, a, c, e', q1, q2, q3⟩ := (O8.out.rows.same Sz).row k (by rw [HLn.out]; exact hk)
          rw [(HAt.out k hk).1] at q2 q3
          exact ⟨g, o, a, c, e', q1, q2, q3⟩
        have HLe : Hid (∀ k (hk : k < nparts b.length), (enc (cutAt life era seq b k)).length ≤ 900000) := by
          intro k hk
          rw [enc_length _ (partOk_iff.1 (Fr.right_iff.1 (cutAt_right hce hk)).2).2.2.2.2]
          omega
        rw [hnl]
        clear hca hce hnl O8
        have HDc := hid (fun (i : Nat) (hi : i < nparts b.length) => (HAt.out i hi).2)
        have hjo : joinOf (cutFr life era seq b) = b := by unfold joinOf; rw [HJ.out.1, if_pos rfl, HJ.out.2.1]
        have HJo := hid hjo
        clear HAt HR8 HLn hjo
        generalize nparts b.length = q at *
        go_wp2_with fail
        go_loopw [21, 22] (fun all i wr => ∃ k : Nat, k ≤ q ∧ i = .int .i64 k ∧ OwnF wr w8.heap.size all ((cutFr life era seq b).take k) ∧ Same w8 wr) (fun _ i _ => q - (intOf i).toNat)
        case atStart => exact ⟨0, Nat.zero_le _, rfl, OwnF.nil _ _, Same.refl _⟩
        case round =>
          obtain ⟨k, hk, rfl, hO, S⟩ := hrel
          have HO := hid hO
          have HS := hid S
          clear hO S
          by_cases hlt : k < q
          · obtain ⟨g9, o9, a9, c9, e9, rfl, hcell, hby⟩ := HRow.out _ HS.out k hlt
            have HD := hid (HDe.out _ _ _ _ hby (HLe.out k hlt))
            obtain ⟨u2, u3⟩ := HDc.out k hlt
            rw [u2, u3] at HD
            have HT := hid (HTk.out k hlt)
            have hlf : (cutAt life era seq b k).life = life ∧ (cutAt life era seq b k).era = era ∧ (cutAt life era seq b k).seq = seq := ⟨rfl, rfl, rfl⟩
            have hTl : Hid (((cutFr life era seq b).take k).length ≤ 1000000) := by show _ ≤ _; rw [List.length_take]; omega
            clear hby u2 u3
            generalize cutAt life era seq b k = fk at *
            generalize (enc fk).length = el at *
            go_wp2_with fail
            refine HD.out.mono ?_
            rintro en w9 ⟨x9, rfl, F9, S9⟩
            obtain ⟨v9, rfl, O9⟩ := F9
            obtain ⟨a9', c9', rfl, _, _⟩ := O9.bytes.form
            have HO9 := hid ((HO.out.same S9).same ((Same.refl w9).alloc (.cells #[.int .i64 fk.life, .int .i64 fk.era, .int .i64 fk.seq, .int .i64 fk.part, .int .i64 fk.parts, .slice a9' fk.data.length c9'] 60)))
            have HB9 := hid ((O9.bytes.same ((Same.refl w9).alloc (.cells #[.int .i64 fk.life, .int .i64 fk.era, .int .i64 fk.seq, .int .i64 fk.part, .int .i64 fk.parts, .slice a9' fk.data.length c9'] 60))).same ((Same.refl _).alloc (.cells #[.int .i64 fk.life, .int .i64 fk.era, .int .i64 fk.seq, .int .i64 fk.part, .int .i64 fk.parts, .slice a9' fk.data.length c9'] 60)))
            have S9 := hid (HS.out.trans S9)
            have S9' := hid ((S9.out.alloc (.cells #[.int .i64 fk.life, .int .i64 fk.era, .int .i64 fk.seq, .int .i64 fk.part, .int .i64 fk.parts, .slice a9' fk.data.length c9'] 60)).alloc (.cells #[.int .i64 fk.life, .int .i64 fk.era, .int .i64 fk.seq, .int .i64 fk.part, .int .i64 fk.parts, .slice a9' fk.data.length c9'] 60))
            have HBs := hid S9'.out.size
            have HOne := hid (one_frame (w9.alloc (.cells #[.int .i64 fk.life, .int .i64 fk.era, .int .i64 fk.seq, .int .i64 fk.part, .int .i64 fk.parts, .slice a9' fk.data.length c9'] 60)) fk (.slice a9' fk.data.length c9'))
            rw [World.size_alloc] at HOne
            have O9' := hid O9
            clear O9 hcell
            unfold Fr.agg
            obtain ⟨z1, z2, z3⟩ := hlf
            have Z := hid (And.intro z1 (And.intro z2 z3))
            have m1 : (fk.life != life) = false := by rw [z1]; simp
            have m2 : (fk.era != era) = false := by rw [z2]; simp
            have m3 : (fk.seq != seq) = false := by rw [z3]; simp
            clear z1 z2 z3
            go_wp2_with (at_builtin; refine wpList_append_frame rfl (.tmp 124) (.tmp 126) 77 tyFrames rfl (HO9.out.same ((Same.refl _).alloc _)) HOne.out HB9.out rfl rfl hTl.out HBs.out ?_; intro x10 w10 ho10 K10)
            go_roundw
            case rel => exact ⟨k + 1, by omega, by go_num, by rw [HT.out]; exact ho10, S9'.out.keepOwn K10 (fun j hj => (HO9.out.lt j hj).1)⟩
            case measure => simp [intOf]; omega
          · obtain rfl : k = q := by omega
            have hall : (cutFr life era seq b).take k = cutFr life era seq b := List.take_of_length_le (by rw [HJ.out.2.2.2]; omega)
            rw [hall] at HO
            have HJn := hid (HJo.out)
            obtain ⟨aj, cj, rfl, _, _⟩ := HO.out.frs.form
            have HJc := hid (HJo0.out _ _ _ _ HO.out.frs HJ.out.2.2.1 (by rw [HJ.out.2.2.2]; omega))
            rw [HJ.out.1, HJo.out] at HJc
            have S10 := hid (S8.out.trans HS.out)
            clear hall
            go_wp2_with fail
            refine HJc.out.mono ?_
            rintro en w11 ⟨v11, rfl, O11, S11⟩
            obtain ⟨a11, c11, rfl, _, _⟩ := O11.bytes.form
            have S11 := hid (S10.out.trans S11)
            have HEq := hid (HSB.out w11 5 e _ _ b b O11.bytes (B1.out.same S11.out))
            rw [decide_eq_true rfl] at HEq
            clear O11
            go_wp2_with fail
            refine HEq.out.mono ?_
            rintro en w12 ⟨rfl, S12⟩
            go_wp2_with fail
            refine (HLv.out _).mono ?_
            rintro en w13 ⟨rfl, S13⟩
            go_wp2_with fail
            go_ret
            exact ⟨rfl, (S11.out.trans S12).trans S13⟩
      · have hnz : (cutE life era seq b == 0) = false := by rw [beq_eq_false_iff_ne]; exact hce
        have hnz2 : (cutE life era seq b != 0) = true := by rw [bne_iff_ne]; exact hce
        generalize cutE life era seq b = ce at *
        clear hce
        go_wp2_with fail
        refine (HLv.out _).mono ?_
        rintro en w9 ⟨rfl, S9⟩
        go_wp2_with fail
        go_ret
        exact ⟨rfl, S8.out.trans S9⟩
    · have hz7 : cutAll 1 0 1 (List.replicate N 0) = [] := by unfold cutAll; rw [cutE_gt hle]; rfl
      rw [cutE_gt hle]
      rw [hz7] at O7 ⊢
      have hN20 : decide ((N : Int) ≤ 20400) = false := by simp; omega
      have hN21 : decide ((20400 : Int) < (N : Int)) = true := by simp; omega
      clear OZ O7
      go_wp2_with fail
      refine (HCu.out _ _ _ life era seq b (B1.out.same S7.out) (by omega)).mono ?_
      rintro en w8 ⟨v8, rfl, O8, S8⟩
      have S8 := hid (S7.out.trans S8)
      obtain ⟨a8, c8, rfl, _, _⟩ := O8.rows.form
      by_cases hce : cutE life era seq b = 0
      · have hca : cutAll life era seq b = cutL life era seq b := by unfold cutAll; rw [if_pos hce]
        rw [hca] at O8 ⊢
        rw [hce]
        have O8 := hid O8
        have HLn := hid (cutL_length life era seq b)
        have HAt := hid (fun (i : Nat) (hi : i < nparts b.length) => And.intro (cutL_at (life := life) (era := era) (seq := seq) hi) (dec_cut hce hi))
        have HTk := hid (fun (k : Nat) (hk : k < nparts b.length) => cutFr_take (life := life) (era := era) (seq := seq) (b := b) k hk)
        have HJ := hid (And.intro (joinsB_iff.2 (joins_cut hce)) (And.intro (joined_cut life era seq b) (And.intro (small_cut hce) (cutFr_length life era seq b))))
        have hnp : nparts b.length ≤ 5 := by unfold nparts; omega
        have hnl : (cutL life era seq b).length = nparts b.length := cutL_length life era seq b
        have HR8 := hid (O8.out.rows)
        rw [hnl] at HR8
        have HRow : Hid (∀ wz, Same w8 wz → ∀ k (hk : k < nparts b.length), ∃ g o a c e', a8 = some ⟨g, o, none⟩ ∧ wz.cell? ⟨g, o + k, none⟩ = some (.slice a (enc (cutAt life era seq b k)).length c) ∧ Bytes wz e' (.slice a (enc (cutAt life era seq b k)).length c) (enc (cutAt life era seq b k))) := by
          intro wz Sz k hk
          obtain ⟨g, o, a, c, e', q1, q2, q3⟩ := (O8.out.rows.same Sz).row k (by rw [HLn.out]; exact hk)
          rw [(HAt.out k hk).1] at q2 q3
          exact ⟨g, o, a, c, e', q1, q2, q3⟩
        have HLe : Hid (∀ k (hk : k < nparts b.length), (enc (cutAt life era seq b k)).length ≤ 900000) := by
          intro k hk
          rw [enc_length _ (partOk_iff.1 (Fr.right_iff.1 (cutAt_right hce hk)).2).2.2.2.2]
          omega
        rw [hnl]
        clear hca hce hnl O8
        have HDc := hid (fun (i : Nat) (hi : i < nparts b.length) => (HAt.out i hi).2)
        have hjo : joinOf (cutFr life era seq b) = b := by unfold joinOf; rw [HJ.out.1, if_pos rfl, HJ.out.2.1]
        have HJo := hid hjo
        clear HAt HR8 HLn hjo
        generalize nparts b.length = q at *
        go_wp2_with fail
        go_loopw [21, 22] (fun all i wr => ∃ k : Nat, k ≤ q ∧ i = .int .i64 k ∧ OwnF wr w8.heap.size all ((cutFr life era seq b).take k) ∧ Same w8 wr) (fun _ i _ => q - (intOf i).toNat)
        case atStart => exact ⟨0, Nat.zero_le _, rfl, OwnF.nil _ _, Same.refl _⟩
        case round =>
          obtain ⟨k, hk, rfl, hO, S⟩ := hrel
          have HO := hid hO
          have HS := hid S
          clear hO S
          by_cases hlt : k < q
          · obtain ⟨g9, o9, a9, c9, e9, rfl, hcell, hby⟩ := HRow.out _ HS.out k hlt
            have HD := hid (HDe.out _ _ _ _ hby (HLe.out k hlt))
            obtain ⟨u2, u3⟩ := HDc.out k hlt
            rw [u2, u3] at HD
            have HT := hid (HTk.out k hlt)
            have hlf : (cutAt life era seq b k).life = life ∧ (cutAt life era seq b k).era = era ∧ (cutAt life era seq b k).seq = seq := ⟨rfl, rfl, rfl⟩
            have hTl : Hid (((cutFr life era seq b).take k).length ≤ 1000000) := by show _ ≤ _; rw [List.length_take]; omega
            clear hby u2 u3
            generalize cutAt life era seq b k = fk at *
            generalize (enc fk).length = el at *
            go_wp2_with fail
            refine HD.out.mono ?_
            rintro en w9 ⟨x9, rfl, F9, S9⟩
            obtain ⟨v9, rfl, O9⟩ := F9
            obtain ⟨a9', c9', rfl, _, _⟩ := O9.bytes.form
            have HO9 := hid ((HO.out.same S9).same ((Same.refl w9).alloc (.cells #[.int .i64 fk.life, .int .i64 fk.era, .int .i64 fk.seq, .int .i64 fk.part, .int .i64 fk.parts, .slice a9' fk.data.length c9'] 60)))
            have HB9 := hid ((O9.bytes.same ((Same.refl w9).alloc (.cells #[.int .i64 fk.life, .int .i64 fk.era, .int .i64 fk.seq, .int .i64 fk.part, .int .i64 fk.parts, .slice a9' fk.data.length c9'] 60))).same ((Same.refl _).alloc (.cells #[.int .i64 fk.life, .int .i64 fk.era, .int .i64 fk.seq, .int .i64 fk.part, .int .i64 fk.parts, .slice a9' fk.data.length c9'] 60)))
            have S9 := hid (HS.out.trans S9)
            have S9' := hid ((S9.out.alloc (.cells #[.int .i64 fk.life, .int .i64 fk.era, .int .i64 fk.seq, .int .i64 fk.part, .int .i64 fk.parts, .slice a9' fk.data.length c9'] 60)).alloc (.cells #[.int .i64 fk.life, .int .i64 fk.era, .int .i64 fk.seq, .int .i64 fk.part, .int .i64 fk.parts, .slice a9' fk.data.length c9'] 60))
            have HBs := hid S9'.out.size
            have HOne := hid (one_frame (w9.alloc (.cells #[.int .i64 fk.life, .int .i64 fk.era, .int .i64 fk.seq, .int .i64 fk.part, .int .i64 fk.parts, .slice a9' fk.data.length c9'] 60)) fk (.slice a9' fk.data.length c9'))
            rw [World.size_alloc] at HOne
            have O9' := hid O9
            clear O9 hcell
            unfold Fr.agg
            obtain ⟨z1, z2, z3⟩ := hlf
            have Z := hid (And.intro z1 (And.intro z2 z3))
            have m1 : (fk.life != life) = false := by rw [z1]; simp
            have m2 : (fk.era != era) = false := by rw [z2]; simp
            have m3 : (fk.seq != seq) = false := by rw [z3]; simp
            clear z1 z2 z3
            go_wp2_with (at_builtin; refine wpList_append_frame rfl (.tmp 124) (.tmp 126) 77 tyFrames rfl (HO9.out.same ((Same.refl _).alloc _)) HOne.out HB9.out rfl rfl hTl.out HBs.out ?_; intro x10 w10 ho10 K10)
            go_roundw
            case rel => exact ⟨k + 1, by omega, by go_num, by rw [HT.out]; exact ho10, S9'.out.keepOwn K10 (fun j hj => (HO9.out.lt j hj).1)⟩
            case measure => simp [intOf]; omega
          · obtain rfl : k = q := by omega
            have hall : (cutFr life era seq b).take k = cutFr life era seq b := List.take_of_length_le (by rw [HJ.out.2.2.2]; omega)
            rw [hall] at HO
            have HJn := hid (HJo.out)
            obtain ⟨aj, cj, rfl, _, _⟩ := HO.out.frs.form
            have HJc := hid (HJo0.out _ _ _ _ HO.out.frs HJ.out.2.2.1 (by rw [HJ.out.2.2.2]; omega))
            rw [HJ.out.1, HJo.out] at HJc
            have S10 := hid (S8.out.trans HS.out)
            clear hall
            go_wp2_with fail
            refine HJc.out.mono ?_
            rintro en w11 ⟨v11, rfl, O11, S11⟩
            obtain ⟨a11, c11, rfl, _, _⟩ := O11.bytes.form
            have S11 := hid (S10.out.trans S11)
            have HEq := hid (HSB.out w11 5 e _ _ b b O11.bytes (B1.out.same S11.out))
            rw [decide_eq_true rfl] at HEq
            clear O11
            go_wp2_with fail
            refine HEq.out.mono ?_
            rintro en w12 ⟨rfl, S12⟩
            go_wp2_with fail
            refine (HLv.out _).mono ?_
            rintro en w13 ⟨rfl, S13⟩
            go_wp2_with fail
            go_ret
            exact ⟨rfl, (S11.out.trans S12).trans S13⟩
      · have hnz : (cutE life era seq b == 0) = false := by rw [beq_eq_false_iff_ne]; exact hce
        have hnz2 : (cutE life era seq b != 0) = true := by rw [bne_iff_ne]; exact hce
        generalize cutE life era seq b = ce at *
        clear hce
        go_wp2_with fail
        refine (HLv.out _).mono ?_
        rintro en w9 ⟨rfl, S9⟩
        go_wp2_with fail
        go_ret
        exact ⟨rfl, S8.out.trans S9⟩
end Go.Proofs.Ytlhnpicmjjddeaa
