/- FRAME: Decode. -/
import Derived.Test.YtlhnpicmjjddeaaFw3
namespace Go.Proofs.Ytlhnpicmjjddeaa
open Go.RowKit

theorem Same.drewN' {a w : World} (h : Same a w) (n : Nat) : Same a (w.drewN n) := h.drewN n
theorem dec_is (b : List UInt8) : dec b = if (fld b).right = true ∧ enc (fld b) = b then some (fld b) else none := by
  unfold dec
  by_cases h : (fld b).right = true ∧ enc (fld b) = b
  · rw [if_pos h, if_pos (by rw [Bool.and_eq_true, decide_eq_true_eq]; exact h)]
  · rw [if_neg h, if_neg (by rw [Bool.and_eq_true, decide_eq_true_eq]; exact h)]

theorem elem23 : Try.prog.underlying 23 = some (.slice (Try.prog.elem 23)) := by kernel_rfl
theorem size23 (W : World) : (sizeOf (Try.prog.elem 23)).run Try.prog W = .ok 1 W := by kernel_rfl
theorem slice03 (W : World) (g o n q : Nat) (hq : 93 ≤ q) : (Instr.sliceAt 23 (.slice (some ⟨g, o, none⟩) n q) none (some (.int .i64 3)) none).run Try.prog W = .ok (.slice (some ⟨g, o, none⟩) 3 q) W := by
  rw [run_sliceAt_slice W 23 _ _ _ _ elem23, run_slice_h W 23 _ n q elem23 .i64 3 (by omega) (by omega), size23]
  simp only [Result.andThen, sliced]
  split
  · rfl
  · simp [Addr.add]
theorem slice36 (W : World) (g o n q : Nat) (hq : 93 ≤ q) : (Instr.sliceAt 23 (.slice (some ⟨g, o, none⟩) n q) (some (.int .i64 3)) (some (.int .i64 6)) none).run Try.prog W = .ok (.slice (some ⟨g, o + 3, none⟩) 3 (q - 3)) W := by
  rw [run_sliceAt_slice W 23 _ _ _ _ elem23, run_slice_lh W 23 _ n q elem23 .i64 .i64 3 6 (by omega) (by omega) (by omega), size23]
  simp only [Result.andThen, sliced]
  rw [if_neg (by show ¬ q = 3; omega)]
  simp [Addr.add_mid]
theorem slice610 (W : World) (g o n q : Nat) (hq : 93 ≤ q) : (Instr.sliceAt 23 (.slice (some ⟨g, o, none⟩) n q) (some (.int .i64 6)) (some (.int .i64 10)) none).run Try.prog W = .ok (.slice (some ⟨g, o + 6, none⟩) 4 (q - 6)) W := by
  rw [run_sliceAt_slice W 23 _ _ _ _ elem23, run_slice_lh W 23 _ n q elem23 .i64 .i64 6 10 (by omega) (by omega) (by omega), size23]
  simp only [Result.andThen, sliced]
  rw [if_neg (by show ¬ q = 6; omega)]
  simp [Addr.add_mid]
theorem slice13 (W : World) (g o n q d : Nat) (hq : 93 ≤ q) (hd : d ≤ 80) : (Instr.sliceAt 23 (.slice (some ⟨g, o, none⟩) n q) (some (.int .i64 13)) (some (.int .i64 (13 + (d : Int)))) none).run Try.prog W = .ok (.slice (some ⟨g, o + 13, none⟩) d (q - 13)) W := by
  rw [run_sliceAt_slice W 23 _ _ _ _ elem23, run_slice_lh W 23 _ n q elem23 .i64 .i64 13 (13 + (d : Int)) (by omega) (by omega) (by omega), size23]
  simp only [Result.andThen, sliced]
  rw [if_neg (by show ¬ q = 13; omega), show (13 + (d : Int)).toNat = 13 + d from by omega]
  simp [Addr.add_mid]
theorem wrap_small {p : Nat} (h : p < 256) : IntKind.i64.wrap (p : Int) = p := by rw [IntKind.wrap_i64]; omega
theorem Keep.setCell1 {w : World} (b o : Nat) (u : Value) : Keep (fun k => k = b) w (w.setCell ⟨b, o, none⟩ u) := Keep.setCell (M := fun k => k = b) (Keep.refl _ w) (p := ⟨b, o, none⟩) (.inl rfl) u
theorem Box6.set5 {w : World} {b : Nat} {c0 c1 c2 c3 c4 c5 : Value} (h : Box6 w b c0 c1 c2 c3 c4 c5) (u : Value) : Box6 (w.setCell ⟨b, 5, none⟩ u) b c0 c1 c2 c3 c4 u := heap_setCell_same w b 5 _ 60 u h
set_option maxHeartbeats 3200000 in
set_option maxRecDepth 100000 in
theorem fDecodeLate (w : World) (e : TypeId) (v : Value) (b : List UInt8) (hb : Bytes w e v b) (hl : b.length ≤ 900000) (h1 : openOk b = true) (h2 : (openIn b).length = 93) (h3 : ((openIn b).getD 12 0).toNat ≤ 80) :
    Calls Try.prog 48 #[v] w (RetDec (decF b) (decE b) w) := by
  have HO := hid (fun w' (S : Same w w') => crcOpen w' e v b (hb.same S) hl)
  rw [h1] at HO
  obtain ⟨hb96, hf⟩ := dec_late h1 h2 h3
  have HD := hid (dec_is b)
  rw [← hf] at HD
  have HBy := hid hb
  obtain ⟨ao, cap, rfl, _, _⟩ := hb.form
  have HQ := hid (fun (w' : World) (va : Value) (ea : TypeId) (r : List UInt8) (hr : Bytes w' ea va r) (S : Same w w') => equalBytes w' ea e va _ r b hr (HBy.out.same S))
  clear hb hl h1 hf hb96
  generalize hln : openIn b = l at *
  clear hln
  have e12 : l.getD 12 0 = l[12]'(by omega) := by rw [List.getD_eq_getElem?_getD, List.getElem?_eq_getElem (by omega)]; rfl
  rw [e12] at h3
  have HFd : Hid ((fld l).data = (l.drop 13).take (l[12]'(by omega)).toNat) := by show _ = _; unfold fld; rw [← e12]
  have HF : Hid (fld l = ⟨val (l.take 3), val ((l.drop 3).take 3), val ((l.drop 6).take 4), (l[10]'(by omega)).toNat, (l[11]'(by omega)).toNat, (l.drop 13).take (l[12]'(by omega)).toNat⟩) := by
    show _ = _
    unfold fld
    rw [e12, List.getD_eq_getElem?_getD, List.getElem?_eq_getElem (by omega : 10 < l.length), List.getD_eq_getElem?_getD, List.getElem?_eq_getElem (by omega : 11 < l.length)]
    rfl
  clear e12 HFd
  have HBx := hid (Box6.new w (.int .i64 0) (.int .i64 0) (.int .i64 0) (.int .i64 0) (.int .i64 0) (.slice none 0 0))
  go_enter Try.func48, Try.ntmps48
  go_wp2_with fail
  refine (HO.out _ ((Same.refl w).alloc _)).mono ?_
  rintro en w1 ⟨v1, rfl, O1, S1⟩
  have B1 := hid (HBx.out.same S1)
  have S1 := hid (((Same.refl w).alloc _).trans S1)
  obtain ⟨a1, q1, rfl, f1, f2⟩ := O1.bytes.form
  unfold maxLen at f2
  obtain ⟨g, o, rfl, hc⟩ := O1.bytes.cells (by omega)
  have k10 := hc 10 (by omega)
  have k11 := hc 11 (by omega)
  have k12 := hc 12 (by omega)
  have hg := World.block_lt_of_cell? w1 _ k10
  have HL := hid h2
  have P0 := hid (O1.bytes.part 0 3 q1 (by omega) (by omega) (by unfold maxLen; omega))
  have P1 := hid (O1.bytes.part 3 3 (q1 - 3) (by omega) (by omega) (by unfold maxLen; omega))
  have P2 := hid (O1.bytes.part 6 4 (q1 - 6) (by omega) (by omega) (by unfold maxLen; omega))
  have P3 := hid (O1.bytes.part 13 (l[12]'(by omega)).toNat (q1 - 13) (by omega) (by omega) (by unfold maxLen; omega))
  rw [Nat.add_zero, List.drop_zero] at P0
  have G0 := hid (fun wz (S : Same w1 wz) => show Calls Try.prog 98 #[.slice (some ⟨g, o, none⟩) 3 q1] wz (fun en w' => en = .returned (.int .i64 (val (l.take 3))) ∧ wz = w') from fGet wz _ _ _ (P0.out.same S) (by rw [List.length_take]; omega))
  have G1 := hid (fun wz (S : Same w1 wz) => show Calls Try.prog 98 #[.slice (some ⟨g, o + 3, none⟩) 3 (q1 - 3)] wz (fun en w' => en = .returned (.int .i64 (val ((l.drop 3).take 3))) ∧ wz = w') from fGet wz _ _ _ (P1.out.same S) (by rw [List.length_take]; omega))
  have G2 := hid (fun wz (S : Same w1 wz) => show Calls Try.prog 98 #[.slice (some ⟨g, o + 6, none⟩) 4 (q1 - 6)] wz (fun en w' => en = .returned (.int .i64 (val ((l.drop 6).take 4))) ∧ wz = w') from fGet wz _ _ _ (P2.out.same S) (by rw [List.length_take]; omega))
  have G3 := hid (fun wz (S : Same w1 wz) => show Calls Try.prog 99 #[.slice (some ⟨g, o + 13, none⟩) (l[12]'(by omega)).toNat (q1 - 13)] wz (RetOwn ((l.drop 13).take (l[12]'(by omega)).toNat) wz) from bClone wz _ _ _ (P3.out.same S) (show _ ≤ _ by rw [List.length_take]; omega))
  clear hc P0 P1 P2 P3 O1
  have x10 : (l[10]'(by omega)).toNat < 256 := UInt8.toNat_lt _
  have x11 : (l[11]'(by omega)).toNat < 256 := UInt8.toNat_lt _
  rw [h2] at *
  generalize val (l.take 3) = n0 at *
  generalize val ((l.drop 3).take 3) = n1 at *
  generalize val ((l.drop 6).take 4) = n2 at *
  generalize (l[10]'_).toNat = p0 at *
  generalize (l[11]'_).toNat = p1 at *
  generalize hd : (l.drop 13).take (l[12]'_).toNat = dat at *
  clear hd
  generalize (l[12]'_).toNat = dn at *
  have W0 := wrap_small x10
  have W1 := wrap_small x11
  generalize fld l = F at *
  clear h2 HL
  go_wp2_with fail
  have s0 := fun W => slice03 W g o 93 q1 f1
  have s1 := fun W => slice36 W g o 93 q1 f1
  have s2 := fun W => slice610 W g o 93 q1 f1
  go_region_held3 (fun w' => w'.cell? ⟨g, o + 10, none⟩ = some (.int .u8 p0) ∧ w'.cell? ⟨g, o + 11, none⟩ = some (.int .u8 p1)) (go_keep) (first
    | (go_at_call 98; (with_reducible refine (G0.out _ (by repeat (first | exact Same.refl _ | refine Same.drew ?_ | refine Same.drewN ?_ _ | refine Same.alloc ?_ _))).mono ?_); rintro en w2 ⟨rfl, rfl⟩)
    | (go_at_call 98; (with_reducible refine (G1.out _ (by repeat (first | exact Same.refl _ | refine Same.drew ?_ | refine Same.drewN ?_ _ | refine Same.alloc ?_ _))).mono ?_); rintro en w2 ⟨rfl, rfl⟩)
    | (go_at_call 98; (with_reducible refine (G2.out _ (by repeat (first | exact Same.refl _ | refine Same.drew ?_ | refine Same.drewN ?_ _ | refine Same.alloc ?_ _))).mono ?_); rintro en w2 ⟨rfl, rfl⟩))
  all_goals
    have BF := hid (Box6.new w1 (.int .i64 n0) (.int .i64 n1) (.int .i64 n2) (.int .i64 p0) (.int .i64 p1) (.slice none 0 0))
    have S2 : Same w1 (w1.alloc (.cells #[.int .i64 n0, .int .i64 n1, .int .i64 n2, .int .i64 p0, .int .i64 p1, .slice none 0 0] 60)).drew := ((Same.refl w1).alloc _).drew
    have S2 := hid S2
    have hsz : (w1.alloc (.cells #[.int .i64 n0, .int .i64 n1, .int .i64 n2, .int .i64 p0, .int .i64 p1, .slice none 0 0] 60)).drew.heap.size = w1.heap.size + 1 := by simp
    have HSz := hid hsz
    clear s0 s1 s2 W0 W1 hsz
    have s3 := fun W => slice13 W g o 93 q1 dn f1 h3
    go_wp2_with fail
    refine (G3.out _ S2.out).mono ?_
    rintro en w3 ⟨v3, rfl, O3, S3⟩
    have BF3 := hid ((BF.out.same (Same.refl _).drew).same S3)
    have O3 := hid O3
    obtain ⟨a3, q3, rfl, _, _⟩ := O3.out.bytes.form
    have S3' := hid (S2.out.trans S3)
    clear S3 s3 k10 k11 k12 hg
    obtain ⟨c0, c1, c2, c3, c4, c5⟩ := BF3.out.cells
    have z5 := BF3.out.free 5
    have K4 := Keep.setCell1 (w := w3) w1.heap.size 5 (.slice a3 dat.length q3)
    have hO3 : ∀ k, Value.ownBlock (.slice a3 dat.length q3) = some k → k ≠ w1.heap.size := fun k hk => by have := (O3.out.lt k hk).1; rw [HSz.out] at this; omega
    have O4 := hid (O3.out.keep K4 (fun k hk e => hO3 k hk e))
    have BF4 := hid (BF3.out.set5 (.slice a3 dat.length q3))
    have S4 := hid ((S1.out.trans S3'.out).keepOwn K4 (fun k e => by subst e; exact S1.out.size))
    have B4 := hid ((B1.out.same S3'.out).keep K4 (fun e => by have := B1.out.lt; omega))
    have FV : FrV (w3.setCell ⟨w1.heap.size, 5, none⟩ (.slice a3 dat.length q3)) (.agg #[.int .i64 n0, .int .i64 n1, .int .i64 n2, .int .i64 p0, .int .i64 p1, .slice a3 dat.length q3]) F := by
      rw [HF.out]
      exact ⟨_, 5, rfl, O4.out.bytes⟩
    have HE := hid (fEncode _ _ F FV)
    have HFr := hid (show FrO (w3.setCell ⟨w1.heap.size, 5, none⟩ (.slice a3 dat.length q3)) (w1.heap.size + 1) (.agg #[.int .i64 n0, .int .i64 n1, .int .i64 n2, .int .i64 p0, .int .i64 p1, .slice a3 dat.length q3]) F from by
      rw [HF.out]
      exact ⟨_, rfl, O4.out.mono (by rw [HSz.out]; omega)⟩)
    clear K4 hO3 FV O3 S3'
    go_wp2_with fail
    refine HE.out.mono ?_
    rintro en w5 ⟨v5, rfl, O5, S5⟩
    obtain ⟨a5, q5, rfl, _, _⟩ := O5.bytes.form
    have B5 := hid (B4.out.same S5)
    have BF5 := hid (BF4.out.same S5)
    have S6 := hid (S4.out.trans S5)
    have HEq := hid (HQ.out _ _ _ _ O5.bytes S6.out)
    have HF5 := hid S5
    clear S5 O5 c0 c1 c2 c3 c4 c5 z5
    have B6 := B5
    cases hr : F.right
    · have HN : Hid (decF b = Fr.zero ∧ decE b = 3) := decF_none (by rw [HD.out, if_neg (by rw [hr]; simp)])
      have e1 : encE F = 2 := by unfold encE; rw [hr]; rfl
      rw [e1]
      clear hr e1
      obtain ⟨c0, c1, c2, c3, c4, c5⟩ := B6.out.cells
      have z0 := B6.out.free 0
      have z1 := B6.out.free 1
      have z2 := B6.out.free 2
      have z3 := B6.out.free 3
      have z4 := B6.out.free 4
      have z5 := B6.out.free 5
      go_wp2_with fail
      obtain ⟨K2, B2⟩ := B6.out.set (.int .i64 0) (.int .i64 0) (.int .i64 0) (.int .i64 0) (.int .i64 0) (.slice none 0 0)
      obtain ⟨d0, d1, d2, d3, d4, d5⟩ := B2.cells
      rw [HN.out.1, HN.out.2]
      refine bodyPost_ret (v := .tuple #[Fr.agg Fr.zero (.slice none 0 0), .int .i64 3]) ?_ rfl ⟨_, rfl, ⟨_, rfl, OwnB.nil _ _⟩, S6.out.box K2 (Nat.le_refl _)⟩
      simp [results, Try.results48, go_sem, d0, d1, d2, d3, d4, d5]
      rfl
    · have e1 : encE F = 0 := by unfold encE; rw [hr]; rfl
      have e2 : encOf F = enc F := by unfold encOf; rw [hr]; rfl
      rw [e2] at HEq
      rw [e1, e2]
      generalize hen : enc F = ef at *
      by_cases hq : ef = b
      · have HN : Hid (decF b = F ∧ decE b = 0) := decF_some (by rw [HD.out, if_pos ⟨hr, hq⟩])
        rw [decide_eq_true hq] at HEq
        clear hr e1 e2 hq hen
        go_wp2_with fail
        refine HEq.out.mono ?_
        rintro en w6 ⟨rfl, rfl⟩
        obtain ⟨c0, c1, c2, c3, c4, c5⟩ := B6.out.cells
        have z0 := B6.out.free 0
        have z1 := B6.out.free 1
        have z2 := B6.out.free 2
        have z3 := B6.out.free 3
        have z4 := B6.out.free 4
        have z5 := B6.out.free 5
        obtain ⟨y0, y1, y2, y3, y4, y5⟩ := BF5.out.cells
        go_wp2_with fail
        obtain ⟨K2, B2⟩ := B6.out.set (.int .i64 n0) (.int .i64 n1) (.int .i64 n2) (.int .i64 p0) (.int .i64 p1) (.slice a3 dat.length q3)
        obtain ⟨d0, d1, d2, d3, d4, d5⟩ := B2.cells
        rw [HN.out.1, HN.out.2]
        obtain ⟨vf, hx, hO⟩ := HFr.out
        refine bodyPost_ret (v := .tuple #[.agg #[.int .i64 n0, .int .i64 n1, .int .i64 n2, .int .i64 p0, .int .i64 p1, .slice a3 dat.length q3], .int .i64 0]) ?_ rfl ⟨_, rfl, ⟨vf, hx, ((hO.keep HF5.out (fun _ _ x => x)).keep K2 (fun k hk e => by have := (hO.lt k hk).1; have := B1.out.lt; omega)).mono (by have := S1.out.size; omega)⟩, S6.out.box K2 (Nat.le_refl _)⟩
        simp [results, Try.results48, go_sem, d0, d1, d2, d3, d4, d5]
      · have HN : Hid (decF b = Fr.zero ∧ decE b = 3) := decF_none (by rw [HD.out, if_neg (fun x => hq x.2)])
        rw [decide_eq_false hq] at HEq
        clear hr e1 e2 hq hen
        go_wp2_with fail
        refine HEq.out.mono ?_
        rintro en w6 ⟨rfl, rfl⟩
        obtain ⟨c0, c1, c2, c3, c4, c5⟩ := B6.out.cells
        have z0 := B6.out.free 0
        have z1 := B6.out.free 1
        have z2 := B6.out.free 2
        have z3 := B6.out.free 3
        have z4 := B6.out.free 4
        have z5 := B6.out.free 5
        go_wp2_with fail
        obtain ⟨K2, B2⟩ := B6.out.set (.int .i64 0) (.int .i64 0) (.int .i64 0) (.int .i64 0) (.int .i64 0) (.slice none 0 0)
        obtain ⟨d0, d1, d2, d3, d4, d5⟩ := B2.cells
        rw [HN.out.1, HN.out.2]
        refine bodyPost_ret (v := .tuple #[Fr.agg Fr.zero (.slice none 0 0), .int .i64 3]) ?_ rfl ⟨_, rfl, ⟨_, rfl, OwnB.nil _ _⟩, S6.out.box K2 (Nat.le_refl _)⟩
        simp [results, Try.results48, go_sem, d0, d1, d2, d3, d4, d5]
        rfl
/-- Decode -/
theorem fDecode (w : World) (e : TypeId) (v : Value) (b : List UInt8) (hb : Bytes w e v b) (hl : b.length ≤ 900000) : Calls Try.prog 48 #[v] w (RetDec (decF b) (decE b) w) := by
  by_cases h : openOk b = false ∨ (openIn b).length ≠ 93 ∨ 80 < ((openIn b).getD 12 0).toNat
  · exact fDecodeEarly w e v b hb hl h
  · have h1 : openOk b = true := by
      cases ho : openOk b
      · exact absurd (.inl ho) h
      · rfl
    have h2 : (openIn b).length = 93 := by
      by_cases hx : (openIn b).length = 93
      · exact hx
      · exact absurd (.inr (.inl hx)) h
    exact fDecodeLate w e v b hb hl h1 h2 (by
      rcases Nat.lt_or_ge 80 ((openIn b).getD 12 0).toNat with hx | hx
      · exact absurd (.inr (.inr hx)) h
      · exact hx)
end Go.Proofs.Ytlhnpicmjjddeaa
