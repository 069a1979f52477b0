/- FRAME: Encode. The walks of the statements of layer 5 on sealing. FRAME: bytes.Clone; parts of a row of bytes; Decode where no frame can be. FRAME: Decode. FRAME: Cut. A region that draws its order, whose operations only read, and whose calls read and make new memory: one walk. No program in sight. FRAME: stamp, fits. FRAME: rows of frames in memory. FRAME: Join. FRAME: lives, short, plain of layer 7. FRAME: short, plain, and the reference's Same of two frames that are one. -/
import Derived.Test.YtlhnpicmjjddeaaGrp1
import Derived.Deep.RegionHeld3
import Derived.Test.YtlhnpicmjjddeaaGrp0
import Derived.Deep.QuietTactic
import Derived.BigQuiet
import Derived.Laws.StructEq
import Derived.Laws.Cover2
set_option linter.unusedVariables false
set_option linter.unusedSimpArgs false
namespace Go.Proofs.Ytlhnpicmjjddeaa
open Go.RowKit

def encOf (f : Fr) : List UInt8 := if f.right then enc f else []
def encE (f : Fr) : Int := if f.right then 0 else 2
/-- a call hands back a new row of bytes, and a number -/
def RetEnc (l : List UInt8) (n : Int) (w : World) (en : Ending) (w' : World) : Prop := ∃ v, en = .returned (.tuple #[v, .int .i64 n]) ∧ OwnB w' w.heap.size v l ∧ Same w w'
theorem cell_keep {M : Nat → Prop} {a b : World} (h : Keep M a b) {g o : Nat} (hg : g < a.heap.size) (hm : ¬ M g) : b.cell? ⟨g, o, none⟩ = a.cell? ⟨g, o, none⟩ := World.cell?_of_block (w := a) (h.block g hg hm)
theorem box_cells (w : World) (a b c d e v : Value) :
    (w.alloc (.cells #[a, b, c, d, e, v] 60)).cell? ⟨w.heap.size, 0, none⟩ = some a ∧ (w.alloc (.cells #[a, b, c, d, e, v] 60)).cell? ⟨w.heap.size, 1, none⟩ = some b ∧ (w.alloc (.cells #[a, b, c, d, e, v] 60)).cell? ⟨w.heap.size, 2, none⟩ = some c ∧
    (w.alloc (.cells #[a, b, c, d, e, v] 60)).cell? ⟨w.heap.size, 3, none⟩ = some d ∧ (w.alloc (.cells #[a, b, c, d, e, v] 60)).cell? ⟨w.heap.size, 4, none⟩ = some e ∧ (w.alloc (.cells #[a, b, c, d, e, v] 60)).cell? ⟨w.heap.size, 5, none⟩ = some v := by
  refine ⟨?_, ?_, ?_, ?_, ?_, ?_⟩ <;> simp

theorem more_made (w : World) (a b c : Nat) (ha : a < 256) (hb : b < 256) (hc : c < 256) :
    Bytes (w.alloc (.cells #[.int .u8 (a : Int), .int .u8 (b : Int), .int .u8 (c : Int)] 5)) 5 (.slice (some ⟨w.heap.size, 0, none⟩) 3 3) [a.toUInt8, b.toUInt8, c.toUInt8] :=
  Bytes.made 5 w.heap.size 3 3 _ _ (heap_alloc_new w _) (Nat.le_refl _) (by decide) rfl (by
    have e : ∀ n : Nat, n < 256 → (n : Int) % 256 = n := fun n hn => by omega
    simp [u8, e a ha, e b hb, e c hc])
set_option maxHeartbeats 1600000 in
set_option maxRecDepth 100000 in
theorem fEncode (w : World) (x : Value) (f : Fr) (hx : FrV w x f) : Calls Try.prog 45 #[x] w (RetEnc (encOf f) (encE f) w) := by
  have HR := hid (fun w' (S : Same w w') => fRight w' x f (hx.same S))
  obtain ⟨v, e, rfl, hb⟩ := hx
  obtain ⟨ao, cap, rfl, h1, h2⟩ := hb.form
  unfold maxLen at h2
  cases hr : f.right
  · have HE : Hid (encOf f = [] ∧ encE f = 2) := by show _ ∧ _; unfold encOf encE; rw [hr]; exact ⟨rfl, rfl⟩
    rw [hr] at HR
    clear hr hb
    rw [HE.out.1, HE.out.2]
    unfold Fr.agg at HR ⊢
    go_enter Try.func45, Try.ntmps45
    go_wp2_with fail
    refine (HR.out _ ((Same.refl w).alloc _)).mono ?_
    rintro en w1 ⟨rfl, S1⟩
    go_wp2_with fail
    go_ret2
    exact ⟨_, rfl, OwnB.nil _ _, ((Same.refl w).alloc _).trans S1⟩
  · have HE : Hid (encOf f = CrcPure.sealed f.inner ∧ encE f = 0) := by show _ ∧ _; unfold encOf encE; rw [hr]; exact ⟨rfl, rfl⟩
    obtain ⟨q1, q2⟩ := Fr.right_iff.1 hr
    obtain ⟨a1, a2, a3, a4, a5, a6⟩ := stampOk_iff.1 q1
    obtain ⟨b1, b2, b3, b4, b5⟩ := partOk_iff.1 q2
    rw [hr] at HR
    have HI : Hid (f.inner = (be 3 f.life.toNat ++ be 3 f.era.toNat ++ be 4 f.seq.toNat ++ f.more ++ f.data) ++ List.replicate (93 - (be 3 f.life.toNat ++ be 3 f.era.toNat ++ be 4 f.seq.toNat ++ f.more ++ f.data).length) 0) := rfl
    have HM : Hid (f.more = [f.part.toNat.toUInt8, f.parts.toNat.toUInt8, f.data.length.toUInt8]) := rfl
    clear hr q1 q2
    rw [HE.out.1, HE.out.2]
    unfold Fr.agg at HR ⊢
    obtain ⟨life, era, seq, part, parts, data⟩ := f
    simp only at *
    obtain ⟨life, rfl⟩ := Int.eq_ofNat_of_zero_le (a := life) (by omega)
    obtain ⟨era, rfl⟩ := Int.eq_ofNat_of_zero_le (a := era) (by omega)
    obtain ⟨seq, rfl⟩ := Int.eq_ofNat_of_zero_le (a := seq) (by omega)
    obtain ⟨part, rfl⟩ := Int.eq_ofNat_of_zero_le (a := part) (by omega)
    obtain ⟨parts, rfl⟩ := Int.eq_ofNat_of_zero_le (a := parts) (by omega)
    simp only [Int.toNat_natCast] at HI HM
    have HBx := hid (box_cells w (.int .i64 life) (.int .i64 era) (.int .i64 seq) (.int .i64 part) (.int .i64 parts) (.slice ao data.length cap))
    have S1 := hid ((Same.refl w).alloc (.cells #[.int .i64 life, .int .i64 era, .int .i64 seq, .int .i64 part, .int .i64 parts, .slice ao data.length cap] 60))
    have hz1 : (w.alloc (.cells #[.int .i64 life, .int .i64 era, .int .i64 seq, .int .i64 part, .int .i64 parts, .slice ao data.length cap] 60)).heap.size = w.heap.size + 1 := by simp
    have HZ1 := hid hz1
    clear hz1
    have HB0 := hid hb
    clear hb
    go_enter Try.func45, Try.ntmps45
    go_wp2_with fail
    refine (HR.out _ S1.out).mono ?_
    rintro en w1 ⟨rfl, S2⟩
    have hcell : ∀ o, w1.cell? ⟨w.heap.size, o, none⟩ = (w.alloc (.cells #[.int .i64 life, .int .i64 era, .int .i64 seq, .int .i64 part, .int .i64 parts, .slice ao data.length cap] 60)).cell? ⟨w.heap.size, o, none⟩ := fun o => S2.cell (p := ⟨w.heap.size, o, none⟩) (by rw [HZ1.out]; exact Nat.lt_succ_self _)
    have HC := hid hcell
    have hs1 : w.heap.size + 1 ≤ w1.heap.size := by rw [← HZ1.out]; exact S2.size
    have HS1 := hid hs1
    have S2 := hid S2
    obtain ⟨c0, c1, c2, c3, c4, c5⟩ := HBx.out
    have HK : Hid (∀ wz, Keep (fun k => w.heap.size + 1 ≤ k) w1 wz → wz.cell? ⟨w.heap.size, 0, none⟩ = some (.int .i64 life) ∧ wz.cell? ⟨w.heap.size, 1, none⟩ = some (.int .i64 era) ∧ wz.cell? ⟨w.heap.size, 2, none⟩ = some (.int .i64 seq) ∧ wz.cell? ⟨w.heap.size, 3, none⟩ = some (.int .i64 part) ∧ wz.cell? ⟨w.heap.size, 4, none⟩ = some (.int .i64 parts) ∧ wz.cell? ⟨w.heap.size, 5, none⟩ = some (.slice ao data.length cap)) := by
      intro wz K
      have e : ∀ o, wz.cell? ⟨w.heap.size, o, none⟩ = w1.cell? ⟨w.heap.size, o, none⟩ := fun o => cell_keep K (by have := HS1.out; omega) (by omega)
      refine ⟨?_, ?_, ?_, ?_, ?_, ?_⟩
      all_goals (rw [e, hcell]; assumption)
    clear c0 c1 c2 c3 c4 c5 hcell hs1
    obtain ⟨c0, c1, c2, c3, c4, c5⟩ := HK.out _ (Keep.refl _ w1)
    obtain ⟨p1, hp1⟩ : ∃ p, p = be 3 life := ⟨_, rfl⟩
    obtain ⟨p2, hp2⟩ : ∃ p, p = be 3 life ++ be 3 era := ⟨_, rfl⟩
    obtain ⟨p3, hp3⟩ : ∃ p, p = be 3 life ++ be 3 era ++ be 4 seq := ⟨_, rfl⟩
    have P1 := hid (fun wz (K : Keep (fun k => w.heap.size + 1 ≤ k) w1 wz) => show Calls Try.prog 95 #[.slice none 0 0, .int .i64 life, .int .i64 3] wz (RetPut p1 (w.heap.size + 1) wz) from hp1 ▸ fPut wz (w.heap.size + 1) (.slice none 0 0) [] life 3 (by omega) (by omega) (OwnB.nil _ _) (by simp) (Nat.le_trans HS1.out K.size))
    have P2 := hid (fun wz v0 (K : Keep (fun k => w.heap.size + 1 ≤ k) w1 wz) (hO : OwnB wz (w.heap.size + 1) v0 p1) => show Calls Try.prog 95 #[v0, .int .i64 era, .int .i64 3] wz (RetPut p2 (w.heap.size + 1) wz) from hp2 ▸ fPut wz (w.heap.size + 1) v0 (be 3 life) era 3 (by omega) (by omega) (hp1 ▸ hO) (by rw [be_length]; omega) (Nat.le_trans HS1.out K.size))
    have P3 := hid (fun wz v0 (K : Keep (fun k => w.heap.size + 1 ≤ k) w1 wz) (hO : OwnB wz (w.heap.size + 1) v0 p2) => show Calls Try.prog 95 #[v0, .int .i64 seq, .int .i64 4] wz (RetPut p3 (w.heap.size + 1) wz) from hp3 ▸ fPut wz (w.heap.size + 1) v0 (be 3 life ++ be 3 era) seq 4 (by omega) (by omega) (hp2 ▸ hO) (by rw [List.length_append, be_length, be_length]; omega) (Nat.le_trans HS1.out K.size))
    rw [← hp3] at HI
    have hp3l : p3.length = 10 := by rw [hp3]; simp [be_length]
    have HP3 := hid hp3l
    clear hp1 hp2 hp3 hp3l
    go_wp2_with fail
    go_region_held3 (fun w' => w'.cell? ⟨w.heap.size, 0, none⟩ = some (.int .i64 life) ∧ w'.cell? ⟨w.heap.size, 1, none⟩ = some (.int .i64 era) ∧ w'.cell? ⟨w.heap.size, 2, none⟩ = some (.int .i64 seq)) (exact ⟨by assumption, by assumption, by assumption⟩) (first
      | (go_at_call 95; (with_reducible refine (P3.out _ _ K2' O2').mono ?_); rintro en w4 ⟨v3, rfl, O3, K3⟩; have K3' := K2'.trans K3; clear c0 c1 c2 c3 c4 c5; obtain ⟨c0, c1, c2, c3, c4, c5⟩ := HK.out _ K3'; obtain ⟨a3', cap3, rfl, z5, z6⟩ := O3.bytes.form)
      | (go_at_call 95; (with_reducible refine (P2.out _ _ K1' O1').mono ?_); rintro en w3 ⟨v2, rfl, O2', K2⟩; have K2' := K1'.trans K2; clear c0 c1 c2 c3 c4 c5; obtain ⟨c0, c1, c2, c3, c4, c5⟩ := HK.out _ K2'; obtain ⟨a2', cap2, rfl, z3, z4⟩ := O2'.bytes.form)
      | (go_at_call 95; (with_reducible refine (P1.out _ (Keep.refl _ _).drew).mono ?_); rintro en w2 ⟨v1, rfl, O1', K1'⟩; have K1' := (Keep.refl _ w1).drew.trans K1'; clear c0 c1 c2 c3 c4 c5; obtain ⟨c0, c1, c2, c3, c4, c5⟩ := HK.out _ K1'; obtain ⟨a1', cap1, rfl, z1, z2⟩ := O1'.bytes.form))
    have O3 := hid O3
    have K3' := hid K3'
    have HB1 := hid (HB0.out.same (S1.out.trans S2.out) |>.keep K3'.out (fun g hg hm => by have := Sl.home_lt HB0.out hg; omega))
    clear O1' O2' K1' K2' K2 K3
    have HM3 := hid (fun wz => more_made wz part parts data.length (by omega) (by omega) (by omega))
    rw [← HM.out] at HM3
    have hmore : Hid ((Fr.more ⟨life, era, seq, part, parts, data⟩).length = 3) := rfl
    generalize Fr.more ⟨life, era, seq, part, parts, data⟩ = m3 at *
    obtain ⟨p4, hp4⟩ : ∃ p, p = p3 ++ m3 := ⟨_, rfl⟩
    obtain ⟨p5, hp5⟩ : ∃ p, p = p4 ++ data := ⟨_, rfl⟩
    rw [← hp4, ← hp5] at HI
    have hl4 : p4.length = 13 := by rw [hp4, List.length_append, HP3.out, hmore.out]
    have hl5 : p5.length = 13 + data.length := by rw [hp5, List.length_append, hl4]
    have HL4 := hid hl4
    have HL5 := hid hl5
    have hle5 : p5.length ≤ 93 := by omega
    have HP4 := hid hp4
    have HP5 := hid hp5
    have E93 : Hid (Value.int IntKind.i64 (93 - (p5.length : Int)) = Value.int IntKind.i64 ((93 - p5.length : Nat) : Int)) := by
      show _ = _
      rw [show (93 : Int) - (p5.length : Int) = ((93 - p5.length : Nat) : Int) from by omega]
    have T0 := hid (S1.out.trans S2.out)
    clear hp4 hp5 hl4 hl5 HM
    go_wp2_with (first
      | (at_builtin; refine wpList_append_bytes rfl (.tmp 17) (.tmp 28) 23 tyBytes rfl (O3.out.alloc _) (HM3.out w4) rfl rfl (by rw [HP3.out, hmore.out]; omega) (by have := HS1.out; have := K3'.out.size; simp; omega) ?_; intro x1 w5 ho1 hg1
         rw [← HP4.out] at ho1
         have O5 := hid ho1
         have K5 := hid ((K3'.out.alloc (.cells #[.int .u8 part, .int .u8 parts, .int .u8 data.length] 5)).grown hg1 (fun k e => .inl (O3.out.lt k e).1))
         have HB5 := hid (HB0.out.same (S1.out.trans S2.out) |>.keep K5.out (fun g hg hm => by have := Sl.home_lt HB0.out hg; omega))
         clear c0 c1 c2 c3 c4 c5 hg1
         obtain ⟨c0, c1, c2, c3, c4, c5⟩ := HK.out _ K5.out
         obtain ⟨a5, q5, rfl, _, _⟩ := ho1.bytes.form
         clear ho1)
      | (at_builtin; refine wpList_append_bytes rfl (.tmp 30) (.tmp 32) 23 tyBytes rfl O5.out HB5.out rfl rfl (by rw [HL4.out]; omega) (by have := HS1.out; have := K5.out.size; omega) ?_; intro x2 w6 ho2 hg2
         rw [← HP5.out] at ho2
         have O6 := hid ho2
         have K6 := hid (K5.out.grown hg2 (fun k e => .inl (O5.out.lt k e).1))
         clear c0 c1 c2 c3 c4 c5 hg2
         obtain ⟨c0, c1, c2, c3, c4, c5⟩ := HK.out _ K6.out
         obtain ⟨a6, q6, rfl, _, _⟩ := ho2.bytes.form
         clear ho2)
      | (at_builtin; refine wpList_append_zeros rfl (.tmp 34) (.tmp 37) 23 3 tyBytes Try.underlying3 rfl O6.out .i64 (93 - p5.length) rfl (by exact E93.out) (by omega) (by have := HS1.out; have := K6.out.size; omega) ?_; intro x3 w7 ho3 hg3
         rw [← HI.out] at ho3
         have O7 := hid ho3
         have K7 := hid (K6.out.grown hg3 (fun k e => .inl (O6.out.lt k e).1))
         clear c0 c1 c2 c3 c4 c5 hg3
         clear ho3))
    have HIL : Hid ((Fr.inner ⟨life, era, seq, part, parts, data⟩).length ≤ 900000) := by
      have := Fr.inner_length ⟨life, era, seq, part, parts, data⟩ b5
      show _ ≤ _
      omega
    refine (crcSeal _ 5 _ _ O7.out.bytes HIL.out).mono ?_
    rintro en w8 ⟨v8, rfl, O8, S8⟩
    go_wp2_with fail
    go_ret2
    have hs7 := K7.out.size
    have hs1 := HS1.out
    exact ⟨_, rfl, O8.mono (by omega), (T0.out.keepOwn K7.out (fun k hk => by omega)).trans S8⟩
end Go.Proofs.Ytlhnpicmjjddeaa
namespace Go.Proofs.Ytlhnpicmjjddeaa
open Go.RowKit

theorem openIn_sealed (l : List UInt8) : openIn (CrcPure.sealed l) = l := by
  unfold openIn
  rw [CrcPure.sealed_length]
  unfold CrcPure.sealed
  simp
theorem openOk_sealed (l : List UInt8) : openOk (CrcPure.sealed l) = true := by
  unfold openOk
  rw [openIn_sealed]
  simp

set_option maxHeartbeats 1600000 in
set_option maxRecDepth 100000 in
theorem crcSealsWalk (va vb : Value) (e1 e2 : TypeId) (la lb : List UInt8) (w : World) (ha : Bytes w e1 va la) (hb : Bytes w e2 vb lb) :
    Calls Try.prog 5 #[va, vb] w (RetSame (.bool true) w) := by
  have H := hid crcLives
  go_enter Try.func5, Try.ntmps5
  go_wp2_with fail
  refine (r01Cut w e1 va la 300 ha).mono ?_
  rintro en w' ⟨v1, rfl, h1, rfl⟩
  go_wp2_with fail
  refine (r01Cut w e2 vb lb 300 hb).mono ?_
  rintro en w' ⟨v2, rfl, h2, rfl⟩
  have L1 : (la.take 300).length ≤ 300 := by rw [List.length_take]; omega
  have L2 : (lb.take 300).length ≤ 300 := by rw [List.length_take]; omega
  clear ha hb
  generalize la.take 300 = p at *
  generalize lb.take 300 = q at *
  go_wp2_with fail
  refine (crcSeal _ e1 _ p h1 (by omega)).mono ?_
  rintro en w1 ⟨v3, rfl, h3, S1⟩
  go_wp2_with fail
  refine (crcOpen _ 5 _ _ h3.bytes (by rw [CrcPure.sealed_length]; omega)).mono ?_
  rintro en w2 ⟨v4, rfl, h4, S2⟩
  rw [openIn_sealed] at h4
  rw [openOk_sealed]
  go_wp2_with fail
  refine (refSeal _ e1 _ p (h1.same (S1.trans S2)) (by omega)).mono ?_
  rintro en w3 ⟨v5, rfl, h5, S3⟩
  go_wp2_with fail
  refine (r01SameS _ 5 5 _ _ _ _ (h3.bytes.same (S2.trans S3)) h5.bytes).mono ?_
  rintro en w4 ⟨rfl, S4⟩
  rw [decide_eq_true rfl]
  go_wp2_with fail
  refine (r01SameS _ 5 e1 _ _ _ _ (h4.bytes.same (S3.trans S4)) (h1.same (((S1.trans S2).trans S3).trans S4))).mono ?_
  rintro en w5 ⟨rfl, S5⟩
  rw [decide_eq_true rfl]
  have T := (((S1.trans S2).trans S3).trans S4).trans S5
  replace h2 := h2.same T
  clear S1 S2 S3 S4 S5 h1 h3 h4 h5
  go_wp2_with fail
  refine (crcOpen _ e2 _ q h2 (by omega)).mono ?_
  rintro en w6 ⟨v6, rfl, h6, S6⟩
  have T6 := T.trans S6
  obtain ⟨a6, c6, rfl, f1, f2⟩ := h6.bytes.form
  obtain ⟨a2, c2, rfl, f3, f4⟩ := h2.form
  unfold maxLen at f2 f4
  have HK : Hid (openOk q = decide (CrcPure.sealed (openIn q) = q)) := rfl
  have HQ : Hid (openIn q = q.take (q.length - 3)) := rfl
  by_cases hq : q.length < 3
  · have e1 : openIn q = [] := by rw [HQ.out, show q.length - 3 = 0 from by omega]; rfl
    rw [openOk_short q hq]
    rw [e1] at *
    clear e1
    go_wp2_with fail
    refine (H.out _).mono ?_
    rintro en w7 ⟨rfl, S7⟩
    go_wp2_with fail
    go_ret
    exact ⟨rfl, T6.trans S7⟩
  · have hh := h2.head (q.length - 3) (by omega)
    rw [← HQ.out] at hh
    have HH := hid (hh.same S6)
    have hle : (openIn q).length ≤ 900000 := by rw [HQ.out, List.length_take]; omega
    have HL := hid hle
    clear hh hle
    have HS := hid (h2.same S6)
    generalize openOk q = ok at *
    go_wp2_with fail
    refine (r01SameS _ 5 e2 _ _ _ _ h6.bytes HH.out).mono ?_
    rintro en w7 ⟨rfl, S7⟩
    rw [decide_eq_true rfl]
    go_wp2_with fail
    refine (refSeal _ 5 _ _ (h6.bytes.same S7) HL.out).mono ?_
    rintro en w8 ⟨v8, rfl, h8, S8⟩
    go_wp2_with fail
    refine (r01SameS _ 5 e2 _ _ _ _ h8.bytes (HS.out.same (S7.trans S8))).mono ?_
    rintro en w9 ⟨rfl, S9⟩
    rw [← HK.out]
    go_wp2_with fail
    refine (H.out _).mono ?_
    rintro en w10 ⟨rfl, S10⟩
    go_wp2_with fail
    go_ret
    exact ⟨rfl, (((T6.trans S7).trans S8).trans S9).trans S10⟩
end Go.Proofs.Ytlhnpicmjjddeaa
namespace Go.Proofs.Ytlhnpicmjjddeaa
open Go.RowKit

set_option maxRecDepth 100000 in
theorem bClone (w : World) (e : TypeId) (v : Value) (l : List UInt8) (hb : Bytes w e v l) (hl : Hid (l.length ≤ 1000000)) :
    Calls Try.prog 99 #[v] w (RetOwn l w) := by
  obtain ⟨ao, cap, rfl, h1, h2⟩ := hb.form
  have S0 := Same.refl w
  have kn := fun (w : World) => Lib.run_eql_slice_nil (P := Try.prog) w 23 5 ao l.length cap 0 0 Try.underlying23
  cases ao with
  | none =>
    obtain ⟨_, _, _, hv, _, _, hn, _⟩ := id hb
    simp only [Value.slice.injEq] at hv
    obtain ⟨rfl, _, rfl⟩ := hv
    have hl0 : l = [] := List.eq_nil_of_length_eq_zero (by have := hn rfl; omega)
    subst hl0
    have hcap := hn rfl
    subst hcap
    simp only [Option.isNone_none, List.length_nil] at kn ⊢
    go_enter Try.func99, Try.ntmps99
    go_wp2_with fail
    go_ret
    exact ⟨_, rfl, OwnB.nil _ _, S0⟩
  | some a =>
    simp only [Option.isNone_some] at kn
    have S1 := S0.alloc (.cells #[] 5)
    have hb1 := hb.same S1
    have HO := OwnB.made_none w
    go_enter Try.func99, Try.ntmps99
    go_wp2_with (at_builtin; refine wpList_append_bytes rfl (.tmp 5) (.tmp 6) 23 tyBytes rfl HO hb1 rfl rfl (by have := hl.out; simp; omega) (by simp) ?_; intro x1 w1 ho1 hg1; simp only [List.nil_append] at ho1; have S2 := S1.grown_own HO (Nat.le_refl _) hg1)
    go_ret
    exact ⟨_, rfl, ho1, S2⟩

/-- a part of a row of bytes -/
theorem Bytes.part {w : World} {e : TypeId} {g o : Nat} {n cap : Nat} {l : List UInt8} (h : Bytes w e (.slice (some ⟨g, o, none⟩) n cap) l) (i k c : Nat) (hi : i + k ≤ l.length) (hk : k ≤ c) (hc : c ≤ maxLen) :
    Bytes w e (.slice (some ⟨g, o + i, none⟩) k c) ((l.drop i).take k) := by
  have e1 : ((l.drop i).take k).length = k := by rw [List.length_take, List.length_drop]; omega
  unfold Bytes
  rw [e1]
  refine ⟨by simp; omega, some ⟨g, o + i, none⟩, c, rfl, hk, hc, (fun x => nomatch x), ?_⟩
  cases k with
  | zero => exact .inl rfl
  | succ k =>
    obtain ⟨_, ao, cap', hv, _, _, _, h5⟩ := h
    simp only [Value.slice.injEq] at hv
    obtain ⟨rfl, hn, _⟩ := hv
    rcases h5 with h5 | ⟨g2, o2, cur, fr, hq2, hg, hx⟩
    · omega
    · cases hq2
      refine .inr ⟨g, o + i, cur, fr, rfl, hg, ?_⟩
      obtain ⟨t, ht⟩ := hx
      rw [← List.drop_drop, ← ht, List.drop_append_of_le_length (by simp; omega), ← List.map_drop, List.map_take]
      exact (List.take_prefix _ _).trans (List.prefix_append _ _)

theorem dec_early {b : List UInt8} (h : openOk b = false ∨ (openIn b).length ≠ 93 ∨ 80 < ((openIn b).getD 12 0).toNat) : dec b = none := by
  cases hd : dec b with
  | none => rfl
  | some f =>
    obtain ⟨hr, he⟩ := dec_some.1 hd
    have hlen : f.data.length ≤ 80 := (partOk_iff.1 (Fr.right_iff.1 hr).2).2.2.2.2
    subst he
    have e1 : openIn (enc f) = f.inner := openIn_sealed f.inner
    rcases h with h | h | h
    · rw [show openOk (enc f) = true from openOk_sealed f.inner] at h; cases h
    · rw [e1, f.inner_length hlen] at h; exact absurd rfl h
    · rw [e1] at h
      exfalso
      have e2 : f.inner.getD 12 0 = f.data.length.toUInt8 := by
        have hh := f.head_length
        unfold Fr.inner Fr.more
        rw [List.append_assoc, List.append_assoc, List.getD_eq_getElem?_getD, List.getElem?_append_right (by omega), hh]
        rfl
      rw [e2] at h
      have : f.data.length.toUInt8.toNat = f.data.length % 256 := by simp
      omega
/-- the fields that stand in the bytes without their sum -/
theorem fld_in (b : List UInt8) (hb : b.length = 96) (h12 : ((openIn b).getD 12 0).toNat ≤ 80) : fld (openIn b) = fld b := by
  have t : ∀ k, k ≤ 93 → (b.take 93).take k = b.take k := fun k hk => by rw [List.take_take, Nat.min_eq_left hk]
  have g : ∀ k, k < 93 → (b.take 93).getD k 0 = b.getD k 0 := fun k hk => by rw [List.getD_eq_getElem?_getD, List.getD_eq_getElem?_getD, List.getElem?_take, if_pos hk]
  have d : ∀ i k, i + k ≤ 93 → ((b.take 93).drop i).take k = (b.drop i).take k := fun i k hk => by rw [List.drop_take, List.take_take, Nat.min_eq_left (by omega)]
  unfold openIn at h12 ⊢
  rw [hb] at h12 ⊢
  simp only [Nat.reduceSub] at h12 ⊢
  have h12' := h12
  rw [g 12 (by omega)] at h12'
  unfold fld
  rw [t 3 (by omega), d 3 3 (by omega), d 6 4 (by omega), g 10 (by omega), g 11 (by omega), g 12 (by omega), d 13 _ (by omega)]
/-- what Decode makes of the fields -/
theorem dec_late {b : List UInt8} (h1 : openOk b = true) (h2 : (openIn b).length = 93) (h3 : ((openIn b).getD 12 0).toNat ≤ 80) :
    b.length = 96 ∧ fld (openIn b) = fld b := by
  have hb : b.length = 96 := by
    have : CrcPure.sealed (openIn b) = b := of_decide_eq_true h1
    have := congrArg List.length this
    rw [CrcPure.sealed_length] at this
    omega
  exact ⟨hb, fld_in b hb h3⟩
/-- a frame with a row of its own -/
def FrO (w : World) (base : Nat) (x : Value) (f : Fr) : Prop := ∃ v, x = f.agg v ∧ OwnB w base v f.data
theorem FrO.frv {w : World} {base : Nat} {x : Value} {f : Fr} (h : FrO w base x f) : FrV w x f := let ⟨v, h1, h2⟩ := h; ⟨v, 5, h1, h2.bytes⟩
def RetDec (f : Fr) (n : Int) (w : World) (en : Ending) (w' : World) : Prop := ∃ x, en = .returned (.tuple #[x, .int .i64 n]) ∧ FrO w' w.heap.size x f ∧ Same w w'
theorem decF_none {b : List UInt8} (h : dec b = none) : decF b = Fr.zero ∧ decE b = 3 := by unfold decF decE; rw [h]; exact ⟨rfl, rfl⟩
theorem decF_some {b : List UInt8} {f : Fr} (h : dec b = some f) : decF b = f ∧ decE b = 0 := by unfold decF decE; rw [h]; exact ⟨rfl, rfl⟩

/-- a box of six cells that is known whole -/
def Box6 (w : World) (b : Nat) (c0 c1 c2 c3 c4 c5 : Value) : Prop := w.heap[b]? = some (.cells #[c0, c1, c2, c3, c4, c5] 60 (0, 0))
theorem Box6.lt {w : World} {b : Nat} {c0 c1 c2 c3 c4 c5 : Value} (h : Box6 w b c0 c1 c2 c3 c4 c5) : b < w.heap.size := (Array.getElem?_eq_some_iff.1 h).1
theorem Box6.keep {w w' : World} {M : Nat → Prop} {b : Nat} {c0 c1 c2 c3 c4 c5 : Value} (h : Box6 w b c0 c1 c2 c3 c4 c5) (K : Keep M w w') (hm : ¬ M b) : Box6 w' b c0 c1 c2 c3 c4 c5 := (K.block b h.lt hm).trans h
theorem Box6.same {w w' : World} {b : Nat} {c0 c1 c2 c3 c4 c5 : Value} (h : Box6 w b c0 c1 c2 c3 c4 c5) (S : Same w w') : Box6 w' b c0 c1 c2 c3 c4 c5 := h.keep S fun x => x
theorem Box6.new (w : World) (c0 c1 c2 c3 c4 c5 : Value) : Box6 (w.alloc (.cells #[c0, c1, c2, c3, c4, c5] 60)) w.heap.size c0 c1 c2 c3 c4 c5 := heap_alloc_new w _
theorem Box6.cells {w : World} {b : Nat} {c0 c1 c2 c3 c4 c5 : Value} (h : Box6 w b c0 c1 c2 c3 c4 c5) :
    w.cell? ⟨b, 0, none⟩ = some c0 ∧ w.cell? ⟨b, 1, none⟩ = some c1 ∧ w.cell? ⟨b, 2, none⟩ = some c2 ∧ w.cell? ⟨b, 3, none⟩ = some c3 ∧ w.cell? ⟨b, 4, none⟩ = some c4 ∧ w.cell? ⟨b, 5, none⟩ = some c5 := by
  refine ⟨?_, ?_, ?_, ?_, ?_, ?_⟩
  all_goals (rw [cell_of_row w b _ _ 60 _ h]; rfl)
theorem Box6.free {w : World} {b : Nat} {c0 c1 c2 c3 c4 c5 : Value} (h : Box6 w b c0 c1 c2 c3 c4 c5) (o : Nat) : w.frozen? ⟨b, o, none⟩ = false := by
  unfold World.frozen?
  rw [h]
  by_cases h0 : 0 ≤ o <;> simp
/-- six stores into a box -/
theorem Box6.set {w : World} {b : Nat} {c0 c1 c2 c3 c4 c5 : Value} (h : Box6 w b c0 c1 c2 c3 c4 c5) (u0 u1 u2 u3 u4 u5 : Value) :
    Keep (fun k => k = b) w ((((((w.setCell ⟨b, 0, none⟩ u0).setCell ⟨b, 1, none⟩ u1).setCell ⟨b, 2, none⟩ u2).setCell ⟨b, 3, none⟩ u3).setCell ⟨b, 4, none⟩ u4).setCell ⟨b, 5, none⟩ u5) ∧
    Box6 ((((((w.setCell ⟨b, 0, none⟩ u0).setCell ⟨b, 1, none⟩ u1).setCell ⟨b, 2, none⟩ u2).setCell ⟨b, 3, none⟩ u3).setCell ⟨b, 4, none⟩ u4).setCell ⟨b, 5, none⟩ u5) b u0 u1 u2 u3 u4 u5 := by
  constructor
  · exact ((((((Keep.refl (fun k => k = b) w).setCell (p := ⟨b, 0, none⟩) (.inl rfl) _).setCell (p := ⟨b, 1, none⟩) (.inl rfl) _).setCell (p := ⟨b, 2, none⟩) (.inl rfl) _).setCell (p := ⟨b, 3, none⟩) (.inl rfl) _).setCell (p := ⟨b, 4, none⟩) (.inl rfl) _).setCell (p := ⟨b, 5, none⟩) (.inl rfl) _
  · have h0 := heap_setCell_same w b 0 _ 60 u0 h
    have h1 := heap_setCell_same _ b 1 _ 60 u1 h0
    have h2 := heap_setCell_same _ b 2 _ 60 u2 h1
    have h3 := heap_setCell_same _ b 3 _ 60 u3 h2
    have h4 := heap_setCell_same _ b 4 _ 60 u4 h3
    exact heap_setCell_same _ b 5 _ 60 u5 h4
/-- the end of a call that hands back a frame out of a box -/
theorem Same.box {w w1 : World} (S : Same w w1) {w2 : World} {b : Nat} (K : Keep (fun k => k = b) w1 w2) (hb : w.heap.size ≤ b) : Same w w2 := S.keepOwn K fun k e => by subst e; exact hb
set_option maxHeartbeats 1600000 in
set_option maxRecDepth 100000 in
theorem fDecodeEarly (w : World) (e : TypeId) (v : Value) (b : List UInt8) (hb : Bytes w e v b) (hl : b.length ≤ 900000) (h : openOk b = false ∨ (openIn b).length ≠ 93 ∨ 80 < ((openIn b).getD 12 0).toNat) :
    Calls Try.prog 48 #[v] w (RetDec (decF b) (decE b) w) := by
  have HZ := hid (decF_none (dec_early h))
  rw [HZ.out.1, HZ.out.2]
  have HO := hid (fun w' (S : Same w w') => crcOpen w' e v b (hb.same S) hl)
  have hle : (openIn b).length ≤ 900000 := by unfold openIn; rw [List.length_take]; omega
  clear hb hl
  generalize openIn b = l at *
  generalize openOk b = ok at *
  by_cases h1 : ok = false
  · subst h1
    clear h
    have HBx := hid (Box6.new w (.int .i64 0) (.int .i64 0) (.int .i64 0) (.int .i64 0) (.int .i64 0) (.slice none 0 0))
    go_enter Try.func48, Try.ntmps48
    go_wp2_with fail
    refine (HO.out _ ((Same.refl w).alloc _)).mono ?_
    rintro en w1 ⟨v1, rfl, O1, S1⟩
    have B1 := hid (HBx.out.same S1)
    have S1 := hid (((Same.refl w).alloc _).trans S1)
    obtain ⟨c0, c1, c2, c3, c4, c5⟩ := B1.out.cells
    have z0 := B1.out.free 0
    have z1 := B1.out.free 1
    have z2 := B1.out.free 2
    have z3 := B1.out.free 3
    have z4 := B1.out.free 4
    have z5 := B1.out.free 5
    obtain ⟨a1, q1, rfl, _, _⟩ := O1.bytes.form
    clear O1
    go_wp2_with fail
    obtain ⟨K2, B2⟩ := B1.out.set (.int .i64 0) (.int .i64 0) (.int .i64 0) (.int .i64 0) (.int .i64 0) (.slice none 0 0)
    obtain ⟨d0, d1, d2, d3, d4, d5⟩ := B2.cells
    refine bodyPost_ret (v := .tuple #[Fr.agg Fr.zero (.slice none 0 0), .int .i64 3]) ?_ rfl ⟨_, rfl, ⟨_, rfl, OwnB.nil _ _⟩, S1.out.box K2 (Nat.le_refl _)⟩
    simp [results, Try.results48, go_sem, d0, d1, d2, d3, d4, d5]
    rfl
  · obtain rfl : ok = true := by simpa using h1
    by_cases h2 : l.length = 93
    · have h3 : 80 < (l.getD 12 0).toNat := by
        rcases h with h | h | h
        · cases h
        · exact absurd h2 h
        · exact h
      have e12 : l.getD 12 0 = l[12]'(by omega) := by rw [List.getD_eq_getElem?_getD, List.getElem?_eq_getElem (by omega)]; rfl
      rw [e12] at h3
      have hlt : (l[12]'(by omega)).toNat < 256 := (l[12]'(by omega)).toNat_lt
      clear h h1 e12
      have HBx := hid (Box6.new w (.int .i64 0) (.int .i64 0) (.int .i64 0) (.int .i64 0) (.int .i64 0) (.slice none 0 0))
      go_enter Try.func48, Try.ntmps48
      go_wp2_with fail
      refine (HO.out _ ((Same.refl w).alloc _)).mono ?_
      rintro en w1 ⟨v1, rfl, O1, S1⟩
      have B1 := hid (HBx.out.same S1)
      have S1 := hid (((Same.refl w).alloc _).trans S1)
      obtain ⟨c0, c1, c2, c3, c4, c5⟩ := B1.out.cells
      have z0 := B1.out.free 0
      have z1 := B1.out.free 1
      have z2 := B1.out.free 2
      have z3 := B1.out.free 3
      have z4 := B1.out.free 4
      have z5 := B1.out.free 5
      obtain ⟨a1, q1, rfl, _, _⟩ := O1.bytes.form
      obtain ⟨g, o, rfl, hc⟩ := O1.bytes.cells (by omega)
      have k12 := hc 12 (by omega)
      rw [h2] at *
      clear hc h2
      generalize (l[12]'_).toNat = x at *
      have hx : decide ((80 : Int) < (x : Int)) = true := by simp; omega
      clear O1
      go_wp2_with fail
      obtain ⟨K2, B2⟩ := B1.out.set (.int .i64 0) (.int .i64 0) (.int .i64 0) (.int .i64 0) (.int .i64 0) (.slice none 0 0)
      obtain ⟨d0, d1, d2, d3, d4, d5⟩ := B2.cells
      refine bodyPost_ret (v := .tuple #[Fr.agg Fr.zero (.slice none 0 0), .int .i64 3]) ?_ rfl ⟨_, rfl, ⟨_, rfl, OwnB.nil _ _⟩, S1.out.box K2 (Nat.le_refl _)⟩
      simp [results, Try.results48, go_sem, d0, d1, d2, d3, d4, d5]
      rfl
    · have hn : ((l.length : Int) != 93) = true := by rw [bne_iff_ne]; omega
      clear h h1 h2
      have HBx := hid (Box6.new w (.int .i64 0) (.int .i64 0) (.int .i64 0) (.int .i64 0) (.int .i64 0) (.slice none 0 0))
      go_enter Try.func48, Try.ntmps48
      go_wp2_with fail
      refine (HO.out _ ((Same.refl w).alloc _)).mono ?_
      rintro en w1 ⟨v1, rfl, O1, S1⟩
      have B1 := hid (HBx.out.same S1)
      have S1 := hid (((Same.refl w).alloc _).trans S1)
      obtain ⟨c0, c1, c2, c3, c4, c5⟩ := B1.out.cells
      have z0 := B1.out.free 0
      have z1 := B1.out.free 1
      have z2 := B1.out.free 2
      have z3 := B1.out.free 3
      have z4 := B1.out.free 4
      have z5 := B1.out.free 5
      obtain ⟨a1, q1, rfl, _, _⟩ := O1.bytes.form
      clear O1
      go_wp2_with fail
      obtain ⟨K2, B2⟩ := B1.out.set (.int .i64 0) (.int .i64 0) (.int .i64 0) (.int .i64 0) (.int .i64 0) (.slice none 0 0)
      obtain ⟨d0, d1, d2, d3, d4, d5⟩ := B2.cells
      refine bodyPost_ret (v := .tuple #[Fr.agg Fr.zero (.slice none 0 0), .int .i64 3]) ?_ rfl ⟨_, rfl, ⟨_, rfl, OwnB.nil _ _⟩, S1.out.box K2 (Nat.le_refl _)⟩
      simp [results, Try.results48, go_sem, d0, d1, d2, d3, d4, d5]
      rfl
end Go.Proofs.Ytlhnpicmjjddeaa
namespace Go.Proofs.Ytlhnpicmjjddeaa
open Go.RowKit

theorem Same.drewN' {a w : World} (h : Same a w) (n : Nat) : Same a (w.drewN n) := h.drewN n
theorem dec_is (b : List UInt8) : dec b = if (fld b).right = true ∧ enc (fld b) = b then some (fld b) else none := by
  unfold dec
  by_cases h : (fld b).right = true ∧ enc (fld b) = b
  · rw [if_pos h, if_pos (by rw [Bool.and_eq_true, decide_eq_true_eq]; exact h)]
  · rw [if_neg h, if_neg (by rw [Bool.and_eq_true, decide_eq_true_eq]; exact h)]

theorem elem23 : Try.prog.underlying 23 = some (.slice (Try.prog.elem 23)) := by kernel_rfl
theorem size23 (W : World) : (sizeOf (Try.prog.elem 23)).run Try.prog W = .ok 1 W := by kernel_rfl
theorem slice03 (W : World) (g o n q : Nat) (hq : 93 ≤ q) : (Instr.sliceAt 23 (.slice (some ⟨g, o, none⟩) n q) none (some (.int .i64 3)) none).run Try.prog W = .ok (.slice (some ⟨g, o, none⟩) 3 q) W := by
  rw [run_sliceAt_slice W 23 _ _ _ _ elem23, run_slice_h W 23 _ n q elem23 .i64 3 (by omega) (by omega), size23]
  simp only [Result.andThen, sliced]
  split
  · rfl
  · simp [Addr.add]
theorem slice36 (W : World) (g o n q : Nat) (hq : 93 ≤ q) : (Instr.sliceAt 23 (.slice (some ⟨g, o, none⟩) n q) (some (.int .i64 3)) (some (.int .i64 6)) none).run Try.prog W = .ok (.slice (some ⟨g, o + 3, none⟩) 3 (q - 3)) W := by
  rw [run_sliceAt_slice W 23 _ _ _ _ elem23, run_slice_lh W 23 _ n q elem23 .i64 .i64 3 6 (by omega) (by omega) (by omega), size23]
  simp only [Result.andThen, sliced]
  rw [if_neg (by show ¬ q = 3; omega)]
  simp [Addr.add_mid]
theorem slice610 (W : World) (g o n q : Nat) (hq : 93 ≤ q) : (Instr.sliceAt 23 (.slice (some ⟨g, o, none⟩) n q) (some (.int .i64 6)) (some (.int .i64 10)) none).run Try.prog W = .ok (.slice (some ⟨g, o + 6, none⟩) 4 (q - 6)) W := by
  rw [run_sliceAt_slice W 23 _ _ _ _ elem23, run_slice_lh W 23 _ n q elem23 .i64 .i64 6 10 (by omega) (by omega) (by omega), size23]
  simp only [Result.andThen, sliced]
  rw [if_neg (by show ¬ q = 6; omega)]
  simp [Addr.add_mid]
theorem slice13 (W : World) (g o n q d : Nat) (hq : 93 ≤ q) (hd : d ≤ 80) : (Instr.sliceAt 23 (.slice (some ⟨g, o, none⟩) n q) (some (.int .i64 13)) (some (.int .i64 (13 + (d : Int)))) none).run Try.prog W = .ok (.slice (some ⟨g, o + 13, none⟩) d (q - 13)) W := by
  rw [run_sliceAt_slice W 23 _ _ _ _ elem23, run_slice_lh W 23 _ n q elem23 .i64 .i64 13 (13 + (d : Int)) (by omega) (by omega) (by omega), size23]
  simp only [Result.andThen, sliced]
  rw [if_neg (by show ¬ q = 13; omega), show (13 + (d : Int)).toNat = 13 + d from by omega]
  simp [Addr.add_mid]
theorem wrap_small {p : Nat} (h : p < 256) : IntKind.i64.wrap (p : Int) = p := by rw [IntKind.wrap_i64]; omega
theorem Keep.setCell1 {w : World} (b o : Nat) (u : Value) : Keep (fun k => k = b) w (w.setCell ⟨b, o, none⟩ u) := Keep.setCell (M := fun k => k = b) (Keep.refl _ w) (p := ⟨b, o, none⟩) (.inl rfl) u
theorem Box6.set5 {w : World} {b : Nat} {c0 c1 c2 c3 c4 c5 : Value} (h : Box6 w b c0 c1 c2 c3 c4 c5) (u : Value) : Box6 (w.setCell ⟨b, 5, none⟩ u) b c0 c1 c2 c3 c4 u := heap_setCell_same w b 5 _ 60 u h
set_option maxHeartbeats 3200000 in
set_option maxRecDepth 100000 in
theorem fDecodeLate (w : World) (e : TypeId) (v : Value) (b : List UInt8) (hb : Bytes w e v b) (hl : b.length ≤ 900000) (h1 : openOk b = true) (h2 : (openIn b).length = 93) (h3 : ((openIn b).getD 12 0).toNat ≤ 80) :
    Calls Try.prog 48 #[v] w (RetDec (decF b) (decE b) w) := by
  have HO := hid (fun w' (S : Same w w') => crcOpen w' e v b (hb.same S) hl)
  rw [h1] at HO
  obtain ⟨hb96, hf⟩ := dec_late h1 h2 h3
  have HD := hid (dec_is b)
  rw [← hf] at HD
  have HBy := hid hb
  obtain ⟨ao, cap, rfl, _, _⟩ := hb.form
  have HQ := hid (fun (w' : World) (va : Value) (ea : TypeId) (r : List UInt8) (hr : Bytes w' ea va r) (S : Same w w') => equalBytes w' ea e va _ r b hr (HBy.out.same S))
  clear hb hl h1 hf hb96
  generalize hln : openIn b = l at *
  clear hln
  have e12 : l.getD 12 0 = l[12]'(by omega) := by rw [List.getD_eq_getElem?_getD, List.getElem?_eq_getElem (by omega)]; rfl
  rw [e12] at h3
  have HFd : Hid ((fld l).data = (l.drop 13).take (l[12]'(by omega)).toNat) := by show _ = _; unfold fld; rw [← e12]
  have HF : Hid (fld l = ⟨val (l.take 3), val ((l.drop 3).take 3), val ((l.drop 6).take 4), (l[10]'(by omega)).toNat, (l[11]'(by omega)).toNat, (l.drop 13).take (l[12]'(by omega)).toNat⟩) := by
    show _ = _
    unfold fld
    rw [e12, List.getD_eq_getElem?_getD, List.getElem?_eq_getElem (by omega : 10 < l.length), List.getD_eq_getElem?_getD, List.getElem?_eq_getElem (by omega : 11 < l.length)]
    rfl
  clear e12 HFd
  have HBx := hid (Box6.new w (.int .i64 0) (.int .i64 0) (.int .i64 0) (.int .i64 0) (.int .i64 0) (.slice none 0 0))
  go_enter Try.func48, Try.ntmps48
  go_wp2_with fail
  refine (HO.out _ ((Same.refl w).alloc _)).mono ?_
  rintro en w1 ⟨v1, rfl, O1, S1⟩
  have B1 := hid (HBx.out.same S1)
  have S1 := hid (((Same.refl w).alloc _).trans S1)
  obtain ⟨a1, q1, rfl, f1, f2⟩ := O1.bytes.form
  unfold maxLen at f2
  obtain ⟨g, o, rfl, hc⟩ := O1.bytes.cells (by omega)
  have k10 := hc 10 (by omega)
  have k11 := hc 11 (by omega)
  have k12 := hc 12 (by omega)
  have hg := World.block_lt_of_cell? w1 _ k10
  have HL := hid h2
  have P0 := hid (O1.bytes.part 0 3 q1 (by omega) (by omega) (by unfold maxLen; omega))
  have P1 := hid (O1.bytes.part 3 3 (q1 - 3) (by omega) (by omega) (by unfold maxLen; omega))
  have P2 := hid (O1.bytes.part 6 4 (q1 - 6) (by omega) (by omega) (by unfold maxLen; omega))
  have P3 := hid (O1.bytes.part 13 (l[12]'(by omega)).toNat (q1 - 13) (by omega) (by omega) (by unfold maxLen; omega))
  rw [Nat.add_zero, List.drop_zero] at P0
  have G0 := hid (fun wz (S : Same w1 wz) => show Calls Try.prog 98 #[.slice (some ⟨g, o, none⟩) 3 q1] wz (fun en w' => en = .returned (.int .i64 (val (l.take 3))) ∧ wz = w') from fGet wz _ _ _ (P0.out.same S) (by rw [List.length_take]; omega))
  have G1 := hid (fun wz (S : Same w1 wz) => show Calls Try.prog 98 #[.slice (some ⟨g, o + 3, none⟩) 3 (q1 - 3)] wz (fun en w' => en = .returned (.int .i64 (val ((l.drop 3).take 3))) ∧ wz = w') from fGet wz _ _ _ (P1.out.same S) (by rw [List.length_take]; omega))
  have G2 := hid (fun wz (S : Same w1 wz) => show Calls Try.prog 98 #[.slice (some ⟨g, o + 6, none⟩) 4 (q1 - 6)] wz (fun en w' => en = .returned (.int .i64 (val ((l.drop 6).take 4))) ∧ wz = w') from fGet wz _ _ _ (P2.out.same S) (by rw [List.length_take]; omega))
  have G3 := hid (fun wz (S : Same w1 wz) => show Calls Try.prog 99 #[.slice (some ⟨g, o + 13, none⟩) (l[12]'(by omega)).toNat (q1 - 13)] wz (RetOwn ((l.drop 13).take (l[12]'(by omega)).toNat) wz) from bClone wz _ _ _ (P3.out.same S) (show _ ≤ _ by rw [List.length_take]; omega))
  clear hc P0 P1 P2 P3 O1
  have x10 : (l[10]'(by omega)).toNat < 256 := UInt8.toNat_lt _
  have x11 : (l[11]'(by omega)).toNat < 256 := UInt8.toNat_lt _
  rw [h2] at *
  generalize val (l.take 3) = n0 at *
  generalize val ((l.drop 3).take 3) = n1 at *
  generalize val ((l.drop 6).take 4) = n2 at *
  generalize (l[10]'_).toNat = p0 at *
  generalize (l[11]'_).toNat = p1 at *
  generalize hd : (l.drop 13).take (l[12]'_).toNat = dat at *
  clear hd
  generalize (l[12]'_).toNat = dn at *
  have W0 := wrap_small x10
  have W1 := wrap_small x11
  generalize fld l = F at *
  clear h2 HL
  go_wp2_with fail
  have s0 := fun W => slice03 W g o 93 q1 f1
  have s1 := fun W => slice36 W g o 93 q1 f1
  have s2 := fun W => slice610 W g o 93 q1 f1
  go_region_held3 (fun w' => w'.cell? ⟨g, o + 10, none⟩ = some (.int .u8 p0) ∧ w'.cell? ⟨g, o + 11, none⟩ = some (.int .u8 p1)) (go_keep) (first
    | (go_at_call 98; (with_reducible refine (G0.out _ (by repeat (first | exact Same.refl _ | refine Same.drew ?_ | refine Same.drewN ?_ _ | refine Same.alloc ?_ _))).mono ?_); rintro en w2 ⟨rfl, rfl⟩)
    | (go_at_call 98; (with_reducible refine (G1.out _ (by repeat (first | exact Same.refl _ | refine Same.drew ?_ | refine Same.drewN ?_ _ | refine Same.alloc ?_ _))).mono ?_); rintro en w2 ⟨rfl, rfl⟩)
    | (go_at_call 98; (with_reducible refine (G2.out _ (by repeat (first | exact Same.refl _ | refine Same.drew ?_ | refine Same.drewN ?_ _ | refine Same.alloc ?_ _))).mono ?_); rintro en w2 ⟨rfl, rfl⟩))
  all_goals
    have BF := hid (Box6.new w1 (.int .i64 n0) (.int .i64 n1) (.int .i64 n2) (.int .i64 p0) (.int .i64 p1) (.slice none 0 0))
    have S2 : Same w1 (w1.alloc (.cells #[.int .i64 n0, .int .i64 n1, .int .i64 n2, .int .i64 p0, .int .i64 p1, .slice none 0 0] 60)).drew := ((Same.refl w1).alloc _).drew
    have S2 := hid S2
    have hsz : (w1.alloc (.cells #[.int .i64 n0, .int .i64 n1, .int .i64 n2, .int .i64 p0, .int .i64 p1, .slice none 0 0] 60)).drew.heap.size = w1.heap.size + 1 := by simp
    have HSz := hid hsz
    clear s0 s1 s2 W0 W1 hsz
    have s3 := fun W => slice13 W g o 93 q1 dn f1 h3
    go_wp2_with fail
    refine (G3.out _ S2.out).mono ?_
    rintro en w3 ⟨v3, rfl, O3, S3⟩
    have BF3 := hid ((BF.out.same (Same.refl _).drew).same S3)
    have O3 := hid O3
    obtain ⟨a3, q3, rfl, _, _⟩ := O3.out.bytes.form
    have S3' := hid (S2.out.trans S3)
    clear S3 s3 k10 k11 k12 hg
    obtain ⟨c0, c1, c2, c3, c4, c5⟩ := BF3.out.cells
    have z5 := BF3.out.free 5
    have K4 := Keep.setCell1 (w := w3) w1.heap.size 5 (.slice a3 dat.length q3)
    have hO3 : ∀ k, Value.ownBlock (.slice a3 dat.length q3) = some k → k ≠ w1.heap.size := fun k hk => by have := (O3.out.lt k hk).1; rw [HSz.out] at this; omega
    have O4 := hid (O3.out.keep K4 (fun k hk e => hO3 k hk e))
    have BF4 := hid (BF3.out.set5 (.slice a3 dat.length q3))
    have S4 := hid ((S1.out.trans S3'.out).keepOwn K4 (fun k e => by subst e; exact S1.out.size))
    have B4 := hid ((B1.out.same S3'.out).keep K4 (fun e => by have := B1.out.lt; omega))
    have FV : FrV (w3.setCell ⟨w1.heap.size, 5, none⟩ (.slice a3 dat.length q3)) (.agg #[.int .i64 n0, .int .i64 n1, .int .i64 n2, .int .i64 p0, .int .i64 p1, .slice a3 dat.length q3]) F := by
      rw [HF.out]
      exact ⟨_, 5, rfl, O4.out.bytes⟩
    have HE := hid (fEncode _ _ F FV)
    have HFr := hid (show FrO (w3.setCell ⟨w1.heap.size, 5, none⟩ (.slice a3 dat.length q3)) (w1.heap.size + 1) (.agg #[.int .i64 n0, .int .i64 n1, .int .i64 n2, .int .i64 p0, .int .i64 p1, .slice a3 dat.length q3]) F from by
      rw [HF.out]
      exact ⟨_, rfl, O4.out.mono (by rw [HSz.out]; omega)⟩)
    clear K4 hO3 FV O3 S3'
    go_wp2_with fail
    refine HE.out.mono ?_
    rintro en w5 ⟨v5, rfl, O5, S5⟩
    obtain ⟨a5, q5, rfl, _, _⟩ := O5.bytes.form
    have B5 := hid (B4.out.same S5)
    have BF5 := hid (BF4.out.same S5)
    have S6 := hid (S4.out.trans S5)
    have HEq := hid (HQ.out _ _ _ _ O5.bytes S6.out)
    have HF5 := hid S5
    clear S5 O5 c0 c1 c2 c3 c4 c5 z5
    have B6 := B5
    cases hr : F.right
    · have HN : Hid (decF b = Fr.zero ∧ decE b = 3) := decF_none (by rw [HD.out, if_neg (by rw [hr]; simp)])
      have e1 : encE F = 2 := by unfold encE; rw [hr]; rfl
      rw [e1]
      clear hr e1
      obtain ⟨c0, c1, c2, c3, c4, c5⟩ := B6.out.cells
      have z0 := B6.out.free 0
      have z1 := B6.out.free 1
      have z2 := B6.out.free 2
      have z3 := B6.out.free 3
      have z4 := B6.out.free 4
      have z5 := B6.out.free 5
      go_wp2_with fail
      obtain ⟨K2, B2⟩ := B6.out.set (.int .i64 0) (.int .i64 0) (.int .i64 0) (.int .i64 0) (.int .i64 0) (.slice none 0 0)
      obtain ⟨d0, d1, d2, d3, d4, d5⟩ := B2.cells
      rw [HN.out.1, HN.out.2]
      refine bodyPost_ret (v := .tuple #[Fr.agg Fr.zero (.slice none 0 0), .int .i64 3]) ?_ rfl ⟨_, rfl, ⟨_, rfl, OwnB.nil _ _⟩, S6.out.box K2 (Nat.le_refl _)⟩
      simp [results, Try.results48, go_sem, d0, d1, d2, d3, d4, d5]
      rfl
    · have e1 : encE F = 0 := by unfold encE; rw [hr]; rfl
      have e2 : encOf F = enc F := by unfold encOf; rw [hr]; rfl
      rw [e2] at HEq
      rw [e1, e2]
      generalize hen : enc F = ef at *
      by_cases hq : ef = b
      · have HN : Hid (decF b = F ∧ decE b = 0) := decF_some (by rw [HD.out, if_pos ⟨hr, hq⟩])
        rw [decide_eq_true hq] at HEq
        clear hr e1 e2 hq hen
        go_wp2_with fail
        refine HEq.out.mono ?_
        rintro en w6 ⟨rfl, rfl⟩
        obtain ⟨c0, c1, c2, c3, c4, c5⟩ := B6.out.cells
        have z0 := B6.out.free 0
        have z1 := B6.out.free 1
        have z2 := B6.out.free 2
        have z3 := B6.out.free 3
        have z4 := B6.out.free 4
        have z5 := B6.out.free 5
        obtain ⟨y0, y1, y2, y3, y4, y5⟩ := BF5.out.cells
        go_wp2_with fail
        obtain ⟨K2, B2⟩ := B6.out.set (.int .i64 n0) (.int .i64 n1) (.int .i64 n2) (.int .i64 p0) (.int .i64 p1) (.slice a3 dat.length q3)
        obtain ⟨d0, d1, d2, d3, d4, d5⟩ := B2.cells
        rw [HN.out.1, HN.out.2]
        obtain ⟨vf, hx, hO⟩ := HFr.out
        refine bodyPost_ret (v := .tuple #[.agg #[.int .i64 n0, .int .i64 n1, .int .i64 n2, .int .i64 p0, .int .i64 p1, .slice a3 dat.length q3], .int .i64 0]) ?_ rfl ⟨_, rfl, ⟨vf, hx, ((hO.keep HF5.out (fun _ _ x => x)).keep K2 (fun k hk e => by have := (hO.lt k hk).1; have := B1.out.lt; omega)).mono (by have := S1.out.size; omega)⟩, S6.out.box K2 (Nat.le_refl _)⟩
        simp [results, Try.results48, go_sem, d0, d1, d2, d3, d4, d5]
      · have HN : Hid (decF b = Fr.zero ∧ decE b = 3) := decF_none (by rw [HD.out, if_neg (fun x => hq x.2)])
        rw [decide_eq_false hq] at HEq
        clear hr e1 e2 hq hen
        go_wp2_with fail
        refine HEq.out.mono ?_
        rintro en w6 ⟨rfl, rfl⟩
        obtain ⟨c0, c1, c2, c3, c4, c5⟩ := B6.out.cells
        have z0 := B6.out.free 0
        have z1 := B6.out.free 1
        have z2 := B6.out.free 2
        have z3 := B6.out.free 3
        have z4 := B6.out.free 4
        have z5 := B6.out.free 5
        go_wp2_with fail
        obtain ⟨K2, B2⟩ := B6.out.set (.int .i64 0) (.int .i64 0) (.int .i64 0) (.int .i64 0) (.int .i64 0) (.slice none 0 0)
        obtain ⟨d0, d1, d2, d3, d4, d5⟩ := B2.cells
        rw [HN.out.1, HN.out.2]
        refine bodyPost_ret (v := .tuple #[Fr.agg Fr.zero (.slice none 0 0), .int .i64 3]) ?_ rfl ⟨_, rfl, ⟨_, rfl, OwnB.nil _ _⟩, S6.out.box K2 (Nat.le_refl _)⟩
        simp [results, Try.results48, go_sem, d0, d1, d2, d3, d4, d5]
        rfl
/-- Decode -/
theorem fDecode (w : World) (e : TypeId) (v : Value) (b : List UInt8) (hb : Bytes w e v b) (hl : b.length ≤ 900000) : Calls Try.prog 48 #[v] w (RetDec (decF b) (decE b) w) := by
  by_cases h : openOk b = false ∨ (openIn b).length ≠ 93 ∨ 80 < ((openIn b).getD 12 0).toNat
  · exact fDecodeEarly w e v b hb hl h
  · have h1 : openOk b = true := by
      cases ho : openOk b
      · exact absurd (.inl ho) h
      · rfl
    have h2 : (openIn b).length = 93 := by
      by_cases hx : (openIn b).length = 93
      · exact hx
      · exact absurd (.inr (.inl hx)) h
    exact fDecodeLate w e v b hb hl h1 h2 (by
      rcases Nat.lt_or_ge 80 ((openIn b).getD 12 0).toNat with hx | hx
      · exact absurd (.inr (.inr hx)) h
      · exact hx)
end Go.Proofs.Ytlhnpicmjjddeaa
namespace Go.Proofs.Ytlhnpicmjjddeaa
open Go.RowKit

def cutAll (life era seq : Int) (b : List UInt8) : List (List UInt8) := if cutE life era seq b = 0 then cutL life era seq b else []
/-- a call hands back rows of its own, and a number -/
def RetCut (ls : List (List UInt8)) (n : Int) (w : World) (en : Ending) (w' : World) : Prop := ∃ v, en = .returned (.tuple #[v, .int .i64 n]) ∧ OwnR w' w.heap.size v ls ∧ Same w w'
theorem cutL_succ (life era seq : Int) (b : List UInt8) (k : Nat) (hk : k < nparts b.length) : (cutL life era seq b).take (k + 1) = (cutL life era seq b).take k ++ [enc (cutAt life era seq b k)] := by
  have h : k < (cutL life era seq b).length := by rw [cutL_length]; exact hk
  rw [List.take_succ_eq_append_getElem h, cutL_at hk]

theorem slice_from (W : World) (g o n q l : Nat) (hn : l ≤ n) (hq : l < q) : (Instr.sliceAt 23 (.slice (some ⟨g, o, none⟩) n q) (some (.int .i64 (l : Int))) none none).run Try.prog W = .ok (.slice (some ⟨g, o + l, none⟩) (n - l) (q - l)) W := by
  rw [run_sliceAt_slice W 23 _ _ _ _ elem23, run_slice_l W 23 _ n q elem23 .i64 (l : Int) (by omega) (by omega), size23]
  simp only [Result.andThen, sliced]
  rw [if_neg (by rw [Int.toNat_natCast]; omega)]
  simp [Addr.add_mid]
theorem slice_to (W : World) (a : Option Addr) (n q h : Nat) (hq : h ≤ q) : (Instr.sliceAt 23 (.slice a n q) none (some (.int .i64 (h : Int))) none).run Try.prog W = .ok (.slice a h q) W := by
  rw [run_sliceAt_slice W 23 _ _ _ _ elem23, run_slice_h W 23 _ n q elem23 .i64 (h : Int) (by omega) (by omega), size23]
  simp only [Result.andThen, sliced]
  split
  · simp
  · cases a <;> simp [Addr.add]
theorem cutAt_right_eq (life era seq : Int) (b : List UInt8) (k : Nat) (hk : k < nparts b.length) (hq : nparts b.length ≤ 255) : (cutAt life era seq b k).right = stampOk life era seq := by
  have : (chunk b k).length ≤ 80 := by unfold chunk; rw [List.length_take]; omega
  have h : partOk (k : Int) (nparts b.length : Int) (chunk b k).length = true := partOk_iff.2 ⟨by omega, by omega, by omega, by omega, this⟩
  show (stampOk life era seq && partOk (k : Int) (nparts b.length : Int) (chunk b k).length) = _
  rw [h, Bool.and_true]

set_option maxHeartbeats 3200000 in
set_option maxRecDepth 100000 in
theorem fCutGo (w : World) (e : TypeId) (v : Value) (life era seq : Int) (b : List UInt8) (hb : Bytes w e v b) (hl : b.length ≤ 30000) (h0 : b.length ≠ 0) :
    Calls Try.prog 52 #[.int .i64 life, .int .i64 era, .int .i64 seq, v] w (RetCut (cutAll life era seq b) (cutE life era seq b) w) := by
  have HBy := hid hb
  obtain ⟨ao, cap, rfl, h1, h2⟩ := hb.form
  unfold maxLen at h2
  have HE := hid fEncode
  obtain ⟨g, o, rfl, _⟩ := hb.cells h0
  clear hb
  have hqn : nparts b.length = (b.length + 79) / 80 := by unfold nparts; omega
  obtain ⟨q, hqd⟩ : ∃ q, nparts b.length = q := ⟨_, rfl⟩
  have hq1 : 1 ≤ q := by rw [← hqd]; exact nparts_pos _
  have hqb : q * 80 < b.length + 80 ∧ b.length ≤ q * 80 := by rw [hqd] at hqn; omega
  have hq : ((b.length : Int) + 80 - 1) / 80 = (q : Int) := by rw [hqd] at hqn; omega
  have HQ := hid hqd
  clear hqn hqd h0
  by_cases h255 : q ≤ 255
  · have hd255 : decide (255 < q) = false := by simp; omega
    have hd255' : decide ((255 : Int) < (q : Int)) = false := by simp; omega
    have HSt := hid (fun k (hk : k < nparts b.length) => cutAt_right_eq life era seq b k hk (by rw [HQ.out]; exact h255))
    have HCE : Hid (cutE life era seq b = if stampOk life era seq = true then 0 else 2) := by
      show _ = _
      unfold cutE
      rw [HQ.out, if_pos h255]
    have HLn := hid (cutL_length life era seq b)
    have hmx : (if (1 : Int) < (q : Int) then (q : Int) else 1) = (q : Int) := by split <;> omega
    go_enter Try.func52, Try.ntmps52
    go_wp2_with fail
    clear hmx hq
    go_loopw [11, 25] (fun out i wr => ∃ k : Nat, k ≤ q ∧ (k = 0 ∨ stampOk life era seq = true) ∧ i = .int .i64 k ∧ OwnR wr w.heap.size out ((cutL life era seq b).take k) ∧ Same w wr) (fun _ i _ => q - (intOf i).toNat)
    case atStart => exact ⟨0, Nat.zero_le _, .inl rfl, rfl, OwnR.nil _ _, Same.refl w⟩
    case round =>
      obtain ⟨k, hk, hks, rfl, hO, S⟩ := hrel
      have HO := hid hO
      have HS := hid S
      have Hks := hid hks
      clear hO S hks
      by_cases hlt : k < q
      · have hr1 : k * 80 < b.length := by omega
        obtain ⟨r, hr⟩ : ∃ r, b.length - k * 80 = r := ⟨_, rfl⟩
        obtain ⟨c', hc'⟩ : ∃ c', cap - k * 80 = c' := ⟨_, rfl⟩
        have s1 := fun W => slice_from W g o b.length cap (k * 80) (by omega) (by omega)
        rw [hr, hc'] at s1
        have hcast : ((k * 80 : Nat) : Int) = (k : Int) * 80 := by omega
        rw [hcast] at s1
        obtain ⟨m, hm⟩ : ∃ m, min r 80 = m := ⟨_, rfl⟩
        have hrc : r ≤ c' := by omega
        have s2 := fun W => slice_to W (some ⟨g, o + k * 80, none⟩) r c' m (by omega)
        have hB := (HBy.out.same HS.out).part (k * 80) m c' (by omega) (by omega) (by unfold maxLen; omega)
        have hch : (b.drop (k * 80)).take m = chunk b k := by
          unfold chunk
          rcases Nat.lt_or_ge r 80 with h | h
          · have : m = r := by omega
            rw [this, List.take_of_length_le (by rw [List.length_drop]; omega), List.take_of_length_le (by rw [List.length_drop]; omega)]
          · rw [show m = 80 from by omega]
        rw [hch] at hB
        have hlm : (chunk b k).length = m := by unfold chunk; rw [List.length_take, List.length_drop]; omega
        have FV : FrV wr (.agg #[.int .i64 life, .int .i64 era, .int .i64 seq, .int .i64 k, .int .i64 q, .slice (some ⟨g, o + k * 80, none⟩) m c']) (cutAt life era seq b k) := ⟨_, e, by unfold Fr.agg cutAt; rw [HQ.out], hB⟩
        have HEk := hid (HE.out wr _ _ FV)
        have HSk := hid (HSt.out k (by rw [HQ.out]; exact hlt))
        have HT := hid (cutL_succ life era seq b k (by rw [HQ.out]; exact hlt))
        have HLk : Hid (((cutL life era seq b).take k).length ≤ 400) := by show _ ≤ _; rw [List.length_take]; omega
        clear hB hch hlm FV hcast
        have hmn1 : (if (80 : Int) < (r : Int) then (80 : Int) else (r : Int)) = (m : Int) := by split <;> omega
        have hmn2 : (if (r : Int) < (80 : Int) then (r : Int) else (80 : Int)) = (m : Int) := by split <;> omega
        clear hm hr hc'
        go_wp2_with fail
        clear hmn1 hmn2 s1 s2
        refine HEk.out.mono ?_
        rintro en w2 ⟨v2, rfl, O2, S2⟩
        have O2 := hid O2
        obtain ⟨a2, c2, rfl, _, _⟩ := O2.out.bytes.form
        have S3 := hid (HS.out.trans S2)
        have HO3 := hid (HO.out.same S2)
        have hOf : Hid (∀ g', homeOf (.slice a2 (encOf (cutAt life era seq b k)).length c2) = some g' → w.heap.size ≤ g') := fun g' hg' => Nat.le_trans HS.out.size (O2.out.fresh g' hg')
        have e1 : encE (cutAt life era seq b k) = if stampOk life era seq = true then 0 else 2 := by unfold encE; rw [HSk.out]
        have e2 : stampOk life era seq = true → encOf (cutAt life era seq b k) = enc (cutAt life era seq b k) := fun h => by unfold encOf; rw [HSk.out, h]; rfl
        have E2 := hid e2
        rw [e1]
        clear e1 e2 S2
        generalize encOf (cutAt life era seq b k) = ec at *
        cases hst : stampOk life era seq
        · have HR : Hid (cutAll life era seq b = [] ∧ cutE life era seq b = 2) := by
            have h2 : cutE life era seq b = 2 := by rw [HCE.out, hst]; rfl
            refine ⟨?_, h2⟩
            unfold cutAll
            rw [h2]
            rfl
          rw [if_neg (by simp)]
          clear hst
          go_wp2_with fail
          go_ret2
          rw [HR.out.1, HR.out.2]
          exact ⟨_, rfl, OwnR.nil _ _, S3.out⟩
        · have Hst := hid hst
          have E3 := hid (E2.out hst)
          rw [if_pos rfl]
          clear hst
          go_wp2_with (at_builtin; refine wpList_append_rows rfl (.tmp 50) (.tmp 52) 36 tyRows rfl (HO3.out.same ((Same.refl w2).alloc _)) (one_row O2.out.bytes hOf.out).1 (one_row O2.out.bytes hOf.out).2 rfl rfl (by have := HLk.out; simp only [List.length_singleton]; omega) (by have := S3.out.size; simp; omega) ?_; intro x1 w5 ho5 K6)
          go_roundw
          case rel => exact ⟨k + 1, by omega, .inr Hst.out, by go_num, by rw [HT.out, ← E3.out]; exact ho5, (S3.out.alloc _).keepOwn K6 fun j hj => (HO3.out.lt j hj).1⟩
          case measure => simp [intOf]; omega
      · obtain rfl : k = q := by omega
        have hst : stampOk life era seq = true := by
          rcases Hks.out with h | h
          · omega
          · exact h
        have HR : Hid (cutAll life era seq b = cutL life era seq b ∧ cutE life era seq b = 0) := by
          have h2 : cutE life era seq b = 0 := by rw [HCE.out, hst]; rfl
          refine ⟨?_, h2⟩
          unfold cutAll
          rw [if_pos h2]
        have HT : Hid ((cutL life era seq b).take k = cutL life era seq b) := List.take_of_length_le (by rw [HLn.out, HQ.out]; omega)
        clear hst
        go_wp2_with fail
        go_ret2
        rw [HR.out.1, HR.out.2]
        exact ⟨_, rfl, by rw [← HT.out]; exact HO.out, HS.out⟩
  · have HR : Hid (cutAll life era seq b = [] ∧ cutE life era seq b = 6) := by
      have h2 : cutE life era seq b = 6 := by unfold cutE; rw [HQ.out, if_neg h255]
      refine ⟨?_, h2⟩
      unfold cutAll
      rw [h2]
      rfl
    have hmx : (if (1 : Int) < (q : Int) then (q : Int) else 1) = (q : Int) := by split <;> omega
    have hd255 : decide (255 < q) = true := by simp; omega
    have hd255' : decide ((255 : Int) < (q : Int)) = true := by simp; omega
    go_enter Try.func52, Try.ntmps52
    go_wp2_with fail
    go_ret2
    rw [HR.out.1, HR.out.2]
    exact ⟨_, rfl, OwnR.nil _ _, Same.refl _⟩
theorem slice_all0 (W : World) (a : Option Addr) (q : Nat) : (Instr.sliceAt 23 (.slice a 0 q) (some (.int .i64 0)) none none).run Try.prog W = .ok (.slice a 0 q) W := by
  rw [run_sliceAt_slice W 23 _ _ _ _ elem23, run_slice_l W 23 _ 0 q elem23 .i64 0 (by omega) (by omega), size23]
  simp only [Result.andThen, sliced]
  split
  · simp
  · cases a <;> simp [Addr.add]
theorem slice_to0 (W : World) (a : Option Addr) (q : Nat) : (Instr.sliceAt 23 (.slice a 0 q) none (some (.int .i64 0)) none).run Try.prog W = .ok (.slice a 0 q) W := slice_to W a 0 q 0 (by omega)
set_option maxHeartbeats 3200000 in
set_option maxRecDepth 100000 in
theorem fCutEmpty (w : World) (e : TypeId) (v : Value) (life era seq : Int) (hb : Bytes w e v []) :
    Calls Try.prog 52 #[.int .i64 life, .int .i64 era, .int .i64 seq, v] w (RetCut (cutAll life era seq []) (cutE life era seq []) w) := by
  have HBy := hid hb
  obtain ⟨ao, cap, rfl, h1, h2⟩ := hb.form
  unfold maxLen at h2
  have HE := hid fEncode
  have HSt := hid (cutAt_right_eq life era seq [] 0 (by decide) (by decide))
  have HCE : Hid (cutE life era seq [] = if stampOk life era seq = true then 0 else 2) := by
    show _ = _
    unfold cutE
    rw [if_pos (by decide)]
  have HLn : Hid (cutL life era seq [] = [enc (cutAt life era seq [] 0)]) := rfl
  have s1 := fun W => slice_all0 W ao cap
  have s2 := fun W => slice_to0 W ao cap
  simp only [List.length_nil] at *
  clear hb
  go_enter Try.func52, Try.ntmps52
  go_wp2_with fail
  go_loopw [11, 25] (fun out i wr => ∃ k : Nat, k ≤ 1 ∧ (k = 0 ∨ stampOk life era seq = true) ∧ i = .int .i64 k ∧ OwnR wr w.heap.size out ((cutL life era seq []).take k) ∧ Same w wr) (fun _ i _ => 1 - (intOf i).toNat)
  case atStart => exact ⟨0, by omega, .inl rfl, rfl, OwnR.nil _ _, Same.refl w⟩
  case round =>
    obtain ⟨k, hk, hks, rfl, hO, S⟩ := hrel
    have HO := hid hO
    have HS := hid S
    have Hks := hid hks
    clear hO S hks
    match k, hk with
    | 0, _ =>
      have FV : FrV wr (.agg #[.int .i64 life, .int .i64 era, .int .i64 seq, .int .i64 0, .int .i64 1, .slice ao 0 cap]) (cutAt life era seq [] 0) := ⟨_, e, rfl, HBy.out.same HS.out⟩
      have HEk := hid (HE.out wr _ _ FV)
      clear FV
      go_wp2_with fail
      refine HEk.out.mono ?_
      rintro en w2 ⟨v2, rfl, O2, S2⟩
      have O2 := hid O2
      obtain ⟨a2, c2, rfl, _, _⟩ := O2.out.bytes.form
      have S3 := hid (HS.out.trans S2)
      have HO3 := hid (HO.out.same S2)
      have hOf : Hid (∀ g', homeOf (.slice a2 (encOf (cutAt life era seq [] 0)).length c2) = some g' → w.heap.size ≤ g') := fun g' hg' => Nat.le_trans HS.out.size (O2.out.fresh g' hg')
      have e1 : encE (cutAt life era seq [] 0) = if stampOk life era seq = true then 0 else 2 := by unfold encE; rw [HSt.out]
      have e2 : stampOk life era seq = true → encOf (cutAt life era seq [] 0) = enc (cutAt life era seq [] 0) := fun h => by unfold encOf; rw [HSt.out, h]; rfl
      have E2 := hid e2
      rw [e1]
      clear e1 e2 S2
      generalize encOf (cutAt life era seq [] 0) = ec at *
      cases hst : stampOk life era seq
      · have HR : Hid (cutAll life era seq [] = [] ∧ cutE life era seq [] = 2) := by
          have h2 : cutE life era seq [] = 2 := by rw [HCE.out, hst]; rfl
          refine ⟨?_, h2⟩
          unfold cutAll
          rw [h2]
          rfl
        rw [if_neg (by simp)]
        clear hst
        go_wp2_with fail
        go_ret2
        rw [HR.out.1, HR.out.2]
        exact ⟨_, rfl, OwnR.nil _ _, S3.out⟩
      · have Hst := hid hst
        have E3 := hid (E2.out hst)
        rw [if_pos rfl]
        clear hst
        go_wp2_with (at_builtin; refine wpList_append_rows rfl (.tmp 50) (.tmp 52) 36 tyRows rfl (HO3.out.same ((Same.refl w2).alloc _)) (one_row O2.out.bytes hOf.out).1 (one_row O2.out.bytes hOf.out).2 rfl rfl (by simp) (by have := S3.out.size; simp; omega) ?_; intro x1 w5 ho5 K6)
        go_roundw
        case rel => exact ⟨1, by omega, .inr Hst.out, rfl, by rw [HLn.out, ← E3.out]; exact ho5, (S3.out.alloc _).keepOwn K6 fun j hj => (HO3.out.lt j hj).1⟩
        case measure => simp [intOf]
    | 1, _ =>
      have hst : stampOk life era seq = true := by
        rcases Hks.out with h | h
        · omega
        · exact h
      have HR : Hid (cutAll life era seq [] = cutL life era seq [] ∧ cutE life era seq [] = 0) := by
        have h2 : cutE life era seq [] = 0 := by rw [HCE.out, hst]; rfl
        refine ⟨?_, h2⟩
        unfold cutAll
        rw [if_pos h2]
      clear hst
      go_wp2_with fail
      go_ret2
      rw [HR.out.1, HR.out.2]
      exact ⟨_, rfl, HO.out, HS.out⟩
/-- Cut -/
theorem fCut (w : World) (e : TypeId) (v : Value) (life era seq : Int) (b : List UInt8) (hb : Bytes w e v b) (hl : b.length ≤ 30000) :
    Calls Try.prog 52 #[.int .i64 life, .int .i64 era, .int .i64 seq, v] w (RetCut (cutAll life era seq b) (cutE life era seq b) w) := by
  by_cases h0 : b.length = 0
  · obtain rfl := List.eq_nil_of_length_eq_zero h0
    exact fCutEmpty w e v life era seq hb
  · exact fCutGo w e v life era seq b hb hl h0
end Go.Proofs.Ytlhnpicmjjddeaa
namespace Go.Proofs.Ytlhnpicmjjddeaa
open Go.RowKit

/-- worlds that are w with new blocks alone -/
def After (w : World) : Type := { w' : World // Same w w' }
instance afterNonempty (w : World) : Nonempty (After w) := ⟨⟨w, Same.refl w⟩⟩
def After.to {w : World} (x : After w) : World := x.1
theorem After.same {w : World} (x : After w) : Same w x.to := x.2
theorem After.mk' {w w' : World} (h : Same w w') : ∃ x : After w, w' = x.to := ⟨⟨w', h⟩, rfl⟩
theorem wp_region_after {P : Program} {id : Nat} {Q : Exit → Act → World → Prop} {a : Act} {w : World} {l : List Oper} (hm : P.follows .mixedOrders = true) (hB : Region.lexB .any l.toArray = true)
    (h : wpQuiet P l.toArray (fun w' => ∃ x : After w, w' = x.to) (fun a' => ∀ w', (∃ x : After w, w' = x.to) → Q .normal a' w') l a) : (Code.region id l.toArray true).wp P Q a w :=
  wp_region_quiet (C := fun w' => ∃ x : After w, w' = x.to) hm hB (After.mk' (Same.refl w).drew) (by simpa using h)
/-- a contract met in such a world -/
theorem Calls.after {P : Program} {f : FuncId} {args : Array Value} {w : World} {x : After w} {v : Value} (h : Calls P f args x.to (RetSame v x.to)) :
    Calls P f args x.to fun e w'' => e = .returned v ∧ ∃ y : After w, w'' = y.to :=
  h.mono fun _ _ ⟨he, S⟩ => ⟨he, After.mk' (x.same.trans S)⟩
theorem After.cell {w : World} {p : Addr} {u : Value} (h : w.cell? p = some u) (x : After w) : x.to.cell? p = some u := (x.same.cell (World.block_lt_of_cell? w _ h)).trans h
end Go.Proofs.Ytlhnpicmjjddeaa
namespace Go.Proofs.Ytlhnpicmjjddeaa
open Go.RowKit

def stampV (f : Fr) : Value := .agg #[.int .i64 f.life, .int .i64 f.era, .int .i64 f.seq, .int .i64 f.parts]
set_option maxHeartbeats 1600000 in
set_option maxRecDepth 100000 in
theorem fStamp (w : World) (x : Value) (f : Fr) (hx : FrV w x f) : Calls Try.prog 119 #[x] w (RetSame (stampV f) w) := by
  obtain ⟨v, e, rfl, hb⟩ := hx
  obtain ⟨ao, cap, rfl, h1, h2⟩ := hb.form
  unfold Fr.agg
  go_enter Try.func119, Try.ntmps119
  go_wp2_with fail
  exact bodyPost_ret (v := .agg #[.int .i64 f.life, .int .i64 f.era, .int .i64 f.seq, .int .i64 f.parts]) (by simp [results, Try.results119, go_sem]) rfl ⟨rfl, ((Same.refl w).alloc _).alloc _⟩

theorem eq165 (a b c d a' b' c' d' : Int) (w : World) : (Op.equalIn 10000 165 (.agg #[.int .i64 a, .int .i64 b, .int .i64 c, .int .i64 d]) (.agg #[.int .i64 a', .int .i64 b', .int .i64 c', .int .i64 d'])).run Try.prog w = .ok (decide (a = a' ∧ b = b' ∧ c = c' ∧ d = d')) w := by
  have u3 := Try.underlying3
  have a3 := Try.isAgg3
  have z3 := Try.sizeOf3
  rw [show (10000 : Nat) = 9999 + 1 from rfl, Op.equalIn]
  simp only [Sem.run_bind, run_underlying Try.underlying165, Result.andThen_ok]
  simp only [Std.Legacy.Range.forIn_eq_forIn_range', Std.Legacy.Range.size, Nat.sub_zero, Nat.add_sub_cancel, Nat.div_one, List.range'_succ, List.range'_zero, List.forIn_cons, List.forIn_nil]
  go_simp
  by_cases h1 : a = a' <;> by_cases h2 : b = b' <;> by_cases h3 : c = c' <;> by_cases h4 : d = d' <;> simp [h1, h2, h3, h4]
set_option maxHeartbeats 3200000 in
set_option maxRecDepth 100000 in
theorem fFits (w : World) (x y : Value) (f d : Fr) (i : Nat) (hx : FrV w x f) (hy : FrV w y d) (hp : -9223372036854775808 ≤ f.parts - 1 ∧ f.parts ≤ 9223372036854775807) : Calls Try.prog 101 #[x, y, .int .i64 i] w (RetSame (.bool (f.fits d i)) w) := by
  have HS1 := hid (fun w' (S : Same w w') => fStamp w' x f (hx.same S))
  have HS2 := hid (fun w' (S : Same w w') => fStamp w' y d (hy.same S))
  have HR := hid (fun w' (S : Same w w') => fRight w' x f (hx.same S))
  have HT := hid (@Fr.fits_iff f d i)
  obtain ⟨v, e, rfl, hb⟩ := hx
  obtain ⟨ao, cap, rfl, h1, h2⟩ := hb.form
  obtain ⟨v', e', rfl, hb'⟩ := hy
  obtain ⟨ao', cap', rfl, h1', h2'⟩ := hb'.form
  clear hb hb'
  unfold maxLen at h2 h2'
  generalize f.fits d i = r at *
  have S2 := hid (((Same.refl w).alloc (.cells #[.int .i64 f.life, .int .i64 f.era, .int .i64 f.seq, .int .i64 f.part, .int .i64 f.parts, .slice ao f.data.length cap] 60)).alloc (.cells #[.int .i64 d.life, .int .i64 d.era, .int .i64 d.seq, .int .i64 d.part, .int .i64 d.parts, .slice ao' d.data.length cap'] 60))
  have hb1 := (Box6.new w (.int .i64 f.life) (.int .i64 f.era) (.int .i64 f.seq) (.int .i64 f.part) (.int .i64 f.parts) (.slice ao f.data.length cap)).same ((Same.refl _).alloc (.cells #[.int .i64 d.life, .int .i64 d.era, .int .i64 d.seq, .int .i64 d.part, .int .i64 d.parts, .slice ao' d.data.length cap'] 60))
  have hb2 := Box6.new (w.alloc (.cells #[.int .i64 f.life, .int .i64 f.era, .int .i64 f.seq, .int .i64 f.part, .int .i64 f.parts, .slice ao f.data.length cap] 60)) (.int .i64 d.life) (.int .i64 d.era) (.int .i64 d.seq) (.int .i64 d.part) (.int .i64 d.parts) (.slice ao' d.data.length cap')
  rw [World.size_alloc] at hb2
  have HB1 := hid hb1
  have HB2 := hid hb2
  clear hb1 hb2
  unfold stampV Fr.agg at *
  generalize f.right = rt at *
  obtain ⟨life, era, seq, part, parts, data⟩ := f
  obtain ⟨life', era', seq', part', parts', data'⟩ := d
  simp only at *
  generalize data.length = n at *
  generalize data'.length = n' at *
  go_enter Try.func101, Try.ntmps101
  go_wp2_with fail
  generalize (w.alloc (.cells #[.int .i64 life, .int .i64 era, .int .i64 seq, .int .i64 part, .int .i64 parts, .slice ao n cap] 60)).alloc (.cells #[.int .i64 life', .int .i64 era', .int .i64 seq', .int .i64 part', .int .i64 parts', .slice ao' n' cap'] 60) = W0 at *
  have A1 := hid (fun x : After W0 => Calls.after (HS1.out _ (S2.out.trans x.same)))
  have A2 := hid (fun x : After W0 => Calls.after (HS2.out _ (S2.out.trans x.same)))
  have A3 := hid (fun x : After W0 => Calls.after (HR.out _ (S2.out.trans x.same)))
  clear HS1 HS2 HR
  obtain ⟨c0, c1, c2, c3, c4, c5⟩ := HB1.out.cells
  obtain ⟨d0, d1, d2, d3, d4, d5⟩ := HB2.out.cells
  have xc0 := fun x => After.cell c0 x
  have xc1 := fun x => After.cell c1 x
  have xc2 := fun x => After.cell c2 x
  have xc3 := fun x => After.cell c3 x
  have xc4 := fun x => After.cell c4 x
  have xc5 := fun x => After.cell c5 x
  have xd0 := fun x => After.cell d0 x
  have xd1 := fun x => After.cell d1 x
  have xd2 := fun x => After.cell d2 x
  have xd3 := fun x => After.cell d3 x
  have xd4 := fun x => After.cell d4 x
  have xd5 := fun x => After.cell d5 x
  by_cases hA : life = life' ∧ era = era' ∧ seq = seq' ∧ parts = parts'
  · obtain ⟨rfl, rfl, rfl, rfl⟩ := hA
    have hq : ∀ W, (Op.equalIn 10000 165 (.agg #[.int .i64 life, .int .i64 era, .int .i64 seq, .int .i64 parts]) (.agg #[.int .i64 life, .int .i64 era, .int .i64 seq, .int .i64 parts])).run Try.prog W = .ok true W := fun W => by rw [eq165, decide_eq_true ⟨rfl, rfl, rfl, rfl⟩]
    clear c0 c1 c2 c3 c4 c5 d0 d1 d2 d3 d4 d5
    by_cases hP : part = (i : Int)
    · have hPb : (part == (i : Int)) = true := by rw [beq_iff_eq]; exact hP
      cases rt
      · have hr : r = false := by
          cases r
          · rfl
          · exact absurd (HT.out.1 rfl).2.2.1 (by simp)
        subst hr
        clear HT hP
        refine wp_region_after (by kernel_rfl) (by kernel_rfl) ?_
        repeat (go_big_quiet_step (first
          | (go_at_call 119; with_reducible exact A1.out _)
          | (go_at_call 119; with_reducible exact A2.out _)
          | (go_at_call 94; with_reducible exact A3.out _)))
        refine wpQuiet_nil ?_
        intro _ hw'
        obtain ⟨x5, hw''⟩ := hw'
        subst hw''
        have T5 := hid (S2.out.trans x5.same)
        clear S2
        go_wp2_with fail
        go_ret
        exact ⟨rfl, T5.out⟩
      · have hwr : IntKind.i64.wrap (parts - 1) = parts - 1 := by rw [IntKind.wrap_i64]; omega
        by_cases hL : (i : Int) = parts - 1
        · have hr : r = true := HT.out.2 ⟨⟨rfl, rfl, rfl, rfl⟩, hP, rfl, .inl hL⟩
          have hLb : ((i : Int) == parts - 1) = true := by rw [beq_iff_eq]; exact hL
          subst hr
          clear HT hP hL hp
          refine wp_region_after (by kernel_rfl) (by kernel_rfl) ?_
          repeat (go_big_quiet_step (first
            | (go_at_call 119; with_reducible exact A1.out _)
            | (go_at_call 119; with_reducible exact A2.out _)
            | (go_at_call 94; with_reducible exact A3.out _)))
          refine wpQuiet_nil ?_
          intro _ hw'
          obtain ⟨x5, hw''⟩ := hw'
          subst hw''
          have T5 := hid (S2.out.trans x5.same)
          clear S2
          go_wp2_with fail
          go_ret
          exact ⟨rfl, T5.out⟩
        · have hLb : ((i : Int) == parts - 1) = false := by rw [beq_eq_false_iff_ne]; exact hL
          by_cases h80 : n = 80
          · have hr : r = true := HT.out.2 ⟨⟨rfl, rfl, rfl, rfl⟩, hP, rfl, .inr h80⟩
            have h8b : ((n : Int) == 80) = true := by rw [beq_iff_eq]; omega
            subst hr
            clear HT hP hL hp h80
            refine wp_region_after (by kernel_rfl) (by kernel_rfl) ?_
            repeat (go_big_quiet_step (first
              | (go_at_call 119; with_reducible exact A1.out _)
              | (go_at_call 119; with_reducible exact A2.out _)
              | (go_at_call 94; with_reducible exact A3.out _)))
            refine wpQuiet_nil ?_
            intro _ hw'
            obtain ⟨x5, hw''⟩ := hw'
            subst hw''
            have T5 := hid (S2.out.trans x5.same)
            clear S2
            go_wp2_with fail
            go_ret
            exact ⟨rfl, T5.out⟩
          · have hr : r = false := by
              cases r
              · rfl
              · rcases (HT.out.1 rfl).2.2.2 with h | h
                · exact absurd h hL
                · exact absurd h h80
            have h8b : ((n : Int) == 80) = false := by rw [beq_eq_false_iff_ne]; omega
            subst hr
            clear HT hP hL hp h80
            refine wp_region_after (by kernel_rfl) (by kernel_rfl) ?_
            repeat (go_big_quiet_step (first
              | (go_at_call 119; with_reducible exact A1.out _)
              | (go_at_call 119; with_reducible exact A2.out _)
              | (go_at_call 94; with_reducible exact A3.out _)))
            refine wpQuiet_nil ?_
            intro _ hw'
            obtain ⟨x5, hw''⟩ := hw'
            subst hw''
            have T5 := hid (S2.out.trans x5.same)
            clear S2
            go_wp2_with fail
            go_ret
            exact ⟨rfl, T5.out⟩
    · have hPb : (part == (i : Int)) = false := by rw [beq_eq_false_iff_ne]; exact hP
      have hr : r = false := by
        cases r
        · rfl
        · exact absurd (HT.out.1 rfl).2.1 hP
      subst hr
      clear HT hP
      refine wp_region_after (by kernel_rfl) (by kernel_rfl) ?_
      repeat (go_big_quiet_step (first
        | (go_at_call 119; with_reducible exact A1.out _)
        | (go_at_call 119; with_reducible exact A2.out _)
        | (go_at_call 94; with_reducible exact A3.out _)))
      refine wpQuiet_nil ?_
      intro _ hw'
      obtain ⟨x5, hw''⟩ := hw'
      subst hw''
      have T5 := hid (S2.out.trans x5.same)
      clear S2
      go_wp2_with fail
      go_ret
      exact ⟨rfl, T5.out⟩
  · have hr : r = false := by
      cases r
      · rfl
      · exact absurd (HT.out.1 rfl).1 hA
    subst hr
    have hq : ∀ W, (Op.equalIn 10000 165 (.agg #[.int .i64 life, .int .i64 era, .int .i64 seq, .int .i64 parts]) (.agg #[.int .i64 life', .int .i64 era', .int .i64 seq', .int .i64 parts'])).run Try.prog W = .ok false W := fun W => by rw [eq165, decide_eq_false hA]
    clear hA HT
    clear c0 c1 c2 c3 c4 c5 d0 d1 d2 d3 d4 d5
    refine wp_region_after (by kernel_rfl) (by kernel_rfl) ?_
    repeat (go_big_quiet_step (first
      | (go_at_call 119; with_reducible exact A1.out _)
      | (go_at_call 119; with_reducible exact A2.out _)
      | (go_at_call 94; with_reducible exact A3.out _)))
    refine wpQuiet_nil ?_
    intro _ hw'
    obtain ⟨x5, hw''⟩ := hw'
    subst hw''
    have T5 := hid (S2.out.trans x5.same)
    clear S2
    go_wp2_with fail
    go_ret
    exact ⟨rfl, T5.out⟩
end Go.Proofs.Ytlhnpicmjjddeaa
namespace Go.Proofs.Ytlhnpicmjjddeaa
open Go.RowKit

theorem tyFrames : RowTy Try.prog 77 60 6 64 (.agg #[.int .i64 0, .int .i64 0, .int .i64 0, .int .i64 0, .int .i64 0, .slice none 0 0]) := ⟨Try.underlying77, by kernel_rfl, rfl, by decide⟩
/-- a frame and where its bytes lie -/
abbrev FV := Fr × Value
def FV.cells (p : FV) : List Value := [.int .i64 p.1.life, .int .i64 p.1.era, .int .i64 p.1.seq, .int .i64 p.1.part, .int .i64 p.1.parts, p.2]
theorem flatF_at : ∀ (L : List FV) (k j : Nat) (hk : k < L.length), j < 6 → (L.flatMap FV.cells)[k * 6 + j]? = (FV.cells L[k])[j]?
  | [], k, j, hk, _ => absurd hk (Nat.not_lt_zero k)
  | x :: L, 0, j, _, hj => by
    rw [List.flatMap_cons, List.getElem?_append_left (by simp [FV.cells]; omega)]
    simp
  | x :: L, k + 1, j, hk, hj => by
    rw [List.flatMap_cons, List.getElem?_append_right (by simp [FV.cells]; omega), show (FV.cells x).length = 6 from rfl, show (k + 1) * 6 + j - 6 = k * 6 + j from by omega]
    exact flatF_at L k j (by simpa using hk) hj
theorem flatF_length (L : List FV) : (L.flatMap FV.cells).length = L.length * 6 := by
  induction L with
  | nil => rfl
  | cons x L ih => rw [List.flatMap_cons, List.length_append, ih]; simp [FV.cells]; omega
/-- The slice value v holds these frames. -/
def Frs (w : World) (e : TypeId) (v : Value) (L : List Fr) : Prop := ∃ P : List FV, P.map Prod.fst = L ∧ Sl w e 6 v L.length (P.flatMap FV.cells) ∧ ∀ p ∈ P, ∃ e', Bytes w e' p.2 p.1.data
theorem Frs.form {w : World} {e : TypeId} {v : Value} {L : List Fr} (h : Frs w e v L) : ∃ ao cap, v = .slice ao L.length cap ∧ L.length ≤ cap ∧ cap ≤ maxLen := let ⟨_, _, h2, _⟩ := h; Sl.form h2
theorem Frs.nil (w : World) (e : TypeId) : Frs w e (.slice none 0 0) [] := ⟨[], rfl, Sl.nil w e 6, by simp⟩
theorem Frs.same {w w' : World} {e : TypeId} {v : Value} {L : List Fr} (h : Frs w e v L) (S : Same w w') : Frs w' e v L :=
  let ⟨P, h1, h2, h3⟩ := h; ⟨P, h1, h2.same S, fun p hp => let ⟨e', hb⟩ := h3 p hp; ⟨e', hb.same S⟩⟩
/-- the six cells of a frame -/
def Cells6 (w : World) (g o : Nat) (f : Fr) (u : Value) : Prop :=
  w.cell? ⟨g, o, none⟩ = some (.int .i64 f.life) ∧ w.cell? ⟨g, o + 1, none⟩ = some (.int .i64 f.era) ∧ w.cell? ⟨g, o + 2, none⟩ = some (.int .i64 f.seq) ∧
  w.cell? ⟨g, o + 3, none⟩ = some (.int .i64 f.part) ∧ w.cell? ⟨g, o + 4, none⟩ = some (.int .i64 f.parts) ∧ w.cell? ⟨g, o + 5, none⟩ = some u
theorem Frs.rows {w : World} {e : TypeId} {ao : Option Addr} {cap : Nat} {L : List Fr} (h : Frs w e (.slice ao L.length cap) L) (hn : L.length ≠ 0) :
    ∃ g o, ao = some ⟨g, o, none⟩ ∧ ∀ k (hk : k < L.length), ∃ a c e', Cells6 w g (o + k * 6) L[k] (.slice a L[k].data.length c) ∧ Bytes w e' (.slice a L[k].data.length c) L[k].data := by
  obtain ⟨P, h1, h2, h3⟩ := h
  obtain ⟨g, o, rfl, hc⟩ := h2.cells hn
  refine ⟨g, o, rfl, fun k hk => ?_⟩
  have hkP : k < P.length := by rw [← h1, List.length_map] at hk; exact hk
  have hLk : L[k] = P[k].1 := by simp [← h1]
  obtain ⟨e', hb⟩ := h3 P[k] (List.getElem_mem hkP)
  obtain ⟨a, c, hv, _, _⟩ := hb.form
  rw [hLk]
  have cc : ∀ j u, j < 6 → (FV.cells P[k])[j]? = some u → w.cell? ⟨g, o + k * 6 + j, none⟩ = some u := fun j u hj hu => by
    rw [Nat.add_assoc]
    exact hc (k * 6 + j) u (by rw [flatF_at P k j hkP hj]; exact hu)
  rw [hv] at hb
  refine ⟨a, c, e', ⟨by have := cc 0 _ (by omega) rfl; simpa using this, cc 1 _ (by omega) rfl, cc 2 _ (by omega) rfl, cc 3 _ (by omega) rfl, cc 4 _ (by omega) rfl, ?_⟩, hb⟩
  rw [← hv]
  exact cc 5 _ (by omega) rfl
/-- A row of frames of the call's own; the bytes of its frames lie in blocks of bytes. -/
def OwnF (w : World) (base : Nat) (v : Value) (L : List Fr) : Prop := ∃ P : List FV, P.map Prod.fst = L ∧ w.ownsRow base 60 6 v L.length (P.flatMap FV.cells) ∧ ∀ p ∈ P, Bytes w 5 p.2 p.1.data
theorem OwnF.frs {w : World} {base : Nat} {v : Value} {L : List Fr} (h : OwnF w base v L) : Frs w 60 v L := let ⟨P, h1, h2, h3⟩ := h; ⟨P, h1, Sl.of_owns h2, fun p hp => ⟨5, h3 p hp⟩⟩
theorem OwnF.nil (w : World) (base : Nat) : OwnF w base (.slice none 0 0) [] := ⟨[], rfl, World.ownsRow_nil w base 60 6, by simp⟩
theorem OwnF.same {w w' : World} {base : Nat} {v : Value} {L : List Fr} (h : OwnF w base v L) (S : Same w w') : OwnF w' base v L :=
  let ⟨P, h1, h2, h3⟩ := h; ⟨P, h1, owns_keep h2 S fun _ _ x => x, fun p hp => (h3 p hp).same S⟩
theorem OwnF.lt {w : World} {base : Nat} {v : Value} {L : List Fr} (h : OwnF w base v L) : ∀ k, v.ownBlock = some k → base ≤ k ∧ k < w.heap.size := fun k e => let ⟨_, _, h2, _⟩ := h; World.ownsRow.lt h2 k e
theorem bytes_block {w : World} {u : Value} {l : List UInt8} (hu : Bytes w 5 u l) {g : Nat} (hg : homeOf u = some g) : ∃ cur fr, w.heap[g]? = some (.cells cur 5 fr) := by
  obtain ⟨_, ao, cap, rfl, _, _, _, h5⟩ := hu
  rcases h5 with h5 | ⟨g', o, cur, fr, rfl, hg', _⟩
  · rw [h5] at hg; cases ao <;> simp [homeOf] at hg
  · cases hl : l.length with
    | zero => rw [hl] at hg; simp [homeOf] at hg
    | succ n => rw [hl] at hg; simp [homeOf] at hg; subst hg; exact ⟨cur, fr, hg'⟩
theorem owns_block {w : World} {base : Nat} {e : TypeId} {size : Nat} {v : Value} {n : Nat} {xs : List Value} (h : w.ownsRow base e size v n xs) {g : Nat} (hg : v.ownBlock = some g) : ∃ cur, w.heap[g]? = some (.cells cur e (0, 0)) := by
  rcases h.2 with ⟨rfl, _⟩ | ⟨g', cap, cur', rfl, b, c, d⟩
  · simp [Value.ownBlock] at hg
  · simp [Value.ownBlock] at hg
    subst hg
    exact ⟨cur', c⟩
/-- a frame in a row that was just laid -/
theorem one_frame (w : World) (f : Fr) (u : Value) :
    Sl (w.alloc (.cells #[.int .i64 f.life, .int .i64 f.era, .int .i64 f.seq, .int .i64 f.part, .int .i64 f.parts, u] 60)) 60 6 (.slice (some ⟨w.heap.size, 0, none⟩) 1 1) 1 (FV.cells (f, u)) :=
  Sl.made 60 6 w.heap.size 1 1 _ _ (heap_alloc_new w _) (Nat.le_refl _) (by decide) rfl ⟨[], rfl⟩
/-- append of one frame -/
theorem wpList_append_frame {P : Program} {w : World} {ops : Array Oper} {rest : List Oper} {o : Oper} {a : Act} {Q : Exit → Act → World → Prop} (hgd : o.guard = none) (s x : Operand)
    (t : TypeId) (T : RowTy P t 60 6 64 (.agg #[.int .i64 0, .int .i64 0, .int .i64 0, .int .i64 0, .int .i64 0, .slice none 0 0])) (ho : o.op = .call { callee := .builtin .append, args := #[s, x], argTypes := #[t, t] })
    {base : Nat} {v : Value} {L : List Fr} (hown : OwnF w base v L) {f : Fr} {u : Value} {e' : TypeId} {y : Value} (hy : Sl w e' 6 y 1 (FV.cells (f, u))) (hu : Bytes w 5 u f.data) (hs : a.eval s = v) (hx : a.eval x = y)
    (hb : L.length ≤ 1000000) (hbase : base ≤ w.heap.size)
    (h : ∀ v' w', OwnF w' base v' (L ++ [f]) → Keep (fun k => v.ownBlock = some k) w w' → wpList P ops Q rest (a.put o.dst v') w') : wpList P ops Q (o :: rest) a w := by
  obtain ⟨P0, h1, h2, h3⟩ := id hown
  have hone : ∀ z ∈ FV.cells (f, u), z.oneCell' = true := by
    intro z hz
    simp [FV.cells] at hz
    rcases hz with rfl | rfl | rfl | rfl | rfl | rfl
    · rfl
    · rfl
    · rfl
    · rfl
    · rfl
    · exact hu.one
  refine wpList_append_sl hgd s x T ho h2 hy hs hx hone (by unfold maxLen; omega) (by omega) hbase ?_
  intro v' w' q1 q2
  have K : Keep (fun k => v.ownBlock = some k) w w' := (Keep.refl _ w).grown q2 fun k e => .inl e
  have keepB : ∀ {u0 : Value} {l0 : List UInt8}, Bytes w 5 u0 l0 → Bytes w' 5 u0 l0 := fun {u0 l0} hb => hb.keep K fun g hg hm => by
    obtain ⟨c1, f1, e1⟩ := bytes_block hb hg
    obtain ⟨c2, e2⟩ := owns_block h2 hm
    rw [e1] at e2
    simp at e2
  refine h v' w' ⟨P0 ++ [(f, u)], by simp [h1], by rw [List.length_append, List.flatMap_append]; simpa using q1, fun p hp => ?_⟩ K
  rcases List.mem_append.1 hp with hp | hp
  · exact keepB (h3 p hp)
  · simp at hp
    subst hp
    exact keepB hu
end Go.Proofs.Ytlhnpicmjjddeaa
namespace Go.Proofs.Ytlhnpicmjjddeaa
open Go.RowKit

/-! rows of bytes that lie anywhere, in an array of the call's own -/
def OwnA (w : World) (base : Nat) (v : Value) (ls : List (List UInt8)) : Prop :=
  ∃ us, w.ownsRow base 23 1 v ls.length us ∧ ∀ i (h : i < ls.length) u, us[i]? = some u → (∃ e', Bytes w e' u ls[i]) ∧ ∀ g, homeOf u = some g → g < base
theorem OwnA.nil (w : World) (base : Nat) : OwnA w base (.slice none 0 0) [] := ⟨[], World.ownsRow_nil w base 23 1, fun _ h => absurd h (Nat.not_lt_zero _)⟩
theorem OwnA.rows {w : World} {base : Nat} {v : Value} {ls : List (List UInt8)} (h : OwnA w base v ls) : Rows2 w 23 v ls := by
  obtain ⟨us, h1, h2⟩ := h
  exact ⟨us, by have := h1.1; omega, Sl.of_owns h1, fun i hi u hu => (h2 i hi u hu).1⟩
theorem OwnA.lt {w : World} {base : Nat} {v : Value} {ls : List (List UInt8)} (h : OwnA w base v ls) : ∀ k, v.ownBlock = some k → base ≤ k ∧ k < w.heap.size := fun k e => let ⟨_, h1, _⟩ := h; World.ownsRow.lt h1 k e
theorem OwnA.same {w w' : World} {base : Nat} {v : Value} {ls : List (List UInt8)} (h : OwnA w base v ls) (S : Same w w') : OwnA w' base v ls :=
  let ⟨us, h1, h2⟩ := h; ⟨us, owns_keep h1 S fun _ _ x => x, fun i hi u hu => let ⟨⟨e', hb⟩, hn⟩ := h2 i hi u hu; ⟨⟨e', hb.same S⟩, hn⟩⟩
theorem wpList_append_any {P : Program} {w : World} {ops : Array Oper} {rest : List Oper} {o : Oper} {a : Act} {Q : Exit → Act → World → Prop} (hgd : o.guard = none) (s x : Operand)
    (t : TypeId) (T : RowTy P t 23 1 24 (.slice none 0 0)) (ho : o.op = .call { callee := .builtin .append, args := #[s, x], argTypes := #[t, t] })
    {base : Nat} {v : Value} {ls : List (List UInt8)} (hown : OwnA w base v ls) {e' e2 : TypeId} {y u : Value} {l : List UInt8} (hy : Sl w e' 1 y 1 [u]) (hu : Bytes w e2 u l) (hn : ∀ g, homeOf u = some g → g < base)
    (hs : a.eval s = v) (hx : a.eval x = y) (hb : ls.length ≤ 1000000) (hbase : base ≤ w.heap.size)
    (h : ∀ v' w', OwnA w' base v' (ls ++ [l]) → Keep (fun k => v.ownBlock = some k) w w' → wpList P ops Q rest (a.put o.dst v') w') : wpList P ops Q (o :: rest) a w := by
  obtain ⟨us0, h1, h2⟩ := id hown
  refine wpList_append_sl hgd s x T ho h1 hy hs hx ?_ (by unfold maxLen; omega) (by omega) hbase ?_
  · intro z hz
    simp at hz
    subst hz
    exact hu.one
  · intro v' w' h3 h4
    have K : Keep (fun k => v.ownBlock = some k) w w' := (Keep.refl _ w).grown h4 fun k e => .inl e
    refine h v' w' ⟨us0 ++ [u], by rw [List.length_append]; exact h3, ?_⟩ K
    have h0 : us0.length = ls.length := by have := h1.1; omega
    intro i hi z hz
    rw [List.length_append] at hi
    rcases Nat.lt_or_ge i ls.length with hl | hl
    · rw [List.getElem?_append_left (by omega)] at hz
      rw [List.getElem_append_left hl]
      obtain ⟨⟨e', q1⟩, q2⟩ := h2 i hl z hz
      exact ⟨⟨e', q1.keep K fun g hg hm => by have := q2 g hg; have := (hown.lt g hm).1; omega⟩, q2⟩
    · simp only [List.length_singleton] at hi
      obtain rfl : i = ls.length := by omega
      rw [List.getElem?_append_right (by omega), h0] at hz
      simp at hz
      subst hz
      rw [List.getElem_append_right (Nat.le_refl _)]
      simp only [Nat.sub_self, List.getElem_cons_zero]
      exact ⟨⟨e2, hu.keep K fun g hg hm => by have := hn g hg; have := (hown.lt g hm).1; omega⟩, hn⟩

def joinsB (L : List Fr) : Bool := match L with
  | [] => false
  | f :: _ => decide ((L.length : Int) = f.parts) && (List.range L.length).all fun i => ((L[i]?).map fun g => g.fits f i).getD false
theorem joinsB_iff {L : List Fr} : joinsB L = true ↔ Joins L := by
  cases L with
  | nil => simp [joinsB, Joins]
  | cons f L =>
    unfold joinsB Joins
    simp only [Bool.and_eq_true, decide_eq_true_eq, List.all_eq_true, List.mem_range]
    constructor
    · rintro ⟨h1, h2⟩
      refine ⟨f, rfl, h1, fun i g hg => ?_⟩
      have hi := (List.getElem?_eq_some_iff.1 hg).1
      have := h2 i hi
      rw [hg] at this
      exact this
    · rintro ⟨d, hd, h1, h2⟩
      simp at hd
      subst hd
      refine ⟨h1, fun i hi => ?_⟩
      rw [List.getElem?_eq_getElem hi]
      exact h2 i _ (List.getElem?_eq_getElem hi)
def joinOf (L : List Fr) : List UInt8 := if joinsB L then joined L else []
/-- the bytes of the first k frames -/
def datas (L : List Fr) (k : Nat) : List (List UInt8) := (L.take k).map (·.data)
theorem datas_succ (L : List Fr) (k : Nat) (hk : k < L.length) : datas L (k + 1) = datas L k ++ [L[k].data] := by
  unfold datas; rw [List.take_succ_eq_append_getElem hk, List.map_append]; rfl
theorem datas_length (L : List Fr) (k : Nat) (hk : k ≤ L.length) : (datas L k).length = k := by unfold datas; simp; omega
theorem datas_all (L : List Fr) : (datas L L.length).flatten = joined L := by unfold datas joined; rw [List.take_length]
theorem joined_length (L : List Fr) (h : ∀ f ∈ L, f.data.length ≤ 80) : (joined L).length ≤ L.length * 80 := by
  unfold joined
  induction L with
  | nil => simp
  | cons f L ih =>
    have h1 := ih fun g hg => h g (List.mem_cons_of_mem _ hg)
    have h2 := h f (List.mem_cons_self ..)
    simp only [List.map_cons, List.flatten_cons, List.length_append, List.length_cons]
    omega
/-- frames as Decode hands them back -/
def Small (L : List Fr) : Prop := ∀ f ∈ L, 0 ≤ f.parts ∧ f.parts ≤ 255 ∧ f.data.length ≤ 80

theorem Cells6.same {w w' : World} {g o : Nat} {f : Fr} {u : Value} (h : Cells6 w g o f u) (S : Same w w') : Cells6 w' g o f u := by
  obtain ⟨c0, c1, c2, c3, c4, c5⟩ := h
  have hg := World.block_lt_of_cell? w _ c0
  refine ⟨?_, ?_, ?_, ?_, ?_, ?_⟩
  · rw [S.cell (p := ⟨g, o, none⟩) hg]; exact c0
  · rw [S.cell (p := ⟨g, o + 1, none⟩) hg]; exact c1
  · rw [S.cell (p := ⟨g, o + 2, none⟩) hg]; exact c2
  · rw [S.cell (p := ⟨g, o + 3, none⟩) hg]; exact c3
  · rw [S.cell (p := ⟨g, o + 4, none⟩) hg]; exact c4
  · rw [S.cell (p := ⟨g, o + 5, none⟩) hg]; exact c5
theorem allfits_to {L : List Fr} {f : Fr} (h : ∀ j (hj : j < L.length), L[j].fits f j = true) : (List.range L.length).all (fun i => ((L[i]?).map fun g => g.fits f i).getD false) = true := by
  rw [List.all_eq_true]
  intro i hi
  rw [List.mem_range] at hi
  rw [List.getElem?_eq_getElem hi]
  exact h i hi
theorem allfits_no {L : List Fr} {f : Fr} {k : Nat} (hk : k < L.length) (h : L[k].fits f k = false) : (List.range L.length).all (fun i => ((L[i]?).map fun g => g.fits f i).getD false) = false := by
  rw [List.all_eq_false]
  refine ⟨k, List.mem_range.2 hk, ?_⟩
  rw [List.getElem?_eq_getElem hk]
  simp [h]
set_option maxHeartbeats 3200000 in
set_option maxRecDepth 100000 in
theorem fJoin (w : World) (e : TypeId) (v : Value) (L : List Fr) (hL : Frs w e v L) (hs : Small L) (hn : L.length ≤ 5000) : Calls Try.prog 54 #[v] w (RetOpen (joinOf L) (joinsB L) w) := by
  obtain ⟨ao, cap, rfl, h1, h2⟩ := hL.form
  unfold maxLen at h2
  by_cases h0 : L.length = 0
  · obtain rfl := List.eq_nil_of_length_eq_zero h0
    go_enter Try.func54, Try.ntmps54
    go_wp2_with fail
    go_ret2
    exact ⟨_, rfl, OwnB.nil _ _, Same.refl _⟩
  · have hpos : 0 < L.length := by omega
    obtain ⟨g, o, rfl, hrow⟩ := hL.rows h0
    have HRow := hid hrow
    have HL := hid hL
    have Hs := hid hs
    obtain ⟨a0, c0, e0, hc0, hb0⟩ := hrow 0 hpos
    rw [Nat.zero_mul, Nat.add_zero] at hc0
    have hJ : joinsB L = (decide ((L.length : Int) = (L[0]'hpos).parts) && (List.range L.length).all fun i => ((L[i]?).map fun g => g.fits (L[0]'hpos) i).getD false) := by
      cases L with
      | nil => exact absurd rfl h0
      | cons f L => rfl
    have HJ := hid hJ
    have HB0 := hid hb0
    have hlenI : ((L.length : Int) == 0) = false := by rw [beq_eq_false_iff_ne]; omega
    clear hL hs hrow hJ hb0
    obtain ⟨d0, d1, d2, d3, d4, d5⟩ := hc0
    by_cases hp : (L.length : Int) = (L[0]'hpos).parts
    · have hpb : ((L.length : Int) != (L[0]'hpos).parts) = false := by rw [bne_eq_false_iff_eq]; exact hp
      have HF := hid fFits
      have HJ2 : Hid (joinsB L = (List.range L.length).all fun i => ((L[i]?).map fun g => g.fits (L[0]'hpos) i).getD false) := by
        show _ = _
        rw [HJ.out, decide_eq_true hp, Bool.true_and]
      have hsm := Hs.out _ (List.getElem_mem hpos)
      have C0 := hid (show Cells6 w g o (L[0]'hpos) _ from ⟨d0, d1, d2, d3, d4, d5⟩)
      clear hp
      go_enter Try.func54, Try.ntmps54
      go_wp2_with fail
      go_loopw [4, 21] (fun out i wr => ∃ k : Nat, k ≤ L.length ∧ i = .int .i64 k ∧ OwnA wr w.heap.size out (datas L k) ∧ Same w wr ∧ ∀ j (hj : j < L.length), j < k → L[j].fits (L[0]'hpos) j = true) (fun _ i _ => L.length - (intOf i).toNat)
      case atStart => exact ⟨0, Nat.zero_le _, rfl, OwnA.nil _ _, Same.refl w, fun j _ hj => absurd hj (Nat.not_lt_zero j)⟩
      case round =>
        obtain ⟨k, hk, rfl, hO, S, hf⟩ := hrel
        have HO := hid hO
        have HS := hid S
        have Hf := hid hf
        clear hO S hf d0 d1 d2 d3 d4 d5
        by_cases hlt : k < L.length
        · obtain ⟨a, c, e', hck, hbk⟩ := HRow.out k hlt
          have hhome : Hid (∀ g', homeOf (.slice a L[k].data.length c) = some g' → g' < w.heap.size) := fun g' hg' => Sl.home_lt hbk hg'
          have hsk := Hs.out _ (List.getElem_mem hlt)
          have HBk := hid hbk
          obtain ⟨d0, d1, d2, d3, d4, d5⟩ := C0.out.same HS.out
          obtain ⟨q0, q1, q2, q3, q4, q5⟩ := hck.same HS.out
          have hg0 := World.block_lt_of_cell? wr _ q0
          have HD := hid (datas_succ L k hlt)
          have HDl := hid (datas_length L k hk)
          have HFk := hid (fun (x : After (wr.alloc (.cells #[.int .i64 L[k].life, .int .i64 L[k].era, .int .i64 L[k].seq, .int .i64 L[k].part, .int .i64 L[k].parts, .slice a L[k].data.length c] 60))) => Calls.after (HF.out x.to _ _ L[k] (L[0]'hpos) k
            ⟨_, e', rfl, hbk.same ((HS.out.alloc _).trans x.same)⟩ ⟨_, e0, rfl, HB0.out.same ((HS.out.alloc _).trans x.same)⟩ (by omega)))
          have HX := hid (Box6.new wr (.int .i64 L[k].life) (.int .i64 L[k].era) (.int .i64 L[k].seq) (.int .i64 L[k].part) (.int .i64 L[k].parts) (.slice a L[k].data.length c))
          have HNo := hid (fun h => allfits_no (f := L[0]'hpos) hlt h)
          have HYes : Hid (L[k].fits (L[0]'hpos) k = true → ∀ j (hj : j < L.length), j < k + 1 → L[j].fits (L[0]'hpos) j = true) := fun h j hj hjk => by
            by_cases e : j = k
            · subst e; exact h
            · exact Hf.out j hj (by omega)
          unfold Fr.agg at HFk
          clear hck hbk
          generalize hfit : L[k].fits (L[0]'hpos) k = r at *
          go_wp2_with fail
          clear d0 d1 d2 d3 d4 d5 q0 q1 q2 q3 q4 q5
          obtain ⟨b0, b1, b2, b3, b4, b5⟩ := HX.out.cells
          obtain ⟨d0, d1, d2, d3, d4, d5⟩ := C0.out.same (HS.out.alloc (.cells #[.int .i64 L[k].life, .int .i64 L[k].era, .int .i64 L[k].seq, .int .i64 L[k].part, .int .i64 L[k].parts, .slice a L[k].data.length c] 60))
          have xb0 := fun x => After.cell b0 x
          have xb1 := fun x => After.cell b1 x
          have xb2 := fun x => After.cell b2 x
          have xb3 := fun x => After.cell b3 x
          have xb4 := fun x => After.cell b4 x
          have xb5 := fun x => After.cell b5 x
          have xd0 := fun x => After.cell d0 x
          have xd1 := fun x => After.cell d1 x
          have xd2 := fun x => After.cell d2 x
          have xd3 := fun x => After.cell d3 x
          have xd4 := fun x => After.cell d4 x
          have xd5 := fun x => After.cell d5 x
          clear b0 b1 b2 b3 b4 b5 d0 d1 d2 d3 d4 d5
          refine wp_region_after (by kernel_rfl) (by kernel_rfl) ?_
          repeat (go_big_quiet_step (first | (go_at_call 101; with_reducible exact HFk.out _)))
          refine wpQuiet_nil ?_
          intro _ hw'
          obtain ⟨x5, hw''⟩ := hw'
          subst hw''
          have B5 := xb5 x5
          have S5 := hid ((HS.out.alloc (.cells #[.int .i64 L[k].life, .int .i64 L[k].era, .int .i64 L[k].seq, .int .i64 L[k].part, .int .i64 L[k].parts, .slice a L[k].data.length c] 60)).trans x5.same)
          have HO5 := hid (HO.out.same (((Same.refl wr).alloc (.cells #[.int .i64 L[k].life, .int .i64 L[k].era, .int .i64 L[k].seq, .int .i64 L[k].part, .int .i64 L[k].parts, .slice a L[k].data.length c] 60)).trans x5.same))
          have HB5 := hid (HBk.out.same S5.out)
          clear xb0 xb1 xb2 xb3 xb4 xb5 xd0 xd1 xd2 xd3 xd4 xd5 HFk HX
          generalize x5.to = w5 at *
          cases r
          · have hz : Hid (joinsB L = false ∧ joinOf L = []) := by
              have : joinsB L = false := by rw [HJ2.out]; exact HNo.out rfl
              exact ⟨this, by unfold joinOf; rw [this]; rfl⟩
            clear hfit
            go_wp2_with fail
            go_ret2
            rw [hz.out.1, hz.out.2]
            exact ⟨_, rfl, OwnB.nil _ _, S5.out⟩
          · have HY := hid (HYes.out rfl)
            clear hfit
            have hone : Hid (Sl (w5.alloc (.cells #[.slice a L[k].data.length c] 23)) 23 1 (.slice (some ⟨w5.heap.size, 0, none⟩) 1 1) 1 [.slice a L[k].data.length c]) := Sl.made 23 1 w5.heap.size 1 1 _ _ (heap_alloc_new w5 _) (Nat.le_refl _) (by decide) rfl ⟨[], rfl⟩
            go_wp2_with (at_builtin; refine wpList_append_any rfl (.tmp 33) (.tmp 36) 36 tyRows rfl (HO5.out.same ((Same.refl w5).alloc _)) hone.out (HB5.out.same ((Same.refl w5).alloc _)) hhome.out rfl rfl (by rw [HDl.out]; omega) (by have := S5.out.size; simp; omega) ?_; intro x1 w6 ho6 K6)
            go_roundw
            case rel => exact ⟨k + 1, by omega, by go_num, by rw [HD.out]; exact ho6, (S5.out.alloc _).keepOwn K6 fun j hj => (HO5.out.lt j hj).1, HY.out⟩
            case measure => simp [intOf]; omega
        · obtain rfl : k = L.length := by omega
          have hj : joinsB L = true := by
            rw [HJ2.out]
            exact allfits_to fun j hj => Hf.out j hj hj
          have hz : Hid (joinsB L = true ∧ joinOf L = (datas L L.length).flatten) := ⟨hj, by unfold joinOf; rw [hj, datas_all]; rfl⟩
          have hle : Hid ((datas L L.length).flatten.length ≤ 1000000) := by
            have := joined_length L fun f hf => (Hs.out f hf).2.2
            rw [← datas_all] at this
            show _ ≤ _
            omega
          clear hj
          go_wp2_with fail
          refine (concatBytes _ _ _ _ HO.out.rows hle.out).mono ?_
          rintro en w7 ⟨v7, rfl, O7, S7⟩
          go_wp2_with fail
          go_ret2
          rw [hz.out.1, hz.out.2]
          exact ⟨_, rfl, O7.mono HS.out.size, HS.out.trans S7⟩
    · have hpb : ((L.length : Int) != (L[0]'hpos).parts) = true := by rw [bne_iff_ne]; exact hp
      have hz : Hid (joinsB L = false ∧ joinOf L = []) := by
        have : joinsB L = false := by rw [HJ.out, decide_eq_false hp]; rfl
        exact ⟨this, by unfold joinOf; rw [this]; rfl⟩
      rw [hz.out.1, hz.out.2]
      clear hp
      go_enter Try.func54, Try.ntmps54
      go_wp2_with fail
      go_ret2
      exact ⟨_, rfl, OwnB.nil _ _, Same.refl _⟩
end Go.Proofs.Ytlhnpicmjjddeaa
namespace Go.Proofs.Ytlhnpicmjjddeaa
open Go.RowKit

def b100 : List UInt8 := List.replicate 100 0
theorem nparts100 : nparts b100.length = 2 := by decide
theorem cutE100 : cutE 1 0 1 b100 = 0 := by decide
theorem cutAll100 : cutAll 1 0 1 b100 = cutL 1 0 1 b100 := by unfold cutAll; rw [if_pos cutE100]
theorem Frs.two (w : World) (e1 e2 : TypeId) (f1 f2 : Fr) (u1 u2 : Value) (h1 : Bytes w e1 u1 f1.data) (h2 : Bytes w e2 u2 f2.data) :
    Frs (w.alloc (.cells #[.int .i64 f1.life, .int .i64 f1.era, .int .i64 f1.seq, .int .i64 f1.part, .int .i64 f1.parts, u1, .int .i64 f2.life, .int .i64 f2.era, .int .i64 f2.seq, .int .i64 f2.part, .int .i64 f2.parts, u2] 60)) 60 (.slice (some ⟨w.heap.size, 0, none⟩) 2 2) [f1, f2] := by
  refine ⟨[(f1, u1), (f2, u2)], rfl, Sl.made 60 6 w.heap.size 2 2 _ _ (heap_alloc_new w _) (Nat.le_refl _) (by decide) rfl ⟨[], rfl⟩, fun p hp => ?_⟩
  simp at hp
  rcases hp with rfl | rfl
  · exact ⟨e1, h1.same ((Same.refl w).alloc _)⟩
  · exact ⟨e2, h2.same ((Same.refl w).alloc _)⟩
theorem runMake100 (w : World) : (Instr.makeSlice 23 (.int .i64 100) (.int .i64 100)).run Try.prog w = .ok (.slice (some ⟨w.heap.size, 0, none⟩) 100 100) (w.alloc (.cells (zeros 100) 5)) := runMakeBytes w 100 (by omega)
theorem dec_cut {life era seq : Int} {b : List UInt8} {i : Nat} (h : cutE life era seq b = 0) (hi : i < nparts b.length) : decF (enc (cutAt life era seq b i)) = cutAt life era seq b i ∧ decE (enc (cutAt life era seq b i)) = 0 :=
  decF_some (dec_enc (cutAt_right h hi))
theorem OwnR.one {w : World} {base : Nat} {ao : Option Addr} {cap : Nat} {ls : List (List UInt8)} (h : OwnR w base (.slice ao ls.length cap) ls) (k : Nat) (hk : k < ls.length) :
    ∃ g o a c e', ao = some ⟨g, o, none⟩ ∧ w.cell? ⟨g, o + k, none⟩ = some (.slice a ls[k].length c) ∧ Bytes w e' (.slice a ls[k].length c) ls[k] := h.rows.row k hk

set_option maxHeartbeats 3200000 in
set_option maxRecDepth 100000 in
theorem fLives (w : World) : Calls Try.prog 51 #[] w (RetSame (.bool true) w) := by
  have hm := runMake100
  have HC := hid (fCut (w.alloc (.cells (zeros 100) 5)) 5 _ 1 0 1 b100 (OwnB.zeros w 100 (by omega)).bytes (by decide))
  rw [cutAll100, cutE100] at HC
  have hr0 : (cutAt 1 0 1 b100 0).right = true := cutAt_right cutE100 (by rw [nparts100]; omega)
  have hr1 : (cutAt 1 0 1 b100 1).right = true := cutAt_right cutE100 (by rw [nparts100]; omega)
  have hcut : cutFr 1 0 1 b100 = [cutAt 1 0 1 b100 0, cutAt 1 0 1 b100 1] := by unfold cutFr; rw [nparts100]; rfl
  have hcl : cutL 1 0 1 b100 = [enc (cutAt 1 0 1 b100 0), enc (cutAt 1 0 1 b100 1)] := by unfold cutL; rw [hcut]; rfl
  rw [hcl] at HC
  have hj : joinsB [cutAt 1 0 1 b100 0, cutAt 1 0 1 b100 1] = true := by rw [← hcut]; exact joinsB_iff.2 (joins_cut cutE100)
  have hjo : joinOf [cutAt 1 0 1 b100 0, cutAt 1 0 1 b100 1] = b100 := by unfold joinOf; rw [hj, if_pos rfl, ← hcut, joined_cut]
  have D0 := hid (decF_some (dec_enc hr0))
  have D1 := hid (decF_some (dec_enc hr1))
  have L0 : Hid ((enc (cutAt 1 0 1 b100 0)).length ≤ 900000) := by
    show _ ≤ _; rw [enc_length _ (partOk_iff.1 (Fr.right_iff.1 hr0).2).2.2.2.2]; omega
  have L1 : Hid ((enc (cutAt 1 0 1 b100 1)).length ≤ 900000) := by
    show _ ≤ _; rw [enc_length _ (partOk_iff.1 (Fr.right_iff.1 hr1).2).2.2.2.2]; omega
  have hd1 : (cutAt 1 0 1 b100 1).data.length = 20 := by decide
  have hs : Small [cutAt 1 0 1 b100 0, cutAt 1 0 1 b100 1] := by
    intro f hf
    simp at hf
    rcases hf with rfl | rfl
    · obtain ⟨q1, q2, q3, q4, q5⟩ := partOk_iff.1 (Fr.right_iff.1 hr0).2; exact ⟨by omega, q2, q5⟩
    · obtain ⟨q1, q2, q3, q4, q5⟩ := partOk_iff.1 (Fr.right_iff.1 hr1).2; exact ⟨by omega, q2, q5⟩
  have Hj := hid (And.intro hj (And.intro hjo hs))
  have Hd1 := hid hd1
  have h100 : Hid (b100.length = 100) := by show _ = _; decide
  clear hcut hcl hj hjo hs hr0 hr1 hd1
  generalize cutAt 1 0 1 b100 0 = f0 at *
  generalize cutAt 1 0 1 b100 1 = f1 at *
  generalize enc f0 = s0 at *
  generalize enc f1 = s1 at *
  have HDec := hid fDecode
  have HJn := hid fJoin
  go_enter Try.func51, Try.ntmps51
  go_wp2_with fail
  refine HC.out.mono ?_
  rintro en w1 ⟨v1, rfl, O1, S1⟩
  have S1 := hid (((Same.refl w).alloc _).trans S1)
  obtain ⟨a1, c1, rfl, f1', f2'⟩ := O1.rows.form
  obtain ⟨g, o, z0, y0, e0, rfl, k0, B0⟩ := O1.one 0 (by simp)
  obtain ⟨g', o', z1, y1, e1, hgg, k1, B1⟩ := O1.one 1 (by simp)
  cases hgg
  simp only [List.getElem_cons_zero, List.getElem_cons_succ, Nat.add_zero, List.length_cons, List.length_nil] at *
  have HB0 := hid B0
  have HB1 := hid B1
  have K1 := hid k1
  clear O1 B0 B1
  go_wp2_with fail
  refine (HDec.out _ _ _ _ HB0.out L0.out).mono ?_
  rintro en w2 ⟨x2, rfl, F2, S2⟩
  rw [D0.out.1] at F2
  rw [D0.out.2]
  obtain ⟨u2, rfl, O2⟩ := F2
  obtain ⟨au2, cu2, rfl, _, _⟩ := O2.bytes.form
  have hgl := World.block_lt_of_cell? w1 _ K1.out
  have k1' := (S2.cell (p := ⟨g, o + 1, none⟩) hgl).trans K1.out
  have O2 := hid O2
  have S2 := hid S2
  clear k0 k1 hgl
  have hgl := World.block_lt_of_cell? w2 _ k1'
  unfold Fr.agg
  go_wp2_with fail
  have T2 := hid ((Same.refl w2).alloc (.cells #[.int .i64 f0.life, .int .i64 f0.era, .int .i64 f0.seq, .int .i64 f0.part, .int .i64 f0.parts, .slice au2 f0.data.length cu2] 60))
  have BX := hid (Box6.new w2 (.int .i64 f0.life) (.int .i64 f0.era) (.int .i64 f0.seq) (.int .i64 f0.part) (.int .i64 f0.parts) (.slice au2 f0.data.length cu2))
  refine (HDec.out _ _ _ _ (HB1.out.same (S2.out.trans T2.out)) L1.out).mono ?_
  rintro en w3 ⟨x3, rfl, F3, S3⟩
  rw [D1.out.1] at F3
  rw [D1.out.2]
  obtain ⟨u3, rfl, O3⟩ := F3
  obtain ⟨au3, cu3, rfl, _, _⟩ := O3.bytes.form
  obtain ⟨b0, b1, b2, b3, b4, b5⟩ := (BX.out.same S3).cells
  have BXl := (BX.out.same S3).lt
  have O3 := hid O3
  have O2' := hid (O2.out.bytes.same (T2.out.trans S3))
  have S3 := hid (((S1.out.trans S2.out).trans T2.out).trans S3)
  clear k1' hgl
  have HFr := hid (Frs.two (w3.alloc (.cells #[.int .i64 f1.life, .int .i64 f1.era, .int .i64 f1.seq, .int .i64 f1.part, .int .i64 f1.parts, .slice au3 f1.data.length cu3] 60)) 5 5 f0 f1 (.slice au2 f0.data.length cu2) (.slice au3 f1.data.length cu3) (O2'.out.same ((Same.refl _).alloc _)) (O3.out.bytes.same ((Same.refl _).alloc _)))
  have T3 := hid (((Same.refl w3).alloc (.cells #[.int .i64 f1.life, .int .i64 f1.era, .int .i64 f1.seq, .int .i64 f1.part, .int .i64 f1.parts, .slice au3 f1.data.length cu3] 60)).alloc (.cells #[.int .i64 f0.life, .int .i64 f0.era, .int .i64 f0.seq, .int .i64 f0.part, .int .i64 f0.parts, .slice au2 f0.data.length cu2, .int .i64 f1.life, .int .i64 f1.era, .int .i64 f1.seq, .int .i64 f1.part, .int .i64 f1.parts, .slice au3 f1.data.length cu3] 60))
  have BY := hid ((Box6.new w3 (.int .i64 f1.life) (.int .i64 f1.era) (.int .i64 f1.seq) (.int .i64 f1.part) (.int .i64 f1.parts) (.slice au3 f1.data.length cu3)).same ((Same.refl _).alloc (.cells #[.int .i64 f0.life, .int .i64 f0.era, .int .i64 f0.seq, .int .i64 f0.part, .int .i64 f0.parts, .slice au2 f0.data.length cu2, .int .i64 f1.life, .int .i64 f1.era, .int .i64 f1.seq, .int .i64 f1.part, .int .i64 f1.parts, .slice au3 f1.data.length cu3] 60)))
  simp only [World.size_alloc] at HFr
  unfold Fr.agg
  go_wp2_with fail
  refine (HJn.out _ _ _ [f0, f1] HFr.out Hj.out.2.2 (by simp)).mono ?_
  rintro en w4 ⟨v4, rfl, O4, S4⟩
  rw [Hj.out.2.1] at O4
  rw [Hj.out.1]
  obtain ⟨a4, c4, rfl, _, _⟩ := O4.bytes.form
  obtain ⟨q0, q1, q2, q3, q4, q5⟩ := (BY.out.same S4).cells
  have S4 := hid ((S3.out.trans T3.out).trans S4)
  rw [h100.out]
  rw [Hd1.out] at *
  clear b0 b1 b2 b3 b4 b5 O4
  go_wp2_with fail
  go_ret
  exact ⟨rfl, S4.out⟩
end Go.Proofs.Ytlhnpicmjjddeaa
namespace Go.Proofs.Ytlhnpicmjjddeaa
open Go.RowKit

/-- Cut, told of an elder world -/
theorem r01Cut0 (w0 w : World) (e : TypeId) (v : Value) (l : List UInt8) (n : Nat) (hb : Bytes w0 e v l) :
    Calls Try.prog 22 #[v, .int .i64 n] w fun en w' => ∃ v', en = .returned v' ∧ Bytes w0 e v' (l.take n) ∧ w = w' := by
  obtain ⟨ao, cap, rfl, h1, h2⟩ := hb.form
  unfold maxLen at h2
  by_cases h : n < l.length
  · have hh := hb.head n (by omega)
    have H := hid hh; clear hh
    go_enter Try.func22, Try.ntmps22
    go_wp2
    go_ret
    exact ⟨_, rfl, H.out, rfl⟩
  · have ht : l.take n = l := List.take_of_length_le (by omega)
    rw [ht]; clear ht
    go_enter Try.func22, Try.ntmps22
    go_wp2
    go_ret
    exact ⟨_, rfl, hb, rfl⟩
def RetFr (f : Fr) (w : World) (en : Ending) (w' : World) : Prop := ∃ x, en = .returned x ∧ FrV w' x f ∧ Same w w'
def Fr.cut90 (f : Fr) : Fr := { f with data := f.data.take 90 }
set_option maxHeartbeats 1600000 in
set_option maxRecDepth 100000 in
theorem fShort (w : World) (x : Value) (f : Fr) (hx : FrV w x f) : Calls Try.prog 44 #[x] w (RetFr f.cut90 w) := by
  obtain ⟨v, e, rfl, hb⟩ := hx
  obtain ⟨ao, cap, rfl, h1, h2⟩ := hb.form
  have HC := hid (fun w' => show Calls Try.prog 22 #[.slice ao f.data.length cap, .int .i64 90] w' _ from r01Cut0 w w' e _ f.data 90 hb)
  have HB := hid hb
  clear hb
  unfold Fr.agg
  go_enter Try.func44, Try.ntmps44
  go_wp2_with fail
  refine (HC.out _).mono ?_
  rintro en w1 ⟨v1, rfl, h3, rfl⟩
  obtain ⟨a1, c1, rfl, _, _⟩ := h3.form
  have H3 := hid h3
  clear h3
  go_wp2_with fail
  have hm : (f.data.take 90).length = min 90 f.data.length := List.length_take
  have HM := hid hm
  clear hm
  refine bodyPost_ret (v := .agg #[.int .i64 f.life, .int .i64 f.era, .int .i64 f.seq, .int .i64 f.part, .int .i64 f.parts, .slice a1 (f.data.take 90).length c1]) ?_ rfl ⟨_, rfl, ⟨_, e, rfl, (H3.out.same ((Same.refl w).alloc _)).same ((Same.refl _).alloc _)⟩, ((Same.refl w).alloc _).alloc _⟩
  rw [HM.out]
  simp [results, Try.results44, go_sem]
set_option maxHeartbeats 1600000 in
set_option maxRecDepth 100000 in
theorem fPlain (w : World) (x : Value) (f : Fr) (hx : FrV w x f) : Calls Try.prog 47 #[x] w (RetSame x w) := by
  obtain ⟨v, e, rfl, hb⟩ := hx
  obtain ⟨ao, cap, rfl, h1, h2⟩ := hb.form
  clear hb
  unfold Fr.agg
  go_enter Try.func47, Try.ntmps47
  go_wp2_with fail
  exact bodyPost_ret (v := .agg #[.int .i64 f.life, .int .i64 f.era, .int .i64 f.seq, .int .i64 f.part, .int .i64 f.parts, .slice ao f.data.length cap]) (by simp [results, Try.results47, go_sem]) rfl ⟨rfl, ((Same.refl w).alloc _).alloc _⟩
theorem box59 (w : World) (c0 c1 c2 c3 c4 c5 : Value) : (w.alloc (.cells #[c0, c1, c2, c3, c4, c5] 59)).cell? ⟨w.heap.size, 5, none⟩ = some c5 := by
  rw [cell_of_row _ _ _ _ _ _ (heap_alloc_new w _)]; rfl
set_option maxHeartbeats 1600000 in
set_option maxRecDepth 100000 in
theorem refSameEq (w : World) (x y : Value) (f : Fr) (hx : FrV w x f) (hy : FrV w y f) : Calls Try.prog 50 #[x, y] w (RetSame (.bool true) w) := by
  obtain ⟨v, e, rfl, hb⟩ := hx
  obtain ⟨ao, cap, rfl, h1, h2⟩ := hb.form
  obtain ⟨v', e', rfl, hb'⟩ := hy
  obtain ⟨ao', cap', rfl, h1', h2'⟩ := hb'.form
  unfold maxLen at h2 h2'
  unfold Fr.agg
  have S0 := hid (((Same.refl w).alloc (.cells #[.int .i64 f.life, .int .i64 f.era, .int .i64 f.seq, .int .i64 f.part, .int .i64 f.parts, .slice ao f.data.length cap] 59)).alloc (.cells #[.int .i64 f.life, .int .i64 f.era, .int .i64 f.seq, .int .i64 f.part, .int .i64 f.parts, .slice ao' f.data.length cap'] 59))
  have k1 := After.cell (box59 w (.int .i64 f.life) (.int .i64 f.era) (.int .i64 f.seq) (.int .i64 f.part) (.int .i64 f.parts) (.slice ao f.data.length cap)) ⟨_, (Same.refl _).alloc (.cells #[.int .i64 f.life, .int .i64 f.era, .int .i64 f.seq, .int .i64 f.part, .int .i64 f.parts, .slice ao' f.data.length cap'] 59)⟩
  have k2 := box59 (w.alloc (.cells #[.int .i64 f.life, .int .i64 f.era, .int .i64 f.seq, .int .i64 f.part, .int .i64 f.parts, .slice ao f.data.length cap] 59)) (.int .i64 f.life) (.int .i64 f.era) (.int .i64 f.seq) (.int .i64 f.part) (.int .i64 f.parts) (.slice ao' f.data.length cap')
  rw [World.size_alloc] at k2
  simp only [After.to] at k1
  have K1 := hid k1
  have K2 := hid k2
  clear k1 k2
  have HB := hid hb
  have HB' := hid hb'
  clear hb hb'
  obtain ⟨life, era, seq, part, parts, data⟩ := f
  simp only at *
  go_enter Try.func50, Try.ntmps50
  go_wp2_with fail
  generalize (w.alloc (.cells #[.int .i64 life, .int .i64 era, .int .i64 seq, .int .i64 part, .int .i64 parts, .slice ao data.length cap] 59)).alloc (.cells #[.int .i64 life, .int .i64 era, .int .i64 seq, .int .i64 part, .int .i64 parts, .slice ao' data.length cap'] 59) = W0 at *
  go_loopw [5] (fun i wr => ∃ k : Nat, k ≤ data.length ∧ i = .int .i64 k ∧ Same W0 wr) (fun i _ => data.length - (intOf i).toNat)
  case atStart => exact ⟨0, Nat.zero_le _, rfl, Same.refl _⟩
  case round =>
    obtain ⟨k, hk, rfl, S⟩ := hrel
    have k1 := After.cell K1.out ⟨wr, S⟩
    have k2 := After.cell K2.out ⟨wr, S⟩
    simp only [After.to] at k1 k2
    have HS := hid S
    clear S
    by_cases hlt : k < data.length
    · obtain ⟨g, o, rfl, hc⟩ := (HB.out.same (S0.out.trans HS.out)).cells (by omega)
      obtain ⟨g', o', rfl, hc'⟩ := (HB'.out.same (S0.out.trans HS.out)).cells (by omega)
      have c1 := hc k hlt
      have c2 := hc' k hlt
      clear hc hc'
      generalize data[k].toNat = z at *
      go_wp2_with fail
      go_quiet (fail)
      go_wp2_with fail
      go_roundw
      case rel => exact ⟨k + 1, by omega, by go_num, HS.out.drewN _⟩
      case measure => simp [intOf]; omega
    · obtain rfl : k = data.length := by omega
      go_wp2_with fail
      go_ret
      exact ⟨rfl, S0.out.trans HS.out⟩
end Go.Proofs.Ytlhnpicmjjddeaa
