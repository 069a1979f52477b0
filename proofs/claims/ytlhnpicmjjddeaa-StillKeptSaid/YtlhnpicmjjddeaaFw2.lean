/- FRAME: Encode. -/
import Derived.Test.YtlhnpicmjjddeaaFw
import Derived.Deep.RegionHeld3
namespace Go.Proofs.Ytlhnpicmjjddeaa
open Go.RowKit

def encOf (f : Fr) : List UInt8 := if f.right then enc f else []
def encE (f : Fr) : Int := if f.right then 0 else 2
/-- a call hands back a new row of bytes, and a number -/
def RetEnc (l : List UInt8) (n : Int) (w : World) (en : Ending) (w' : World) : Prop := ∃ v, en = .returned (.tuple #[v, .int .i64 n]) ∧ OwnB w' w.heap.size v l ∧ Same w w'
theorem cell_keep {M : Nat → Prop} {a b : World} (h : Keep M a b) {g o : Nat} (hg : g < a.heap.size) (hm : ¬ M g) : b.cell? ⟨g, o, none⟩ = a.cell? ⟨g, o, none⟩ := World.cell?_of_block (w := a) (h.block g hg hm)
theorem box_cells (w : World) (a b c d e v : Value) :
    (w.alloc (.cells #[a, b, c, d, e, v] 60)).cell? ⟨w.heap.size, 0, none⟩ = some a ∧ (w.alloc (.cells #[a, b, c, d, e, v] 60)).cell? ⟨w.heap.size, 1, none⟩ = some b ∧ (w.alloc (.cells #[a, b, c, d, e, v] 60)).cell? ⟨w.heap.size, 2, none⟩ = some c ∧
    (w.alloc (.cells #[a, b, c, d, e, v] 60)).cell? ⟨w.heap.size, 3, none⟩ = some d ∧ (w.alloc (.cells #[a, b, c, d, e, v] 60)).cell? ⟨w.heap.size, 4, none⟩ = some e ∧ (w.alloc (.cells #[a, b, c, d, e, v] 60)).cell? ⟨w.heap.size, 5, none⟩ = some v := by
  refine ⟨?_, ?_, ?_, ?_, ?_, ?_⟩ <;> simp

theorem more_made (w : World) (a b c : Nat) (ha : a < 256) (hb : b < 256) (hc : c < 256) :
    Bytes (w.alloc (.cells #[.int .u8 (a : Int), .int .u8 (b : Int), .int .u8 (c : Int)] 5)) 5 (.slice (some ⟨w.heap.size, 0, none⟩) 3 3) [a.toUInt8, b.toUInt8, c.toUInt8] :=
  Bytes.made 5 w.heap.size 3 3 _ _ (heap_alloc_new w _) (Nat.le_refl _) (by decide) rfl (by
    have e : ∀ n : Nat, n < 256 → (n : Int) % 256 = n := fun n hn => by omega
    simp [u8, e a ha, e b hb, e c hc])
set_option maxHeartbeats 1600000 in
set_option maxRecDepth 100000 in
theorem fEncode (w : World) (x : Value) (f : Fr) (hx : FrV w x f) : Calls Try.prog 45 #[x] w (RetEnc (encOf f) (encE f) w) := by
  have HR := hid (fun w' (S : Same w w') => fRight w' x f (hx.same S))
  obtain ⟨v, e, rfl, hb⟩ := hx
  obtain ⟨ao, cap, rfl, h1, h2⟩ := hb.form
  unfold maxLen at h2
  cases hr : f.right
  · have HE : Hid (encOf f = [] ∧ encE f = 2) := by show _ ∧ _; unfold encOf encE; rw [hr]; exact ⟨rfl, rfl⟩
    rw [hr] at HR
    clear hr hb
    rw [HE.out.1, HE.out.2]
    unfold Fr.agg at HR ⊢
    go_enter Try.func45, Try.ntmps45
    go_wp2_with fail
    refine (HR.out _ ((Same.refl w).alloc _)).mono ?_
    rintro en w1 ⟨rfl, S1⟩
    go_wp2_with fail
    go_ret2
    exact ⟨_, rfl, OwnB.nil _ _, ((Same.refl w).alloc _).trans S1⟩
  · have HE : Hid (encOf f = CrcPure.sealed f.inner ∧ encE f = 0) := by show _ ∧ _; unfold encOf encE; rw [hr]; exact ⟨rfl, rfl⟩
    obtain ⟨q1, q2⟩ := Fr.right_iff.1 hr
    obtain ⟨a1, a2, a3, a4, a5, a6⟩ := stampOk_iff.1 q1
    obtain ⟨b1, b2, b3, b4, b5⟩ := partOk_iff.1 q2
    rw [hr] at HR
    have HI : Hid (f.inner = (be 3 f.life.toNat ++ be 3 f.era.toNat ++ be 4 f.seq.toNat ++ f.more ++ f.data) ++ List.replicate (93 - (be 3 f.life.toNat ++ be 3 f.era.toNat ++ be 4 f.seq.toNat ++ f.more ++ f.data).length) 0) := rfl
    have HM : Hid (f.more = [f.part.toNat.toUInt8, f.parts.toNat.toUInt8, f.data.length.toUInt8]) := rfl
    clear hr q1 q2
    rw [HE.out.1, HE.out.2]
    unfold Fr.agg at HR ⊢
    obtain ⟨life, era, seq, part, parts, data⟩ := f
    simp only at *
    obtain ⟨life, rfl⟩ := Int.eq_ofNat_of_zero_le (a := life) (by omega)
    obtain ⟨era, rfl⟩ := Int.eq_ofNat_of_zero_le (a := era) (by omega)
    obtain ⟨seq, rfl⟩ := Int.eq_ofNat_of_zero_le (a := seq) (by omega)
    obtain ⟨part, rfl⟩ := Int.eq_ofNat_of_zero_le (a := part) (by omega)
    obtain ⟨parts, rfl⟩ := Int.eq_ofNat_of_zero_le (a := parts) (by omega)
    simp only [Int.toNat_natCast] at HI HM
    have HBx := hid (box_cells w (.int .i64 life) (.int .i64 era) (.int .i64 seq) (.int .i64 part) (.int .i64 parts) (.slice ao data.length cap))
    have S1 := hid ((Same.refl w).alloc (.cells #[.int .i64 life, .int .i64 era, .int .i64 seq, .int .i64 part, .int .i64 parts, .slice ao data.length cap] 60))
    have hz1 : (w.alloc (.cells #[.int .i64 life, .int .i64 era, .int .i64 seq, .int .i64 part, .int .i64 parts, .slice ao data.length cap] 60)).heap.size = w.heap.size + 1 := by simp
    have HZ1 := hid hz1
    clear hz1
    have HB0 := hid hb
    clear hb
    go_enter Try.func45, Try.ntmps45
    go_wp2_with fail
    refine (HR.out _ S1.out).mono ?_
    rintro en w1 ⟨rfl, S2⟩
    have hcell : ∀ o, w1.cell? ⟨w.heap.size, o, none⟩ = (w.alloc (.cells #[.int .i64 life, .int .i64 era, .int .i64 seq, .int .i64 part, .int .i64 parts, .slice ao data.length cap] 60)).cell? ⟨w.heap.size, o, none⟩ := fun o => S2.cell (p := ⟨w.heap.size, o, none⟩) (by rw [HZ1.out]; exact Nat.lt_succ_self _)
    have HC := hid hcell
    have hs1 : w.heap.size + 1 ≤ w1.heap.size := by rw [← HZ1.out]; exact S2.size
    have HS1 := hid hs1
    have S2 := hid S2
    obtain ⟨c0, c1, c2, c3, c4, c5⟩ := HBx.out
    have HK : Hid (∀ wz, Keep (fun k => w.heap.size + 1 ≤ k) w1 wz → wz.cell? ⟨w.heap.size, 0, none⟩ = some (.int .i64 life) ∧ wz.cell? ⟨w.heap.size, 1, none⟩ = some (.int .i64 era) ∧ wz.cell? ⟨w.heap.size, 2, none⟩ = some (.int .i64 seq) ∧ wz.cell? ⟨w.heap.size, 3, none⟩ = some (.int .i64 part) ∧ wz.cell? ⟨w.heap.size, 4, none⟩ = some (.int .i64 parts) ∧ wz.cell? ⟨w.heap.size, 5, none⟩ = some (.slice ao data.length cap)) := by
      intro wz K
      have e : ∀ o, wz.cell? ⟨w.heap.size, o, none⟩ = w1.cell? ⟨w.heap.size, o, none⟩ := fun o => cell_keep K (by have := HS1.out; omega) (by omega)
      refine ⟨?_, ?_, ?_, ?_, ?_, ?_⟩
      all_goals (rw [e, hcell]; assumption)
    clear c0 c1 c2 c3 c4 c5 hcell hs1
    obtain ⟨c0, c1, c2, c3, c4, c5⟩ := HK.out _ (Keep.refl _ w1)
    obtain ⟨p1, hp1⟩ : ∃ p, p = be 3 life := ⟨_, rfl⟩
    obtain ⟨p2, hp2⟩ : ∃ p, p = be 3 life ++ be 3 era := ⟨_, rfl⟩
    obtain ⟨p3, hp3⟩ : ∃ p, p = be 3 life ++ be 3 era ++ be 4 seq := ⟨_, rfl⟩
    have P1 := hid (fun wz (K : Keep (fun k => w.heap.size + 1 ≤ k) w1 wz) => show Calls Try.prog 95 #[.slice none 0 0, .int .i64 life, .int .i64 3] wz (RetPut p1 (w.heap.size + 1) wz) from hp1 ▸ fPut wz (w.heap.size + 1) (.slice none 0 0) [] life 3 (by omega) (by omega) (OwnB.nil _ _) (by simp) (Nat.le_trans HS1.out K.size))
    have P2 := hid (fun wz v0 (K : Keep (fun k => w.heap.size + 1 ≤ k) w1 wz) (hO : OwnB wz (w.heap.size + 1) v0 p1) => show Calls Try.prog 95 #[v0, .int .i64 era, .int .i64 3] wz (RetPut p2 (w.heap.size + 1) wz) from hp2 ▸ fPut wz (w.heap.size + 1) v0 (be 3 life) era 3 (by omega) (by omega) (hp1 ▸ hO) (by rw [be_length]; omega) (Nat.le_trans HS1.out K.size))
    have P3 := hid (fun wz v0 (K : Keep (fun k => w.heap.size + 1 ≤ k) w1 wz) (hO : OwnB wz (w.heap.size + 1) v0 p2) => show Calls Try.prog 95 #[v0, .int .i64 seq, .int .i64 4] wz (RetPut p3 (w.heap.size + 1) wz) from hp3 ▸ fPut wz (w.heap.size + 1) v0 (be 3 life ++ be 3 era) seq 4 (by omega) (by omega) (hp2 ▸ hO) (by rw [List.length_append, be_length, be_length]; omega) (Nat.le_trans HS1.out K.size))
    rw [← hp3] at HI
    have hp3l : p3.length = 10 := by rw [hp3]; simp [be_length]
    have HP3 := hid hp3l
    clear hp1 hp2 hp3 hp3l
    go_wp2_with fail
    go_region_held3 (fun w' => w'.cell? ⟨w.heap.size, 0, none⟩ = some (.int .i64 life) ∧ w'.cell? ⟨w.heap.size, 1, none⟩ = some (.int .i64 era) ∧ w'.cell? ⟨w.heap.size, 2, none⟩ = some (.int .i64 seq)) (exact ⟨by assumption, by assumption, by assumption⟩) (first
      | (go_at_call 95; (with_reducible refine (P3.out _ _ K2' O2').mono ?_); rintro en w4 ⟨v3, rfl, O3, K3⟩; have K3' := K2'.trans K3; clear c0 c1 c2 c3 c4 c5; obtain ⟨c0, c1, c2, c3, c4, c5⟩ := HK.out _ K3'; obtain ⟨a3', cap3, rfl, z5, z6⟩ := O3.bytes.form)
      | (go_at_call 95; (with_reducible refine (P2.out _ _ K1' O1').mono ?_); rintro en w3 ⟨v2, rfl, O2', K2⟩; have K2' := K1'.trans K2; clear c0 c1 c2 c3 c4 c5; obtain ⟨c0, c1, c2, c3, c4, c5⟩ := HK.out _ K2'; obtain ⟨a2', cap2, rfl, z3, z4⟩ := O2'.bytes.form)
      | (go_at_call 95; (with_reducible refine (P1.out _ (Keep.refl _ _).drew).mono ?_); rintro en w2 ⟨v1, rfl, O1', K1'⟩; have K1' := (Keep.refl _ w1).drew.trans K1'; clear c0 c1 c2 c3 c4 c5; obtain ⟨c0, c1, c2, c3, c4, c5⟩ := HK.out _ K1'; obtain ⟨a1', cap1, rfl, z1, z2⟩ := O1'.bytes.form))
    have O3 := hid O3
    have K3' := hid K3'
    have HB1 := hid (HB0.out.same (S1.out.trans S2.out) |>.keep K3'.out (fun g hg hm => by have := Sl.home_lt HB0.out hg; omega))
    clear O1' O2' K1' K2' K2 K3
    have HM3 := hid (fun wz => more_made wz part parts data.length (by omega) (by omega) (by omega))
    rw [← HM.out] at HM3
    have hmore : Hid ((Fr.more ⟨life, era, seq, part, parts, data⟩).length = 3) := rfl
    generalize Fr.more ⟨life, era, seq, part, parts, data⟩ = m3 at *
    obtain ⟨p4, hp4⟩ : ∃ p, p = p3 ++ m3 := ⟨_, rfl⟩
    obtain ⟨p5, hp5⟩ : ∃ p, p = p4 ++ data := ⟨_, rfl⟩
    rw [← hp4, ← hp5] at HI
    have hl4 : p4.length = 13 := by rw [hp4, List.length_append, HP3.out, hmore.out]
    have hl5 : p5.length = 13 + data.length := by rw [hp5, List.length_append, hl4]
    have HL4 := hid hl4
    have HL5 := hid hl5
    have hle5 : p5.length ≤ 93 := by omega
    have HP4 := hid hp4
    have HP5 := hid hp5
    have E93 : Hid (Value.int IntKind.i64 (93 - (p5.length : Int)) = Value.int IntKind.i64 ((93 - p5.length : Nat) : Int)) := by
      show _ = _
      rw [show (93 : Int) - (p5.length : Int) = ((93 - p5.length : Nat) : Int) from by omega]
    have T0 := hid (S1.out.trans S2.out)
    clear hp4 hp5 hl4 hl5 HM
    go_wp2_with (first
      | (at_builtin; refine wpList_append_bytes rfl (.tmp 17) (.tmp 28) 23 tyBytes rfl (O3.out.alloc _) (HM3.out w4) rfl rfl (by rw [HP3.out, hmore.out]; omega) (by have := HS1.out; have := K3'.out.size; simp; omega) ?_; intro x1 w5 ho1 hg1
         rw [← HP4.out] at ho1
         have O5 := hid ho1
         have K5 := hid ((K3'.out.alloc (.cells #[.int .u8 part, .int .u8 parts, .int .u8 data.length] 5)).grown hg1 (fun k e => .inl (O3.out.lt k e).1))
         have HB5 := hid (HB0.out.same (S1.out.trans S2.out) |>.keep K5.out (fun g hg hm => by have := Sl.home_lt HB0.out hg; omega))
         clear c0 c1 c2 c3 c4 c5 hg1
         obtain ⟨c0, c1, c2, c3, c4, c5⟩ := HK.out _ K5.out
         obtain ⟨a5, q5, rfl, _, _⟩ := ho1.bytes.form
         clear ho1)
      | (at_builtin; refine wpList_append_bytes rfl (.tmp 30) (.tmp 32) 23 tyBytes rfl O5.out HB5.out rfl rfl (by rw [HL4.out]; omega) (by have := HS1.out; have := K5.out.size; omega) ?_; intro x2 w6 ho2 hg2
         rw [← HP5.out] at ho2
         have O6 := hid ho2
         have K6 := hid (K5.out.grown hg2 (fun k e => .inl (O5.out.lt k e).1))
         clear c0 c1 c2 c3 c4 c5 hg2
         obtain ⟨c0, c1, c2, c3, c4, c5⟩ := HK.out _ K6.out
         obtain ⟨a6, q6, rfl, _, _⟩ := ho2.bytes.form
         clear ho2)
      | (at_builtin; refine wpList_append_zeros rfl (.tmp 34) (.tmp 37) 23 3 tyBytes Try.underlying3 rfl O6.out .i64 (93 - p5.length) rfl (by exact E93.out) (by omega) (by have := HS1.out; have := K6.out.size; omega) ?_; intro x3 w7 ho3 hg3
         rw [← HI.out] at ho3
         have O7 := hid ho3
         have K7 := hid (K6.out.grown hg3 (fun k e => .inl (O6.out.lt k e).1))
         clear c0 c1 c2 c3 c4 c5 hg3
         clear ho3))
    have HIL : Hid ((Fr.inner ⟨life, era, seq, part, parts, data⟩).length ≤ 900000) := by
      have := Fr.inner_length ⟨life, era, seq, part, parts, data⟩ b5
      show _ ≤ _
      omega
    refine (crcSeal _ 5 _ _ O7.out.bytes HIL.out).mono ?_
    rintro en w8 ⟨v8, rfl, O8, S8⟩
    go_wp2_with fail
    go_ret2
    have hs7 := K7.out.size
    have hs1 := HS1.out
    exact ⟨_, rfl, O8.mono (by omega), (T0.out.keepOwn K7.out (fun k hk => by omega)).trans S8⟩
end Go.Proofs.Ytlhnpicmjjddeaa
