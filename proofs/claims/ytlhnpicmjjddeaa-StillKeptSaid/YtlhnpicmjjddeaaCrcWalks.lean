/- What the functions of crc (5), and of its reference, compute. -/
import Derived.Test.YtlhnpicmjjddeaaRows
import Derived.Test.YtlhnpicmjjddeaaMem
import Derived.Test.YtlhnpicmjjddeaaCrcPure
namespace Go.Proofs.Ytlhnpicmjjddeaa
open Go.RowKit

theorem and24 (c : Nat) (hc : c < 4294967296) : bits BinOp.and IntKind.u32 (c : Int) 16777215 = ((c % 16777216 : Nat) : Int) := by
  rw [show (16777215 : Int) = ((16777215 : Nat) : Int) from rfl, u32_and_nat c 16777215 hc (by omega), nat_mask24]
theorem xor16 (m x : Nat) (hm : m < 16777216) (hx : x < 256) : bits BinOp.xor IntKind.u32 (m : Int) ((x : Int) * 65536) = ((m ^^^ (x * 65536) : Nat) : Int) := by
  rw [show (x : Int) * 65536 = ((x * 65536 : Nat) : Int) from by omega, u32_xor_nat m (x * 65536) (by omega) (by omega)]
theorem xorPoly (s : Nat) (hs : s < 16777216) : bits BinOp.xor IntKind.u32 ((s : Int) * 2) 25578747 = ((2 * s ^^^ 25578747 : Nat) : Int) := by
  rw [show (s : Int) * 2 = ((2 * s : Nat) : Int) from by omega, show (25578747 : Int) = ((25578747 : Nat) : Int) from rfl, u32_xor_nat (2 * s) 25578747 (by omega) (by omega)]
theorem int_u32 {a b : Nat} (h : a = b) : Value.int .u32 (a : Int) = .int .u32 (b : Int) := by rw [h]
theorem ret_u32 {a b : Nat} (h : a = b) : Ending.returned (.int .u32 (a : Int)) = .returned (.int .u32 (b : Int)) := by rw [h]
theorem take_snoc {α : Type} (l : List α) (k : Nat) (h : k < l.length) : l.take (k + 1) = l.take k ++ [l[k]] := List.take_succ_eq_append_getElem h

set_option maxHeartbeats 800000 in
theorem crcMore (w : World) (e : TypeId) (v : Value) (l : List UInt8) (c : Nat) (hc : c < 4294967296) (hb : Bytes w e v l) :
    Calls Try.prog 23 #[.int .u32 c, v] w fun e w' => e = .returned (.int .u32 (CrcPure.more (c % 16777216) l : Nat)) ∧ w = w' := by
  obtain ⟨ao, cap, rfl, h1, h2⟩ := hb.form
  unfold maxLen at h2
  have hc' : c % 16777216 < 16777216 := Nat.mod_lt _ (by decide)
  have hand := and24 c hc
  generalize c % 16777216 = c0 at *
  have HA : Hid (bits BinOp.and IntKind.u32 (c : Int) 16777215 = (c0 : Int)) := hand
  clear hand
  go_enter Try.func23, Try.ntmps23
  go_wp2
  rw [HA.out]
  go_loop [0, 11] (fun a i => ∃ k : Nat, k ≤ l.length ∧ i = .int .i64 k ∧ a = .int .u32 (CrcPure.more c0 (l.take k) : Nat)) (fun _ i => l.length - (intOf i).toNat)
  case atStart => exact ⟨0, Nat.zero_le _, rfl, int_u32 (CrcPure.more_nil c0).symm⟩
  case round =>
    obtain ⟨k, hk, rfl, rfl⟩ := hrel
    by_cases hlt : k < l.length
    · obtain ⟨g, o, rfl, hcell⟩ := hb.cells (by omega)
      have hck := hcell k hlt
      have hx := CrcPure.u8_lt l[k]
      have hm := CrcPure.more_lt (l.take k) hc'
      have HS : Hid (CrcPure.more c0 (l.take (k + 1)) = CrcPure.byte (CrcPure.more c0 (l.take k)) l[k].toNat) := by
        show _ = _
        rw [take_snoc l k hlt, CrcPure.more_append, CrcPure.more_cons, CrcPure.more_nil]
      clear hcell
      generalize CrcPure.more c0 (l.take k) = m at *
      go_wp2
      rw [xor16 m _ hm hx]
      generalize l[k].toNat = x at *
      go_loop [0, 20] (fun a i => ∃ j : Nat, j ≤ 8 ∧ i = .int .i64 j ∧ a = .int .u32 (CrcPure.steps j (m ^^^ x * 65536) : Nat)) (fun _ i => 8 - (intOf i).toNat)
      case atStart => exact ⟨0, Nat.zero_le _, rfl, int_u32 (CrcPure.steps_zero' _).symm⟩
      case round =>
        obtain ⟨j, hj, rfl, rfl⟩ := hrel
        have hs := CrcPure.steps_lt j (CrcPure.xor_lt hm (CrcPure.lt16 hx))
        have HJ : Hid (CrcPure.steps (j + 1) (m ^^^ x * 65536) = CrcPure.step (CrcPure.steps j (m ^^^ x * 65536))) := CrcPure.steps_last _ _
        have HE : Hid (CrcPure.byte m x = CrcPure.steps 8 (m ^^^ x * 65536)) := by unfold CrcPure.byte; rfl
        by_cases h8 : j < 8
        · generalize CrcPure.steps j (m ^^^ x * 65536) = s at *
          by_cases ht : 16777215 < 2 * s
          · have ht' : (16777215 : Int) < (s : Int) * 2 := by omega
            go_wp2
            go_round
            case rel => exact ⟨j + 1, by omega, by go_num, by rw [xorPoly s hs, HJ.out]; exact int_u32 (by unfold CrcPure.step; rw [if_pos ht])⟩
            case measure => simp [intOf]; omega
          · have ht' : (s : Int) * 2 ≤ 16777215 := by omega
            go_wp2
            go_round
            case rel => exact ⟨j + 1, by omega, by go_num, by rw [HJ.out, show (s : Int) * 2 = ((2 * s : Nat) : Int) from by omega]; exact int_u32 (by unfold CrcPure.step; rw [if_neg ht])⟩
            case measure => simp [intOf]; omega
        · obtain rfl : j = 8 := by omega
          go_wp2
          go_round
          case rel => exact ⟨k + 1, by omega, by go_num, int_u32 (by rw [HS.out, HE.out])⟩
          case measure => simp [intOf]; omega
    · go_wp2
      go_ret
      exact ⟨ret_u32 (by rw [List.take_of_length_le (by omega)]), rfl⟩
theorem refStep (h x kk : Nat) (b : Bool) (hb : (((h : Int) / 8388608 % 2) != ((x : Int) / (kk : Int) % 2)) = b) :
    (CrcPure.odd23 h != (x / kk % 2 == 1)) = b := by
  subst hb
  unfold CrcPure.odd23
  have e1 : (h : Int) / 8388608 % 2 = ((h / 8388608 % 2 : Nat) : Int) := by omega
  have e2 : (x : Int) / (kk : Int) % 2 = ((x / kk % 2 : Nat) : Int) := by rw [← Int.natCast_ediv]; omega
  rw [e1, e2]
  have a1 : h / 8388608 % 2 = 0 ∨ h / 8388608 % 2 = 1 := by omega
  have a2 : x / kk % 2 = 0 ∨ x / kk % 2 = 1 := by omega
  rcases a1 with a1 | a1 <;> rcases a2 with a2 | a2 <;> rw [a1, a2] <;> rfl
theorem refXor (s : Nat) : bits BinOp.xor IntKind.u32 ((s : Int) * 2 % 16777216) 8801531 = ((s * 2 % 16777216 ^^^ 8801531 : Nat) : Int) := by
  rw [show (s : Int) * 2 % 16777216 = ((s * 2 % 16777216 : Nat) : Int) from by omega, show (8801531 : Int) = ((8801531 : Nat) : Int) from rfl, u32_xor_nat (s * 2 % 16777216) 8801531 (by omega) (by omega)]
theorem halve (j : Nat) : 128 / 2 ^ j / 2 = 128 / 2 ^ (j + 1) := by rw [Nat.div_div_eq_div_mul, Nat.pow_succ]
theorem pow_pos8 (j : Nat) (h : j < 8) : 1 ≤ 128 / 2 ^ j ∧ 128 / 2 ^ j ≤ 128 := by
  have : j = 0 ∨ j = 1 ∨ j = 2 ∨ j = 3 ∨ j = 4 ∨ j = 5 ∨ j = 6 ∨ j = 7 := by omega
  rcases this with rfl | rfl | rfl | rfl | rfl | rfl | rfl | rfl <;> decide

set_option maxHeartbeats 800000 in
theorem refMore (w : World) (e : TypeId) (v : Value) (l : List UInt8) (c : Nat) (hc : c < 4294967296) (hb : Bytes w e v l) :
    Calls Try.prog 24 #[.int .u32 c, v] w fun e w' => e = .returned (.int .u32 (CrcPure.more (c % 16777216) l : Nat)) ∧ w = w' := by
  obtain ⟨ao, cap, rfl, h1, h2⟩ := hb.form
  unfold maxLen at h2
  have hc' : c % 16777216 < 16777216 := Nat.mod_lt _ (by decide)
  have hand : (c : Int) % 16777216 = ((c % 16777216 : Nat) : Int) := by omega
  generalize c % 16777216 = c0 at *
  have HA : Hid ((c : Int) % 16777216 = (c0 : Int)) := hand
  clear hand
  go_enter Try.func24, Try.ntmps24
  go_wp2
  rw [HA.out]
  go_loop [0, 5] (fun a i => ∃ k : Nat, k ≤ l.length ∧ i = .int .i64 k ∧ a = .int .u32 (CrcPure.more c0 (l.take k) : Nat)) (fun _ i => l.length - (intOf i).toNat)
  case atStart => exact ⟨0, Nat.zero_le _, rfl, int_u32 (CrcPure.more_nil c0).symm⟩
  case round =>
    obtain ⟨k, hk, rfl, rfl⟩ := hrel
    by_cases hlt : k < l.length
    · obtain ⟨g, o, rfl, hcell⟩ := hb.cells (by omega)
      have hck := hcell k hlt
      have hx := CrcPure.u8_lt l[k]
      have hm := CrcPure.more_lt (l.take k) hc'
      have HS : Hid (CrcPure.more c0 (l.take (k + 1)) = CrcPure.byte (CrcPure.more c0 (l.take k)) l[k].toNat) := by
        show _ = _
        rw [take_snoc l k hlt, CrcPure.more_append, CrcPure.more_cons, CrcPure.more_nil]
      clear hcell
      generalize CrcPure.more c0 (l.take k) = m at *
      generalize l[k].toNat = x at *
      go_wp2
      go_loop [0, 6] (fun a i => ∃ j : Nat, j ≤ 8 ∧ i = .int .i64 (128 / 2 ^ j : Nat) ∧ a = .int .u32 (CrcPure.held m x j : Nat)) (fun _ i => (intOf i).toNat)
      case atStart => exact ⟨0, Nat.zero_le _, rfl, int_u32 (CrcPure.held_zero m x hx).symm⟩
      case round =>
        obtain ⟨j, hj, rfl, rfl⟩ := hrel
        have hs := CrcPure.held_lt (j := j) hm hx
        by_cases h8 : j < 8
        · have HJ : Hid (CrcPure.held m x (j + 1) = _) := CrcPure.held_succ hm hx h8
          have hp := pow_pos8 j h8
          have HV : Hid (128 / 2 ^ j / 2 = 128 / 2 ^ (j + 1)) := halve j
          generalize CrcPure.held m x j = s at *
          generalize 128 / 2 ^ j = kk at *
          have d1 : 0 ≤ (x : Int) / (kk : Int) := Int.ediv_nonneg (by omega) (by omega)
          have d2 : (x : Int) / (kk : Int) ≤ (x : Int) := Int.ediv_le_self _ (by omega)
          obtain ⟨b, hb'⟩ : ∃ b, (((s : Int) / 8388608 % 2) != ((x : Int) / (kk : Int) % 2)) = b := ⟨_, rfl⟩
          have HB := refStep s x kk b hb'
          have HB' : Hid ((CrcPure.odd23 s != (x / kk % 2 == 1)) = b) := HB
          clear HB
          cases b
          all_goals
            go_wp2
            go_round
            case rel => exact ⟨j + 1, by omega, by rw [← HV.out]; go_num, by first | (rw [refXor, HJ.out, HB'.out]; rfl) | (rw [HJ.out, HB'.out, if_neg (by decide), Nat.xor_zero]; go_num)⟩
            case measure => simp [intOf]; omega
        · obtain rfl : j = 8 := by omega
          go_wp2
          go_round
          case rel => exact ⟨k + 1, by omega, by go_num, int_u32 (by rw [HS.out, CrcPure.held_eight])⟩
          case measure => simp [intOf]; omega
    · go_wp2
      go_ret
      exact ⟨ret_u32 (by rw [List.take_of_length_le (by omega)]), rfl⟩
theorem crcOf (w : World) (e : TypeId) (v : Value) (l : List UInt8) (hb : Bytes w e v l) :
    Calls Try.prog 25 #[v] w fun e w' => e = .returned (.int .u32 (CrcPure.more CrcPure.init l : Nat)) ∧ w = w' := by
  have h := crcMore w e v l 11994318 (by omega) hb
  rw [show 11994318 % 16777216 = CrcPure.init from rfl] at h
  have H := hid h; clear h
  go_enter Try.func25, Try.ntmps25
  go_wp2_with fail
  refine H.out.mono ?_
  rintro e w' ⟨rfl, rfl⟩
  go_wp2_with fail
  go_ret
  exact ⟨rfl, rfl⟩

def nine : List UInt8 := [49, 50, 51, 52, 53, 54, 55, 56, 57]
theorem of_nine : CrcPure.more CrcPure.init nine = 2215682 := by decide +kernel
theorem of_none : CrcPure.more CrcPure.init [] = 11994318 := by decide +kernel
set_option maxRecDepth 100000 in
theorem crcLives (w : World) : Calls Try.prog 26 #[] w (RetSame (.bool true) w) := by
  have hb : ∀ w0 : World, Bytes (w0.alloc (.cells #[.int .u8 49, .int .u8 50, .int .u8 51, .int .u8 52, .int .u8 53, .int .u8 54, .int .u8 55, .int .u8 56, .int .u8 57] 5 (9, 9 + 1))) 5 (.slice (some ⟨w0.heap.size, 0, none⟩) 9 9) nine :=
    fun w0 => Bytes.made 5 w0.heap.size 9 9 _ nine (heap_alloc_new _ _) (Nat.le_refl _) (by decide) rfl ⟨[], rfl⟩
  have h1 := fun w0 => crcOf _ _ _ _ (hb w0)
  have h2 := fun w0 => crcOf w0 5 _ _ (Bytes.nil w0 5)
  rw [of_nine] at h1
  rw [of_none] at h2
  have H1 := hid h1; clear h1
  have H2 := hid h2; clear h2 hb
  have kc := fun (w : World) (C : Array Value) (n c : Nat) => Lib.run_convert_bytes_const (P := Try.prog) w 23 5 C n c Try.underlying23 Try.underlying5
  go_enter Try.func26, Try.ntmps26
  go_wp2_with fail
  refine (H1.out _).mono ?_
  rintro e w' ⟨rfl, rfl⟩
  go_wp2_with fail
  refine (H2.out _).mono ?_
  rintro e w' ⟨rfl, rfl⟩
  go_wp2_with fail
  go_ret
  exact ⟨rfl, (Same.refl w).alloc _⟩
end Go.Proofs.Ytlhnpicmjjddeaa
