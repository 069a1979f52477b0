/- FRAME: put, get, right. -/
import Derived.Test.YtlhnpicmjjddeaaL06b
import Derived.Test.YtlhnpicmjjddeaaFrPure
import Derived.Laws.BitsAllLaws
namespace Go.Proofs.Ytlhnpicmjjddeaa
open Go.RowKit

theorem be_take (s n k : Nat) (hk : k < s) : (be s n).take (k + 1) = (be s n).take k ++ [(n / 256 ^ (s - 1 - k)).toUInt8] := by
  induction s generalizing k with
  | zero => omega
  | succ s ih =>
    cases k with
    | zero => simp [be]
    | succ k =>
      simp only [be, List.take_succ_cons, List.cons_append]
      rw [ih k (by omega), show s + 1 - 1 - (k + 1) = s - 1 - k from by omega]
theorem byte_made (w : World) (n : Int) (x : UInt8) (h : n = x.toNat) : Bytes (w.alloc (.cells #[.int .u8 n] 5)) 5 (.slice (some ⟨w.heap.size, 0, none⟩) 1 1) [x] :=
  Bytes.made 5 w.heap.size 1 1 _ _ (heap_alloc_new w _) (Nat.le_refl _) (by decide) rfl (by simp [u8, h])
theorem byte_at (n j : Nat) : (n : Int) / 2 ^ (8 * j) % 256 = ((n / 256 ^ j).toUInt8.toNat : Int) := by
  rw [show (256 : Nat) ^ j = 2 ^ (8 * j) from by rw [Nat.pow_mul]]
  have : (n / 2 ^ (8 * j)).toUInt8.toNat = n / 2 ^ (8 * j) % 256 := by simp
  rw [this]
  simp
def RetPut (l : List UInt8) (base : Nat) (w : World) (en : Ending) (w' : World) : Prop := ∃ v, en = .returned v ∧ OwnB w' base v l ∧ Keep (fun k => base ≤ k) w w'

set_option maxHeartbeats 1600000 in
set_option maxRecDepth 100000 in
theorem fPut (w : World) (base : Nat) (v : Value) (l : List UInt8) (n s : Nat) (hs : s ≤ 4) (hn : n < 4294967296) (hO : OwnB w base v l) (hl : l.length ≤ 1000000) (hb : base ≤ w.heap.size) :
    Calls Try.prog 95 #[v, .int .i64 n, .int .i64 s] w (RetPut (l ++ be s n) base w) := by
  obtain ⟨ao, cap, rfl, h1, h2⟩ := hO.bytes.form
  have HO := hid hO
  have HL := hid hl
  clear hl hO
  go_enter Try.func95, Try.ntmps95
  go_wp2_with fail
  go_loopw [0, 7] (fun b i wr => ∃ k : Nat, k ≤ s ∧ i = .int .i64 ((s : Int) - 1 - k) ∧ OwnB wr base b (l ++ (be s n).take k) ∧ Keep (fun g => base ≤ g) w wr) (fun _ i _ => (intOf i + 1).toNat)
  case atStart => exact ⟨0, Nat.zero_le _, by simp, by simpa using HO.out, Keep.refl _ _⟩
  case round =>
    obtain ⟨k, hk, rfl, ho, K⟩ := hrel
    have HOk := hid ho
    have K := hid K
    by_cases hlt : k < s
    · obtain ⟨j, hj⟩ : ∃ j, s = k + j + 1 := ⟨s - k - 1, by omega⟩
      have ej : (s : Int) - 1 - (k : Int) = (j : Int) := by omega
      have hj3 : j ≤ 3 := by omega
      have HJ := hid (show s - 1 - k = j by omega)
      have HT := hid (be_take s n k hlt)
      rw [HJ.out] at HT
      have hlen : Hid (((be s n).take k).length ≤ 4) := by show _ ≤ _; rw [List.length_take, be_length]; omega
      have HB := hid (fun wz => byte_made wz _ _ (byte_at n j))
      have HO2 := hid (HOk.out.alloc (.cells #[.int .u8 ((n : Int) / 2 ^ (8 * j) % 256)] 5))
      have K2 := hid (K.out.alloc (.cells #[.int .u8 ((n : Int) / 2 ^ (8 * j) % 256)] 5))
      have HS := hid (Nat.le_trans hb K2.out.size)
      rw [ej]
      clear ej hj ho K
      generalize (be s n).take k = pre at *
      go_wp2_with (at_builtin; refine wpList_append_bytes rfl (.tmp 14) (.tmp 20) 23 tyBytes rfl HO2.out (HB.out wr) rfl rfl (by have := HL.out; have := hlen.out; rw [List.length_append]; simp; omega) HS.out ?_; intro x1 w1 ho1 hg1)
      go_roundw
      case rel => exact ⟨k + 1, by omega, by congr 1; have := HJ.out; omega, by rw [HT.out, ← List.append_assoc]; exact ho1, K2.out.grown hg1 fun g e => .inl ((HO2.out.lt g e).1)⟩
      case measure => simp [intOf]
    · obtain rfl : k = s := by omega
      have HT : Hid ((be k n).take k = be k n) := List.take_of_length_le (by rw [be_length]; omega)
      have ej : (k : Int) - 1 - (k : Int) = -1 := by omega
      rw [ej]
      clear ej
      go_wp2_with fail
      go_ret
      exact ⟨_, rfl, by rw [← HT.out]; exact HOk.out, K.out⟩

/-! ### get -/
theorem or_byte (m c : Nat) (hc : c < 256) : m * 256 ||| c = m * 256 + c := by
  rw [show m * 256 = m <<< 8 from by rw [Nat.shiftLeft_eq], Nat.shiftLeft_add_eq_or_of_lt (by omega)]
theorem or_i64 (m x : Nat) (hm : m < 16777216) (hx : x < 256) : bits BinOp.or IntKind.i64 ((m : Int) * 256) (x : Int) = ((m * 256 + x : Nat) : Int) := by
  rw [← or_byte m x hx]
  have h1 : m * 256 ||| x < 2 ^ 32 := Nat.or_lt_two_pow (by omega) (by omega)
  rw [show (m : Int) * 256 = ((m * 256 : Nat) : Int) from by omega]
  show IntKind.i64.wrap ((BitVec.ofInt 64 ((m * 256 : Nat) : Int) ||| BitVec.ofInt 64 (x : Int)).toNat : Int) = _
  rw [BitVec.toNat_or, ofInt_u64 _ (by omega), ofInt_u64 _ (by omega), IntKind.wrap_i64]
  omega
set_option maxHeartbeats 1600000 in
set_option maxRecDepth 100000 in
theorem fGet (w : World) (e : TypeId) (v : Value) (l : List UInt8) (hb : Bytes w e v l) (hl : l.length ≤ 4) :
    Calls Try.prog 98 #[v] w fun en w' => en = .returned (.int .i64 (val l)) ∧ w = w' := by
  obtain ⟨ao, cap, rfl, h1, h2⟩ := hb.form
  have HL := hid hl
  have hl' : l.length ≤ 9223372036854775807 := by omega
  clear hl
  go_enter Try.func98, Try.ntmps98
  go_wp2_with fail
  go_loop [3, 8] (fun n i => ∃ k : Nat, k ≤ l.length ∧ i = .int .i64 k ∧ n = .int .i64 (val (l.take k))) (fun _ i => l.length - (intOf i).toNat)
  case atStart => exact ⟨0, Nat.zero_le _, rfl, rfl⟩
  case round =>
    obtain ⟨k, hk, rfl, rfl⟩ := hrel
    by_cases hlt : k < l.length
    · obtain ⟨g, o, rfl, hc⟩ := hb.cells (by omega)
      have c1 := hc k hlt
      have hs := val_snoc (l.take k) l[k]
      rw [← List.take_succ_eq_append_getElem hlt] at hs
      have HS := hid hs
      have hv : val (l.take k) < 16777216 := by
        have := val_lt (l.take k)
        have h2 : (l.take k).length ≤ 3 := by rw [List.length_take]; have := HL.out; omega
        have h3 : 256 ^ (l.take k).length ≤ 256 ^ 3 := Nat.pow_le_pow_right (by omega) h2
        omega
      have hx : l[k].toNat < 256 := l[k].toNat_lt
      clear hc hs
      generalize val (l.take k) = m at *
      generalize l[k].toNat = x at *
      go_wp2_with fail
      go_round
      case rel => exact ⟨k + 1, by omega, by go_num, by rw [HS.out, or_i64 m x hv hx]⟩
      case measure => simp [intOf]; omega
    · obtain rfl : k = l.length := by omega
      have HT : Hid (l.take l.length = l) := List.take_length
      go_wp2_with fail
      go_ret
      exact ⟨rfl, rfl⟩

/-! ### right -/
/-- a frame by value -/
def Fr.agg (f : Fr) (v : Value) : Value := .agg #[.int .i64 f.life, .int .i64 f.era, .int .i64 f.seq, .int .i64 f.part, .int .i64 f.parts, v]
/-- x is the frame f by value -/
def FrV (w : World) (x : Value) (f : Fr) : Prop := ∃ v e, x = f.agg v ∧ Bytes w e v f.data
theorem FrV.same {w w' : World} {x : Value} {f : Fr} (h : FrV w x f) (S : Same w w') : FrV w' x f := let ⟨v, e, h1, h2⟩ := h; ⟨v, e, h1, h2.same S⟩
theorem Fr.right_false1 {f : Fr} (h : stampOk f.life f.era f.seq = false) : f.right = false := by unfold Fr.right; rw [h]; rfl
theorem Fr.right_false2 {f : Fr} (h : partOk f.part f.parts f.data.length = false) : f.right = false := by unfold Fr.right; rw [h]; simp
theorem stamp_false {a b c : Int} (h : ¬ (1 ≤ a ∧ a ≤ 16777215 ∧ 0 ≤ b ∧ b ≤ 16777215 ∧ 1 ≤ c ∧ c ≤ 4294967295)) : stampOk a b c = false := decide_eq_false h
theorem part_false {a b : Int} {n : Nat} (h : ¬ (1 ≤ b ∧ b ≤ 255 ∧ 0 ≤ a ∧ a < b ∧ n ≤ 80)) : partOk a b n = false := decide_eq_false h

set_option maxHeartbeats 1600000 in
set_option maxRecDepth 100000 in
theorem fRight (w : World) (x : Value) (f : Fr) (hx : FrV w x f) : Calls Try.prog 94 #[x] w (RetSame (.bool f.right) w) := by
  obtain ⟨v, e, rfl, hb⟩ := hx
  obtain ⟨ao, cap, rfl, h1, h2⟩ := hb.form
  unfold maxLen at h2
  have S1 := hid ((Same.refl w).alloc (.cells #[.int .i64 f.life, .int .i64 f.era, .int .i64 f.seq, .int .i64 f.part, .int .i64 f.parts, .slice ao f.data.length cap] 60))
  have F1 := hid (@Fr.right_false1 f)
  have F2 := hid (@Fr.right_false2 f)
  have FT := hid (@Fr.right_iff f)
  unfold Fr.agg
  generalize f.right = r at *
  obtain ⟨life, era, seq, part, parts, data⟩ := f
  simp only at *
  generalize data.length = n at *
  by_cases a1 : 1 ≤ life
  case neg =>
    have hr := F1.out (stamp_false (by omega))
    subst hr
    have d6 : decide (1 ≤ life) = false := by simpa using a1
    clear F1 F2 FT
    go_enter Try.func94, Try.ntmps94
    go_wp2_with fail
    go_ret
    exact ⟨rfl, S1.out⟩
  by_cases a2 : life ≤ 16777215
  case neg =>
    have hr := F1.out (stamp_false (by omega))
    subst hr
    have d6 : decide (life ≤ 16777215) = false := by simpa using a2
    clear F1 F2 FT
    go_enter Try.func94, Try.ntmps94
    go_wp2_with fail
    go_ret
    exact ⟨rfl, S1.out⟩
  by_cases a3 : 0 ≤ era
  case neg =>
    have hr := F1.out (stamp_false (by omega))
    subst hr
    have d6 : decide (0 ≤ era) = false := by simpa using a3
    clear F1 F2 FT
    go_enter Try.func94, Try.ntmps94
    go_wp2_with fail
    go_ret
    exact ⟨rfl, S1.out⟩
  by_cases a4 : era ≤ 16777215
  case neg =>
    have hr := F1.out (stamp_false (by omega))
    subst hr
    have d6 : decide (era ≤ 16777215) = false := by simpa using a4
    clear F1 F2 FT
    go_enter Try.func94, Try.ntmps94
    go_wp2_with fail
    go_ret
    exact ⟨rfl, S1.out⟩
  by_cases a5 : 1 ≤ seq
  case neg =>
    have hr := F1.out (stamp_false (by omega))
    subst hr
    have d6 : decide (1 ≤ seq) = false := by simpa using a5
    clear F1 F2 FT
    go_enter Try.func94, Try.ntmps94
    go_wp2_with fail
    go_ret
    exact ⟨rfl, S1.out⟩
  by_cases a6 : seq ≤ 4294967295
  case neg =>
    have hr := F1.out (stamp_false (by omega))
    subst hr
    have d6 : decide (seq ≤ 4294967295) = false := by simpa using a6
    clear F1 F2 FT
    go_enter Try.func94, Try.ntmps94
    go_wp2_with fail
    go_ret
    exact ⟨rfl, S1.out⟩
  by_cases a7 : 1 ≤ parts
  case neg =>
    have hr := F2.out (part_false (by omega))
    subst hr
    have d6 : decide (1 ≤ parts) = false := by simpa using a7
    clear F1 F2 FT
    go_enter Try.func94, Try.ntmps94
    go_wp2_with fail
    go_ret
    exact ⟨rfl, S1.out⟩
  by_cases a8 : parts ≤ 255
  case neg =>
    have hr := F2.out (part_false (by omega))
    subst hr
    have d6 : decide (parts ≤ 255) = false := by simpa using a8
    clear F1 F2 FT
    go_enter Try.func94, Try.ntmps94
    go_wp2_with fail
    go_ret
    exact ⟨rfl, S1.out⟩
  by_cases a9 : 0 ≤ part
  case neg =>
    have hr := F2.out (part_false (by omega))
    subst hr
    have d6 : decide (0 ≤ part) = false := by simpa using a9
    clear F1 F2 FT
    go_enter Try.func94, Try.ntmps94
    go_wp2_with fail
    go_ret
    exact ⟨rfl, S1.out⟩
  by_cases a10 : part < parts
  case neg =>
    have hr := F2.out (part_false (by omega))
    subst hr
    have d6 : decide (part < parts) = false := by simpa using a10
    clear F1 F2 FT
    go_enter Try.func94, Try.ntmps94
    go_wp2_with fail
    go_ret
    exact ⟨rfl, S1.out⟩
  by_cases a11 : (n : Int) ≤ 80
  case neg =>
    have hr := F2.out (part_false (by omega))
    subst hr
    have d6 : decide ((n : Int) ≤ 80) = false := by simpa using a11
    clear F1 F2 FT
    go_enter Try.func94, Try.ntmps94
    go_wp2_with fail
    go_ret
    exact ⟨rfl, S1.out⟩
  have hr := FT.out.2 ⟨stampOk_iff.2 ⟨a1, a2, a3, a4, a5, a6⟩, partOk_iff.2 ⟨a7, a8, a9, a10, by omega⟩⟩
  subst hr
  clear F1 F2 FT
  go_enter Try.func94, Try.ntmps94
  go_wp2_with fail
  go_ret
  exact ⟨rfl, S1.out⟩
end Go.Proofs.Ytlhnpicmjjddeaa
