/- GIVE's reference: Late, Of, Same. -/
import Derived.Test.YtijdjpmceclmhaaGv4
namespace Go.Proofs.Ytijdjpmceclmhaa
open Go.RowKit

set_option maxHeartbeats 3200000 in
set_option maxRecDepth 100000 in
theorem rgLate (w : World) (v : Value) (L : List Gv) (day : Int) (hL : Gs w v L) (hlen : L.length ≤ 64) :
    Calls Try.prog 16 #[v, .int .i64 day] w (RetInts (sel L fun g => decide (g.day < day)) w) := by
  obtain ⟨ao, cap, rfl, h1, h2⟩ := hL.form
  unfold maxLen at h2
  have HL := hid hL
  clear hL
  go_enter Try.func16, Try.ntmps16
  go_wp2_with fail
  go_loopw [5, 6] (fun out i wr => ∃ k : Nat, k ≤ L.length ∧ i = .int .i64 k ∧ OwnI wr w.heap.size out (sel (L.take k) fun g => decide (g.day < day)) ∧ Same w wr) (fun _ i _ => L.length - (intOf i).toNat)
  case atStart => exact ⟨0, Nat.zero_le _, rfl, OwnI.nil _ _, Same.refl w⟩
  case round =>
    obtain ⟨k, hk, rfl, ho, S⟩ := hrel
    have HO := hid ho
    have HSm := hid S
    clear ho S
    by_cases hlt : k < L.length
    case neg =>
      obtain rfl : k = L.length := by omega
      have HT : Hid (L.take L.length = L) := List.take_length
      have ho := HO.out
      rw [HT.out] at ho
      have HO := hid ho
      clear ho
      go_wp2_with fail
      go_ret
      exact ⟨_, rfl, HO.out, HSm.out⟩
    obtain ⟨g, o, rfl, c0, c1, c2, c3, c4, c5, c6, c7, c8, c9, c10⟩ := (HL.out.same HSm.out).row k hlt
    have hs := sel_take L (fun g => decide (g.day < day)) k hlt
    have hle := sel_le (L.take k) (fun g => decide (g.day < day))
    have hle2 : (sel (L.take k) fun g => decide (g.day < day)).length ≤ 64 := by rw [List.length_take] at hle; omega
    have HS := hid hs
    clear hs hle c1 c2 c3 c4 c5 c6 c7 c8
    generalize L[k] = x at *
    cases hst : x.state == 1
    case false =>
      have hs2 := HS.out
      rw [hst, Bool.false_and, if_neg (by decide), List.append_nil] at hs2
      have HS2 := hid hs2
      clear hs2 HS
      go_wp2_with fail
      go_roundw
      case rel => exact ⟨k + 1, by omega, by go_num, by rw [HS2.out]; exact HO.out, HSm.out⟩
      case measure => simp [intOf]; omega
    by_cases hd : x.day < day
    case neg =>
      have hs2 := HS.out
      rw [hst, Bool.true_and, decide_eq_false hd, if_neg (by decide), List.append_nil] at hs2
      have HS2 := hid hs2
      have hd2 : decide (x.day < day) = false := decide_eq_false hd
      clear hs2 HS hd
      go_wp2_with fail
      go_roundw
      case rel => exact ⟨k + 1, by omega, by go_num, by rw [HS2.out]; exact HO.out, HSm.out⟩
      case measure => simp [intOf]; omega
    have hs2 := HS.out
    rw [hst, Bool.true_and, decide_eq_true hd, if_pos rfl] at hs2
    have HS2 := hid hs2
    have hd2 : decide (x.day < day) = true := decide_eq_true hd
    have ho2 := hid (HO.out.same ((Same.refl wr).alloc (.cells #[.int .i64 x.id] 3)))
    have hz := HSm.out.size
    clear hs2 HS hd
    go_wp2_with (at_builtin; refine wpList_append_int rfl (.tmp 28) (.tmp 34) 39 tyInts rfl ho2.out (int_made wr x.id) rfl rfl (by simp; omega) (by simp; omega) ?_; intro x1 w2 ho3 hg1; have S4 := hid (OwnI.grown (HSm.out.alloc _) ho2.out (Nat.le_refl _) hg1); have HO3 := hid ho3; clear ho3 hg1)
    go_roundw
    case rel => exact ⟨k + 1, by omega, by go_num, by rw [HS2.out]; exact HO3.out, S4.out⟩
    case measure => simp [intOf]; omega
theorem OwnI.mono {w : World} {base base' : Nat} {v : Value} {l : List Int} (h : OwnI w base v l) (hb : base' ≤ base) : OwnI w base' v l := by
  obtain ⟨h1, h2⟩ := h
  refine ⟨h1, ?_⟩
  rcases h2 with h2 | ⟨g, cap, cur, a, b, c⟩
  · exact .inl h2
  · exact .inr ⟨g, cap, cur, a, Nat.le_trans hb b, c⟩
theorem not_pair {a b c d : Int} (h : ¬ (a = b ∧ c = d)) : ¬ a = b ∨ (a = b ∧ ¬ c = d) := by
  by_cases q : a = b
  · exact .inr ⟨q, fun r => h ⟨q, r⟩⟩
  · exact .inl q
theorem isOf_cases (ua uc : Int) (x : Gv) : (isOf ua uc x = true ∧ x.fa = ua ∧ x.fc = uc) ∨ (isOf ua uc x = true ∧ (¬ x.fa = ua ∨ (x.fa = ua ∧ ¬ x.fc = uc)) ∧ x.ta = ua ∧ x.tc = uc) ∨ (isOf ua uc x = false ∧ (¬ x.fa = ua ∨ (x.fa = ua ∧ ¬ x.fc = uc)) ∧ (¬ x.ta = ua ∨ (x.ta = ua ∧ ¬ x.tc = uc))) := by
  unfold isOf
  by_cases h1 : x.fa = ua ∧ x.fc = uc
  · exact .inl ⟨by simp [h1.1, h1.2], h1⟩
  by_cases h2 : x.ta = ua ∧ x.tc = uc
  · exact .inr (.inl ⟨by simp [h2.1, h2.2], not_pair h1, h2⟩)
  · refine .inr (.inr ⟨?_, not_pair h1, not_pair h2⟩)
    simp only [Bool.or_eq_false_iff, Bool.and_eq_false_iff, beq_eq_false_iff_ne]
    constructor
    · by_cases a : x.fa = ua
      · exact .inr fun b => h1 ⟨a, b⟩
      · exact .inl a
    · by_cases a : x.ta = ua
      · exact .inr fun b => h2 ⟨a, b⟩
      · exact .inl a
set_option maxHeartbeats 6400000 in
set_option maxRecDepth 100000 in
theorem rgOf (w : World) (v : Value) (L : List Gv) (ua uc : Int) (hL : Gs w v L) (hlen : L.length ≤ 64) :
    Calls Try.prog 18 #[v, .agg #[.int .i64 ua, .int .i64 uc]] w (RetInts (sel L (isOf ua uc)) w) := by
  obtain ⟨ao, cap, rfl, h1, h2⟩ := hL.form
  unfold maxLen at h2
  have HL := hid hL
  have S0 := hid ((Same.refl w).alloc (.cells #[.int .i64 ua, .int .i64 uc] 25))
  have hb0 : (w.alloc (.cells #[.int .i64 ua, .int .i64 uc] 25)).cell? ⟨w.heap.size, 0, none⟩ = some (.int .i64 ua) := by simp
  have hb1 : (w.alloc (.cells #[.int .i64 ua, .int .i64 uc] 25)).cell? ⟨w.heap.size, 1, none⟩ = some (.int .i64 uc) := by simp
  have hbl : w.heap.size < (w.alloc (.cells #[.int .i64 ua, .int .i64 uc] 25)).heap.size := by simp
  have HU := hid (fun (wz : World) (Z : Same (w.alloc (.cells #[.int .i64 ua, .int .i64 uc] 25)) wz) => And.intro ((Z.cell (p := ⟨w.heap.size, 0, none⟩) hbl).trans hb0) ((Z.cell (p := ⟨w.heap.size, 1, none⟩) hbl).trans hb1))
  clear hL hb0 hb1 hbl
  go_enter Try.func18, Try.ntmps18
  go_wp2_with fail
  go_loopw [5, 6] (fun out i wr => ∃ k : Nat, k ≤ L.length ∧ i = .int .i64 k ∧ OwnI wr (w.alloc (.cells #[.int .i64 ua, .int .i64 uc] 25)).heap.size out (sel (L.take k) (isOf ua uc)) ∧ Same (w.alloc (.cells #[.int .i64 ua, .int .i64 uc] 25)) wr) (fun _ i _ => L.length - (intOf i).toNat)
  case atStart => exact ⟨0, Nat.zero_le _, rfl, OwnI.nil _ _, Same.refl _⟩
  case round =>
    obtain ⟨k, hk, rfl, ho, S⟩ := hrel
    have HO := hid ho
    have HSm := hid S
    clear ho S
    by_cases hlt : k < L.length
    case neg =>
      obtain rfl : k = L.length := by omega
      have HT : Hid (L.take L.length = L) := List.take_length
      have ho := HO.out
      rw [HT.out] at ho
      have HO := hid ho
      clear ho
      go_wp2_with fail
      go_ret
      exact ⟨_, rfl, HO.out.mono (by simp), S0.out.trans HSm.out⟩
    obtain ⟨g, o, rfl, c0, c1, c2, c3, c4, c5, c6, c7, c8, c9, c10⟩ := (HL.out.same (S0.out.trans HSm.out)).row k hlt
    obtain ⟨u0, u1⟩ := HU.out wr HSm.out
    have hs := sel_take L (isOf ua uc) k hlt
    have hle := sel_le (L.take k) (isOf ua uc)
    have hle2 : (sel (L.take k) (isOf ua uc)).length ≤ 64 := by rw [List.length_take] at hle; omega
    have HS := hid hs
    have hsz := (S0.out.trans HSm.out).size
    clear hs hle c5 c6 c7 c8 c9
    generalize L[k] = x at *
    have hki : (0 : Int) ≤ (k : Int) := by omega
    have hkl : (k : Int) < (L.length : Int) := by omega
    have HSm2 := hid (S0.out.trans HSm.out)
    cases hst : x.state == 1
    case false =>
      have hs2 := HS.out
      rw [hst, Bool.false_and, if_neg (by decide), List.append_nil] at hs2
      have HS2 := hid hs2
      clear hs2 HS
      go_wp2_with fail
      go_quiet (fail)
      go_wp2_with fail
      go_roundw
      case rel => exact ⟨k + 1, by omega, by go_num, by rw [HS2.out]; exact HO.out.same ((Same.refl wr).drewN _), HSm.out.drewN _⟩
      case measure => simp [intOf]; omega
    rcases isOf_cases ua uc x with ⟨hi, q1, q2⟩ | ⟨hi, q0 | ⟨q0, q3⟩, q1, q2⟩ | ⟨hi, q0 | ⟨q0, q3⟩, q1 | ⟨q1, q2⟩⟩
    case inr.inr.inl.inl | inr.inr.inl.inr | inr.inr.inr.inl | inr.inr.inr.inr =>
      all_goals
        have hs2 := HS.out
        rw [hst, Bool.true_and, hi, if_neg (by decide), List.append_nil] at hs2
        have HS2 := hid hs2
        clear hs2 HS hi
        go_wp2_with fail
        go_quiet (fail)
        go_wp2_with fail
        go_roundw
        case rel => exact ⟨k + 1, by omega, by go_num, by rw [HS2.out]; exact HO.out.same ((Same.refl wr).drewN _), HSm.out.drewN _⟩
        case measure => simp [intOf]; omega
    all_goals
      have hs2 := HS.out
      rw [hst, Bool.true_and, hi, if_pos rfl] at hs2
      have HS2 := hid hs2
      clear hs2 HS hi
      go_wp2_with fail
      go_quiet (fail)
      have ho2 := hid (HO.out.same (((Same.refl wr).drewN nq).alloc (.cells #[.int .i64 x.id] 3)))
      have hz := HSm.out.size
      simp at hz
      go_wp2_with (at_builtin; refine wpList_append_int rfl (.tmp 37) (.tmp 43) 39 tyInts rfl ho2.out (int_made (wr.drewN nq) x.id) rfl rfl (by simp; omega) (by simp; omega) ?_; intro x1 w2 ho3 hg1; have HO3 := hid ho3; have S5 := hid (OwnI.grown ((HSm.out.drewN nq).alloc (.cells #[.int .i64 x.id] 3)) ho2.out (Nat.le_refl _) hg1); clear ho3 hg1)
      go_roundw
      case rel => exact ⟨k + 1, by omega, by go_num, by rw [HS2.out]; exact HO3.out, S5.out⟩
      case measure => simp [intOf]; omega
end Go.Proofs.Ytijdjpmceclmhaa
