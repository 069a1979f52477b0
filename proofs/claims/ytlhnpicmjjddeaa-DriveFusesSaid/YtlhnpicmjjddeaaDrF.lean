/- DISK: the walk of DriveFuses. -/
import Derived.Test.YtlhnpicmjjddeaaL06b
namespace Go.Proofs.Ytlhnpicmjjddeaa
open Go.RowKit

def one96 : List UInt8 := 1 :: List.replicate 95 0
/-- the drive of DriveFuses after i writes -/
def fzD (N i : Nat) : Dv := ⟨List.replicate (min i N) one96 ++ List.replicate (30 - min i N) nought, decide (N < i), true, if N < i then -1 else (N : Int) - i, []⟩
theorem fzD_zero (N : Nat) : (Dv.new 30).fuse N [] = (0, fzD N 0) := by
  unfold Dv.fuse Dv.new fzD nought
  simp
theorem fzD_length (N i : Nat) (hN : N ≤ 25) : (fzD N i).C.length = 30 := by
  simp [fzD]; omega
theorem fzD_at (N i k : Nat) (hN : N ≤ 25) (hk : k < 30) : (fzD N i).C[k]? = some (if k < min i N then one96 else nought) := by
  unfold fzD
  simp only
  by_cases h : k < min i N
  · rw [List.getElem?_append_left (by simpa using h), if_pos h, List.getElem?_replicate, if_pos h]
  · rw [List.getElem?_append_right (by simpa using h), if_neg h, List.getElem?_replicate, List.length_replicate, if_pos (by omega)]
theorem fzD_write (N i : Nat) (hN : N ≤ 25) (hi : i < 25) : (fzD N i).write i [one96] = (if i < N then 0 else 9, fzD N (i + 1)) := by
  have hl : (fzD N i).C.length = 30 := fzD_length N i hN
  have hb : (fzD N i).bad i [one96] = false := by
    unfold Dv.bad
    rw [hl]
    simp [isLong, one96]
    omega
  unfold Dv.write
  by_cases h1 : N < i
  · have ho : (fzD N i).off = true := by simp [fzD, h1]
    rw [ho, if_pos rfl, if_neg (by omega)]
    congr 1
    unfold fzD
    rw [show min (i + 1) N = min i N from by omega]
    have : N < i + 1 := by omega
    simp [h1, this]
  · have ho : (fzD N i).off = false := by simp [fzD, h1]
    rw [ho, if_neg (by simp), hb, if_neg (by simp), if_neg (by simp)]
    have hbl : (fzD N i).blown = decide (i = N) := by
      unfold Dv.blown fzD
      simp [h1]
      omega
    rw [hbl]
    have hC : ((fzD N i).wrote i [one96]).C = (fzD N (i + 1)).C := by
      refine List.ext_getElem? fun k => ?_
      show (landed (fzD N i).C i [one96] (fzD N i).keeps [one96].length)[k]? = _
      rw [landed_at, hl]
      have hk : (fzD N i).keeps = fun _ => !decide (i = N) := by
        funext j
        unfold Dv.keeps
        rw [hbl]
        simp [fzD, hasInt]
      rw [hk]
      by_cases hk30 : k < 30
      · rw [fzD_at N i k hN hk30, fzD_at N (i + 1) k hN hk30]
        by_cases hc : i ≤ k ∧ k < i + 1 ∧ i < N
        · obtain ⟨c1, c2, c3⟩ := hc
          obtain rfl : k = i := by omega
          have c4 : ¬ k = N := by omega
          rw [if_pos ⟨by omega, by simp, by simp [c4], hk30⟩, if_pos (by omega)]
          simp
        · rw [if_neg]
          · by_cases c5 : k < min i N
            · rw [if_pos c5, if_pos (by omega)]
            · rw [if_neg c5, if_neg (by omega)]
          · rintro ⟨a, b, c, d⟩
            simp at b c
            omega
      · rw [if_neg (by omega), List.getElem?_eq_none (by omega), List.getElem?_eq_none (by rw [fzD_length N (i + 1) hN]; omega)]
    by_cases h2 : i = N
    · subst h2
      simp only [decide_true, if_true, Nat.lt_irrefl, if_false]
      congr 1
      have : (fzD i i).wrote i [one96] = ⟨((fzD i i).wrote i [one96]).C, (fzD i i).blown, true, (fzD i i).left - 1, []⟩ := by simp [Dv.wrote, fzD]
      rw [this, hC, hbl]
      simp [fzD]
    · have h4 : i < N := by omega
      simp only [h2, h4, decide_false, if_true, Bool.false_eq_true, if_false]
      congr 1
      have : (fzD N i).wrote i [one96] = ⟨((fzD N i).wrote i [one96]).C, (fzD N i).blown, true, (fzD N i).left - 1, []⟩ := by simp [Dv.wrote, fzD]
      rw [this, hC, hbl]
      have h3 : ¬ N < i + 1 := by omega
      simp [fzD, h1, h2, h3]
      omega
/-- noughts that were just made may be written -/
theorem zeros_cell (w : World) : (w.alloc (.cells (zeros 96) 5)).cell? ⟨w.heap.size, 0, none⟩ = some (.int .u8 0) := by
  rw [cell_of_row _ _ _ _ _ _ (heap_alloc_new w _)]; kernel_rfl
theorem zeros_one (w : World) : OwnB (w.alloc (.cells ((zeros 96).setIfInBounds 0 (.int .u8 1)) 5)) w.heap.size (.slice (some ⟨w.heap.size, 0, none⟩) 96 96) one96 := by
  exact OwnB.made _ _ 96 ((zeros 96).setIfInBounds 0 (.int .u8 1)) _ (heap_alloc_new w _) (Nat.le_refl _) (by decide) (by simp [one96]) (by kernel_rfl)

set_option maxHeartbeats 1600000 in
set_option maxRecDepth 100000 in
theorem driveFusesWalk (w : World) (n m : Int) : Calls Try.prog 8 #[.int .i64 n, .int .i64 m] w (RetSame (.bool true) w) := by
  have HLv := hid lLives
  obtain ⟨N, hN, hN25⟩ : ∃ N : Nat, (if n < 0 then 0 else if 25 < n then 25 else n) = (N : Int) ∧ N ≤ 25 := by
    refine ⟨(if n < 0 then 0 else if 25 < n then 25 else n).toNat, ?_, ?_⟩ <;> split <;> (try split) <;> omega
  obtain ⟨M, hM, hM25⟩ : ∃ M : Nat, (if m < 0 then 0 else if 25 < m then 25 else m) = (M : Int) ∧ M ≤ 25 := by
    refine ⟨(if m < 0 then 0 else if 25 < m then 25 else m).toNat, ?_, ?_⟩ <;> split <;> (try split) <;> omega
  have HN : Hid (∀ w, Calls Try.prog 31 #[.int .i64 n, .int .i64 0, .int .i64 25] w fun e w' => e = .returned (.int .i64 N) ∧ w = w') := fun w => by rw [← hN]; exact r01In w n 0 25
  have HM : Hid (∀ w, Calls Try.prog 31 #[.int .i64 m, .int .i64 0, .int .i64 25] w fun e w' => e = .returned (.int .i64 M) ∧ w = w') := fun w => by rw [← hM]; exact r01In w m 0 25
  have HF0 := hid (fzD_zero N)
  have HFW := hid (fzD_write N)
  have HZ := hid zeros_one
  have hmk := runMake96
  have hzc := zeros_cell
  clear hN hM
  go_enter Try.func8, Try.ntmps8
  go_wp2_with fail
  refine (dNewD w 30 (by omega) (by omega)).mono ?_
  rintro en w1 ⟨p, F, rfl, S1, D1, B1⟩
  have D1 := hid D1
  have B1 := hid B1
  obtain ⟨b, hp⟩ : ∃ b, p = .pointer (some ⟨b, 0, none⟩) := by obtain ⟨b, _, _, _, e, _⟩ := D1.out; exact ⟨b, e⟩
  subst hp
  go_wp2_with fail
  refine (HN.out _).mono ?_
  rintro en w1' ⟨rfl, rfl⟩
  go_wp2_with fail
  refine (HM.out _).mono ?_
  rintro en w1' ⟨rfl, rfl⟩
  go_wp2_with fail
  refine (dFuseD _ _ _ _ _ (N : Int) [] 3 D1.out (Ints.nil _ _) (by simp) (by omega)).mono ?_
  rintro en w2 ⟨F', rfl, K2, D2, G2⟩
  rw [HF0.out] at D2 ⊢
  have D2 := hid D2
  have B2 := hid (B1.out.grow G2 K2.size S1.size)
  have S2 := hid (S1.keepOwn K2 (fun k hk => (B1.out k hk).1))
  clear S1 K2 G2
  go_wp2_with fail
  go_loopw [7, 8] (fun d i wr => ∃ k : Nat, k ≤ M ∧ i = .int .i64 k ∧ d = .int .i64 (min k N : Nat) ∧ IsDv wr (.pointer (some ⟨b, 0, none⟩)) F' (fzD N k) ∧ Bnd F' w.heap.size wr.heap.size ∧ Same w wr) (fun _ i _ => M - (intOf i).toNat)
  case atStart => exact ⟨0, Nat.zero_le _, rfl, by simp, D2.out, B2.out, S2.out⟩
  case round =>
    obtain ⟨k, hk, rfl, rfl, D, B, S⟩ := hrel
    have D := hid D
    have B := hid B
    have S := hid S
    by_cases hlt : k < M
    · have h1 := HZ.out wr
      have S1 := (Same.refl wr).alloc (.cells ((zeros 96).setIfInBounds 0 (.int .u8 1)) 5)
      have hN1 := Rows2N.one (F := F') h1.bytes (fun g hg hF => by have := h1.fresh g hg; have := (B.out g hF).2; omega) (fun hF => by have := (B.out _ hF).2; simp at this; omega)
      have HR := hid hN1
      have S3 := hid (S1.alloc (.cells #[.slice (some ⟨wr.heap.size, 0, none⟩) 96 96] 23))
      have D3 := hid (D.out.same S3.out)
      have HW := hid (HFW.out k hN25 (by omega))
      have hn1 : min (k + 1) N = if k < N then min k N + 1 else min k N := by split <;> omega
      have HN1 := hid hn1
      have hmn : min k N ≤ 25 := by omega
      clear h1 S1 hN1 hn1
      generalize min k N = q at *
      go_wp2_with fail
      simp only [World.size_alloc] at HR
      refine (dWrite _ _ _ _ (k : Int) _ _ _ D3.out HR.out).mono ?_
      rintro en w3 ⟨rfl, K3, D4⟩
      rw [HW.out] at D4 ⊢
      have S4 := hid ((S.out.trans S3.out).keepOwn K3 (fun g hg => (B.out g hg).1))
      have B4 := hid (B.out.mono (Nat.le_trans S3.out.size K3.size))
      have D4 := hid D4
      clear S3 K3
      by_cases hkN : k < N
      · rw [if_pos hkN] at HN1 ⊢
        go_wp2_with fail
        go_roundw
        case rel => exact ⟨k + 1, by omega, by go_num, by rw [HN1.out]; go_num, D4.out, B4.out, S4.out⟩
        case measure => simp [intOf]; omega
      · rw [if_neg hkN] at HN1 ⊢
        go_wp2_with fail
        go_roundw
        case rel => exact ⟨k + 1, by omega, by go_num, by rw [HN1.out], D4.out, B4.out, S4.out⟩
        case measure => simp [intOf]; omega
    · obtain rfl : k = M := by omega
      by_cases hMN : k < N
      · have hwant : Hid (min k N = k) := by show _ = _; omega
        have HC : Hid (∀ j : Nat, j < 30 → (fzD N k).sector j = if j < k then one96 else nought) := fun j hj => by
          unfold Dv.sector
          rw [if_pos (by omega), Int.toNat_natCast, List.getD_eq_getElem?_getD, fzD_at N k j hN25 hj, hwant.out]
          rfl
        have HE : Hid (∀ j : Nat, j < 30 → (fzD N k).readE j = 0) := fun j hj => by
          unfold Dv.readE
          rw [if_pos (by rw [fzD_length N k hN25]; omega)]
        have HOff : Hid ((fzD N k).off = false) := by show _ = _; simp [fzD]; omega
        rw [hwant.out]
        go_wp2_with fail
        go_loopw [11] (fun i wq => ∃ j : Nat, j ≤ 30 ∧ i = .int .i64 j ∧ Same wr wq) (fun i _ => 30 - (intOf i).toNat)
        case atStart => exact ⟨0, Nat.zero_le _, rfl, Same.refl _⟩
        case round =>
          obtain ⟨j, hj, rfl, Sq⟩ := hrel
          have Sq := hid Sq
          have Dq := hid (D.out.same Sq.out)
          by_cases hj30 : j < 30
          · have HR := hid (dReadD _ _ _ _ (j : Int) Dq.out)
            rw [HC.out j hj30, HE.out j hj30] at HR
            by_cases hjq : j < k
            · rw [if_pos hjq] at HR
              go_wp2_with fail
              refine HR.out.mono ?_
              rintro en w4 ⟨v4, e4, rfl, h4, S4, _⟩
              obtain ⟨a4, c4, rfl, f3, f4⟩ := h4.form
              obtain ⟨g4, o4, rfl, hc4⟩ := h4.cells (by simp [one96])
              have k4 := hc4 0 (by simp [one96])
              have e3 : (one96[0]'(by simp [one96])).toNat = 1 := rfl
              rw [e3, Nat.add_zero] at k4
              have hp : one96.length = 96 := by simp [one96]
              rw [hp] at *
              have S5 := hid (Sq.out.trans S4)
              clear hc4 h4 e3 hp S4
              go_wp2_with fail
              go_roundw
              case rel => exact ⟨j + 1, by omega, by go_num, S5.out⟩
              case measure => simp [intOf]; omega
            · rw [if_neg hjq] at HR
              go_wp2_with fail
              refine HR.out.mono ?_
              rintro en w4 ⟨v4, e4, rfl, h4, S4, _⟩
              obtain ⟨a4, c4, rfl, f3, f4⟩ := h4.form
              obtain ⟨g4, o4, rfl, hc4⟩ := h4.cells (by simp [nought])
              have k4 := hc4 0 (by simp [nought])
              have e3 : (nought[0]'(by simp [nought])).toNat = 0 := by simp [nought]
              rw [e3, Nat.add_zero] at k4
              have hp : nought.length = 96 := nought_length
              rw [hp] at *
              have S5 := hid (Sq.out.trans S4)
              have hdj : decide (j < k) = false := by simpa using hjq
              clear hc4 h4 e3 hp S4
              go_wp2_with fail
              go_roundw
              case rel => exact ⟨j + 1, by omega, by go_num, S5.out⟩
              case measure => simp [intOf]; omega
          · have HLi := hid (dLiveD _ _ _ _ Dq.out)
            rw [HOff.out] at HLi
            go_wp2_with fail
            refine HLi.out.mono ?_
            rintro en w5 ⟨rfl, S5⟩
            go_wp2_with fail
            refine (HLv.out _).mono ?_
            rintro en w6 ⟨rfl, S6⟩
            go_wp2_with fail
            go_ret
            exact ⟨rfl, ((S.out.trans Sq.out).trans S5).trans S6⟩
      · by_cases hMN2 : k = N
        · subst hMN2
          have hwant : Hid (min k k = k) := by show _ = _; omega
          have HC : Hid (∀ j : Nat, j < 30 → (fzD k k).sector j = if j < k then one96 else nought) := fun j hj => by
            unfold Dv.sector
            rw [if_pos (by omega), Int.toNat_natCast, List.getD_eq_getElem?_getD, fzD_at k k j hN25 hj, hwant.out]
            rfl
          have HE : Hid (∀ j : Nat, j < 30 → (fzD k k).readE j = 0) := fun j hj => by
            unfold Dv.readE
            rw [if_pos (by rw [fzD_length k k hN25]; omega)]
          have HOff : Hid ((fzD k k).off = false) := by show _ = _; simp [fzD]
          rw [hwant.out]
          go_wp2_with fail
          go_loopw [11] (fun i wq => ∃ j : Nat, j ≤ 30 ∧ i = .int .i64 j ∧ Same wr wq) (fun i _ => 30 - (intOf i).toNat)
          case atStart => exact ⟨0, Nat.zero_le _, rfl, Same.refl _⟩
          case round =>
            obtain ⟨j, hj, rfl, Sq⟩ := hrel
            have Sq := hid Sq
            have Dq := hid (D.out.same Sq.out)
            by_cases hj30 : j < 30
            · have HR := hid (dReadD _ _ _ _ (j : Int) Dq.out)
              rw [HC.out j hj30, HE.out j hj30] at HR
              by_cases hjq : j < k
              · rw [if_pos hjq] at HR
                go_wp2_with fail
                refine HR.out.mono ?_
                rintro en w4 ⟨v4, e4, rfl, h4, S4, _⟩
                obtain ⟨a4, c4, rfl, f3, f4⟩ := h4.form
                obtain ⟨g4, o4, rfl, hc4⟩ := h4.cells (by simp [one96])
                have k4 := hc4 0 (by simp [one96])
                have e3 : (one96[0]'(by simp [one96])).toNat = 1 := rfl
                rw [e3, Nat.add_zero] at k4
                have hp : one96.length = 96 := by simp [one96]
                rw [hp] at *
                have S5 := hid (Sq.out.trans S4)
                clear hc4 h4 e3 hp S4
                go_wp2_with fail
                go_roundw
                case rel => exact ⟨j + 1, by omega, by go_num, S5.out⟩
                case measure => simp [intOf]; omega
              · rw [if_neg hjq] at HR
                go_wp2_with fail
                refine HR.out.mono ?_
                rintro en w4 ⟨v4, e4, rfl, h4, S4, _⟩
                obtain ⟨a4, c4, rfl, f3, f4⟩ := h4.form
                obtain ⟨g4, o4, rfl, hc4⟩ := h4.cells (by simp [nought])
                have k4 := hc4 0 (by simp [nought])
                have e3 : (nought[0]'(by simp [nought])).toNat = 0 := by simp [nought]
                rw [e3, Nat.add_zero] at k4
                have hp : nought.length = 96 := nought_length
                rw [hp] at *
                have S5 := hid (Sq.out.trans S4)
                have hdj : decide (j < k) = false := by simpa using hjq
                clear hc4 h4 e3 hp S4
                go_wp2_with fail
                go_roundw
                case rel => exact ⟨j + 1, by omega, by go_num, S5.out⟩
                case measure => simp [intOf]; omega
            · have HLi := hid (dLiveD _ _ _ _ Dq.out)
              rw [HOff.out] at HLi
              go_wp2_with fail
              refine HLi.out.mono ?_
              rintro en w5 ⟨rfl, S5⟩
              go_wp2_with fail
              refine (HLv.out _).mono ?_
              rintro en w6 ⟨rfl, S6⟩
              go_wp2_with fail
              go_ret
              exact ⟨rfl, ((S.out.trans Sq.out).trans S5).trans S6⟩
        · have hlt2 : N < k := by omega
          have hkN2 : decide (k ≤ N) = false := by simp; omega
          have hwant : Hid (min k N = N) := by show _ = _; omega
          have HC : Hid (∀ j : Nat, j < 30 → (fzD N k).sector j = if j < N then one96 else nought) := fun j hj => by
            unfold Dv.sector
            rw [if_pos (by omega), Int.toNat_natCast, List.getD_eq_getElem?_getD, fzD_at N k j hN25 hj, hwant.out]
            rfl
          have HE : Hid (∀ j : Nat, j < 30 → (fzD N k).readE j = 0) := fun j hj => by
            unfold Dv.readE
            rw [if_pos (by rw [fzD_length N k hN25]; omega)]
          have HOff : Hid ((fzD N k).off = true) := by show _ = _; simp [fzD]; omega
          rw [hwant.out]
          go_wp2_with fail
          go_loopw [11] (fun i wq => ∃ j : Nat, j ≤ 30 ∧ i = .int .i64 j ∧ Same wr wq) (fun i _ => 30 - (intOf i).toNat)
          case atStart => exact ⟨0, Nat.zero_le _, rfl, Same.refl _⟩
          case round =>
            obtain ⟨j, hj, rfl, Sq⟩ := hrel
            have Sq := hid Sq
            have Dq := hid (D.out.same Sq.out)
            by_cases hj30 : j < 30
            · have HR := hid (dReadD _ _ _ _ (j : Int) Dq.out)
              rw [HC.out j hj30, HE.out j hj30] at HR
              by_cases hjq : j < N
              · rw [if_pos hjq] at HR
                go_wp2_with fail
                refine HR.out.mono ?_
                rintro en w4 ⟨v4, e4, rfl, h4, S4, _⟩
                obtain ⟨a4, c4, rfl, f3, f4⟩ := h4.form
                obtain ⟨g4, o4, rfl, hc4⟩ := h4.cells (by simp [one96])
                have k4 := hc4 0 (by simp [one96])
                have e3 : (one96[0]'(by simp [one96])).toNat = 1 := rfl
                rw [e3, Nat.add_zero] at k4
                have hp : one96.length = 96 := by simp [one96]
                rw [hp] at *
                have S5 := hid (Sq.out.trans S4)
                clear hc4 h4 e3 hp S4
                go_wp2_with fail
                go_roundw
                case rel => exact ⟨j + 1, by omega, by go_num, S5.out⟩
                case measure => simp [intOf]; omega
              · rw [if_neg hjq] at HR
                go_wp2_with fail
                refine HR.out.mono ?_
                rintro en w4 ⟨v4, e4, rfl, h4, S4, _⟩
                obtain ⟨a4, c4, rfl, f3, f4⟩ := h4.form
                obtain ⟨g4, o4, rfl, hc4⟩ := h4.cells (by simp [nought])
                have k4 := hc4 0 (by simp [nought])
                have e3 : (nought[0]'(by simp [nought])).toNat = 0 := by simp [nought]
                rw [e3, Nat.add_zero] at k4
                have hp : nought.length = 96 := nought_length
                rw [hp] at *
                have S5 := hid (Sq.out.trans S4)
                have hdj : decide (j < N) = false := by simpa using hjq
                clear hc4 h4 e3 hp S4
                go_wp2_with fail
                go_roundw
                case rel => exact ⟨j + 1, by omega, by go_num, S5.out⟩
                case measure => simp [intOf]; omega
            · have HLi := hid (dLiveD _ _ _ _ Dq.out)
              rw [HOff.out] at HLi
              go_wp2_with fail
              refine HLi.out.mono ?_
              rintro en w5 ⟨rfl, S5⟩
              go_wp2_with fail
              refine (HLv.out _).mono ?_
              rintro en w6 ⟨rfl, S6⟩
              go_wp2_with fail
              go_ret
              exact ⟨rfl, ((S.out.trans Sq.out).trans S5).trans S6⟩
end Go.Proofs.Ytlhnpicmjjddeaa
