/- GIVE's reference: Same; Find, here and there. -/
import Derived.Test.YtijdjpmceclmhaaGr
namespace Go.Proofs.Ytijdjpmceclmhaa
open Go.RowKit

set_option maxHeartbeats 3200000 in
set_option maxRecDepth 100000 in
theorem rgSame (w : World) (v1 v2 : Value) (L : List Gv) (hL1 : Gs w v1 L) (hL2 : Gs w v2 L) : Calls Try.prog 11 #[v1, v2] w (RetSame (.bool true) w) := by
  obtain ⟨a1, q1, rfl, h1, h2⟩ := hL1.form
  obtain ⟨a2, q2, rfl, h3, h4⟩ := hL2.form
  unfold maxLen at h2 h4
  have H1 := hid hL1
  have H2 := hid hL2
  clear hL1 hL2
  go_enter Try.func11, Try.ntmps11
  go_wp2_with fail
  go_loopw [5] (fun i wr => ∃ k : Nat, k ≤ L.length ∧ i = .int .i64 k ∧ Same w wr) (fun i _ => L.length - (intOf i).toNat)
  case atStart => exact ⟨0, Nat.zero_le _, rfl, Same.refl w⟩
  case round =>
    obtain ⟨k, hk, rfl, S⟩ := hrel
    have HSm := hid S
    clear S
    by_cases hlt : k < L.length
    case neg =>
      go_wp2_with fail
      go_ret
      exact ⟨rfl, HSm.out⟩
    obtain ⟨g, o, rfl, c0, c1, c2, c3, c4, c5, c6, c7, c8, c9, c10⟩ := (H1.out.same HSm.out).row k hlt
    obtain ⟨g', o', rfl, d0, d1, d2, d3, d4, d5, d6, d7, d8, d9, d10⟩ := (H2.out.same HSm.out).row k hlt
    generalize L[k] = x at *
    have hki : (0 : Int) ≤ (k : Int) := by omega
    have hkl : (k : Int) < (L.length : Int) := by omega
    go_wp2_with fail
    go_quiet (fail)
    go_wp2_with fail
    go_roundw
    case rel => exact ⟨k + 1, by omega, by go_num, HSm.out.drewN _⟩
    case measure => simp [intOf]; omega
def zeroG : Gv := ⟨0, 0, 0, 0, 0, 0, 0, 0, 0, 0, 0⟩
/-- the first of a number, and whether there is one -/
def foundG (L : List Gv) (id : Int) : Gv := (L[fnd L id]?).getD zeroG
def hasG (L : List Gv) (id : Int) : Bool := decide (fnd L id < L.length)
def RetFind (L : List Gv) (id : Int) (w : World) (en : Ending) (w' : World) : Prop := en = .returned (.tuple #[aggG (foundG L id), .bool (hasG L id)]) ∧ Same w w'
theorem same11 (w : World) (o : Obj) (u0 u1 u2 u3 u4 u5 u6 u7 u8 u9 u10 : Value) {w1 : World} (S : Same (w.alloc o) w1) :
    Same w (((((((((((w1.setCell ⟨w.heap.size, 0, none⟩ u0).setCell ⟨w.heap.size, 1, none⟩ u1).setCell ⟨w.heap.size, 2, none⟩ u2).setCell ⟨w.heap.size, 3, none⟩ u3).setCell ⟨w.heap.size, 4, none⟩ u4).setCell ⟨w.heap.size, 5, none⟩ u5).setCell ⟨w.heap.size, 6, none⟩ u6).setCell ⟨w.heap.size, 7, none⟩ u7).setCell ⟨w.heap.size, 8, none⟩ u8).setCell ⟨w.heap.size, 9, none⟩ u9).setCell ⟨w.heap.size, 10, none⟩ u10) := by
  have T : Same w w1 := ((Same.refl w).alloc o).trans S
  exact ((((((((((T.setCell (p := ⟨w.heap.size, 0, none⟩) (Nat.le_refl _) _).setCell (p := ⟨w.heap.size, 1, none⟩) (Nat.le_refl _) _).setCell (p := ⟨w.heap.size, 2, none⟩) (Nat.le_refl _) _).setCell (p := ⟨w.heap.size, 3, none⟩) (Nat.le_refl _) _).setCell (p := ⟨w.heap.size, 4, none⟩) (Nat.le_refl _) _).setCell (p := ⟨w.heap.size, 5, none⟩) (Nat.le_refl _) _).setCell (p := ⟨w.heap.size, 6, none⟩) (Nat.le_refl _) _).setCell (p := ⟨w.heap.size, 7, none⟩) (Nat.le_refl _) _).setCell (p := ⟨w.heap.size, 8, none⟩) (Nat.le_refl _) _).setCell (p := ⟨w.heap.size, 9, none⟩) (Nat.le_refl _) _).setCell (p := ⟨w.heap.size, 10, none⟩) (Nat.le_refl _) _
def box29 : Obj := .cells #[.int .i64 0, .int .i64 0, .int .i64 0, .int .i64 0, .int .i64 0, .int .i64 0, .int .i64 0, .int .i64 0, .int .i64 0, .int .i64 0, .int .i64 0] 29
set_option maxHeartbeats 6400000 in
set_option maxRecDepth 100000 in
theorem rgFind (w : World) (v : Value) (L : List Gv) (id : Int) (hL : Gs w v L) : Calls Try.prog 14 #[v, .int .i64 id] w (RetFind L id w) := by
  obtain ⟨ao, cap, rfl, h1, h2⟩ := hL.form
  unfold maxLen at h2
  have HL := hid hL
  have HF := hid (fnd_le L id)
  have S0 := hid ((Same.refl w).alloc box29)
  unfold box29 at S0
  clear hL
  go_enter Try.func14, Try.ntmps14
  go_wp2_with fail
  go_loop [6] (fun i => ∃ k : Nat, k ≤ L.length ∧ i = .int .i64 k ∧ k ≤ fnd L id) (fun i => L.length - (intOf i).toNat)
  case atStart => exact ⟨0, Nat.zero_le _, rfl, Nat.zero_le _⟩
  case round =>
    obtain ⟨k, hk, rfl, hf⟩ := hrel
    have Hf := hid hf
    clear hf
    by_cases hlt : k < L.length
    case neg =>
      have HZ : Hid (foundG L id = zeroG ∧ hasG L id = false) := by
        have h3 := Hf.out
        have h4 := HF.out
        constructor
        · unfold foundG
          rw [List.getElem?_eq_none (by omega)]
          rfl
        · exact decide_eq_false (by omega)
      clear HF Hf
      go_wp2_with fail
      refine bodyPost_ret (v := .tuple #[aggG zeroG, .bool false]) ?_ rfl ⟨by rw [HZ.out.1, HZ.out.2], (Same.refl w).alloc _⟩
      simp [results, Try.results14, go_sem]
      rfl
    obtain ⟨g, o, rfl, c0, c1, c2, c3, c4, c5, c6, c7, c8, c9, c10⟩ := (HL.out.same S0.out).row k hlt
    have HHit := hid (fun h => fnd_hit hlt Hf.out h)
    have HMiss := hid (fun h => fnd_miss hlt Hf.out h)
    have HGet : Hid (fnd L id = k → foundG L id = L[k] ∧ hasG L id = true) := fun h => by
      constructor
      · unfold foundG
        rw [h, List.getElem?_eq_getElem hlt]
        rfl
      · unfold hasG
        rw [h]
        exact decide_eq_true hlt
    generalize L[k] = x at *
    cases hq : x.id == id
    case false =>
      have HM := hid (HMiss.out hq)
      clear HMiss HHit HGet
      go_wp2_with fail
      go_round
      case rel => exact ⟨k + 1, by omega, by go_num, HM.out⟩
      case measure => simp [intOf]; omega
    have HG := hid (HGet.out (HHit.out hq))
    clear HMiss HHit HGet
    go_wp2_with fail
    refine bodyPost_ret (v := .tuple #[aggG x, .bool true]) ?_ rfl ⟨by rw [HG.out.1, HG.out.2], (Same.refl w).alloc _⟩
    simp [results, Try.results14, go_sem]
    rfl
theorem cells29 {w : World} {b : Nat} {u0 u1 u2 u3 u4 u5 u6 u7 u8 u9 u10 : Value} (h : w.heap[b]? = some (.cells #[u0, u1, u2, u3, u4, u5, u6, u7, u8, u9, u10] 29 (0, 0))) :
    (w.cell? ⟨b, 0, none⟩ = some u0 ∧ w.cell? ⟨b, 1, none⟩ = some u1 ∧ w.cell? ⟨b, 2, none⟩ = some u2 ∧ w.cell? ⟨b, 3, none⟩ = some u3 ∧ w.cell? ⟨b, 4, none⟩ = some u4 ∧ w.cell? ⟨b, 5, none⟩ = some u5 ∧ w.cell? ⟨b, 6, none⟩ = some u6 ∧ w.cell? ⟨b, 7, none⟩ = some u7 ∧ w.cell? ⟨b, 8, none⟩ = some u8 ∧ w.cell? ⟨b, 9, none⟩ = some u9 ∧ w.cell? ⟨b, 10, none⟩ = some u10) ∧
    ∀ o, w.frozen? ⟨b, o, none⟩ = false := by
  refine ⟨⟨?_, ?_, ?_, ?_, ?_, ?_, ?_, ?_, ?_, ?_, ?_⟩, fun o => ?_⟩
  all_goals first
    | (rw [cell_of_row w b _ _ 29 _ h]; rfl)
    | (unfold World.frozen?
       rw [h]
       by_cases h0 : 0 ≤ o <;> simp)
theorem put29 {w : World} {b : Nat} {a0 a1 a2 a3 a4 a5 a6 a7 a8 a9 a10 : Value} (h : w.heap[b]? = some (.cells #[a0, a1, a2, a3, a4, a5, a6, a7, a8, a9, a10] 29 (0, 0))) (u0 u1 u2 u3 u4 u5 u6 u7 u8 u9 u10 : Value) :
    (((((((((((w.setCell ⟨b, 0, none⟩ u0).setCell ⟨b, 1, none⟩ u1).setCell ⟨b, 2, none⟩ u2).setCell ⟨b, 3, none⟩ u3).setCell ⟨b, 4, none⟩ u4).setCell ⟨b, 5, none⟩ u5).setCell ⟨b, 6, none⟩ u6).setCell ⟨b, 7, none⟩ u7).setCell ⟨b, 8, none⟩ u8).setCell ⟨b, 9, none⟩ u9).setCell ⟨b, 10, none⟩ u10).heap[b]? = some (.cells #[u0, u1, u2, u3, u4, u5, u6, u7, u8, u9, u10] 29 (0, 0)) := by
  have h0 : (w.setCell ⟨b, 0, none⟩ u0).heap[b]? = some (.cells #[u0, a1, a2, a3, a4, a5, a6, a7, a8, a9, a10] 29 (0, 0)) := heap_setCell_same w b 0 _ 29 u0 h
  have h1 : ((w.setCell ⟨b, 0, none⟩ u0).setCell ⟨b, 1, none⟩ u1).heap[b]? = some (.cells #[u0, u1, a2, a3, a4, a5, a6, a7, a8, a9, a10] 29 (0, 0)) := heap_setCell_same (w.setCell ⟨b, 0, none⟩ u0) b 1 _ 29 u1 h0
  have h2 : (((w.setCell ⟨b, 0, none⟩ u0).setCell ⟨b, 1, none⟩ u1).setCell ⟨b, 2, none⟩ u2).heap[b]? = some (.cells #[u0, u1, u2, a3, a4, a5, a6, a7, a8, a9, a10] 29 (0, 0)) := heap_setCell_same ((w.setCell ⟨b, 0, none⟩ u0).setCell ⟨b, 1, none⟩ u1) b 2 _ 29 u2 h1
  have h3 : ((((w.setCell ⟨b, 0, none⟩ u0).setCell ⟨b, 1, none⟩ u1).setCell ⟨b, 2, none⟩ u2).setCell ⟨b, 3, none⟩ u3).heap[b]? = some (.cells #[u0, u1, u2, u3, a4, a5, a6, a7, a8, a9, a10] 29 (0, 0)) := heap_setCell_same (((w.setCell ⟨b, 0, none⟩ u0).setCell ⟨b, 1, none⟩ u1).setCell ⟨b, 2, none⟩ u2) b 3 _ 29 u3 h2
  have h4 : (((((w.setCell ⟨b, 0, none⟩ u0).setCell ⟨b, 1, none⟩ u1).setCell ⟨b, 2, none⟩ u2).setCell ⟨b, 3, none⟩ u3).setCell ⟨b, 4, none⟩ u4).heap[b]? = some (.cells #[u0, u1, u2, u3, u4, a5, a6, a7, a8, a9, a10] 29 (0, 0)) := heap_setCell_same ((((w.setCell ⟨b, 0, none⟩ u0).setCell ⟨b, 1, none⟩ u1).setCell ⟨b, 2, none⟩ u2).setCell ⟨b, 3, none⟩ u3) b 4 _ 29 u4 h3
  have h5 : ((((((w.setCell ⟨b, 0, none⟩ u0).setCell ⟨b, 1, none⟩ u1).setCell ⟨b, 2, none⟩ u2).setCell ⟨b, 3, none⟩ u3).setCell ⟨b, 4, none⟩ u4).setCell ⟨b, 5, none⟩ u5).heap[b]? = some (.cells #[u0, u1, u2, u3, u4, u5, a6, a7, a8, a9, a10] 29 (0, 0)) := heap_setCell_same (((((w.setCell ⟨b, 0, none⟩ u0).setCell ⟨b, 1, none⟩ u1).setCell ⟨b, 2, none⟩ u2).setCell ⟨b, 3, none⟩ u3).setCell ⟨b, 4, none⟩ u4) b 5 _ 29 u5 h4
  have h6 : (((((((w.setCell ⟨b, 0, none⟩ u0).setCell ⟨b, 1, none⟩ u1).setCell ⟨b, 2, none⟩ u2).setCell ⟨b, 3, none⟩ u3).setCell ⟨b, 4, none⟩ u4).setCell ⟨b, 5, none⟩ u5).setCell ⟨b, 6, none⟩ u6).heap[b]? = some (.cells #[u0, u1, u2, u3, u4, u5, u6, a7, a8, a9, a10] 29 (0, 0)) := heap_setCell_same ((((((w.setCell ⟨b, 0, none⟩ u0).setCell ⟨b, 1, none⟩ u1).setCell ⟨b, 2, none⟩ u2).setCell ⟨b, 3, none⟩ u3).setCell ⟨b, 4, none⟩ u4).setCell ⟨b, 5, none⟩ u5) b 6 _ 29 u6 h5
  have h7 : ((((((((w.setCell ⟨b, 0, none⟩ u0).setCell ⟨b, 1, none⟩ u1).setCell ⟨b, 2, none⟩ u2).setCell ⟨b, 3, none⟩ u3).setCell ⟨b, 4, none⟩ u4).setCell ⟨b, 5, none⟩ u5).setCell ⟨b, 6, none⟩ u6).setCell ⟨b, 7, none⟩ u7).heap[b]? = some (.cells #[u0, u1, u2, u3, u4, u5, u6, u7, a8, a9, a10] 29 (0, 0)) := heap_setCell_same (((((((w.setCell ⟨b, 0, none⟩ u0).setCell ⟨b, 1, none⟩ u1).setCell ⟨b, 2, none⟩ u2).setCell ⟨b, 3, none⟩ u3).setCell ⟨b, 4, none⟩ u4).setCell ⟨b, 5, none⟩ u5).setCell ⟨b, 6, none⟩ u6) b 7 _ 29 u7 h6
  have h8 : (((((((((w.setCell ⟨b, 0, none⟩ u0).setCell ⟨b, 1, none⟩ u1).setCell ⟨b, 2, none⟩ u2).setCell ⟨b, 3, none⟩ u3).setCell ⟨b, 4, none⟩ u4).setCell ⟨b, 5, none⟩ u5).setCell ⟨b, 6, none⟩ u6).setCell ⟨b, 7, none⟩ u7).setCell ⟨b, 8, none⟩ u8).heap[b]? = some (.cells #[u0, u1, u2, u3, u4, u5, u6, u7, u8, a9, a10] 29 (0, 0)) := heap_setCell_same ((((((((w.setCell ⟨b, 0, none⟩ u0).setCell ⟨b, 1, none⟩ u1).setCell ⟨b, 2, none⟩ u2).setCell ⟨b, 3, none⟩ u3).setCell ⟨b, 4, none⟩ u4).setCell ⟨b, 5, none⟩ u5).setCell ⟨b, 6, none⟩ u6).setCell ⟨b, 7, none⟩ u7) b 8 _ 29 u8 h7
  have h9 : ((((((((((w.setCell ⟨b, 0, none⟩ u0).setCell ⟨b, 1, none⟩ u1).setCell ⟨b, 2, none⟩ u2).setCell ⟨b, 3, none⟩ u3).setCell ⟨b, 4, none⟩ u4).setCell ⟨b, 5, none⟩ u5).setCell ⟨b, 6, none⟩ u6).setCell ⟨b, 7, none⟩ u7).setCell ⟨b, 8, none⟩ u8).setCell ⟨b, 9, none⟩ u9).heap[b]? = some (.cells #[u0, u1, u2, u3, u4, u5, u6, u7, u8, u9, a10] 29 (0, 0)) := heap_setCell_same (((((((((w.setCell ⟨b, 0, none⟩ u0).setCell ⟨b, 1, none⟩ u1).setCell ⟨b, 2, none⟩ u2).setCell ⟨b, 3, none⟩ u3).setCell ⟨b, 4, none⟩ u4).setCell ⟨b, 5, none⟩ u5).setCell ⟨b, 6, none⟩ u6).setCell ⟨b, 7, none⟩ u7).setCell ⟨b, 8, none⟩ u8) b 9 _ 29 u9 h8
  have h10 : (((((((((((w.setCell ⟨b, 0, none⟩ u0).setCell ⟨b, 1, none⟩ u1).setCell ⟨b, 2, none⟩ u2).setCell ⟨b, 3, none⟩ u3).setCell ⟨b, 4, none⟩ u4).setCell ⟨b, 5, none⟩ u5).setCell ⟨b, 6, none⟩ u6).setCell ⟨b, 7, none⟩ u7).setCell ⟨b, 8, none⟩ u8).setCell ⟨b, 9, none⟩ u9).setCell ⟨b, 10, none⟩ u10).heap[b]? = some (.cells #[u0, u1, u2, u3, u4, u5, u6, u7, u8, u9, u10] 29 (0, 0)) := heap_setCell_same ((((((((((w.setCell ⟨b, 0, none⟩ u0).setCell ⟨b, 1, none⟩ u1).setCell ⟨b, 2, none⟩ u2).setCell ⟨b, 3, none⟩ u3).setCell ⟨b, 4, none⟩ u4).setCell ⟨b, 5, none⟩ u5).setCell ⟨b, 6, none⟩ u6).setCell ⟨b, 7, none⟩ u7).setCell ⟨b, 8, none⟩ u8).setCell ⟨b, 9, none⟩ u9) b 10 _ 29 u10 h9
  exact h10
set_option maxHeartbeats 6400000 in
set_option maxRecDepth 100000 in
theorem giveFind (w : World) (v : Value) (L : List Gv) (id : Int) (hL : Gs w v L) : Calls Try.prog 13 #[v, .int .i64 id] w (RetFind L id w) := by
  obtain ⟨ao, cap, rfl, h1, h2⟩ := hL.form
  unfold maxLen at h2
  have HL := hid hL
  have S0 := hid ((Same.refl w).alloc box29)
  have HA := hid (giveAt (w.alloc box29) _ L id (hL.same ((Same.refl w).alloc box29)))
  have B0 : (w.alloc box29).heap[w.heap.size]? = some (.cells #[.int .i64 0, .int .i64 0, .int .i64 0, .int .i64 0, .int .i64 0, .int .i64 0, .int .i64 0, .int .i64 0, .int .i64 0, .int .i64 0, .int .i64 0] 29 (0, 0)) := heap_alloc_new w _
  have HB := hid B0
  unfold box29 at S0 HA HB
  have hL0 := hL
  clear hL B0
  by_cases hlt : fnd L id < L.length
  case neg =>
    have HZ : Hid (foundG L id = zeroG ∧ hasG L id = false) := by
      constructor
      · unfold foundG
        rw [List.getElem?_eq_none (by omega)]
        rfl
      · exact decide_eq_false hlt
    rw [fndI_neg (by omega)] at HA
    clear hlt
    go_enter Try.func13, Try.ntmps13
    go_wp2_with fail
    refine HA.out.mono ?_
    rintro en w1 ⟨rfl, S1⟩
    have S1 := hid S1
    have HB1 := hid ((S1.out.block w.heap.size (Array.getElem?_eq_some_iff.1 HB.out).1 fun x => x).trans HB.out)
    obtain ⟨⟨b0, b1, b2, b3, b4, b5, b6, b7, b8, b9, b10⟩, bz⟩ := cells29 HB1.out
    have z0 := bz 0
    have z1 := bz 1
    have z2 := bz 2
    have z3 := bz 3
    have z4 := bz 4
    have z5 := bz 5
    have z6 := bz 6
    have z7 := bz 7
    have z8 := bz 8
    have z9 := bz 9
    have z10 := bz 10
    clear bz
    go_wp2_with fail
    have HP := put29 HB1.out (.int .i64 0) (.int .i64 0) (.int .i64 0) (.int .i64 0) (.int .i64 0) (.int .i64 0) (.int .i64 0) (.int .i64 0) (.int .i64 0) (.int .i64 0) (.int .i64 0)
    have HS11 := hid (same11 w _ (.int .i64 0) (.int .i64 0) (.int .i64 0) (.int .i64 0) (.int .i64 0) (.int .i64 0) (.int .i64 0) (.int .i64 0) (.int .i64 0) (.int .i64 0) (.int .i64 0) S1.out)
    generalize (((((((((((w1.setCell ⟨w.heap.size, 0, none⟩ (.int .i64 0)).setCell ⟨w.heap.size, 1, none⟩ (.int .i64 0)).setCell ⟨w.heap.size, 2, none⟩ (.int .i64 0)).setCell ⟨w.heap.size, 3, none⟩ (.int .i64 0)).setCell ⟨w.heap.size, 4, none⟩ (.int .i64 0)).setCell ⟨w.heap.size, 5, none⟩ (.int .i64 0)).setCell ⟨w.heap.size, 6, none⟩ (.int .i64 0)).setCell ⟨w.heap.size, 7, none⟩ (.int .i64 0)).setCell ⟨w.heap.size, 8, none⟩ (.int .i64 0)).setCell ⟨w.heap.size, 9, none⟩ (.int .i64 0)).setCell ⟨w.heap.size, 10, none⟩ (.int .i64 0)) = w2 at *
    obtain ⟨⟨y0, y1, y2, y3, y4, y5, y6, y7, y8, y9, y10⟩, _⟩ := cells29 HP
    refine bodyPost_ret (v := .tuple #[aggG zeroG, .bool false]) ?_ rfl ⟨by rw [HZ.out.1, HZ.out.2], HS11.out⟩
    simp [results, Try.results13, go_sem, y0, y1, y2, y3, y4, y5, y6, y7, y8, y9, y10]
    rfl
  case pos =>
    obtain ⟨g, o, rfl, hC⟩ := hL0.row (fnd L id) hlt
    have hgl := World.block_lt_of_cell? w _ hC.1
    have HGet : Hid (foundG L id = L[fnd L id] ∧ hasG L id = true) := by
      constructor
      · unfold foundG
        rw [List.getElem?_eq_getElem hlt]
        rfl
      · exact decide_eq_true hlt
    rw [fndI_pos hlt] at HA
    have HC := hid hC
    clear hC
    generalize L[fnd L id] = x at *
    generalize fnd L id = i at *
    have hii : ¬ ((i : Int) < 0) := by omega
    go_enter Try.func13, Try.ntmps13
    go_wp2_with fail
    refine HA.out.mono ?_
    rintro en w1 ⟨rfl, S1⟩
    have S1 := hid S1
    have HB1 := hid ((S1.out.block w.heap.size (Array.getElem?_eq_some_iff.1 HB.out).1 fun x => x).trans HB.out)
    obtain ⟨⟨b0, b1, b2, b3, b4, b5, b6, b7, b8, b9, b10⟩, bz⟩ := cells29 HB1.out
    have z0 := bz 0
    have z1 := bz 1
    have z2 := bz 2
    have z3 := bz 3
    have z4 := bz 4
    have z5 := bz 5
    have z6 := bz 6
    have z7 := bz 7
    have z8 := bz 8
    have z9 := bz 9
    have z10 := bz 10
    clear bz
    obtain ⟨c0, c1, c2, c3, c4, c5, c6, c7, c8, c9, c10⟩ := HC.out
    have e0 := ((S0.out.trans S1.out).cell (p := ⟨g, o + i * 11, none⟩) hgl).trans c0
    have e1 := ((S0.out.trans S1.out).cell (p := ⟨g, o + i * 11 + 1, none⟩) hgl).trans c1
    have e2 := ((S0.out.trans S1.out).cell (p := ⟨g, o + i * 11 + 2, none⟩) hgl).trans c2
    have e3 := ((S0.out.trans S1.out).cell (p := ⟨g, o + i * 11 + 3, none⟩) hgl).trans c3
    have e4 := ((S0.out.trans S1.out).cell (p := ⟨g, o + i * 11 + 4, none⟩) hgl).trans c4
    have e5 := ((S0.out.trans S1.out).cell (p := ⟨g, o + i * 11 + 5, none⟩) hgl).trans c5
    have e6 := ((S0.out.trans S1.out).cell (p := ⟨g, o + i * 11 + 6, none⟩) hgl).trans c6
    have e7 := ((S0.out.trans S1.out).cell (p := ⟨g, o + i * 11 + 7, none⟩) hgl).trans c7
    have e8 := ((S0.out.trans S1.out).cell (p := ⟨g, o + i * 11 + 8, none⟩) hgl).trans c8
    have e9 := ((S0.out.trans S1.out).cell (p := ⟨g, o + i * 11 + 9, none⟩) hgl).trans c9
    have e10 := ((S0.out.trans S1.out).cell (p := ⟨g, o + i * 11 + 10, none⟩) hgl).trans c10
    clear c0 c1 c2 c3 c4 c5 c6 c7 c8 c9 c10
    go_wp2_with fail
    have HP := put29 HB1.out (.int .i64 x.id) (.int .i64 x.fa) (.int .i64 x.fc) (.int .i64 x.ta) (.int .i64 x.tc) (.int .i64 x.inst) (.int .i64 x.qty) (.int .i64 x.price) (.int .i64 x.group) (.int .i64 x.day) (.int .i64 x.state)
    have HS11 := hid (same11 w _ (.int .i64 x.id) (.int .i64 x.fa) (.int .i64 x.fc) (.int .i64 x.ta) (.int .i64 x.tc) (.int .i64 x.inst) (.int .i64 x.qty) (.int .i64 x.price) (.int .i64 x.group) (.int .i64 x.day) (.int .i64 x.state) S1.out)
    generalize (((((((((((w1.setCell ⟨w.heap.size, 0, none⟩ (.int .i64 x.id)).setCell ⟨w.heap.size, 1, none⟩ (.int .i64 x.fa)).setCell ⟨w.heap.size, 2, none⟩ (.int .i64 x.fc)).setCell ⟨w.heap.size, 3, none⟩ (.int .i64 x.ta)).setCell ⟨w.heap.size, 4, none⟩ (.int .i64 x.tc)).setCell ⟨w.heap.size, 5, none⟩ (.int .i64 x.inst)).setCell ⟨w.heap.size, 6, none⟩ (.int .i64 x.qty)).setCell ⟨w.heap.size, 7, none⟩ (.int .i64 x.price)).setCell ⟨w.heap.size, 8, none⟩ (.int .i64 x.group)).setCell ⟨w.heap.size, 9, none⟩ (.int .i64 x.day)).setCell ⟨w.heap.size, 10, none⟩ (.int .i64 x.state)) = w2 at *
    obtain ⟨⟨y0, y1, y2, y3, y4, y5, y6, y7, y8, y9, y10⟩, _⟩ := cells29 HP
    refine bodyPost_ret (v := .tuple #[aggG x, .bool true]) ?_ rfl ⟨by rw [HGet.out.1, HGet.out.2], HS11.out⟩
    simp [results, Try.results13, go_sem, y0, y1, y2, y3, y4, y5, y6, y7, y8, y9, y10]
    rfl
end Go.Proofs.Ytijdjpmceclmhaa
