/- SCROLL: span.frame. SCROLL: within, Newest. DRIVE's reference: New. SCROLL's reference: Newest. SCROLL: the scroll in memory: its nine cells, its rows; append, told where the row then lies. SCROLL: ok, next. SCROLL: take. SCROLL: Used, Records, Open. -/
import Derived.Test.YtlhnpicmjjddeaaGrp4
import Derived.Test.YtlhnpicmjjddeaaGrp1
import Derived.Test.YtlhnpicmjjddeaaGrp3
set_option linter.unusedVariables false
set_option linter.unusedSimpArgs false
namespace Go.Proofs.Ytlhnpicmjjddeaa
open Go.RowKit

def spanV (p : Value) (a b : Int) : Value := .agg #[p, .int .i64 a, .int .i64 b]
def Dv.frameAt (D : Dv) (from_ till at_ : Int) : Fr := if from_ ≤ at_ ∧ at_ < till then decF (D.sector at_) else Fr.zero
theorem frameAt_in {D : Dv} {from_ till at_ : Int} (h : from_ ≤ at_ ∧ at_ < till) : D.frameAt from_ till at_ = decF (D.sector at_) := if_pos h
theorem frameAt_out {D : Dv} {from_ till at_ : Int} (h : ¬ (from_ ≤ at_ ∧ at_ < till)) : D.frameAt from_ till at_ = Fr.zero := if_neg h
def RetFrame (f : Fr) (w : World) (en : Ending) (w' : World) : Prop := ∃ x, en = .returned (.tuple #[x, .bool f.right]) ∧ FrO w' w.heap.size x f ∧ Same w w'
theorem sector_short {w : World} {p : Value} {F : Nat → Prop} {D : Dv} (hD : IsDv w p F D) (i : Int) : (D.sector i).length ≤ 900000 := by
  unfold Dv.sector
  split
  · rw [List.getD_eq_getElem?_getD]
    cases h : D.C[i.toNat]? with
    | none => simp
    | some c =>
      have := hD.ok.2.2.1 c (List.mem_of_getElem? h)
      simp
      omega
  · simp
theorem IsDv.ptr {w : World} {p : Value} {F : Nat → Prop} {D : Dv} (hD : IsDv w p F D) : ∃ b, p = .pointer (some ⟨b, 0, none⟩) := by obtain ⟨b, _, _, _, e, _⟩ := hD; exact ⟨b, e⟩
set_option maxHeartbeats 3200000 in
set_option maxRecDepth 100000 in
theorem cFrame (w : World) (p : Value) (F : Nat → Prop) (D : Dv) (from_ till at_ : Int) (hD : IsDv w p F D) (h : 0 ≤ from_ ∧ till ≤ D.C.length) :
    Calls Try.prog 109 #[spanV p from_ till, .int .i64 at_] w (RetFrame (D.frameAt from_ till at_) w) := by
  have HRd := hid (fun w' (S : Same w w') => dReadD w' p F D at_ (hD.same S))
  have HDe := hid fDecode
  have h96 := hid (sector_short hD at_)
  obtain ⟨b, rfl⟩ := hD.ptr
  clear hD
  unfold spanV
  have BX := hid (Box6.new (w.alloc (.cells #[.pointer (some ⟨b, 0, none⟩), .int .i64 from_, .int .i64 till] 106)) (.int .i64 0) (.int .i64 0) (.int .i64 0) (.int .i64 0) (.int .i64 0) (.slice none 0 0))
  have S0 := hid (((Same.refl w).alloc (.cells #[.pointer (some ⟨b, 0, none⟩), .int .i64 from_, .int .i64 till] 106)).alloc (.cells #[.int .i64 0, .int .i64 0, .int .i64 0, .int .i64 0, .int .i64 0, .slice none 0 0] 60))
  by_cases h1 : from_ ≤ at_ ∧ at_ < till
  case neg =>
    rw [frameAt_out h1]
    obtain ⟨c0, c1, c2, c3, c4, c5⟩ := BX.out.cells
    have z0 := BX.out.free 0
    have z1 := BX.out.free 1
    have z2 := BX.out.free 2
    have z3 := BX.out.free 3
    have z4 := BX.out.free 4
    have z5 := BX.out.free 5
    simp only [World.size_alloc] at c0 c1 c2 c3 c4 c5 z0 z1 z2 z3 z4 z5
    by_cases ha : at_ < from_
    · have d1 : decide (at_ < from_) = true := by simpa using ha
      clear h1 ha h
      go_enter Try.func109, Try.ntmps109
      go_wp2_with fail
      refine bodyPost_ret (v := .tuple #[Fr.agg Fr.zero (.slice none 0 0), .bool false]) ?_ rfl ⟨_, rfl, ⟨_, rfl, OwnB.nil _ _⟩, S0.out⟩
      simp [results, Try.results109, go_sem, c0, c1, c2, c3, c4, c5]
      rfl
    · have d1 : decide (at_ < from_) = false := by simpa using ha
      have d2 : decide (till ≤ at_) = true := by rw [decide_eq_true_eq]; omega
      clear h1 ha h
      go_enter Try.func109, Try.ntmps109
      go_wp2_with fail
      refine bodyPost_ret (v := .tuple #[Fr.agg Fr.zero (.slice none 0 0), .bool false]) ?_ rfl ⟨_, rfl, ⟨_, rfl, OwnB.nil _ _⟩, S0.out⟩
      simp [results, Try.results109, go_sem, c0, c1, c2, c3, c4, c5]
      rfl
  case pos =>
    rw [frameAt_in h1]
    have d1 : decide (at_ < from_) = false := by rw [decide_eq_false_iff_not]; omega
    have d2 : decide (till ≤ at_) = false := by rw [decide_eq_false_iff_not]; omega
    have hr : D.readE at_ = 0 := by unfold Dv.readE; rw [if_pos ⟨by omega, by omega⟩]
    rw [hr] at HRd
    have HE : Hid (decE (D.sector at_) = 0 ↔ (decF (D.sector at_)).right = true) := decE_zero
    have HE3 : Hid (¬ decE (D.sector at_) = 0 → decE (D.sector at_) = 3) := decE_three
    generalize D.sector at_ = sec at *
    clear h1 h hr
    go_enter Try.func109, Try.ntmps109
    go_wp2_with fail
    refine (HRd.out _ S0.out).mono ?_
    rintro en w1 ⟨v1, e1, rfl, B1, S1, _⟩
    have S1 := hid S1
    go_wp2_with fail
    refine (HDe.out _ _ _ _ B1 h96.out).mono ?_
    rintro en w2 ⟨x2, rfl, F2, S2⟩
    have S2 := hid (S1.out.trans S2)
    generalize decE sec = de at *
    generalize decF sec = f at *
    obtain ⟨u2, rfl, O2⟩ := F2
    obtain ⟨a2, q2, rfl, _, _⟩ := O2.bytes.form
    have O2 := hid O2
    have B4 := hid ((BX.out.same S2.out).same ((Same.refl w2).alloc (.cells #[.int .i64 f.life, .int .i64 f.era, .int .i64 f.seq, .int .i64 f.part, .int .i64 f.parts, .slice a2 f.data.length q2] 60)))
    obtain ⟨c0, c1, c2, c3, c4, c5⟩ := B4.out.cells
    have z0 := B4.out.free 0
    have z1 := B4.out.free 1
    have z2 := B4.out.free 2
    have z3 := B4.out.free 3
    have z4 := B4.out.free 4
    have z5 := B4.out.free 5
    have BX2 := hid (Box6.new w2 (.int .i64 f.life) (.int .i64 f.era) (.int .i64 f.seq) (.int .i64 f.part) (.int .i64 f.parts) (.slice a2 f.data.length q2))
    obtain ⟨y0, y1, y2, y3, y4, y5⟩ := BX2.out.cells
    simp only [World.size_alloc] at c0 c1 c2 c3 c4 c5 z0 z1 z2 z3 z4 z5
    have S3 := hid ((S0.out.trans S2.out).alloc (.cells #[.int .i64 f.life, .int .i64 f.era, .int .i64 f.seq, .int .i64 f.part, .int .i64 f.parts, .slice a2 f.data.length q2] 60))
    have hd : (de == 0) = f.right := by
      by_cases e : de = 0
      · rw [HE.out.1 e, e]; rfl
      · rw [HE3.out e]
        cases hr : f.right
        · rfl
        · exact absurd (HE.out.2 hr) e
    have Hd := hid hd
    clear hd
    unfold Fr.agg
    go_wp2_with fail
    obtain ⟨K2, B2⟩ := B4.out.set (.int .i64 f.life) (.int .i64 f.era) (.int .i64 f.seq) (.int .i64 f.part) (.int .i64 f.parts) (.slice a2 f.data.length q2)
    obtain ⟨d0, d1, d2, d3, d4, d5⟩ := B2.cells
    simp only [World.size_alloc] at K2 B2 d0 d1 d2 d3 d4 d5
    rw [Hd.out]
    refine bodyPost_ret (v := .tuple #[.agg #[.int .i64 f.life, .int .i64 f.era, .int .i64 f.seq, .int .i64 f.part, .int .i64 f.parts, .slice a2 f.data.length q2], .bool f.right]) ?_ rfl
      ⟨_, rfl, ⟨_, rfl, ((O2.out.alloc _).keep K2 (fun k hk e => ?_)).mono ?_⟩, S3.out.box K2 (Nat.le_succ _)⟩
    · simp [results, Try.results109, go_sem, d0, d1, d2, d3, d4, d5]
    · have := (O2.out.lt k hk).1
      have := S1.out.size
      simp at this
      omega
    · have := (S0.out.trans S1.out).size
      exact this
end Go.Proofs.Ytlhnpicmjjddeaa
namespace Go.Proofs.Ytlhnpicmjjddeaa
open Go.RowKit

theorem cWithin (w : World) (p : Value) (F : Nat → Prop) (D : Dv) (a b : Int) (hD : IsDv w p F D) : Calls Try.prog 105 #[p, .int .i64 a, .int .i64 b] w (RetSame (.bool (D.within a b)) w) := by
  have HS := hid (dSizeD w p F D hD)
  have hW : Hid (D.within a b = decide (0 ≤ a ∧ a ≤ b ∧ b ≤ D.C.length)) := rfl
  obtain ⟨pb, rfl⟩ := hD.ptr
  clear hD
  generalize D.within a b = r at *
  generalize D.C.length = n at *
  by_cases h1 : 0 ≤ a
  · by_cases h2 : a ≤ b
    · have hr : r = decide (b ≤ (n : Int)) := by
        rw [hW.out]
        by_cases h3 : b ≤ (n : Int)
        · rw [decide_eq_true h3, decide_eq_true ⟨h1, h2, h3⟩]
        · rw [decide_eq_false h3, decide_eq_false (fun x => h3 x.2.2)]
      have Hr := hid hr
      have d1 : decide (0 ≤ a) = true := by simpa using h1
      have d2 : decide (a ≤ b) = true := by simpa using h2
      clear hr h1 h2
      go_enter Try.func105, Try.ntmps105
      go_wp2_with fail
      refine HS.out.mono ?_
      rintro en w1 ⟨rfl, S1⟩
      go_wp2_with fail
      go_ret
      rw [Hr.out]
      exact ⟨rfl, S1⟩
    · have hr : r = false := by rw [hW.out, decide_eq_false (fun x => h2 x.2.1)]
      subst hr
      have d1 : decide (0 ≤ a) = true := by simpa using h1
      have d2 : decide (a ≤ b) = false := by simpa using h2
      clear h1 h2
      go_enter Try.func105, Try.ntmps105
      go_wp2_with fail
      go_ret
      exact ⟨rfl, Same.refl _⟩
  · have hr : r = false := by rw [hW.out, decide_eq_false (fun x => h1 x.1)]
    subst hr
    have d1 : decide (0 ≤ a) = false := by simpa using h1
    clear h1
    go_enter Try.func105, Try.ntmps105
    go_wp2_with fail
    go_ret
    exact ⟨rfl, Same.refl _⟩
theorem cWithin_none (w : World) (p : Value) (a b : Int) (h : Nobody w p) : Calls Try.prog 105 #[p, .int .i64 a, .int .i64 b] w (RetSame (.bool (decide (0 ≤ a ∧ a ≤ b ∧ b ≤ 0))) w) := by
  have HS := hid (dSize_none w p h)
  by_cases h1 : 0 ≤ a
  · by_cases h2 : a ≤ b
    · have hr : decide (0 ≤ a ∧ a ≤ b ∧ b ≤ 0) = decide (b ≤ 0) := by
        by_cases h3 : b ≤ 0
        · rw [decide_eq_true h3, decide_eq_true ⟨h1, h2, h3⟩]
        · rw [decide_eq_false h3, decide_eq_false (fun x => h3 x.2.2)]
      rw [hr]
      have d1 : decide (0 ≤ a) = true := by simpa using h1
      have d2 : decide (a ≤ b) = true := by simpa using h2
      clear hr h1 h2 h
      go_enter Try.func105, Try.ntmps105
      go_wp2_with fail
      refine HS.out.mono ?_
      rintro en w1 ⟨rfl, S1⟩
      go_wp2_with fail
      go_ret
      exact ⟨rfl, S1⟩
    · have hr : decide (0 ≤ a ∧ a ≤ b ∧ b ≤ 0) = false := by rw [decide_eq_false (fun x => h2 x.2.1)]
      rw [hr]
      have d1 : decide (0 ≤ a) = true := by simpa using h1
      have d2 : decide (a ≤ b) = false := by simpa using h2
      clear h1 h2 h hr
      go_enter Try.func105, Try.ntmps105
      go_wp2_with fail
      go_ret
      exact ⟨rfl, Same.refl _⟩
  · have hr : decide (0 ≤ a ∧ a ≤ b ∧ b ≤ 0) = false := by rw [decide_eq_false (fun x => h1 x.1)]
    rw [hr]
    have d1 : decide (0 ≤ a) = false := by simpa using h1
    clear h1 h hr
    go_enter Try.func105, Try.ntmps105
    go_wp2_with fail
    go_ret
    exact ⟨rfl, Same.refl _⟩
/-- a box of three cells: a span -/
def Box3 (w : World) (b : Nat) (c0 c1 c2 : Value) : Prop := w.heap[b]? = some (.cells #[c0, c1, c2] 106 (0, 0))
theorem Box3.new (w : World) (c0 c1 c2 : Value) : Box3 (w.alloc (.cells #[c0, c1, c2] 106)) w.heap.size c0 c1 c2 := heap_alloc_new w _
theorem Box3.same {w w' : World} {b : Nat} {c0 c1 c2 : Value} (h : Box3 w b c0 c1 c2) (S : Same w w') : Box3 w' b c0 c1 c2 := (S.block b (Array.getElem?_eq_some_iff.1 h).1 fun x => x).trans h
theorem Box3.cells {w : World} {b : Nat} {c0 c1 c2 : Value} (h : Box3 w b c0 c1 c2) : w.cell? ⟨b, 0, none⟩ = some c0 ∧ w.cell? ⟨b, 1, none⟩ = some c1 ∧ w.cell? ⟨b, 2, none⟩ = some c2 := by
  refine ⟨?_, ?_, ?_⟩
  all_goals (rw [cell_of_row w b _ _ 106 _ h]; rfl)
theorem maxIs (m l : Int) : (if m < l then l else m) = max m l := by split <;> omega
set_option maxHeartbeats 3200000 in
set_option maxRecDepth 100000 in
theorem cNewest (w : World) (p : Value) (F : Nat → Prop) (D : Dv) (a b : Int) (hD : IsDv w p F D) : Calls Try.prog 67 #[p, .int .i64 a, .int .i64 b] w (RetSame (.int .i64 (D.newest a b)) w) := by
  have HW := hid (cWithin w p F D a b hD)
  have HN : Hid (D.newest a b = if D.within a b = true then D.most a (b - a).toNat else 0) := rfl
  have hF : D.within a b = true → Hid (∀ w' at_, Same w w' → Calls Try.prog 109 #[spanV p a b, .int .i64 at_] w' (RetFrame (D.frameAt a b at_) w')) := fun hw w' at_ S => by
    have := of_decide_eq_true hw
    exact cFrame w' p F D a b at_ (hD.same S) ⟨this.1, this.2.2⟩
  have hbd : D.within a b = true → 0 ≤ a ∧ a ≤ b ∧ b ≤ 2048 := fun hw => by
    have := of_decide_eq_true hw
    have := hD.ok.1
    omega
  obtain ⟨pb, rfl⟩ := hD.ptr
  clear hD
  cases hw : D.within a b
  · rw [hw] at HW HN
    rw [HN.out.trans (if_neg (by decide))]
    clear hF hbd HN hw
    go_enter Try.func67, Try.ntmps67
    go_wp2_with fail
    refine HW.out.mono ?_
    rintro en w1 ⟨rfl, S1⟩
    go_wp2_with fail
    go_ret
    exact ⟨rfl, S1⟩
  · have HF := hF hw
    obtain ⟨h1, h2, h3⟩ := hbd hw
    rw [hw] at HW HN
    rw [HN.out.trans (if_pos rfl)]
    clear hF hbd HN hw
    have HM := hid (fun k => most_bound D a k)
    go_enter Try.func67, Try.ntmps67
    go_wp2_with fail
    refine HW.out.mono ?_
    rintro en w1 ⟨rfl, S1⟩
    have S1 := hid S1
    have BX := hid (Box3.new w1 (.pointer (some ⟨pb, 0, none⟩)) (.int .i64 a) (.int .i64 b))
    have S2 := hid (S1.out.alloc (.cells #[.pointer (some ⟨pb, 0, none⟩), .int .i64 a, .int .i64 b] 106))
    go_wp2_with fail
    generalize (w1.alloc (.cells #[.pointer (some ⟨pb, 0, none⟩), .int .i64 a, .int .i64 b] 106)) = w2 at *
    go_loopw [7, 9] (fun m i wr => ∃ k : Nat, a + k ≤ b ∧ i = .int .i64 (a + k) ∧ m = .int .i64 (D.most a k) ∧ Same w2 wr) (fun _ i _ => (b - intOf i).toNat)
    case atStart => exact ⟨0, by omega, by simp, rfl, Same.refl _⟩
    case round =>
      obtain ⟨k, hk, rfl, rfl, S⟩ := hrel
      have HS := hid S
      clear S
      by_cases hlt : a + k < b
      · obtain ⟨y0, y1, y2⟩ := (BX.out.same HS.out).cells
        have HFk := hid (HF.out wr (a + k) (S2.out.trans HS.out))
        unfold spanV at HFk
        have hfa : D.frameAt a b (a + k) = decF (D.sector (a + k)) := frameAt_in ⟨by omega, hlt⟩
        rw [hfa] at HFk
        have HSc : Hid (D.most a (k + 1) = max (D.most a k) (decF (D.sector (a + k))).life) := rfl
        have hwr := decF_wrong (b := D.sector (a + k))
        have HWr := hid hwr
        have hb1 := HM.out k
        have hb2 := life_bound (D.sector (a + k))
        clear hfa hwr
        generalize D.most a k = m at *
        generalize decF (D.sector (a + k)) = f at *
        go_wp2_with fail
        refine HFk.out.mono ?_
        rintro en w3 ⟨x3, rfl, ⟨u3, rfl, O3⟩, S3⟩
        obtain ⟨a3, q3, rfl, _, _⟩ := O3.bytes.form
        have S4 := hid ((HS.out.trans S3).alloc (.cells #[.int .i64 f.life, .int .i64 f.era, .int .i64 f.seq, .int .i64 f.part, .int .i64 f.parts, .slice a3 f.data.length q3] 60))
        unfold Fr.agg
        clear O3 S3 y0 y1 y2
        cases hr : f.right
        · have hz : f = Fr.zero := HWr.out (by rw [hr]; simp)
          have HE : Hid (D.most a (k + 1) = m) := by
            rw [HSc.out, hz]
            show max m 0 = m
            omega
          clear hz hr HWr
          go_wp2_with fail
          go_roundw
          case rel => exact ⟨k + 1, by omega, by go_num, by rw [HE.out], S4.out⟩
          case measure => simp [intOf]; omega
        · have HE : Hid (D.most a (k + 1) = if m < f.life then f.life else m) := by show _ = _; rw [HSc.out, maxIs]
          clear hr HWr
          go_wp2_with fail
          go_roundw
          case rel => exact ⟨k + 1, by omega, by go_num, by rw [HE.out], S4.out⟩
          case measure => simp [intOf]; omega
      · obtain rfl : b = a + k := by omega
        have hk2 : Hid ((a + (k : Int) - a).toNat = k) := by show _ = _; omega
        go_wp2_with fail
        go_ret
        rw [hk2.out]
        exact ⟨rfl, S2.out.trans HS.out⟩
end Go.Proofs.Ytlhnpicmjjddeaa
namespace Go.Proofs.Ytlhnpicmjjddeaa
open Go.RowKit

/-- a reference's drive: a box of five cells -/
def Box5 (w : World) (b : Nat) (c0 c1 c2 c3 c4 : Value) : Prop := w.heap[b]? = some (.cells #[c0, c1, c2, c3, c4] 117 (0, 0))
theorem Box5.lt {w : World} {b : Nat} {c0 c1 c2 c3 c4 : Value} (h : Box5 w b c0 c1 c2 c3 c4) : b < w.heap.size := (Array.getElem?_eq_some_iff.1 h).1
theorem Box5.keep {w w' : World} {M : Nat → Prop} {b : Nat} {c0 c1 c2 c3 c4 : Value} (h : Box5 w b c0 c1 c2 c3 c4) (K : Keep M w w') (hm : ¬ M b) : Box5 w' b c0 c1 c2 c3 c4 := (K.block b h.lt hm).trans h
theorem Box5.same {w w' : World} {b : Nat} {c0 c1 c2 c3 c4 : Value} (h : Box5 w b c0 c1 c2 c3 c4) (S : Same w w') : Box5 w' b c0 c1 c2 c3 c4 := h.keep S fun x => x
theorem Box5.new (w : World) (c0 c1 c2 c3 c4 : Value) : Box5 (w.alloc (.cells #[c0, c1, c2, c3, c4] 117)) w.heap.size c0 c1 c2 c3 c4 := heap_alloc_new w _
theorem Box5.cells {w : World} {b : Nat} {c0 c1 c2 c3 c4 : Value} (h : Box5 w b c0 c1 c2 c3 c4) :
    w.cell? ⟨b, 0, none⟩ = some c0 ∧ w.cell? ⟨b, 1, none⟩ = some c1 ∧ w.cell? ⟨b, 2, none⟩ = some c2 ∧ w.cell? ⟨b, 3, none⟩ = some c3 ∧ w.cell? ⟨b, 4, none⟩ = some c4 := by
  refine ⟨?_, ?_, ?_, ?_, ?_⟩
  all_goals (rw [cell_of_row w b _ _ 117 _ h]; rfl)
theorem Box5.free {w : World} {b : Nat} {c0 c1 c2 c3 c4 : Value} (h : Box5 w b c0 c1 c2 c3 c4) (o : Nat) : w.frozen? ⟨b, o, none⟩ = false := by
  unfold World.frozen?
  rw [h]
  by_cases h0 : 0 ≤ o <;> simp
theorem Box5.set0 {w : World} {b : Nat} {c0 c1 c2 c3 c4 : Value} (h : Box5 w b c0 c1 c2 c3 c4) (u : Value) : Box5 (w.setCell ⟨b, 0, none⟩ u) b u c1 c2 c3 c4 := heap_setCell_same w b 0 _ 117 u h
/-- what New of the reference leaves -/
def RetNewR (n : Nat) (w : World) (en : Ending) (w' : World) : Prop :=
  ∃ rv, en = .returned (.pointer (some ⟨w.heap.size, 0, none⟩)) ∧ Box5 w' w.heap.size rv (.bool false) (.int .i64 (-1)) (.slice none 0 0) (.int .i64 0) ∧ OwnR w' (w.heap.size + 1) rv (List.replicate n nought) ∧ Same w w'
set_option maxHeartbeats 1600000 in
set_option maxRecDepth 100000 in
theorem rNew (w : World) (n : Nat) (hn : n ≤ 2048) : Calls Try.prog 59 #[.int .i64 n] w (RetNewR n w) := by
  have HB := hid (Box5.new w (.slice none 0 0) (.bool false) (.int .i64 (-1)) (.slice none 0 0) (.int .i64 0))
  have hmk := runMake96
  go_enter Try.func59, Try.ntmps59
  go_wp2_with fail
  go_loopg [4] n (fun gk i wr => ∃ (k : Nat) (rv : Value), k + gk = n ∧ i = .int .i64 k ∧ Box5 wr w.heap.size rv (.bool false) (.int .i64 (-1)) (.slice none 0 0) (.int .i64 0) ∧ OwnR wr (w.heap.size + 1) rv (List.replicate k nought) ∧ Same w wr)
  case atStart => exact ⟨0, .slice none 0 0, by omega, rfl, HB.out, OwnR.nil _ _, (Same.refl w).alloc _⟩
  case round =>
    obtain ⟨k, rv, hk, rfl, hB, hO, S⟩ := hrel
    have HK := hid hk
    have hk2 : k ≤ n := by omega
    obtain ⟨ra, rc, rfl, _, _⟩ := hO.rows.form
    rw [List.length_replicate] at hB hO
    have HBx := hid hB
    have HO := hid hO
    have HS := hid S
    clear hk hB hO S
    obtain ⟨c0, c1, c2, c3, c4⟩ := HBx.out.cells
    by_cases hlt : k < n
    case neg =>
      obtain rfl : k = n := by omega
      go_wp2_with fail
      go_ret
      exact ⟨_, rfl, HBx.out, HO.out, HS.out⟩
    have OZ := hid (OwnB.zeros wr 96 (by decide))
    have hlen : (List.replicate k nought).length = k := List.length_replicate
    have HLn := hid hlen
    have hlw := HBx.out.lt
    have hOf : Hid (∀ g', homeOf (.slice (some ⟨wr.heap.size, 0, none⟩) 96 96) = some g' → w.heap.size + 1 ≤ g') := fun g' hg' => by
      simp [homeOf] at hg'
      omega
    have S2 := hid ((HS.out.alloc (.cells (zeros 96) 5)).alloc (.cells #[.slice (some ⟨wr.heap.size, 0, none⟩) 96 96] 23))
    have T2 := hid (((Same.refl wr).alloc (.cells (zeros 96) 5)).alloc (.cells #[.slice (some ⟨wr.heap.size, 0, none⟩) 96 96] 23))
    have HO2 := hid (HO.out.same T2.out)
    have HB2 := hid (HBx.out.same T2.out)
    have hsz : Hid (w.heap.size + 1 ≤ ((wr.alloc (.cells (zeros 96) 5)).alloc (.cells #[.slice (some ⟨wr.heap.size, 0, none⟩) 96 96] 23)).heap.size) := by show _ ≤ _; have := T2.out.size; omega
    have HR := hid (one_row OZ.out.bytes hOf.out)
    rw [World.size_alloc] at HR
    clear hlen hlw
    go_wp2_with (at_builtin; refine wpList_append_rows rfl (.tmp 18) (.tmp 20) 36 tyRows rfl HO2.out HR.out.1 HR.out.2 rfl rfl (by rw [HLn.out]; simp; omega) hsz.out ?_; intro x1 w5 ho5 K6; have HO5 := hid ho5; have K6 := hid K6; have HB5 := hid (HB2.out.keep K6.out (fun e => by have := (HO2.out.lt _ e).1; omega)); obtain ⟨xa, xc, hx1, _, _⟩ := ho5.rows.form; rw [List.length_append, HLn.out] at hx1; simp only [List.length_cons, List.length_nil, Nat.zero_add] at hx1; subst hx1; clear ho5; obtain ⟨m0, m1, m2, m3, m4⟩ := HB5.out.cells; have z0 := HB5.out.free 0)
    go_roundg (n - (k + 1))
    case measure => have := HK.out; omega
    case rel =>
      refine ⟨k + 1, _, by omega, by go_num, HB5.out.set0 _, ?_, (S2.out.keepOwn K6.out (fun g e => Nat.le_trans (Nat.le_succ _) (HO2.out.lt g e).1)).setCell (Nat.le_refl _) _⟩
      rw [List.replicate_succ']
      exact HO5.out.keep (Keep.setCell (M := fun g => g = w.heap.size) (Keep.refl _ w5) (p := ⟨w.heap.size, 0, none⟩) (.inl rfl) _) (fun g e => by subst e; exact Nat.lt_succ_self _)
end Go.Proofs.Ytlhnpicmjjddeaa
namespace Go.Proofs.Ytlhnpicmjjddeaa
open Go.RowKit

theorem dec_two (c : List UInt8) : decE c = 0 ∨ (decE c = 3 ∧ decF c = Fr.zero) := by
  unfold decE decF
  cases dec c with
  | none => exact .inr ⟨rfl, rfl⟩
  | some f => exact .inl rfl
set_option maxHeartbeats 3200000 in
set_option maxRecDepth 100000 in
theorem rNewest (w : World) (b : Nat) (rv c1 c2 c3 c4 : Value) (D : Dv) (x y : Nat) (hB : Box5 w b rv c1 c2 c3 c4) (hR : Rows2 w 23 rv D.C) (hx : x ≤ y) (hy : y ≤ D.C.length) (hC : D.C.length ≤ 2048) :
    Calls Try.prog 68 #[.pointer (some ⟨b, 0, none⟩), .int .i64 x, .int .i64 y] w (RetSame (.int .i64 (D.most x (y - x))) w) := by
  obtain ⟨ra, rc, rfl, _, _⟩ := hR.form
  have HB := hid hB
  have HR := hid hR
  have HD := hid rDecode
  have HM := hid (fun k => most_bound D x k)
  have hsec : ∀ k : Nat, ∀ h : x + k < D.C.length, D.sector ((x : Int) + k) = D.C[x + k] := fun k h => by
    unfold Dv.sector
    rw [if_pos (by omega), show ((x : Int) + k).toNat = x + k from by omega, List.getD_eq_getElem?_getD, List.getElem?_eq_getElem h]
    rfl
  have HSc := hid hsec
  clear hB hR hsec
  go_enter Try.func68, Try.ntmps68
  go_wp2_with fail
  go_loopg [7, 8] (y - x) (fun gk m i wr => ∃ k : Nat, x + k + gk = y ∧ i = .int .i64 ((x + k : Nat) : Int) ∧ m = .int .i64 (D.most x k) ∧ Same w wr)
  case atStart => exact ⟨0, by omega, rfl, rfl, Same.refl _⟩
  case round =>
    obtain ⟨k, hk, rfl, rfl, S⟩ := hrel
    have HS := hid S
    have HK := hid hk
    have hk2 : x + k ≤ y := by omega
    clear S hk
    by_cases hlt : x + k < y
    case neg =>
      have hk3 : Hid (y - x = k) := by show _ = _; omega
      go_wp2_with fail
      go_ret
      rw [hk3.out]
      exact ⟨rfl, HS.out⟩
    have hlc : x + k < D.C.length := by omega
    obtain ⟨g, o, a0, q0, e0, rfl, hcell, hby⟩ := (HR.out.same HS.out).row (x + k) hlc
    obtain ⟨d0, d1, d2, d3, d4⟩ := (HB.out.same HS.out).cells
    have HDk := hid (HD.out wr e0 _ _ hby)
    have HE : Hid (D.most x (k + 1) = max (D.most x k) (decF (D.sector (x + k))).life) := rfl
    rw [HSc.out k hlc] at HE
    have hb1 := HM.out k
    have hb2 := life_bound D.C[x + k]
    have HT := hid (dec_two D.C[x + k])
    clear hby
    generalize D.C[x + k] = c at *
    generalize D.most x k = m at *
    generalize decF c = f at *
    rcases HT.out with hd | ⟨hd, hz⟩
    · have HF : Hid (D.most x (k + 1) = if m < f.life then f.life else m) := by show _ = _; rw [HE.out, maxIs]
      rw [hd] at HDk
      clear hd HT HE
      go_wp2_with fail
      refine HDk.out.mono ?_
      rintro en w3 ⟨x3, rfl, ⟨u3, rfl, O3⟩, S3⟩
      obtain ⟨a3, q3, rfl, _, _⟩ := O3.bytes.form
      have S4 := hid ((HS.out.trans S3).alloc (.cells #[.int .i64 f.life, .int .i64 f.era, .int .i64 f.seq, .int .i64 f.part, .int .i64 f.parts, .slice a3 f.data.length q3] 59))
      unfold Fr.agg
      clear O3 S3 d0 d1 d2 d3 d4 hcell
      by_cases hm : m < f.life
      · have HG : Hid (D.most x (k + 1) = f.life) := by show _ = _; rw [HF.out, if_pos hm]
        have hm2 : decide (m < f.life) = true := decide_eq_true hm
        clear hm
        go_wp2_with fail
        go_roundg (y - (x + (k + 1)))
        case measure => have := HK.out; omega
        case rel => exact ⟨k + 1, by omega, by go_num, by rw [HG.out], S4.out⟩
      · have HG : Hid (D.most x (k + 1) = m) := by show _ = _; rw [HF.out, if_neg hm]
        have hm2 : decide (m < f.life) = false := decide_eq_false hm
        clear hm
        go_wp2_with fail
        go_roundg (y - (x + (k + 1)))
        case measure => have := HK.out; omega
        case rel => exact ⟨k + 1, by omega, by go_num, by rw [HG.out], S4.out⟩
    · have HG : Hid (D.most x (k + 1) = m) := by
        rw [HE.out, hz]
        show max m 0 = m
        omega
      rw [hd] at HDk
      clear hd hz HT HE
      go_wp2_with fail
      refine HDk.out.mono ?_
      rintro en w3 ⟨x3, rfl, ⟨u3, rfl, O3⟩, S3⟩
      obtain ⟨a3, q3, rfl, _, _⟩ := O3.bytes.form
      have S4 := hid ((HS.out.trans S3).alloc (.cells #[.int .i64 f.life, .int .i64 f.era, .int .i64 f.seq, .int .i64 f.part, .int .i64 f.parts, .slice a3 f.data.length q3] 59))
      unfold Fr.agg
      clear O3 S3 d0 d1 d2 d3 d4 hcell
      go_wp2_with fail
      go_roundg (y - (x + (k + 1)))
      case measure => have := HK.out; omega
      case rel => exact ⟨k + 1, by omega, by go_num, by rw [HG.out], S4.out⟩
end Go.Proofs.Ytlhnpicmjjddeaa
namespace Go.Proofs.Ytlhnpicmjjddeaa
open Go.RowKit

/-- append to a row: it lies where it lay, or in a new block -/
theorem run_append_home {P : Program} (w : World) {t e : TypeId} {size bytes : Nat} {z : Value} (T : RowTy P t e size bytes z) (ty : TypeId) {v : Value} {n : Nat} {xs : List Value}
    (hown : w.ownsRow 0 e size v n xs) {e' : TypeId} {y : Value} {m : Nat} {ys : List Value} (hy : Sl w e' size y m ys) (h1 : ∀ u ∈ ys, u.oneCell' = true)
    (h63 : n + m ≤ maxLen) (hbytes : (n + m) * bytes ≤ 140737488355328) :
    ∃ v' w', (Builtin.append_ #[t, t] ty #[v, y]).run P w = .ok v' w' ∧ w'.ownsRow 0 e size v' (n + m) (xs ++ ys) ∧ w.grownBy w' v.ownBlock ∧ ∀ k, v'.ownBlock = some k → v.ownBlock = some k ∨ w.heap.size ≤ k := by
  obtain ⟨v', w', hr, ho, hg⟩ := run_append_sl w T ty hown hy h1 h63 hbytes (Nat.zero_le _)
  refine ⟨v', w', hr, ho, hg, fun k hk => ?_⟩
  obtain ⟨i, hi, hz, hs, hb⟩ := info_parts T.info
  rcases hown.2 with ⟨rfl, rfl⟩ | ⟨g, cap, cur, rfl, _, hgg, hnc, hcm, hcs, htake⟩
  · have hown2 : w.ownsRow w.heap.size e size (.slice none 0 0) 0 xs := ⟨hown.1, .inl ⟨rfl, rfl⟩⟩
    obtain ⟨v2, w2, hr2, ho2, _⟩ := run_append_sl w T ty hown2 hy h1 h63 hbytes (Nat.le_refl _)
    rw [hr] at hr2
    cases hr2
    exact .inr (World.ownsRow.lt ho2 k hk).1
  · obtain ⟨hl, ao, c, rfl, h2, h3, h4, h5⟩ := id hy
    cases ao with
    | none =>
      have hc := h4 rfl
      subst hc
      obtain rfl : m = 0 := by omega
      have hr2 := run_append_owned_none (P := P) w 0 t ty e i size T.under hi _ n xs hown
      rw [hr] at hr2
      cases hr2
      exact .inl hk
    | some a =>
      have hnews : ∀ j u, ys[j]? = some u → w.cell? (a.add j) = some u := by
        intro j u hu
        rcases h5 with h5 | ⟨g2, o, cur2, fr, hao, hg2, hx⟩
        · subst h5
          have : ys = [] := List.eq_nil_of_length_eq_zero (by simpa using hl)
          subst this
          simp at hu
        · cases hao
          have hadd : (⟨g2, o, none⟩ : Addr).add j = ⟨g2, o + j, none⟩ := by unfold Addr.add; split <;> simp_all
          obtain ⟨tl, ht⟩ := hx
          have : (cur2.toList.drop o)[j]? = some u := by
            rw [← ht, List.getElem?_append_left (List.getElem?_eq_some_iff.1 hu).1, hu]
          rw [List.getElem?_drop, Array.getElem?_toList] at this
          rw [hadd, cell_of_row w g2 (o + j) cur2 e' fr hg2, this]
      subst hs
      subst hb
      by_cases hroom : n + m ≤ cap
      · have hfit : n * i.size + ys.length ≤ cur.size := by rw [hl, hcs, ← Nat.add_mul]; exact Nat.mul_le_mul_right _ hroom
        have hr2 := run_append_room (P := P) w t ty e i T.under hi g n cap cur hgg a m c ys hl hnews h1 hroom hfit
        rw [hr] at hr2
        cases hr2
        left
        simpa [Value.ownBlock] using hk
      · have holds : ∀ j u, xs[j]? = some u → w.cell? ((⟨g, 0, none⟩ : Addr).add j) = some u := hown.cells (g := g) rfl
        have hr2 := run_append_grow (P := P) w t ty e i z T.under hi hz ⟨g, 0, none⟩ n cap xs hown.1 holds a m c ys hl hnews (by omega) (by unfold maxLen at h63; omega) (growslice_fits (by omega) hbytes)
        rw [hr] at hr2
        cases hr2
        right
        simp [Value.ownBlock] at hk
        omega

/-- a row of rows of bytes; it and its rows lie in F -/
def OwnQ (w : World) (F : Nat → Prop) (v : Value) (ls : List (List UInt8)) : Prop :=
  ∃ us, w.ownsRow 0 23 1 v ls.length us ∧ (∀ g, v.ownBlock = some g → F g) ∧ ∀ i (h : i < ls.length) u, us[i]? = some u → Bytes w 5 u ls[i] ∧ ∀ g, homeOf u = some g → F g
theorem OwnQ.nil (w : World) (F : Nat → Prop) : OwnQ w F (.slice none 0 0) [] := ⟨[], World.ownsRow_nil w 0 23 1, (fun g h => by simp [Value.ownBlock] at h), fun _ h => absurd h (Nat.not_lt_zero _)⟩
theorem OwnQ.rows {w : World} {F : Nat → Prop} {v : Value} {ls : List (List UInt8)} (h : OwnQ w F v ls) : Rows2 w 23 v ls :=
  let ⟨us, h1, _, h3⟩ := h; ⟨us, by have := h1.1; omega, Sl.of_owns h1, fun i hi u hu => ⟨5, (h3 i hi u hu).1⟩⟩
theorem OwnQ.keep {w w' : World} {F M : Nat → Prop} {v : Value} {ls : List (List UInt8)} (h : OwnQ w F v ls) (k : Keep M w w') (hd : ∀ i, F i → ¬ M i) : OwnQ w' F v ls :=
  let ⟨us, h1, h2, h3⟩ := h; ⟨us, owns_keep h1 k fun g hg => hd g (h2 g hg), h2, fun i hi u hu => ⟨(h3 i hi u hu).1.keep k fun g hg => hd g ((h3 i hi u hu).2 g hg), (h3 i hi u hu).2⟩⟩
theorem OwnQ.same {w w' : World} {F : Nat → Prop} {v : Value} {ls : List (List UInt8)} (h : OwnQ w F v ls) (k : Same w w') : OwnQ w' F v ls := h.keep k fun _ _ x => x
theorem OwnQ.foot {w : World} {F F' : Nat → Prop} {v : Value} {ls : List (List UInt8)} (h : OwnQ w F v ls) (hF : ∀ i, F i → F' i) : OwnQ w F' v ls :=
  let ⟨us, h1, h2, h3⟩ := h; ⟨us, h1, fun g hg => hF g (h2 g hg), fun i hi u hu => ⟨(h3 i hi u hu).1, fun g hg => hF g ((h3 i hi u hu).2 g hg)⟩⟩
/-- one row more -/
theorem OwnQ.push {w w' : World} {F : Nat → Prop} {v v' : Value} {ls : List (List UInt8)} (h : OwnQ w F v ls) {u : Value} {l : List UInt8} (hu : Bytes w 5 u l) (hf : ∀ g, homeOf u = some g → F g)
    (ho : ∀ us, w.ownsRow 0 23 1 v ls.length us → w'.ownsRow 0 23 1 v' (ls.length + 1) (us ++ [u])) (hg : w.grownBy w' v.ownBlock) (hv : ∀ k, v'.ownBlock = some k → v.ownBlock = some k ∨ w.heap.size ≤ k) :
    OwnQ w' (fun k => F k ∨ (w.heap.size ≤ k ∧ k < w'.heap.size)) v' (ls ++ [l]) := by
  obtain ⟨us, h1, h2, h3⟩ := h
  have K : Keep (fun k => v.ownBlock = some k) w w' := (Keep.refl _ w).grown hg fun k e => .inl e
  have keepB : ∀ {u0 : Value} {l0 : List UInt8}, Bytes w 5 u0 l0 → Bytes w' 5 u0 l0 := fun {u0 l0} hb => hb.keep K fun g hg hm => by
    obtain ⟨c1, f1, e1⟩ := bytes_block hb hg
    obtain ⟨c2, e2⟩ := owns_block h1 hm
    rw [e1] at e2
    simp at e2
  have h0 : us.length = ls.length := by have := h1.1; omega
  have ho' := ho us h1
  refine ⟨us ++ [u], by rw [List.length_append]; exact ho', fun g hg' => ?_, fun i hi x hx => ?_⟩
  · rcases hv g hg' with e | e
    · exact .inl (h2 g e)
    · exact .inr ⟨e, (World.ownsRow.lt ho' g hg').2⟩
  · rw [List.length_append, List.length_singleton] at hi
    rcases Nat.lt_or_ge i ls.length with hl | hl
    · rw [List.getElem?_append_left (by omega)] at hx
      rw [List.getElem_append_left hl]
      exact ⟨keepB (h3 i hl x hx).1, fun g hg => .inl ((h3 i hl x hx).2 g hg)⟩
    · obtain rfl : i = ls.length := by omega
      rw [List.getElem?_append_right (by omega), h0] at hx
      simp at hx
      subst hx
      rw [List.getElem_append_right (Nat.le_refl _)]
      simp only [Nat.sub_self, List.getElem_cons_zero]
      exact ⟨keepB hu, fun g hg => .inl (hf g hg)⟩
/-- append of one row, as a step of a region that draws its order -/
theorem step_append_q {w : World} {ops : Array Oper} {o : Oper} {a : Act} {K : Act → World → Prop} {Q : Exit → Act → World → Prop} {E : Prop} (hgd : o.guard = none) (s x : Operand)
    (t : TypeId) (T : RowTy Try.prog t 23 1 24 (.slice none 0 0)) (ho : o.op = .call { callee := .builtin .append, args := #[s, x], argTypes := #[t, t] })
    {F : Nat → Prop} {v : Value} {ls : List (List UInt8)} (hown : OwnQ w F v ls) {e' : TypeId} {y u : Value} {l : List UInt8} (hy : Sl w e' 1 y 1 [u]) (hu : Bytes w 5 u l) (hf : ∀ g, homeOf u = some g → F g)
    (hs : a.eval s = v) (hx : a.eval x = y) (hb : ls.length ≤ 1000000)
    (h : ∀ v' w', OwnQ w' (fun k => F k ∨ (w.heap.size ≤ k ∧ k < w'.heap.size)) v' (ls ++ [l]) → Keep (fun k => v.ownBlock = some k) w w' → K (a.put o.dst v') w') :
    if Region.wanted o (yielded ops a.tmps) = true then Oper.wp Try.prog o a w K Q else E := by
  have hw : Region.wanted o (yielded ops a.tmps) = true := by simp [Region.wanted, hgd]
  rw [if_pos hw]
  obtain ⟨us, h1, h2, h3⟩ := id hown
  have hone : ∀ z ∈ [u], z.oneCell' = true := by
    intro z hz
    simp at hz
    subst hz
    exact hu.one
  obtain ⟨v', w', hr, q1, q2, q3⟩ := run_append_home (P := Try.prog) w T o.type h1 hy hone (by unfold maxLen; omega) (by omega)
  have K' : Keep (fun k => v.ownBlock = some k) w w' := (Keep.refl _ w).grown q2 fun k e => .inl e
  have hfin := h v' w' (hown.push hu hf (fun us2 h2 => by
    obtain ⟨v2, w2, hr2, q1', q2', _⟩ := run_append_home (P := Try.prog) w T o.type h2 hy hone (by unfold maxLen; omega) (by omega)
    rw [hr] at hr2
    cases hr2
    exact q1') q2 q3) K'
  unfold Oper.wp execOp
  simp only [ho, resolve, invoke, builtin, Sem.run_bind, Sem.run_pure, Result.andThen_ok, List.map_toArray, List.map_cons, List.map_nil, hs, hx, hr]
  exact hfin

/-- a box of nine cells: a scroll -/
def Box9 (w : World) (b : Nat) (c0 c1 c2 c3 c4 c5 c6 c7 c8 : Value) : Prop := w.heap[b]? = some (.cells #[c0, c1, c2, c3, c4, c5, c6, c7, c8] 108 (0, 0))
section
variable {w w' : World} {b : Nat} {c0 c1 c2 c3 c4 c5 c6 c7 c8 : Value}
theorem Box9.lt (h : Box9 w b c0 c1 c2 c3 c4 c5 c6 c7 c8) : b < w.heap.size := (Array.getElem?_eq_some_iff.1 h).1
theorem Box9.keep {M : Nat → Prop} (h : Box9 w b c0 c1 c2 c3 c4 c5 c6 c7 c8) (K : Keep M w w') (hm : ¬ M b) : Box9 w' b c0 c1 c2 c3 c4 c5 c6 c7 c8 := (K.block b h.lt hm).trans h
theorem Box9.same (h : Box9 w b c0 c1 c2 c3 c4 c5 c6 c7 c8) (S : Same w w') : Box9 w' b c0 c1 c2 c3 c4 c5 c6 c7 c8 := h.keep S fun x => x
theorem Box9.new (w : World) (c0 c1 c2 c3 c4 c5 c6 c7 c8 : Value) : Box9 (w.alloc (.cells #[c0, c1, c2, c3, c4, c5, c6, c7, c8] 108)) w.heap.size c0 c1 c2 c3 c4 c5 c6 c7 c8 := heap_alloc_new w _
theorem Box9.cells (h : Box9 w b c0 c1 c2 c3 c4 c5 c6 c7 c8) :
    w.cell? ⟨b, 0, none⟩ = some c0 ∧ w.cell? ⟨b, 1, none⟩ = some c1 ∧ w.cell? ⟨b, 2, none⟩ = some c2 ∧ w.cell? ⟨b, 3, none⟩ = some c3 ∧ w.cell? ⟨b, 4, none⟩ = some c4 ∧ w.cell? ⟨b, 5, none⟩ = some c5 ∧
    w.cell? ⟨b, 6, none⟩ = some c6 ∧ w.cell? ⟨b, 7, none⟩ = some c7 ∧ w.cell? ⟨b, 8, none⟩ = some c8 := by
  refine ⟨?_, ?_, ?_, ?_, ?_, ?_, ?_, ?_, ?_⟩
  all_goals (rw [cell_of_row w b _ _ 108 _ h]; rfl)
theorem Box9.free (h : Box9 w b c0 c1 c2 c3 c4 c5 c6 c7 c8) (o : Nat) : w.frozen? ⟨b, o, none⟩ = false := by
  unfold World.frozen?
  rw [h]
  by_cases h0 : 0 ≤ o <;> simp
theorem Box9.set8 (h : Box9 w b c0 c1 c2 c3 c4 c5 c6 c7 c8) (u : Value) : Box9 (w.setCell ⟨b, 8, none⟩ u) b c0 c1 c2 c3 c4 c5 c6 c7 u := heap_setCell_same w b 8 _ 108 u h
theorem Box9.set765 (h : Box9 w b c0 c1 c2 c3 c4 c5 c6 c7 c8) (u7 u6 u5 : Value) : Box9 (((w.setCell ⟨b, 7, none⟩ u7).setCell ⟨b, 6, none⟩ u6).setCell ⟨b, 5, none⟩ u5) b c0 c1 c2 c3 c4 u5 u6 u7 c8 := by
  have h0 := heap_setCell_same w b 7 _ 108 u7 h
  have h1 := heap_setCell_same _ b 6 _ 108 u6 h0
  exact heap_setCell_same _ b 5 _ 108 u5 h1
end
def scBox (w : World) (b : Nat) (p : Value) (S : Sc) (v : Value) : Prop := Box9 w b p (.int .i64 S.from_) (.int .i64 S.till) (.int .i64 S.life) (.int .i64 S.era) (.int .i64 S.last) (.int .i64 S.at_) v (.bool S.dead)
structure Sc.Ok (S : Sc) : Prop where
  fit : 0 ≤ S.from_ ∧ S.from_ ≤ S.at_ ∧ S.at_ ≤ S.till ∧ S.till ≤ 2048
  few : (S.all.length : Int) ≤ S.at_
  short : ∀ r ∈ S.all, r.length ≤ 30000
  life : 0 ≤ S.life ∧ S.life ≤ 16777215
  era : 0 ≤ S.era ∧ S.era ≤ 16777215
  last : 0 ≤ S.last ∧ S.last ≤ 16777215
/-- The pointer s is a scroll of the drive p that reads as S; all its blocks lie in F. -/
def IsSc (w : World) (s p : Value) (F : Nat → Prop) (S : Sc) : Prop := ∃ b v, s = .pointer (some ⟨b, 0, none⟩) ∧ scBox w b p S v ∧ F b ∧ OwnQ w F v S.all ∧ S.Ok
theorem IsSc.keep {w w' : World} {s p : Value} {F M : Nat → Prop} {S : Sc} (h : IsSc w s p F S) (k : Keep M w w') (hd : ∀ i, F i → ¬ M i) : IsSc w' s p F S :=
  let ⟨b, v, h1, h2, h3, h4, h5⟩ := h; ⟨b, v, h1, h2.keep k (hd b h3), h3, h4.keep k hd, h5⟩
theorem IsSc.same {w w' : World} {s p : Value} {F : Nat → Prop} {S : Sc} (h : IsSc w s p F S) (k : Same w w') : IsSc w' s p F S := h.keep k fun _ _ x => x
theorem IsSc.foot {w : World} {s p : Value} {F F' : Nat → Prop} {S : Sc} (h : IsSc w s p F S) (hF : ∀ i, F i → F' i) : IsSc w s p F' S :=
  let ⟨b, v, h1, h2, h3, h4, h5⟩ := h; ⟨b, v, h1, h2, hF b h3, h4.foot hF, h5⟩
theorem IsSc.ok {w : World} {s p : Value} {F : Nat → Prop} {S : Sc} (h : IsSc w s p F S) : S.Ok := let ⟨_, _, _, _, _, _, h5⟩ := h; h5
theorem IsSc.ptr {w : World} {s p : Value} {F : Nat → Prop} {S : Sc} (h : IsSc w s p F S) : ∃ b, s = .pointer (some ⟨b, 0, none⟩) := let ⟨b, _, h1, _⟩ := h; ⟨b, h1⟩
/-- a block of nine cells is none of a row's, none of bytes' -/
theorem OwnQ.apart9 {w : World} {F : Nat → Prop} {v : Value} {ls : List (List UInt8)} (h : OwnQ w F v ls) {b : Nat} {c0 c1 c2 c3 c4 c5 c6 c7 c8 : Value} (hb : Box9 w b c0 c1 c2 c3 c4 c5 c6 c7 c8) : v.ownBlock ≠ some b := by
  obtain ⟨us, h1, _⟩ := h
  intro e
  obtain ⟨c, hc⟩ := owns_block h1 e
  unfold Box9 at hb
  rw [hb] at hc
  simp at hc
theorem Bytes.apart9 {w : World} {u : Value} {l : List UInt8} (h : Bytes w 5 u l) {b : Nat} {c0 c1 c2 c3 c4 c5 c6 c7 c8 : Value} (hb : Box9 w b c0 c1 c2 c3 c4 c5 c6 c7 c8) : homeOf u ≠ some b := by
  intro e
  obtain ⟨c, fr, hc⟩ := bytes_block h e
  unfold Box9 at hb
  rw [hb] at hc
  simp at hc
/-- stores into the scroll's own cells keep its rows -/
theorem OwnQ.box9 {w w' : World} {F : Nat → Prop} {v : Value} {ls : List (List UInt8)} (h : OwnQ w F v ls) {b : Nat} {c0 c1 c2 c3 c4 c5 c6 c7 c8 : Value} (hb : Box9 w b c0 c1 c2 c3 c4 c5 c6 c7 c8) (K : Keep (fun k => k = b) w w') : OwnQ w' F v ls := by
  have ha := h.apart9 hb
  obtain ⟨us, h1, h2, h3⟩ := h
  exact ⟨us, owns_keep h1 K fun g hg e => ha (by rw [hg, e]), h2, fun i hi u hu => ⟨(h3 i hi u hu).1.keep K fun g hg e => (h3 i hi u hu).1.apart9 hb (by rw [hg, e]), (h3 i hi u hu).2⟩⟩
end Go.Proofs.Ytlhnpicmjjddeaa
namespace Go.Proofs.Ytlhnpicmjjddeaa
open Go.RowKit

theorem cOk (w : World) (s p : Value) (F : Nat → Prop) (S : Sc) (hS : IsSc w s p F S) (hp : ∃ pb, p = .pointer (some ⟨pb, 0, none⟩)) : Calls Try.prog 108 #[s] w (RetSame (.bool true) w) := by
  obtain ⟨b, v, rfl, hB, _⟩ := hS
  obtain ⟨pb, rfl⟩ := hp
  obtain ⟨c0, c1, c2, c3, c4, c5, c6, c7, c8⟩ := Box9.cells hB
  clear hB
  go_enter Try.func108, Try.ntmps108
  go_wp2_with fail
  go_ret
  exact ⟨rfl, Same.refl _⟩
/-- a scroll that no call made -/
def NoScroll (w : World) (s : Value) : Prop := s = .pointer none ∨ ∃ b, s = .pointer (some ⟨b, 0, none⟩) ∧ w.cell? ⟨b, 0, none⟩ = some (.pointer none)
theorem NoScroll.same {w w' : World} {s : Value} (h : NoScroll w s) (S : Same w w') : NoScroll w' s := by
  rcases h with h | ⟨b, h, c⟩
  · exact .inl h
  · exact .inr ⟨b, h, (S.cell (p := ⟨b, 0, none⟩) (World.block_lt_of_cell? w _ c)).trans c⟩
theorem cOk_none (w : World) (s : Value) (h : NoScroll w s) : Calls Try.prog 108 #[s] w (RetSame (.bool false) w) := by
  rcases h with rfl | ⟨b, rfl, c0⟩
  all_goals
    go_enter Try.func108, Try.ntmps108
    go_wp2_with fail
    go_ret
    exact ⟨rfl, Same.refl _⟩
theorem cAppend_none (w : World) (s v : Value) (h : NoScroll w s) : Calls Try.prog 69 #[s, v] w (RetSame (.int .i64 1) w) := by
  have H := hid cOk_none
  go_enter Try.func69, Try.ntmps69
  go_wp2_with fail
  refine (H.out _ _ h).mono ?_
  rintro en w1 ⟨rfl, S1⟩
  go_wp2_with fail
  go_ret
  exact ⟨rfl, S1⟩
theorem cRecords_none (w : World) (s : Value) (h : NoScroll w s) : Calls Try.prog 65 #[s] w (RetSame (.slice none 0 0) w) := by
  have H := hid cOk_none
  go_enter Try.func65, Try.ntmps65
  go_wp2_with fail
  refine (H.out _ _ h).mono ?_
  rintro en w1 ⟨rfl, S1⟩
  go_wp2_with fail
  go_ret
  exact ⟨rfl, S1⟩
theorem cUsed_none (w : World) (s : Value) (h : NoScroll w s) : Calls Try.prog 66 #[s] w (RetSame (.int .i64 0) w) := by
  have H := hid cOk_none
  go_enter Try.func66, Try.ntmps66
  go_wp2_with fail
  refine (H.out _ _ h).mono ?_
  rintro en w1 ⟨rfl, S1⟩
  go_wp2_with fail
  go_ret
  exact ⟨rfl, S1⟩
def Sc.next (S : Sc) (f : Fr) : Bool := decide (f.era = S.era ∧ f.seq = S.all.length + 1 ∧ S.last ≤ f.life)
set_option maxHeartbeats 1600000 in
set_option maxRecDepth 100000 in
theorem cNext (w : World) (s p x : Value) (F : Nat → Prop) (S : Sc) (f : Fr) (hS : IsSc w s p F S) (hx : FrV w x f) : Calls Try.prog 122 #[s, x] w (RetSame (.bool (S.next f)) w) := by
  obtain ⟨b, v, rfl, hB, hF, hQ, hO⟩ := hS
  obtain ⟨u, e, rfl, hb⟩ := hx
  obtain ⟨av, cv, rfl, f1, f2⟩ := hQ.rows.form
  obtain ⟨au, cu, rfl, _, _⟩ := hb.form
  have hfew : S.all.length ≤ 2048 := by have := hO.few; have := hO.fit; omega
  have hnx : S.next f = decide (f.era = S.era ∧ f.seq = S.all.length + 1 ∧ S.last ≤ f.life) := rfl
  have HN := hid hnx
  have S1 := hid ((Same.refl w).alloc (.cells #[.int .i64 f.life, .int .i64 f.era, .int .i64 f.seq, .int .i64 f.part, .int .i64 f.parts, .slice au f.data.length cu] 60))
  obtain ⟨c0, c1, c2, c3, c4, c5, c6, c7, c8⟩ := Box9.cells (hB.same S1.out)
  obtain ⟨y0, y1, y2, y3, y4, y5⟩ := Box6.cells (Box6.new w (.int .i64 f.life) (.int .i64 f.era) (.int .i64 f.seq) (.int .i64 f.part) (.int .i64 f.parts) (.slice au f.data.length cu))
  clear hB hF hQ hO hb hnx f1 f2
  unfold Fr.agg
  generalize S.next f = r at *
  go_enter Try.func122, Try.ntmps122
  go_wp2_with fail
  generalize (w.alloc (.cells #[.int .i64 f.life, .int .i64 f.era, .int .i64 f.seq, .int .i64 f.part, .int .i64 f.parts, .slice au f.data.length cu] 60)) = w1 at *
  generalize w.heap.size = fb at *
  generalize S.all.length = n at *
  by_cases h1 : f.era = S.era
  · have e1 : (f.era == S.era) = true := by rw [beq_iff_eq]; exact h1
    by_cases h2 : f.seq = n + 1
    · have e2 : (f.seq == (n : Int) + 1) = true := by rw [beq_iff_eq]; exact h2
      have hr : Hid (r = decide (S.last ≤ f.life)) := by
        show _ = _
        rw [HN.out]
        by_cases h3 : S.last ≤ f.life
        · rw [decide_eq_true h3, decide_eq_true ⟨h1, h2, h3⟩]
        · rw [decide_eq_false h3, decide_eq_false (fun x => h3 x.2.2)]
      clear h1 h2 HN
      go_quiet (fail)
      go_wp2_with fail
      go_ret
      rw [hr.out]
      exact ⟨rfl, S1.out.drewN _⟩
    · have e2 : (f.seq == (n : Int) + 1) = false := by rw [beq_eq_false_iff_ne]; exact h2
      have hr : Hid (r = false) := by show _ = _; rw [HN.out, decide_eq_false (fun x => h2 x.2.1)]
      clear h1 h2 HN
      go_quiet (fail)
      go_wp2_with fail
      go_ret
      rw [hr.out]
      exact ⟨rfl, S1.out.drewN _⟩
  · have e1 : (f.era == S.era) = false := by rw [beq_eq_false_iff_ne]; exact h1
    have hr : Hid (r = false) := by show _ = _; rw [HN.out, decide_eq_false (fun x => h1 x.1)]
    clear h1 HN
    go_quiet (fail)
    go_wp2_with fail
    go_ret
    rw [hr.out]
    exact ⟨rfl, S1.out.drewN _⟩
end Go.Proofs.Ytlhnpicmjjddeaa
namespace Go.Proofs.Ytlhnpicmjjddeaa
open Go.RowKit

theorem far6 (w : World) (b b' o : Nat) (u0 u1 u2 u3 u4 u5 : Value) (h : b' ≠ b) : ((((((w.setCell ⟨b, 0, none⟩ u0).setCell ⟨b, 1, none⟩ u1).setCell ⟨b, 2, none⟩ u2).setCell ⟨b, 3, none⟩ u3).setCell ⟨b, 4, none⟩ u4).setCell ⟨b, 5, none⟩ u5).cell? ⟨b', o, none⟩ = w.cell? ⟨b', o, none⟩ := by
  have f : ∀ (i : Nat) (W : World) (u : Value), (W.setCell ⟨b, i, none⟩ u).cell? ⟨b', o, none⟩ = W.cell? ⟨b', o, none⟩ := fun i W u => World.cell?_setCell_other _ _ _ _ (by simp)
  rw [f, f, f, f, f, f]
def Sc.may (S : Sc) (D : Dv) : Bool := D.recAt S.till S.era S.at_ (S.all.length + 1) S.last
def Sc.took (S : Sc) (D : Dv) : Sc := if S.may D = true then { S with all := S.all ++ [D.recd S.at_], at_ := S.at_ + D.parts S.at_, last := D.lifeAt S.at_ } else S
theorem may_first {S : Sc} {D : Dv} (h : S.may D = true) (hf : S.from_ ≤ S.at_) : (D.frameAt S.from_ S.till S.at_).right = true ∧ S.next (D.frameAt S.from_ S.till S.at_) = true := by
  obtain ⟨h1, h2, h3⟩ := recAt_iff.1 h
  have hp := recAt_parts h
  rw [frameAt_in ⟨hf, h1⟩]
  have := hp.2.2.2 0 (by omega)
  rw [show S.at_ + ((0 : Nat) : Int) = S.at_ by simp] at this
  refine ⟨this, ?_⟩
  unfold Sc.next
  rw [decide_eq_true_eq]
  exact ⟨h2.1, h2.2.1, h2.2.2.1⟩
theorem may_each {S : Sc} {D : Dv} (h : S.may D = true) (hf : S.from_ ≤ S.at_) (k : Nat) (hk : (k : Int) < (D.frameAt S.from_ S.till S.at_).parts) : (D.frameAt S.from_ S.till (S.at_ + k)).right = true := by
  obtain ⟨h1, h2, h3⟩ := recAt_iff.1 h
  have hp := recAt_parts h
  rw [frameAt_in ⟨hf, h1⟩] at hk
  have hk' : (k : Int) < D.parts S.at_ := hk
  rw [frameAt_in ⟨by omega, by omega⟩]
  exact hp.2.2.2 k hk'
theorem right_in {D : Dv} {a b i : Int} (h : (D.frameAt a b i).right = true) : a ≤ i ∧ i < b ∧ D.frameAt a b i = decF (D.sector i) := by
  by_cases hh : a ≤ i ∧ i < b
  · exact ⟨hh.1, hh.2, frameAt_in hh⟩
  · rw [frameAt_out hh] at h; cases h
/-- whether the record is taken, where all its frames are there -/
theorem may_join {S : Sc} {D : Dv} {n : Nat} (h1 : (D.frameAt S.from_ S.till S.at_).right = true) (h2 : S.next (D.frameAt S.from_ S.till S.at_) = true) (hn : (D.frameAt S.from_ S.till S.at_).parts = n)
    (h3 : ∀ k : Nat, k < n → (D.frameAt S.from_ S.till (S.at_ + k)).right = true) : S.may D = joinsB (D.frs S.at_ n) ∧ D.parts S.at_ = n ∧ D.recd S.at_ = joined (D.frs S.at_ n) ∧ D.lifeAt S.at_ = (D.frameAt S.from_ S.till S.at_).life ∧ S.at_ + n ≤ S.till := by
  obtain ⟨q1, q2, q3⟩ := right_in h1
  have hp := right_parts h1
  have hl := right_in (h3 (n - 1) (by omega))
  have hnx := of_decide_eq_true h2
  rw [q3] at hnx hn
  have hpp : D.parts S.at_ = n := hn
  refine ⟨?_, hpp, ?_, by rw [q3]; rfl, by omega⟩
  · unfold Sc.may Dv.recAt
    rw [decide_eq_true q2, decide_eq_true ⟨hnx.1, hnx.2.1, hnx.2.2, by rw [hn]; omega⟩, hn, Int.toNat_natCast]
    rfl
  · unfold Dv.recd
    rw [hpp, Int.toNat_natCast]
theorem small_decF (b : List UInt8) : 0 ≤ (decF b).parts ∧ (decF b).parts ≤ 255 ∧ (decF b).data.length ≤ 80 := by
  by_cases hr : (decF b).right = true
  · have := right_parts hr; omega
  · rw [decF_wrong hr]; exact ⟨by decide, by decide, by decide⟩
theorem small_frs (D : Dv) (a : Int) (n : Nat) : Small (D.frs a n) := fun f hf => by
  unfold Dv.frs at hf
  obtain ⟨i, _, rfl⟩ := List.mem_map.1 hf
  exact small_decF _
theorem may_false {S : Sc} {D : Dv} (h : ¬ S.may D = true) : S.may D = false := by simpa using h
theorem took_no {S : Sc} {D : Dv} (h : S.may D = false) : S.took D = S := if_neg (by rw [h]; exact fun x => by cases x)
theorem took_yes {S : Sc} {D : Dv} (h : S.may D = true) : S.took D = { S with all := S.all ++ [D.recd S.at_], at_ := S.at_ + D.parts S.at_, last := D.lifeAt S.at_ } := if_pos h
def RetTake (r : Bool) (S' : Sc) (s p : Value) (FS : Nat → Prop) (w : World) (en : Ending) (w' : World) : Prop :=
  ∃ FS', en = .returned (.bool r) ∧ Keep FS w w' ∧ IsSc w' s p FS' S' ∧ Grow FS FS' w w'
set_option maxHeartbeats 12800000 in
set_option maxRecDepth 100000 in
theorem cTake (w : World) (s p : Value) (FD FS : Nat → Prop) (D : Dv) (S : Sc) (hD : IsDv w p FD D) (hS : IsSc w s p FS S) (hl : S.till ≤ D.C.length) :
    Calls Try.prog 106 #[s] w (RetTake (S.may D) (S.took D) s p FS w) := by
  have hok := hS.ok
  have HS0 := hid hS
  have hfr := fun (w' : World) (i : Int) (Z : Same w w') => cFrame w' p FD D S.from_ S.till i (hD.same Z) ⟨hok.fit.1, hl⟩
  unfold spanV at hfr
  have HFr := hid hfr
  have HNx := hid (fun (w' : World) (x : Value) (f : Fr) (Z : Same w w') (hx : FrV w' x f) => cNext w' s p x FS S f (hS.same Z) hx)
  have HJn := hid fJoin
  obtain ⟨pb, rfl⟩ := hD.ptr
  obtain ⟨b, v, rfl, hB, hF, hQ, _⟩ := hS
  obtain ⟨av, cv, rfl, f1, f2⟩ := hQ.rows.form
  have HB := hid hB
  have HQ := hid hQ
  have HF := hid hF
  have Hok := hid hok
  have HNo : Hid (S.may D = false → ∀ w', Same w w' → RetTake (S.may D) (S.took D) (.pointer (some ⟨b, 0, none⟩)) (.pointer (some ⟨pb, 0, none⟩)) FS w (.returned (.bool false)) w') := fun h w' Z => by
    rw [took_no h, h]
    exact ⟨FS, rfl, Z.keep _, HS0.out.same Z, Grow.refl _ _ _⟩
  have HM1 := hid (fun h => may_first (S := S) (D := D) h hok.fit.2.1)
  have HM2 := hid (fun h => may_each (S := S) (D := D) h hok.fit.2.1)
  have HM3 := hid (fun n => @may_join S D n)
  have hfit := hok.fit
  obtain ⟨c0, c1, c2, c3, c4, c5, c6, c7, c8⟩ := Box9.cells HB.out
  clear hD hfr hB hF hQ hok hl f1
  generalize hf1 : D.frameAt S.from_ S.till S.at_ = f1 at *
  have HF1 := hid (fun (w' : World) (Z : Same w w') => hf1 ▸ HFr.out w' S.at_ Z)
  clear hf1
  go_enter Try.func106, Try.ntmps106
  go_upto_region 1 with fail
  go_cut [3, 4] (fun x3 x4 w2 => ∃ fb a1 q1, x3 = .pointer (some ⟨fb, 0, none⟩) ∧ x4 = .bool f1.right ∧ Same w w2 ∧ Box6 w2 fb (.int .i64 f1.life) (.int .i64 f1.era) (.int .i64 f1.seq) (.int .i64 f1.part) (.int .i64 f1.parts) (.slice a1 f1.data.length q1) ∧ Bytes w2 5 (.slice a1 f1.data.length q1) f1.data)
  case first =>
    have hb1 : b < w.heap.size := HB.out.lt
    have hb2 : b ≠ w.heap.size := by omega
    have BZ0 := hid (Box6.new w (.int .i64 0) (.int .i64 0) (.int .i64 0) (.int .i64 0) (.int .i64 0) (.slice none 0 0))
    have HFa := hid (HF1.out w.drew (Same.refl w).drew)
    have HFb := hid (HF1.out _ ((Same.refl w).alloc (.cells #[.int .i64 0, .int .i64 0, .int .i64 0, .int .i64 0, .int .i64 0, .slice none 0 0] 60)).drew)
    go_region_held3 (fun w' => w'.cell? ⟨b, 0, none⟩ = some (.pointer (some ⟨pb, 0, none⟩)) ∧ w'.cell? ⟨b, 1, none⟩ = some (.int .i64 S.from_) ∧ w'.cell? ⟨b, 2, none⟩ = some (.int .i64 S.till) ∧ w'.cell? ⟨b, 6, none⟩ = some (.int .i64 S.at_))
      (first | with_reducible exact ⟨by assumption, by assumption, by assumption, by assumption⟩ | with_reducible exact ⟨by (rw [far6 _ _ _ _ _ _ _ _ _ _ hb2]; assumption), by (rw [far6 _ _ _ _ _ _ _ _ _ _ hb2]; assumption), by (rw [far6 _ _ _ _ _ _ _ _ _ _ hb2]; assumption), by (rw [far6 _ _ _ _ _ _ _ _ _ _ hb2]; assumption)⟩ | go_keep)
      (first
        | (go_at_call 109; (with_reducible refine HFa.out.mono ?_); rintro en w1 ⟨x1, rfl, ⟨u1, rfl, O1⟩, Z1⟩; obtain ⟨a1, q1, rfl, _, _⟩ := O1.bytes.form; obtain ⟨m0, m1, m2, m3, m4, m5, m6, m7, m8⟩ := Box9.cells (HB.out.same ((Same.refl w).drew.trans Z1)); unfold Fr.agg)
        | (go_at_call 109; (with_reducible refine HFb.out.mono ?_); rintro en w1 ⟨x1, rfl, ⟨u1, rfl, O1⟩, Z1⟩; obtain ⟨a1, q1, rfl, _, _⟩ := O1.bytes.form; obtain ⟨m0, m1, m2, m3, m4, m5, m6, m7, m8⟩ := Box9.cells (HB.out.same (((Same.refl w).alloc _).drew.trans Z1)); have hb3 : b ≠ w1.heap.size := by { have := Box9.lt (HB.out.same (((Same.refl w).alloc _).drew.trans Z1)); omega }; have BZ := BZ0.out.same ((Same.refl _).drew.trans Z1); obtain ⟨n0, n1, n2, n3, n4, n5⟩ := BZ.cells; have z0 := BZ.free 0; have z1 := BZ.free 1; have z2 := BZ.free 2; have z3 := BZ.free 3; have z4 := BZ.free 4; have z5 := BZ.free 5; unfold Fr.agg))
    · go_wp2_with fail
      go_meet
      case rel => exact ⟨_, _, _, rfl, rfl, (((Same.refl w).drew.trans Z1).alloc _), Box6.new _ _ _ _ _ _ _, (O1.bytes.same ((Same.refl w1).alloc _))⟩
    · go_wp2_with fail
      go_meet
      case rel =>
        obtain ⟨K6, B6⟩ := BZ.set (.int .i64 f1.life) (.int .i64 f1.era) (.int .i64 f1.seq) (.int .i64 f1.part) (.int .i64 f1.parts) (.slice a1 f1.data.length q1)
        exact ⟨_, _, _, rfl, rfl, (((Same.refl w).alloc _).drew.trans Z1).box K6 (Nat.le_refl _), B6, (O1.keep K6 (fun k hk e => by have := (O1.lt k hk).1; simp at this; omega)).bytes⟩
  case rest =>
    obtain ⟨fb, a1, q1, rfl, rfl, Z2, BX, BY⟩ := hcut
    have Z2 := hid Z2
    have BX := hid BX
    have BY := hid BY
    clear c0 c1 c2 c3 c4 c5 c6 c7 c8 HF1
    have HNo2 : Hid (S.may D = false → ∀ w', Same wc w' → RetTake (S.may D) (S.took D) (.pointer (some ⟨b, 0, none⟩)) (.pointer (some ⟨pb, 0, none⟩)) FS w (.returned (.bool false)) w') := fun h w' Z => HNo.out h w' (Z2.out.trans Z)
    obtain ⟨y0, y1, y2, y3, y4, y5⟩ := BX.out.cells
    cases hr : f1.right
    · have hz := hid (may_false (fun h => by have := (HM1.out h).1; rw [hr] at this; cases this))
      go_wp2_with fail
      go_ret
      exact HNo2.out hz.out _ (Same.refl _)
    have FV : FrV wc (.agg #[.int .i64 f1.life, .int .i64 f1.era, .int .i64 f1.seq, .int .i64 f1.part, .int .i64 f1.parts, .slice a1 f1.data.length q1]) f1 := ⟨_, 5, rfl, BY.out⟩
    have HNk := hid (HNx.out wc _ f1 Z2.out FV)
    have Hr1 := hid hr
    have hp := right_parts hr
    clear FV hr
    go_wp2_with fail
    refine HNk.out.mono ?_
    rintro en w3 ⟨rfl, Z3⟩
    have Z3 := hid Z3
    clear y0 y1 y2 y3 y4 y5
    obtain ⟨y0, y1, y2, y3, y4, y5⟩ := (BX.out.same Z3.out).cells
    cases hn : S.next f1
    · have hz := hid (may_false (fun h => by have := (HM1.out h).2; rw [hn] at this; cases this))
      go_wp2_with fail
      go_ret
      exact HNo2.out hz.out _ Z3.out
    have Hn1 := hid hn
    clear hn
    obtain ⟨n, hnp⟩ : ∃ n : Nat, f1.parts = n := ⟨f1.parts.toNat, by omega⟩
    have Hnp := hid hnp
    rw [hnp] at y4
    have hn255 : 1 ≤ n ∧ n ≤ 255 := by omega
    clear hnp hp
    go_wp2_with fail
    go_loopg [5, 32] n (fun gk l i wr => ∃ k : Nat, k + gk = n ∧ i = .int .i64 k ∧ OwnF wr w3.heap.size l (D.frs S.at_ k) ∧ Same w3 wr ∧ ∀ j : Nat, j < k → (D.frameAt S.from_ S.till (S.at_ + j)).right = true)
    case atStart => exact ⟨0, by omega, rfl, OwnF.nil _ _, Same.refl _, fun j hj => absurd hj (Nat.not_lt_zero j)⟩
    case round =>
      obtain ⟨k, hk, rfl, hO, Z4, hall⟩ := hrel
      have Z4 := hid Z4
      have Hall := hid hall
      have hfl : (D.frs S.at_ k).length = k := D.frs_length S.at_ k
      obtain ⟨al, cl, rfl, _, _⟩ := hO.frs.form
      rw [hfl] at hO ⊢
      have HO := hid hO
      have HFl := hid hfl
      have ZW := hid ((Z2.out.trans Z3.out).trans Z4.out)
      clear hO hall hfl
      clear y0 y1 y2 y3 y4 y5
      by_cases hlt : k < n
      · have hw : IntKind.i64.wrap (S.at_ + k) = S.at_ + k := by rw [IntKind.wrap_i64]; omega
        have HEk := hid (fun h => HM2.out h k (by rw [Hnp.out]; omega))
        have HIn := hid (@right_in D S.from_ S.till (S.at_ + k))
        have HSuc := hid (D.frs_succ S.at_ k)
        have HAk : Hid ((D.frameAt S.from_ S.till (S.at_ + k)).right = true → ∀ j : Nat, j < k + 1 → (D.frameAt S.from_ S.till (S.at_ + j)).right = true) := fun h j hj => by
          rcases Nat.lt_or_ge j k with hj' | hj'
          · exact Hall.out j hj'
          · obtain rfl : j = k := by omega
            exact h
        have HFk := hid (fun (w' : World) (Z : Same w w') => HFr.out w' (S.at_ + k) Z)
        generalize D.frameAt S.from_ S.till (S.at_ + k) = f2 at *
        obtain ⟨c0, c1, c2, c3, c4, c5, c6, c7, c8⟩ := Box9.cells (HB.out.same ZW.out)
        go_upto_region 8 with fail
        go_cut [7, 8] (fun x3 x4 w2 => ∃ fb a1 q1, x3 = .pointer (some ⟨fb, 0, none⟩) ∧ x4 = .bool f2.right ∧ Same wr w2 ∧ Box6 w2 fb (.int .i64 f2.life) (.int .i64 f2.era) (.int .i64 f2.seq) (.int .i64 f2.part) (.int .i64 f2.parts) (.slice a1 f2.data.length q1) ∧ Bytes w2 5 (.slice a1 f2.data.length q1) f2.data)
        case first =>
          have hb1 : b < wr.heap.size := Box9.lt (HB.out.same ZW.out)
          have hb2 : b ≠ wr.heap.size := by omega
          have BZ0 := hid (Box6.new wr (.int .i64 0) (.int .i64 0) (.int .i64 0) (.int .i64 0) (.int .i64 0) (.slice none 0 0))
          have HFa := hid (HFk.out wr.drew ZW.out.drew)
          have HFb := hid (HFk.out _ (ZW.out.alloc (.cells #[.int .i64 0, .int .i64 0, .int .i64 0, .int .i64 0, .int .i64 0, .slice none 0 0] 60)).drew)
          go_region_held3 (fun w' => w'.cell? ⟨b, 0, none⟩ = some (.pointer (some ⟨pb, 0, none⟩)) ∧ w'.cell? ⟨b, 1, none⟩ = some (.int .i64 S.from_) ∧ w'.cell? ⟨b, 2, none⟩ = some (.int .i64 S.till) ∧ w'.cell? ⟨b, 6, none⟩ = some (.int .i64 S.at_))
            (first | with_reducible exact ⟨by assumption, by assumption, by assumption, by assumption⟩ | with_reducible exact ⟨by (rw [far6 _ _ _ _ _ _ _ _ _ _ hb2]; assumption), by (rw [far6 _ _ _ _ _ _ _ _ _ _ hb2]; assumption), by (rw [far6 _ _ _ _ _ _ _ _ _ _ hb2]; assumption), by (rw [far6 _ _ _ _ _ _ _ _ _ _ hb2]; assumption)⟩ | go_keep)
            (first
              | (go_at_call 109; (with_reducible refine HFa.out.mono ?_); rintro en w1 ⟨x1, rfl, ⟨u1, rfl, O1⟩, Z1⟩; obtain ⟨a1, q1, rfl, _, _⟩ := O1.bytes.form; obtain ⟨m0, m1, m2, m3, m4, m5, m6, m7, m8⟩ := Box9.cells (HB.out.same (ZW.out.drew.trans Z1)); unfold Fr.agg)
              | (go_at_call 109; (with_reducible refine HFb.out.mono ?_); rintro en w1 ⟨x1, rfl, ⟨u1, rfl, O1⟩, Z1⟩; obtain ⟨a1, q1, rfl, _, _⟩ := O1.bytes.form; obtain ⟨m0, m1, m2, m3, m4, m5, m6, m7, m8⟩ := Box9.cells (HB.out.same ((ZW.out.alloc _).drew.trans Z1)); have BZ := BZ0.out.same ((Same.refl _).drew.trans Z1); obtain ⟨n0, n1, n2, n3, n4, n5⟩ := BZ.cells; have z0 := BZ.free 0; have z1 := BZ.free 1; have z2 := BZ.free 2; have z3 := BZ.free 3; have z4 := BZ.free 4; have z5 := BZ.free 5; unfold Fr.agg))
          · go_wp2_with fail
            go_meet
            case rel => exact ⟨_, _, _, rfl, rfl, (((Same.refl wr).drew.trans Z1).alloc _), Box6.new _ _ _ _ _ _ _, (O1.bytes.same ((Same.refl w1).alloc _))⟩
          · go_wp2_with fail
            go_meet
            case rel =>
              obtain ⟨K6, B6⟩ := BZ.set (.int .i64 f2.life) (.int .i64 f2.era) (.int .i64 f2.seq) (.int .i64 f2.part) (.int .i64 f2.parts) (.slice a1 f2.data.length q1)
              exact ⟨_, _, _, rfl, rfl, (((Same.refl wr).alloc _).drew.trans Z1).box K6 (Nat.le_refl _), B6, (O1.keep K6 (fun k hk e => by have := (O1.lt k hk).1; simp at this; omega)).bytes⟩
        case rest =>
          obtain ⟨fb2, a2, q2, rfl, rfl, Z5, BX2, BY2⟩ := hcut
          clear c0 c1 c2 c3 c4 c5 c6 c7 c8
          obtain ⟨y0, y1, y2, y3, y4, y5⟩ := BX2.cells
          cases hr : f2.right
          · have hz := hid (may_false (fun h => by have := HEk.out h; rw [hr] at this; cases this))
            go_wp2_with fail
            go_ret
            exact HNo.out hz.out _ (ZW.out.trans Z5)
          · have hin := (HIn.out hr).2.2
            have HAk' := hid (HAk.out hr)
            rw [← hin] at HSuc
            have HX := hid (one_frame wc f2 (.slice a2 f2.data.length q2))
            have HY := hid (BY2.same ((Same.refl wc).alloc (.cells #[.int .i64 f2.life, .int .i64 f2.era, .int .i64 f2.seq, .int .i64 f2.part, .int .i64 f2.parts, .slice a2 f2.data.length q2] 60)))
            have HZ := hid (HO.out.same (Z5.alloc (.cells #[.int .i64 f2.life, .int .i64 f2.era, .int .i64 f2.seq, .int .i64 f2.part, .int .i64 f2.parts, .slice a2 f2.data.length q2] 60)))
            have Z5' := hid (Z5.alloc (.cells #[.int .i64 f2.life, .int .i64 f2.era, .int .i64 f2.seq, .int .i64 f2.part, .int .i64 f2.parts, .slice a2 f2.data.length q2] 60))
            have hsz : Hid (w3.heap.size ≤ (wc.alloc (.cells #[.int .i64 f2.life, .int .i64 f2.era, .int .i64 f2.seq, .int .i64 f2.part, .int .i64 f2.parts, .slice a2 f2.data.length q2] 60)).heap.size) := (Z4.out.trans Z5'.out).size
            have HFlk := hid (show (D.frs S.at_ k).length ≤ 1000000 by rw [HFl.out]; omega)
            clear hr hin BX2 BY2 Z5
            go_wp2_with (at_builtin; refine wpList_append_frame rfl (.tmp 51) (.tmp 53) 77 tyFrames rfl HZ.out HX.out HY.out rfl rfl HFlk.out hsz.out ?_; intro x5 w5 ho5 K5)
            go_roundg (gk - 1)
            case measure => omega
            case rel => exact ⟨k + 1, by omega, by go_num, by rw [HSuc.out]; exact ho5, (Z4.out.trans Z5'.out).keepOwn K5 (fun j hj => (HZ.out.lt j hj).1), HAk'.out⟩
      · obtain rfl : k = n := by omega
        obtain ⟨hm1, hm2, hm3, hm4, hm5⟩ := HM3.out k Hr1.out Hn1.out Hnp.out Hall.out
        have HM := hid (And.intro hm1 (And.intro hm2 (And.intro hm3 (And.intro hm4 hm5))))
        have HJk := hid (HJn.out wr 60 _ _ HO.out.frs (small_frs D S.at_ k) (by rw [HFl.out]; omega))
        have hlj : (joinOf (D.frs S.at_ k)).length ≤ 30000 := by
          unfold joinOf
          split
          · have := joined_length (D.frs S.at_ k) (fun f hf => (small_frs D S.at_ k f hf).2.2)
            rw [HFl.out] at this
            omega
          · simp
        have HLj := hid hlj
        clear hm1 hm2 hm3 hm4 hm5 hlj hlt
        generalize D.frs S.at_ k = L at *
        go_wp2_with fail
        refine HJk.out.mono ?_
        rintro en w7 ⟨v7, rfl, O7, Z7⟩
        have ZW7 := hid (ZW.out.trans Z7)
        have BX7 := hid (BX.out.same ((Z3.out.trans Z4.out).trans Z7))
        have hjo : joinsB L = true → joinOf L = joined L := fun h => by unfold joinOf; rw [if_pos h]
        have HJo := hid hjo
        clear hjo
        generalize joinOf L = rec at *
        cases hj : joinsB L
        · have hz : Hid (S.may D = false) := HM.out.1.trans hj
          go_wp2_with fail
          go_ret
          exact HNo.out hz.out _ ZW7.out
        have hmay : Hid (S.may D = true) := HM.out.1.trans hj
        have hrec : Hid (D.recd S.at_ = rec) := HM.out.2.2.1.trans (HJo.out hj).symm
        obtain ⟨a7, q7, rfl, _, _⟩ := O7.bytes.form
        have O7 := hid O7
        have hfew := Hok.out.few
        have hall2 : S.all.length ≤ 2048 := by omega
        clear hj hfew
        have hw : IntKind.i64.wrap (S.at_ + k) = S.at_ + k := by rw [IntKind.wrap_i64]; have := HM.out.2.2.2.2; omega
        go_upto_region 16 with fail
        go_cut [] (fun w9 => ∃ FS', Keep FS w w9 ∧ IsSc w9 (.pointer (some ⟨b, 0, none⟩)) (.pointer (some ⟨pb, 0, none⟩)) FS' (S.took D) ∧ Grow FS FS' w w9)
        case first =>
          obtain ⟨F0, hF0⟩ : ∃ F0 : Nat → Prop, F0 = fun k => FS k ∨ (w.heap.size ≤ k ∧ k < w7.heap.size) := ⟨_, rfl⟩
          have HF0 := hid hF0
          clear hF0
          have B7 := hid (HB.out.same ZW7.out)
          obtain ⟨c0, c1, c2, c3, c4, c5, c6, c7, c8⟩ := Box9.cells B7.out
          have e0 := BX7.out.cells.1
          have hfb : fb ≠ b := by
            intro e
            have h1 := BX7.out
            have h2 := B7.out
            unfold Box6 at h1
            unfold scBox Box9 at h2
            rw [e, h2] at h1
            simp at h1
          have hfb' : ¬ b = fb := fun e => hfb e.symm
          have W8 : Same w7 (w7.alloc (.cells #[.slice a7 rec.length q7] 23)).drew := ((Same.refl w7).alloc _).drew
          have W8 := hid W8
          have Y := hid (show Sl (w7.alloc (.cells #[.slice a7 rec.length q7] 23)).drew 23 1 (.slice (some ⟨w7.heap.size, 0, none⟩) 1 1) 1 [.slice a7 rec.length q7] from Sl.made 23 1 w7.heap.size 1 1 _ _ (heap_alloc_new w7 _) (Nat.le_refl _) (by decide) rfl ⟨[], rfl⟩)
          have UB := hid (O7.out.bytes.same W8.out)
          have QX := hid ((HQ.out.same (ZW7.out.trans W8.out)).foot (F' := F0) (fun i hi => by rw [HF0.out]; exact .inl hi))
          have UF : Hid (∀ g, homeOf (.slice a7 rec.length q7) = some g → F0 g) := fun g hg => by
            rw [HF0.out]
            have h1 := (O7.out.lt g (home_own hg))
            have h2 := ZW.out.size
            exact .inr ⟨by omega, h1.2⟩
          have B8 := hid (B7.out.same W8.out)
          have E8 := hid (BX7.out.same W8.out)
          have hlq : Hid (S.all.length ≤ 1000000) := show _ ≤ _ by omega
          obtain ⟨SS, hSS⟩ : ∃ SS : Bool → World → Prop, ∀ bz wz, SS bz wz ↔ ((bz = false → wz.cell? ⟨b, 7, none⟩ = some (.slice av S.all.length cv) ∧ wz.cell? ⟨b, 6, none⟩ = some (.int .i64 S.at_)) ∧ wz.cell? ⟨fb, 0, none⟩ = some (.int .i64 f1.life)) := ⟨_, fun _ _ => Iff.rfl⟩
          have HSS := hid hSS
          clear hSS c0 c1 c2 c3 c4 c5 c8
          refine wp_region_B 21 SS (by kernel_rfl) ((HSS.out _ _).2 ⟨fun _ => ⟨c7, c6⟩, e0⟩) (fun hHeld => ?_)
          clear c6 c7 e0
          refine' wpAnyB_take (i := 0) (b := false) rfl (by kernel_rfl) (by kernel_rfl) (by kernel_rfl) (by decide) (by kernel_rfl) (fun _ _ _ h => h) (by assumption) (.inl ⟨by rfl, ?_⟩) ?_
          rotate_left
          · (intro wz hSw; go_simp; try with_reducible rfl)
          try simp only [Act.put, List.setIfInBounds_toArray, List.set_cons_zero, List.set_cons_succ]
          refine' wpAnyB_take (i := 1) (b := false) rfl (by kernel_rfl) (by kernel_rfl) (by kernel_rfl) (by decide) (by kernel_rfl) (fun _ _ _ h => h) (by assumption) (.inl ⟨by rfl, ?_⟩) ?_
          rotate_left
          · (intro wz hSw; go_simp; try with_reducible rfl)
          try simp only [Act.put, List.setIfInBounds_toArray, List.set_cons_zero, List.set_cons_succ]
          refine' wpAnyB_take (i := 2) (b := false) rfl (by kernel_rfl) (by kernel_rfl) (by kernel_rfl) (by decide) (by kernel_rfl) (fun _ _ _ h => h) (by assumption) (.inl ⟨by rfl, ?_⟩) ?_
          rotate_left
          · (intro wz hSw; go_simp; try with_reducible rfl)
          try simp only [Act.put, List.setIfInBounds_toArray, List.set_cons_zero, List.set_cons_succ]
          refine' wpAnyB_take (i := 3) (b := false) rfl (by kernel_rfl) (by kernel_rfl) (by kernel_rfl) (by decide) (by kernel_rfl) (fun _ _ _ h => h) (by assumption) (.inl ⟨by rfl, ?_⟩) ?_
          rotate_left
          · (intro wz hSw; go_simp; try with_reducible rfl)
          try simp only [Act.put, List.setIfInBounds_toArray, List.set_cons_zero, List.set_cons_succ]
          refine' wpAnyB_take (i := 4) (b := false) rfl (by kernel_rfl) (by kernel_rfl) (by kernel_rfl) (by decide) (by kernel_rfl) (fun _ _ _ h => h) (by assumption) (.inl ⟨by rfl, ?_⟩) ?_
          rotate_left
          · (intro wz hSw; go_simp; try with_reducible rfl)
          try simp only [Act.put, List.setIfInBounds_toArray, List.set_cons_zero, List.set_cons_succ]
          refine' wpAnyB_take (i := 5) (b := false) rfl (by kernel_rfl) (by kernel_rfl) (by kernel_rfl) (by decide) (by kernel_rfl) (fun _ _ _ h => h) (by assumption) (.inl ⟨by rfl, ?_⟩) ?_
          rotate_left
          · (intro wz hSw; go_simp; try with_reducible rfl)
          try simp only [Act.put, List.setIfInBounds_toArray, List.set_cons_zero, List.set_cons_succ]
          refine' wpAnyB_early (i := 6) rfl (by kernel_rfl) (by kernel_rfl) (by kernel_rfl) (by decide) (by kernel_rfl) (by kernel_rfl) (fun _ _ _ h => h) (by assumption) (.inl ⟨by rfl, ?_⟩) ?_
          rotate_left
          · (intro wz hSw; obtain ⟨h7, h6⟩ := ((HSS.out _ _).1 hSw).1 rfl; go_simp; try with_reducible rfl)
          try simp only [Act.put, List.setIfInBounds_toArray, List.set_cons_zero, List.set_cons_succ]
          refine' wpAnyB_take (i := 7) (b := false) rfl (by kernel_rfl) (by kernel_rfl) (by kernel_rfl) (by decide) (by kernel_rfl) (fun _ _ _ h => h) (by assumption) (.inl ⟨by rfl, ?_⟩) ?_
          rotate_left
          · (intro wz hSw; go_simp; try with_reducible rfl)
          try simp only [Act.put, List.setIfInBounds_toArray, List.set_cons_zero, List.set_cons_succ]
          refine' wpAnyB_take (i := 10) (b := false) rfl (by kernel_rfl) (by kernel_rfl) (by kernel_rfl) (by decide) (by kernel_rfl) (fun _ _ _ h => h) (by assumption) (.inl ⟨by rfl, ?_⟩) ?_
          rotate_left
          · (intro wz hSw; go_simp; try with_reducible rfl)
          try simp only [Act.put, List.setIfInBounds_toArray, List.set_cons_zero, List.set_cons_succ]
          refine' wpAnyB_take (i := 11) (b := false) rfl (by kernel_rfl) (by kernel_rfl) (by kernel_rfl) (by decide) (by kernel_rfl) (fun _ _ _ h => h) (by assumption) (.inl ⟨by rfl, ?_⟩) ?_
          rotate_left
          · (intro wz hSw; go_simp; try with_reducible rfl)
          try simp only [Act.put, List.setIfInBounds_toArray, List.set_cons_zero, List.set_cons_succ]
          refine' wpAnyB_take (i := 12) (b := false) rfl (by kernel_rfl) (by kernel_rfl) (by kernel_rfl) (by decide) (by kernel_rfl) (fun _ _ _ h => h) (by assumption) (.inl ⟨by rfl, ?_⟩) ?_
          rotate_left
          · (intro wz hSw; go_simp; try with_reducible rfl)
          try simp only [Act.put, List.setIfInBounds_toArray, List.set_cons_zero, List.set_cons_succ]
          refine' wpAnyB_early (i := 13) rfl (by kernel_rfl) (by kernel_rfl) (by kernel_rfl) (by decide) (by kernel_rfl) (by kernel_rfl) (fun _ _ _ h => h) (by assumption) (.inl ⟨by rfl, ?_⟩) ?_
          rotate_left
          · (intro wz hSw; obtain ⟨h7, h6⟩ := ((HSS.out _ _).1 hSw).1 rfl; go_simp; try with_reducible rfl)
          try simp only [Act.put, List.setIfInBounds_toArray, List.set_cons_zero, List.set_cons_succ]
          refine' wpAnyB_take (i := 14) (b := false) rfl (by kernel_rfl) (by kernel_rfl) (by kernel_rfl) (by decide) (by kernel_rfl) (fun _ _ _ h => h) (by assumption) (.inl ⟨by rfl, ?_⟩) ?_
          rotate_left
          · (intro wz hSw; go_simp; try with_reducible rfl)
          try simp only [Act.put, List.setIfInBounds_toArray, List.set_cons_zero, List.set_cons_succ]
          refine' wpAnyB_take (i := 15) (b := false) rfl (by kernel_rfl) (by kernel_rfl) (by kernel_rfl) (by decide) (by kernel_rfl) (fun _ _ _ h => h) (by assumption) (.inl ⟨by rfl, ?_⟩) ?_
          rotate_left
          · (intro wz hSw; go_simp; try with_reducible rfl)
          try simp only [Act.put, List.setIfInBounds_toArray, List.set_cons_zero, List.set_cons_succ]
          refine' wpAnyB_take (i := 16) (b := false) rfl (by kernel_rfl) (by kernel_rfl) (by kernel_rfl) (by decide) (by kernel_rfl) (fun _ _ _ h => h) (by assumption) (.inl ⟨by rfl, ?_⟩) ?_
          rotate_left
          · (intro wz hSw; go_simp; try with_reducible rfl)
          try simp only [Act.put, List.setIfInBounds_toArray, List.set_cons_zero, List.set_cons_succ]
          refine' wpAnyB_take (i := 17) (b := false) rfl (by kernel_rfl) (by kernel_rfl) (by kernel_rfl) (by decide) (by kernel_rfl) (fun _ _ _ h => h) (by assumption) (.inl ⟨by rfl, ?_⟩) ?_
          rotate_left
          · (intro wz hSw; go_simp; try with_reducible rfl)
          try simp only [Act.put, List.setIfInBounds_toArray, List.set_cons_zero, List.set_cons_succ]
          refine' wpAnyB_take (i := 18) (b := false) rfl (by kernel_rfl) (by kernel_rfl) (by kernel_rfl) (by decide) (by kernel_rfl) (fun _ _ _ h => h) (by assumption) (.inl ⟨by rfl, ?_⟩) ?_
          rotate_left
          · (intro wz hSw; obtain ⟨bz, hbz⟩ := hSw; have h0 := ((HSS.out _ _).1 hbz).2; go_simp; try with_reducible rfl)
          try simp only [Act.put, List.setIfInBounds_toArray, List.set_cons_zero, List.set_cons_succ]
          refine wpAnyB_only (i := 8) (b := false) rfl (by kernel_rfl) (by kernel_rfl) (fun K hK => ?_)
          go_simp
          refine hK.out _ _ ((HSS.out _ _).2 ⟨fun _ => ⟨(Box9.cells B8.out).2.2.2.2.2.2.2.1, (Box9.cells B8.out).2.2.2.2.2.2.1⟩, E8.out.cells.1⟩) (fun hHeld => ?_)
          clear hK K
          try simp only [Act.put, List.setIfInBounds_toArray, List.set_cons_zero, List.set_cons_succ]
          refine wpAnyB_only (i := 9) (b := false) rfl (by kernel_rfl) (by kernel_rfl) (fun K hK => ?_)
          refine step_append_q (by rfl) (.tmp 69) (.tmp 71) 36 tyRows (by rfl) QX.out Y.out UB.out UF.out (by rfl) (by rfl) hlq.out ?_
          intro x8 w8 Q8 K8
          have B9 := B8.out.keep K8 (fun e => QX.out.apart9 B8.out e)
          obtain ⟨m0, m1, m2, m3, m4, m5, m6, m7, m8⟩ := Box9.cells B9
          have z7 := B9.free 7
          have z6 := B9.free 6
          have z5 := B9.free 5
          obtain ⟨a8, q8, rfl, _, _⟩ := Q8.rows.form
          have e8 := (E8.out.keep K8 (fun e => by have := QX.out; obtain ⟨us, q1, _⟩ := this; obtain ⟨c, hc⟩ := owns_block q1 e; have h1 := E8.out; unfold Box6 at h1; rw [hc] at h1; simp at h1)).cells.1
          refine hK.out _ _ ((HSS.out _ _).2 ⟨fun _ => ⟨m7, m6⟩, e8⟩) (fun hHeld => ?_)
          clear hK K
          try simp only [Act.put, List.setIfInBounds_toArray, List.set_cons_zero, List.set_cons_succ]
          refine' wpAnyB_take (i := 19) (b := false) rfl (by kernel_rfl) (by kernel_rfl) (by kernel_rfl) (by decide) (by kernel_rfl) (fun _ _ _ h => h) (by assumption) (.inl ⟨by rfl, ?_⟩) ?_
          rotate_left
          · (intro wz hSw; go_simp; try with_reducible rfl)
          try simp only [Act.put, List.setIfInBounds_toArray, List.set_cons_zero, List.set_cons_succ]
          refine' wpAnyB_take (i := 20) (b := false) rfl (by kernel_rfl) (by kernel_rfl) (by kernel_rfl) (by decide) (by kernel_rfl) (fun _ _ _ h => h) (by assumption) (.inl ⟨by rfl, ?_⟩) ?_
          rotate_left
          · (intro wz hSw; go_simp; try with_reducible rfl)
          try simp only [Act.put, List.setIfInBounds_toArray, List.set_cons_zero, List.set_cons_succ]
          refine wpAnyB_only (i := 21) (b := true) rfl (by kernel_rfl) (by kernel_rfl) (fun K hK => ?_)
          go_simp
          refine hK.out _ _ ((HSS.out _ _).2 ⟨fun h => Bool.noConfusion h, (World.cell?_setCell_far _ _ _ _ hfb').trans e8⟩) (fun hHeld => ?_)
          clear hK K
          try simp only [Act.put, List.setIfInBounds_toArray, List.set_cons_zero, List.set_cons_succ]
          refine' wpAnyB_take (i := 22) (b := true) rfl (by kernel_rfl) (by kernel_rfl) (by kernel_rfl) (by decide) (by kernel_rfl) (fun _ _ _ h => h) (by assumption) (.inl ⟨by rfl, ?_⟩) ?_
          rotate_left
          · (intro wz hSw; go_simp; try with_reducible rfl)
          try simp only [Act.put, List.setIfInBounds_toArray, List.set_cons_zero, List.set_cons_succ]
          refine' wpAnyB_take (i := 23) (b := true) rfl (by kernel_rfl) (by kernel_rfl) (by kernel_rfl) (by decide) (by kernel_rfl) (fun _ _ _ h => h) (by assumption) (.inl ⟨by rfl, ?_⟩) ?_
          rotate_left
          · (intro wz hSw; go_simp; try with_reducible rfl)
          try simp only [Act.put, List.setIfInBounds_toArray, List.set_cons_zero, List.set_cons_succ]
          refine wpAnyB_only (i := 24) (b := true) rfl (by kernel_rfl) (by kernel_rfl) (fun K hK => ?_)
          go_simp
          refine hK.out _ _ ((HSS.out _ _).2 ⟨fun h => Bool.noConfusion h, (World.cell?_setCell_far _ _ _ _ hfb').trans ((World.cell?_setCell_far _ _ _ _ hfb').trans e8)⟩) (fun hHeld => ?_)
          clear hK K
          try simp only [Act.put, List.setIfInBounds_toArray, List.set_cons_zero, List.set_cons_succ]
          refine' wpAnyB_take (i := 25) (b := true) rfl (by kernel_rfl) (by kernel_rfl) (by kernel_rfl) (by decide) (by kernel_rfl) (fun _ _ _ h => h) (by assumption) (.inl ⟨by rfl, ?_⟩) ?_
          rotate_left
          · (intro wz hSw; go_simp; try with_reducible rfl)
          try simp only [Act.put, List.setIfInBounds_toArray, List.set_cons_zero, List.set_cons_succ]
          refine' wpAnyB_take (i := 26) (b := true) rfl (by kernel_rfl) (by kernel_rfl) (by kernel_rfl) (by decide) (by kernel_rfl) (fun _ _ _ h => h) (by assumption) (.inl ⟨by rfl, ?_⟩) ?_
          rotate_left
          · (intro wz hSw; go_simp; try with_reducible rfl)
          try simp only [Act.put, List.setIfInBounds_toArray, List.set_cons_zero, List.set_cons_succ]
          refine wpAnyB_only (i := 27) (b := true) rfl (by kernel_rfl) (by kernel_rfl) (fun K hK => ?_)
          go_simp
          refine hK.out _ _ ((HSS.out _ _).2 ⟨fun h => Bool.noConfusion h, (World.cell?_setCell_far _ _ _ _ hfb').trans ((World.cell?_setCell_far _ _ _ _ hfb').trans ((World.cell?_setCell_far _ _ _ _ hfb').trans e8))⟩) (fun hHeld => ?_)
          clear hK K
          try simp only [Act.put, List.setIfInBounds_toArray, List.set_cons_zero, List.set_cons_succ]
          refine wpAnyB_done (by kernel_rfl) ?_ _
          go_wp2_with fail
          go_meet
          case rel =>
            have K9 : Keep (fun k => k = b) w8 (((w8.setCell ⟨b, 7, none⟩ (.slice a8 (S.all.length + 1) q8)).setCell ⟨b, 6, none⟩ (.int .i64 (S.at_ + k))).setCell ⟨b, 5, none⟩ (.int .i64 f1.life)) :=
              (((Keep.refl (fun k => k = b) w8).setCell (p := ⟨b, 7, none⟩) (.inl rfl) _).setCell (p := ⟨b, 6, none⟩) (.inl rfl) _).setCell (p := ⟨b, 5, none⟩) (.inl rfl) _
            have Q9 := Q8.box9 B9 K9
            obtain ⟨m1, m2, m3, m4, m5⟩ := HM.out
            have hlb := life_bound (D.sector S.at_)
            have hla : (decF (D.sector S.at_)).life = f1.life := m4
            obtain ⟨us, qo, qF, _⟩ := HQ.out
            have hz7 := ZW7.out.size
            have hz8 := W8.out.size
            have hz9 := K8.size
            have hz10 := K9.size
            have hlen : (S.all ++ [rec]).length = S.all.length + 1 := by simp
            rw [hlen] at Q9
            obtain ⟨F1, Q9, hi1, hi2⟩ : ∃ F1 : Nat → Prop, OwnQ _ F1 (.slice a8 (S.all.length + 1) q8) (S.all ++ [rec]) ∧ (∀ i, F0 i → F1 i) ∧ (∀ i, F1 i → F0 i ∨ (w7.heap.size ≤ i ∧ i < w8.heap.size)) := ⟨_, Q9, fun i h => Or.inl h, fun i h => h.imp id fun h => ⟨Nat.le_trans hz8 h.1, h.2⟩⟩
            rw [took_yes hmay.out, hrec.out, m2, m4]
            refine ⟨F1, (((ZW7.out.trans W8.out).keep FS).trans (K8.weak' fun i hi => qF i hi)).trans (K9.weak' fun i hi => by subst hi; exact HF.out), ⟨b, _, rfl, Box9.set765 B9 _ _ _, hi1 b (by rw [HF0.out]; exact .inl HF.out), Q9, ?_⟩, ?_⟩
            · obtain ⟨o1, o2, o3, o4, o5, o6⟩ := Hok.out
              refine ⟨⟨o1.1, ?_, ?_, o1.2.2.2⟩, ?_, ?_, o4, o5, ?_⟩
              · show S.from_ ≤ S.at_ + (k : Int); omega
              · show S.at_ + (k : Int) ≤ S.till; exact m5
              · show (((S.all ++ [rec]).length : Nat) : Int) ≤ S.at_ + (k : Int)
                rw [hlen]; omega
              · intro r hr
                rcases List.mem_append.1 hr with hr | hr
                · exact o3 r hr
                · simp at hr; subst hr; exact HLj.out
              · show 0 ≤ f1.life ∧ f1.life ≤ 16777215
                rw [← hla]; exact hlb
            · intro i hi
              rcases hi2 i hi with hi | hi
              · rw [HF0.out] at hi
                rcases hi with hi | hi
                · exact .inl hi
                · exact .inr ⟨hi.1, by omega⟩
              · exact .inr ⟨by omega, by omega⟩
        case rest =>
          obtain ⟨FS', K9, I9, G9⟩ := hcut
          go_wp2_with fail
          go_ret
          rw [hmay.out]
          exact ⟨FS', rfl, K9, I9, G9⟩
end Go.Proofs.Ytlhnpicmjjddeaa
namespace Go.Proofs.Ytlhnpicmjjddeaa
open Go.RowKit

theorem cUsed (w : World) (s p : Value) (F : Nat → Prop) (S : Sc) (hS : IsSc w s p F S) (hp : ∃ pb, p = .pointer (some ⟨pb, 0, none⟩)) : Calls Try.prog 66 #[s] w (RetSame (.int .i64 (S.at_ - S.from_)) w) := by
  have HOk := hid (cOk w s p F S hS hp)
  have hok := hS.ok
  obtain ⟨b, v, rfl, hB, _⟩ := hS
  have HB := hid hB
  have hfit := hok.fit
  clear hB hok hp
  go_enter Try.func66, Try.ntmps66
  go_wp2_with fail
  refine HOk.out.mono ?_
  rintro en w1 ⟨rfl, S1⟩
  have S1 := hid S1
  obtain ⟨c0, c1, c2, c3, c4, c5, c6, c7, c8⟩ := Box9.cells (HB.out.same S1.out)
  go_wp2_with fail
  go_quiet (fail)
  go_wp2_with fail
  go_ret
  exact ⟨rfl, S1.out.drewN _⟩
theorem takeSnoc (ls : List (List UInt8)) (k : Nat) (h : k < ls.length) : ls.take (k + 1) = ls.take k ++ [ls[k]] := by rw [List.take_succ_eq_append_getElem h]
set_option maxHeartbeats 1600000 in
set_option maxRecDepth 100000 in
theorem cRecords (w : World) (s p : Value) (F : Nat → Prop) (S : Sc) (hS : IsSc w s p F S) (hp : ∃ pb, p = .pointer (some ⟨pb, 0, none⟩)) : Calls Try.prog 65 #[s] w (RetRows S.all w) := by
  have HOk := hid (cOk w s p F S hS hp)
  have hok := hS.ok
  obtain ⟨b, v, rfl, hB, hF, hQ, _⟩ := hS
  obtain ⟨av, cv, rfl, f1, f2⟩ := hQ.rows.form
  have HB := hid hB
  have HR := hid hQ.rows
  have HSh := hid hok.short
  have hfew : S.all.length ≤ 2048 := by have := hok.few; have := hok.fit; omega
  have HC := hid bClone
  clear hB hok hp hF hQ f1 f2
  go_enter Try.func65, Try.ntmps65
  go_wp2_with fail
  refine HOk.out.mono ?_
  rintro en w1 ⟨rfl, S1⟩
  have S1 := hid S1
  obtain ⟨c0, c1, c2, c3, c4, c5, c6, c7, c8⟩ := Box9.cells (HB.out.same S1.out)
  generalize S.all = ls at *
  go_wp2_with fail
  go_loopw [3, 14] (fun out i wr => ∃ k : Nat, k ≤ ls.length ∧ i = .int .i64 k ∧ OwnR wr w.heap.size out (ls.take k) ∧ Same w wr) (fun _ i _ => ls.length - (intOf i).toNat)
  case atStart => exact ⟨0, Nat.zero_le _, rfl, OwnR.nil _ _, S1.out⟩
  case round =>
    obtain ⟨k, hk, rfl, hO, Z⟩ := hrel
    have HO := hid hO
    have HZ := hid Z
    clear hO Z c0 c1 c2 c3 c4 c5 c6 c7 c8
    by_cases hlt : k < ls.length
    · obtain ⟨g, o, a, c, e', rfl, hcell, hby⟩ := (HR.out.same HZ.out).row k hlt
      have HCk := hid (HC.out wr e' _ ls[k] hby (show ls[k].length ≤ 1000000 by have := HSh.out ls[k] (List.getElem_mem hlt); omega))
      have HT := hid (takeSnoc ls k hlt)
      have HL : Hid ((ls.take k).length ≤ 2048) := by show _ ≤ _; rw [List.length_take]; omega
      clear hby
      go_wp2_with fail
      refine HCk.out.mono ?_
      rintro en w2 ⟨v2, rfl, O2, Z2⟩
      have O2 := hid O2
      obtain ⟨a2, c2, rfl, _, _⟩ := O2.out.bytes.form
      have Z3 := hid (HZ.out.trans Z2)
      have HO3 := hid (HO.out.same Z2)
      have hOf : Hid (∀ g', homeOf (.slice a2 ls[k].length c2) = some g' → w.heap.size ≤ g') := fun g' hg' => Nat.le_trans HZ.out.size (O2.out.fresh g' hg')
      have hsz : Hid (w.heap.size ≤ (w2.alloc (.cells #[.slice a2 ls[k].length c2] 23)).heap.size) := (Z3.out.alloc _).size
      clear Z2 hcell
      go_wp2_with (at_builtin; refine wpList_append_rows rfl (.tmp 18) (.tmp 21) 36 tyRows rfl (HO3.out.same ((Same.refl w2).alloc _)) (one_row O2.out.bytes hOf.out).1 (one_row O2.out.bytes hOf.out).2 rfl rfl (by have := HL.out; simp only [List.length_singleton]; omega) hsz.out ?_; intro x1 w5 ho5 K6)
      go_roundw
      case rel => exact ⟨k + 1, by omega, by go_num, by rw [HT.out]; exact ho5, (Z3.out.alloc _).keepOwn K6 fun j hj => (HO3.out.lt j hj).1⟩
      case measure => simp [intOf]; omega
    · obtain rfl : k = ls.length := by omega
      have HT : Hid (ls.take ls.length = ls) := List.take_length
      go_wp2_with fail
      go_ret
      exact ⟨_, rfl, by rw [← HT.out]; exact HO.out, HZ.out⟩

def RetOpenS (D : Dv) (p : Value) (a b life era : Int) (w : World) (en : Ending) (w' : World) : Prop :=
  (D.openE a b life era = 2 ∧ en = .returned (.tuple #[.pointer none, .int .i64 2]) ∧ Same w w') ∨
  (D.openE a b life era = 0 ∧ ∃ s FS, en = .returned (.tuple #[s, .int .i64 0]) ∧ IsSc w' s p FS (D.opened a b life era) ∧ Same w w' ∧ Bnd FS w.heap.size w'.heap.size)
def Sc.new (a b life era : Int) : Sc := ⟨a, b, life, era, 0, a, [], false⟩
theorem openE_two {D : Dv} {a b life era : Int} (h : ¬ (D.within a b = true ∧ 1 ≤ life ∧ life ≤ 16777215 ∧ 0 ≤ era ∧ era ≤ 16777215 ∧ D.newest a b < life)) : D.openE a b life era = 2 := if_neg h
/-- what is taken one by one is what is read -/
def Reads (D : Dv) (a b life era : Int) (S : Sc) : Prop :=
  S.from_ = a ∧ S.till = b ∧ S.life = life ∧ S.era = era ∧ S.dead = false ∧ D.read b era a 1 0 = (S.all ++ (D.read b era S.at_ (S.all.length + 1) S.last).1, (D.read b era S.at_ (S.all.length + 1) S.last).2)
theorem Reads.new (D : Dv) (a b life era : Int) : Reads D a b life era (Sc.new a b life era) := ⟨rfl, rfl, rfl, rfl, rfl, by simp [Sc.new]⟩
theorem Reads.next {D : Dv} {a b life era : Int} {S : Sc} (h : Reads D a b life era S) (hm : S.may D = true) : Reads D a b life era (S.took D) := by
  obtain ⟨h1, h2, h3, h4, h5, h6⟩ := h
  rw [took_yes hm]
  refine ⟨h1, h2, h3, h4, h5, ?_⟩
  unfold Sc.may at hm
  rw [h2, h4] at hm
  rw [h6, read_yes hm]
  simp only [List.append_assoc, List.cons_append, List.nil_append, List.length_append, List.length_cons, List.length_nil]
  rfl
theorem Reads.done {D : Dv} {a b life era : Int} {S : Sc} (h : Reads D a b life era S) (hm : S.may D = false) : S = D.opened a b life era := by
  obtain ⟨h1, h2, h3, h4, h5, h6⟩ := h
  unfold Sc.may at hm
  rw [h2, h4] at hm
  rw [read_no hm] at h6
  unfold Dv.opened
  rw [h6]
  obtain ⟨f, t, l, e, la, at_, al, d⟩ := S
  simp only at *
  subst h1 h2 h3 h4 h5
  simp
theorem may_lt {S : Sc} {D : Dv} (h : S.may D = true) : S.at_ < S.till ∧ (S.took D).at_ = S.at_ + D.parts S.at_ ∧ (S.took D).till = S.till ∧ 1 ≤ D.parts S.at_ := by
  rw [took_yes h]
  exact ⟨(recAt_iff.1 h).1, rfl, rfl, (recAt_parts h).1⟩
set_option maxHeartbeats 6400000 in
set_option maxRecDepth 100000 in
theorem cOpen (w : World) (p : Value) (F : Nat → Prop) (D : Dv) (a b life era : Int) (hD : IsDv w p F D) (hF : ∀ k, F k → k < w.heap.size) :
    Calls Try.prog 61 #[p, .int .i64 a, .int .i64 b, .int .i64 life, .int .i64 era] w (RetOpenS D p a b life era w) := by
  have HS := hid (dSizeD w p F D hD)
  have HW := hid (fun w' (Z : Same w w') => cWithin w' p F D a b (hD.same Z))
  have HN := hid (fun w' (Z : Same w w') => cNewest w' p F D a b (hD.same Z))
  have HD := hid hD
  have HF := hid hF
  have H2 := hid (@openE_two D a b life era)
  have hn1 := hD.ok.2.1
  have hn2 := hD.ok.1
  have hwi : D.within a b = true → 0 ≤ a ∧ a ≤ b ∧ b ≤ D.C.length := fun h => of_decide_eq_true h
  have HWi := hid hwi
  have HT := hid cTake
  have hzn : ((D.C.length : Int) == 0) = false := by rw [beq_eq_false_iff_ne]; omega
  have hzn' : (D.C.length == 0) = false := by rw [beq_eq_false_iff_ne]; omega
  have hzn'' : ¬ D.C.length = 0 := by omega
  have hnb := newest_bound D a b
  obtain ⟨pb, rfl⟩ := hD.ptr
  clear hD hF hwi hn1
  by_cases g : D.within a b = true ∧ 1 ≤ life ∧ life ≤ 16777215 ∧ 0 ≤ era ∧ era ≤ 16777215 ∧ D.newest a b < life
  case neg =>
    have he := hid (H2.out g)
    have hcl : ∀ w', Same w w' → RetOpenS D (.pointer (some ⟨pb, 0, none⟩)) a b life era w (.returned (.tuple #[.pointer none, .int .i64 2])) w' := fun w' Z => .inl ⟨he.out, rfl, Z⟩
    have Hcl := hid hcl
    clear hcl HT HF HD H2
    cases hw : D.within a b
    · rw [hw] at HW
      clear g hw
      go_enter Try.func61, Try.ntmps61
      go_wp2_with fail
      refine HS.out.mono ?_
      rintro en w1 ⟨rfl, S1⟩
      have S1 := hid S1
      go_wp2_with fail
      refine (HW.out _ S1.out).mono ?_
      rintro en w2 ⟨rfl, S2⟩
      have S2 := hid (S1.out.trans S2)
      go_wp2_with fail
      go_ret2
      exact Hcl.out _ S2.out
    rw [hw] at HW
    by_cases d1 : life < 1
    · have e1 : decide (life < 1) = true := by simpa using d1
      clear g hw
      go_enter Try.func61, Try.ntmps61
      go_wp2_with fail
      refine HS.out.mono ?_
      rintro en w1 ⟨rfl, S1⟩
      have S1 := hid S1
      go_wp2_with fail
      refine (HW.out _ S1.out).mono ?_
      rintro en w2 ⟨rfl, S2⟩
      have S2 := hid (S1.out.trans S2)
      go_wp2_with fail
      go_ret2
      exact Hcl.out _ S2.out
    have e1 : decide (life < 1) = false := by simpa using d1
    by_cases d2 : 16777215 < life
    · have e2 : decide (16777215 < life) = true := by simpa using d2
      clear g hw d1
      go_enter Try.func61, Try.ntmps61
      go_wp2_with fail
      refine HS.out.mono ?_
      rintro en w1 ⟨rfl, S1⟩
      have S1 := hid S1
      go_wp2_with fail
      refine (HW.out _ S1.out).mono ?_
      rintro en w2 ⟨rfl, S2⟩
      have S2 := hid (S1.out.trans S2)
      go_wp2_with fail
      go_ret2
      exact Hcl.out _ S2.out
    have e2 : decide (16777215 < life) = false := by simpa using d2
    by_cases d3 : era < 0
    · have e3 : decide (era < 0) = true := by simpa using d3
      clear g hw d1 d2
      go_enter Try.func61, Try.ntmps61
      go_wp2_with fail
      refine HS.out.mono ?_
      rintro en w1 ⟨rfl, S1⟩
      have S1 := hid S1
      go_wp2_with fail
      refine (HW.out _ S1.out).mono ?_
      rintro en w2 ⟨rfl, S2⟩
      have S2 := hid (S1.out.trans S2)
      go_wp2_with fail
      go_ret2
      exact Hcl.out _ S2.out
    have e3 : decide (era < 0) = false := by simpa using d3
    by_cases d4 : 16777215 < era
    · have e4 : decide (16777215 < era) = true := by simpa using d4
      clear g hw d1 d2 d3
      go_enter Try.func61, Try.ntmps61
      go_wp2_with fail
      refine HS.out.mono ?_
      rintro en w1 ⟨rfl, S1⟩
      have S1 := hid S1
      go_wp2_with fail
      refine (HW.out _ S1.out).mono ?_
      rintro en w2 ⟨rfl, S2⟩
      have S2 := hid (S1.out.trans S2)
      go_wp2_with fail
      go_ret2
      exact Hcl.out _ S2.out
    have e4 : decide (16777215 < era) = false := by simpa using d4
    have e5 : decide (life ≤ D.newest a b) = true := by
      rw [decide_eq_true_eq]
      rcases Int.lt_or_le (D.newest a b) life with h | h
      · exact absurd ⟨hw, by omega, by omega, by omega, by omega, h⟩ g
      · exact h
    clear g hw d1 d2 d3 d4
    go_enter Try.func61, Try.ntmps61
    go_wp2_with fail
    refine HS.out.mono ?_
    rintro en w1 ⟨rfl, S1⟩
    have S1 := hid S1
    go_wp2_with fail
    refine (HW.out _ S1.out).mono ?_
    rintro en w2 ⟨rfl, S2⟩
    have S2 := hid (S1.out.trans S2)
    go_wp2_with fail
    refine (HN.out _ S2.out).mono ?_
    rintro en w3 ⟨rfl, S3⟩
    have S3 := hid (S2.out.trans S3)
    go_wp2_with fail
    go_ret2
    exact Hcl.out _ S3.out
  case pos =>
    have hE : Hid (D.openE a b life era = 0) := show _ = _ from if_pos g
    obtain ⟨g1, g2, g3, g4, g5, g6⟩ := g
    have hab := HWi.out g1
    rw [g1] at HW
    have e1 : decide (life < 1) = false := by rw [decide_eq_false_iff_not]; omega
    have e2 : decide (16777215 < life) = false := by rw [decide_eq_false_iff_not]; omega
    have e3 : decide (era < 0) = false := by rw [decide_eq_false_iff_not]; omega
    have e4 : decide (16777215 < era) = false := by rw [decide_eq_false_iff_not]; omega
    have e5 : decide (life ≤ D.newest a b) = false := by rw [decide_eq_false_iff_not]; omega
    have HR := hid (Reads.new D a b life era)
    have HRn := hid (fun S => @Reads.next D a b life era S)
    have HRd := hid (fun S => @Reads.done D a b life era S)
    clear H2 HWi g1 g6
    go_enter Try.func61, Try.ntmps61
    go_wp2_with fail
    refine HS.out.mono ?_
    rintro en w1 ⟨rfl, S1⟩
    have S1 := hid S1
    go_wp2_with fail
    refine (HW.out _ S1.out).mono ?_
    rintro en w2 ⟨rfl, S2⟩
    have S2 := hid (S1.out.trans S2)
    go_wp2_with fail
    refine (HN.out _ S2.out).mono ?_
    rintro en w3 ⟨rfl, S3⟩
    have S3 := hid (S2.out.trans S3)
    have B3 := hid (Box9.new w3 (.pointer (some ⟨pb, 0, none⟩)) (.int .i64 a) (.int .i64 b) (.int .i64 life) (.int .i64 era) (.int .i64 0) (.int .i64 a) (.slice none 0 0) (.bool false))
    have S4 := hid (S3.out.alloc (.cells #[.pointer (some ⟨pb, 0, none⟩), .int .i64 a, .int .i64 b, .int .i64 life, .int .i64 era, .int .i64 0, .int .i64 a, .slice none 0 0, .bool false] 108))
    go_wp2_with fail
    generalize hw4 : (w3.alloc (.cells #[.pointer (some ⟨pb, 0, none⟩), .int .i64 a, .int .i64 b, .int .i64 life, .int .i64 era, .int .i64 0, .int .i64 a, .slice none 0 0, .bool false] 108)) = w4 at *
    have hlt4 : w3.heap.size < w4.heap.size := by rw [← hw4]; simp
    clear hw4
    have I4 : Hid (IsSc w4 (.pointer (some ⟨w3.heap.size, 0, none⟩)) (.pointer (some ⟨pb, 0, none⟩)) (fun k => k = w3.heap.size) (Sc.new a b life era)) :=
      ⟨w3.heap.size, _, rfl, B3.out, rfl, OwnQ.nil _ _, ⟨⟨hab.1, Int.le_refl _, hab.2.1, by show b ≤ 2048; omega⟩, by simp [Sc.new]; omega, by simp [Sc.new], ⟨by show 0 ≤ life; omega, g3⟩, ⟨g4, g5⟩, ⟨Int.le_refl _, by show (0 : Int) ≤ 16777215; omega⟩⟩⟩
    have hB4 : Hid (Bnd (fun k => k = w3.heap.size) w.heap.size w4.heap.size) := fun k hk => by subst hk; exact ⟨S3.out.size, hlt4⟩
    clear hlt4 B3
    generalize w3.heap.size = sb at *
    go_loopg [] (b - a).toNat (fun gk wr => ∃ FS S, IsSc wr (.pointer (some ⟨sb, 0, none⟩)) (.pointer (some ⟨pb, 0, none⟩)) FS S ∧ Same w wr ∧ Bnd FS w.heap.size wr.heap.size ∧ Reads D a b life era S ∧ gk = (b - S.at_).toNat)
    case atStart => exact ⟨_, _, I4.out, S4.out, hB4.out, HR.out, rfl⟩
    case round =>
      obtain ⟨FS, S, hI, Z, hB, hRd, hgk⟩ := hrel
      have hI := hid hI
      have Z := hid Z
      have hB := hid hB
      have hRd := hid hRd
      have hgk := hid hgk
      have HTk := hid (HT.out wr _ _ F FS D S (HD.out.same Z.out) hI.out (by rw [hRd.out.2.1]; exact hab.2.2))
      cases hm : S.may D
      · have HX := hid (HRd.out S hRd.out hm)
        have hTk : Hid (S.took D = S) := took_no hm
        rw [hm, hTk.out] at HTk
        clear hm
        go_wp2_with fail
        refine HTk.out.mono ?_
        rintro en w5 ⟨FS', rfl, K5, I5, G5⟩
        have Z5 := hid (Z.out.keepOwn K5 (fun k hk => (hB.out k hk).1))
        have B5 := hid (hB.out.grow G5 K5.size Z.out.size)
        go_wp2_with fail
        go_ret2
        rw [HX.out] at I5
        exact .inr ⟨hE.out, _, FS', rfl, I5, Z5.out, B5.out⟩
      · have HX := hid (HRn.out S hRd.out hm)
        have hlt := may_lt hm
        have hL := hid hlt
        rw [hm] at HTk
        clear hm hlt
        go_wp2_with fail
        refine HTk.out.mono ?_
        rintro en w5 ⟨FS', rfl, K5, I5, G5⟩
        have Z5 := hid (Z.out.keepOwn K5 (fun k hk => (hB.out k hk).1))
        have B5 := hid (hB.out.grow G5 K5.size Z.out.size)
        have I5 := hid I5
        clear K5 G5
        go_wp2_with fail
        go_roundg ((b - (S.took D).at_).toNat)
        case measure =>
          have h1 := hL.out
          have h2 := hRd.out.2.1
          have h3 := hgk.out
          rw [h1.2.1]
          omega
        case rel => exact ⟨FS', _, I5.out, Z5.out, B5.out, HX.out, rfl⟩
end Go.Proofs.Ytlhnpicmjjddeaa
