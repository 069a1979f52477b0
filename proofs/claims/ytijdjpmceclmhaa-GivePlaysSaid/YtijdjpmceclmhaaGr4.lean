/- GIVE's reference: Turn. Printed by mkgr4.py. -/
import Derived.Test.YtijdjpmceclmhaaGr3
namespace Go.Proofs.Ytijdjpmceclmhaa
open Go.RowKit

theorem rown_same {w w' : World} {base : Nat} {e : TypeId} {size : Nat} {v : Value} {n : Nat} {xs : List Value} (h : w.ownsRow base e size v n xs) (S : Same w w') : w'.ownsRow base e size v n xs := by
  obtain ⟨z1, z2⟩ := h
  refine ⟨z1, ?_⟩
  rcases z2 with z2 | ⟨g', cap', cur, z3, z4, z5, z6⟩
  · exact .inl z2
  · exact .inr ⟨g', cap', cur, z3, z4, (S.block g' (Array.getElem?_eq_some_iff.1 z5).1 fun x => x).trans z5, z6⟩
theorem rfnd_is {L : List Gv} {id : Int} (h : fnd L id < L.length) : (L[fnd L id].id == id) = true := List.findIdx_getElem (p := fun g : Gv => g.id == id) (w := h)
theorem rfnd_not {L : List Gv} {id : Int} {k : Nat} (hk : k < L.length) (h : k < fnd L id) : (L[k].id == id) = false := by
  have h2 := List.not_of_lt_findIdx (p := fun g : Gv => g.id == id) h
  simp_all
theorem rmod_at (L : List Gv) (i : Nat) (f : Gv → Gv) (k : Nat) (hk : k < (L.modify i f).length) (hk' : k < L.length) : (L.modify i f)[k] = if k = i then f L[k] else L[k] := by
  rw [List.getElem_modify]
  by_cases h : i = k
  · rw [if_pos h, if_pos h.symm]
  · rw [if_neg h, if_neg fun e => h e.symm]
theorem rturned_at {L : List Gv} {id st : Int} {k : Nat} (hk : k < (turned L id st).length) (hk' : k < L.length) : (turned L id st)[k] = if k = fnd L id then L[k].to st else L[k] :=
  rmod_at L (fnd L id) (fun g => g.to st) k hk hk'
theorem rturned_next (L : List Gv) (id st : Int) (k : Nat) (hk : k < L.length) (x : Gv) (hx : (if k = fnd L id then L[k].to st else L[k]) = x) :
    ((turned L id st).take k).flatMap Gv.cells ++ Gv.cells x = ((turned L id st).take (k + 1)).flatMap Gv.cells := by
  have hl : k < (turned L id st).length := by rw [turned_length]; exact hk
  rw [List.take_succ_eq_append_getElem hl, flat_snoc, rturned_at hl hk, hx]

set_option maxHeartbeats 3200000 in
set_option maxRecDepth 100000 in
theorem rgTurn_err (w : World) (v : Value) (L : List Gv) (id st : Int) (hL : Gs w v L) (he : turnErr L id st ≠ 0) :
    Calls Try.prog 12 #[v, .int .i64 id, .int .i64 st] w (RetGs2 [] (turnErr L id st) w) := by
  have HA := hid (rgFind w v L id hL)
  obtain ⟨ao, cap, rfl, h1, h2⟩ := hL.form
  unfold maxLen at h2
  by_cases hf : L.length ≤ fnd L id
  · have e : turnErr L id st = 11 := by unfold turnErr; rw [if_pos hf]
    rw [e]
    have HH : Hid (hasG L id = false) := decide_eq_false (by omega)
    clear he e hf hL
    go_enter Try.func12, Try.ntmps12
    go_wp2_with fail
    refine HA.out.mono ?_
    rintro en w1 ⟨rfl, S1⟩
    have S1 := hid S1
    rw [HH.out]
    unfold aggG
    generalize foundG L id = x
    go_wp2_with fail
    go_ret2
    exact ⟨_, rfl, Gs.nil _, S1.out.alloc _⟩
  · have hlt : fnd L id < L.length := by omega
    have HX : Hid (foundG L id = L[fnd L id] ∧ hasG L id = true) := by
      constructor
      · unfold foundG
        rw [List.getElem?_eq_getElem hlt]
        rfl
      · exact decide_eq_true hlt
    by_cases hs : st < 2 ∨ 5 < st
    · have e : turnErr L id st = 2 := by unfold turnErr; rw [if_neg hf, if_pos hs]
      rw [e]; clear he e hL hf
      have hs' : st < 2 ∨ (¬ st < 2 ∧ 5 < st) := by omega
      clear hs
      generalize L[fnd L id] = x at *
      clear hlt
      rcases hs' with hs | ⟨hs, hs2⟩
      all_goals
        go_enter Try.func12, Try.ntmps12
        go_wp2_with fail
        refine HA.out.mono ?_
        rintro en w1 ⟨rfl, S1⟩
        have S1 := hid S1
        rw [HX.out.1, HX.out.2]
        unfold aggG
        go_wp2_with fail
        go_ret2
        exact ⟨_, rfl, Gs.nil _, S1.out.alloc _⟩
    · have e : turnErr L id st = 13 ∧ L[fnd L id].state ≠ 1 := by
        have hq : ¬ (L[fnd L id]?.map Gv.state) = some 1 := fun h => he (by unfold turnErr; rw [if_neg hf, if_neg hs, if_neg (by simpa using h)])
        refine ⟨by unfold turnErr; rw [if_neg hf, if_neg hs, if_pos hq], ?_⟩
        rw [List.getElem?_eq_getElem hlt] at hq
        simpa using hq
      rw [e.1]
      have hb : (L[fnd L id].state != 1) = true := by rw [bne_iff_ne]; exact e.2
      have hs1 : ¬ st < 2 := fun h => hs (.inl h)
      have hs2 : ¬ 5 < st := fun h => hs (.inr h)
      clear he e hs hf hL
      generalize L[fnd L id] = x at *
      clear hlt
      go_enter Try.func12, Try.ntmps12
      go_wp2_with fail
      refine HA.out.mono ?_
      rintro en w1 ⟨rfl, S1⟩
      have S1 := hid S1
      rw [HX.out.1, HX.out.2]
      unfold aggG
      go_wp2_with fail
      go_ret2
      exact ⟨_, rfl, Gs.nil _, S1.out.alloc _⟩

set_option maxHeartbeats 6400000 in
set_option maxRecDepth 100000 in
theorem rgTurn_ok (w : World) (v : Value) (L : List Gv) (id st : Int) (hL : Gs w v L) (hl : L.length ≤ 64) (he : turnErr L id st = 0) :
    Calls Try.prog 12 #[v, .int .i64 id, .int .i64 st] w (RetGs2 (turned L id st) 0 w) := by
  have hlt : fnd L id < L.length := by
    rcases Nat.lt_or_ge (fnd L id) L.length with h | h
    · exact h
    · unfold turnErr at he; rw [if_pos h] at he; cases he
  have hs : ¬ (st < 2 ∨ 5 < st) := fun h => by unfold turnErr at he; rw [if_neg (by omega), if_pos h] at he; cases he
  have hq : L[fnd L id].state = 1 := by
    unfold turnErr at he
    rw [if_neg (by omega), if_neg hs, List.getElem?_eq_getElem hlt] at he
    by_cases h : L[fnd L id].state = 1
    · exact h
    · rw [if_pos (by simpa using h)] at he; cases he
  have HA := hid (rgFind w v L id hL)
  have HX : Hid (foundG L id = L[fnd L id] ∧ hasG L id = true) := by
    constructor
    · unfold foundG
      rw [List.getElem?_eq_getElem hlt]
      rfl
    · exact decide_eq_true hlt
  have HTL := hid (turned_length L id st)
  have HTN := hid (rturned_next L id st)
  have HIs : Hid (∀ h : fnd L id < L.length, (L[fnd L id].id == id) = true) := fun h => rfnd_is h
  obtain ⟨ao, cap, rfl, h1, h2⟩ := hL.form
  unfold maxLen at h2
  have hb : (L[fnd L id].state != 1) = false := by rw [hq]; rfl
  have hs1 : ¬ st < 2 := fun h => hs (.inl h)
  have hs2 : ¬ 5 < st := fun h => hs (.inr h)
  have HL := hid hL
  have HF := hid hlt
  clear he hs hL hq
  generalize hyy : L[fnd L id] = y at hb HX
  have HY := hid hyy
  clear hyy hlt
  go_enter Try.func12, Try.ntmps12
  go_wp2_with fail
  refine HA.out.mono ?_
  rintro en w1 ⟨rfl, S1⟩
  have S2 := hid (S1.alloc (.cells #[.int .i64 y.id, .int .i64 y.fa, .int .i64 y.fc, .int .i64 y.ta, .int .i64 y.tc, .int .i64 y.inst, .int .i64 y.qty, .int .i64 y.price, .int .i64 y.group, .int .i64 y.day, .int .i64 y.state] 29))
  rw [HX.out.1, HX.out.2]
  clear S1
  unfold aggG
  go_wp2_with fail
  clear hb
  generalize w1.alloc (.cells #[.int .i64 y.id, .int .i64 y.fa, .int .i64 y.fc, .int .i64 y.ta, .int .i64 y.tc, .int .i64 y.inst, .int .i64 y.qty, .int .i64 y.price, .int .i64 y.group, .int .i64 y.day, .int .i64 y.state] 29) = w2 at *
  go_loopw [10, 11, 12] (fun v10 d i wr => ∃ k : Nat, k ≤ L.length ∧ i = .int .i64 k ∧ d = .bool (decide (fnd L id < k)) ∧ wr.ownsRow w.heap.size 29 11 v10 k (((turned L id st).take k).flatMap Gv.cells) ∧ Same w wr) (fun _ _ i _ => L.length - (intOf i).toNat)
  case atStart => exact ⟨0, Nat.zero_le _, rfl, rfl, by simpa using World.ownsRow_nil w2 w.heap.size 29 11, S2.out⟩
  case round =>
    obtain ⟨k, hk, rfl, rfl, ho, S⟩ := hrel
    have hfo := Sl.form (Sl.of_owns ho)
    obtain ⟨a10, c10, rfl, _, _⟩ := hfo
    have HO := hid ho
    have HS := hid S
    clear ho S
    by_cases hlt : k < L.length
    case neg =>
      have HG : Hid (Gs wr (.slice a10 k c10) (turned L id st)) := by
        have hke : k = (turned L id st).length := by rw [HTL.out]; omega
        have h0 := Sl.of_owns HO.out
        rw [hke, List.take_length] at h0
        rw [hke]
        refine ⟨h0, fun e => ?_⟩
        have := HTL.out
        have := HF.out
        rw [e] at *
        simp at *
        omega
      go_wp2_with fail
      go_ret2
      exact ⟨_, rfl, HG.out, HS.out⟩
    have hk63 : k ≤ 63 := by omega
    have HNx := hid (HTN.out k hlt)
    have HIsk : Hid (k = fnd L id → (L[k].id == id) = true) := fun e => by subst e; exact HIs.out HF.out
    have HNot : Hid (k < fnd L id → (L[k].id == id) = false) := rfnd_not hlt
    have hrow := (HL.out.same HS.out).row k hlt
    obtain ⟨g, o, rfl, c0, c1, c2, c3, c4, c5, c6, c7, c8, c9, d10⟩ := hrow
    have HSz := hid HS.out.size
    clear HTN HIs HA HX HY
    generalize L[k] = x at *
    generalize fnd L id = f at *
    have hki : (0 : Int) ≤ (k : Int) := by omega
    have hkl : (k : Int) < (L.length : Int) := by omega
    by_cases hkf : k = f
    case pos =>
      have hq : (x.id == id) = true := HIsk.out hkf
      have hd : decide (f < k) = false := decide_eq_false (by omega)
      subst hkf
      have HN1 : Hid (((turned L id st).take k).flatMap Gv.cells ++ Gv.cells (x.to st) = ((turned L id st).take (k + 1)).flatMap Gv.cells) := HNx.out _ (if_pos rfl)
      have HD : Hid (decide (k < k + 1) = true) := decide_eq_true (by omega)
      have S3 := hid ((HS.out.alloc (.cells #[.int .i64 x.id, .int .i64 x.fa, .int .i64 x.fc, .int .i64 x.ta, .int .i64 x.tc, .int .i64 x.inst, .int .i64 x.qty, .int .i64 x.price, .int .i64 x.group, .int .i64 x.day, .int .i64 st] 29)).alloc (.cells #[.int .i64 x.id, .int .i64 x.fa, .int .i64 x.fc, .int .i64 x.ta, .int .i64 x.tc, .int .i64 x.inst, .int .i64 x.qty, .int .i64 x.price, .int .i64 x.group, .int .i64 x.day, .int .i64 st] 29))
      have hone := one_made (wr.alloc (.cells #[.int .i64 x.id, .int .i64 x.fa, .int .i64 x.fc, .int .i64 x.ta, .int .i64 x.tc, .int .i64 x.inst, .int .i64 x.qty, .int .i64 x.price, .int .i64 x.group, .int .i64 x.day, .int .i64 st] 29)) (x.to st)
      simp only [World.size_alloc] at hone
      have HOne := hid hone
      have HO3 := hid (rown_same HO.out (((Same.refl wr).alloc (.cells #[.int .i64 x.id, .int .i64 x.fa, .int .i64 x.fc, .int .i64 x.ta, .int .i64 x.tc, .int .i64 x.inst, .int .i64 x.qty, .int .i64 x.price, .int .i64 x.group, .int .i64 x.day, .int .i64 st] 29)).alloc (.cells #[.int .i64 x.id, .int .i64 x.fa, .int .i64 x.fc, .int .i64 x.ta, .int .i64 x.tc, .int .i64 x.inst, .int .i64 x.qty, .int .i64 x.price, .int .i64 x.group, .int .i64 x.day, .int .i64 st] 29)))
      have hz3 : w.heap.size ≤ ((wr.alloc (.cells #[.int .i64 x.id, .int .i64 x.fa, .int .i64 x.fc, .int .i64 x.ta, .int .i64 x.tc, .int .i64 x.inst, .int .i64 x.qty, .int .i64 x.price, .int .i64 x.group, .int .i64 x.day, .int .i64 st] 29)).alloc (.cells #[.int .i64 x.id, .int .i64 x.fa, .int .i64 x.fc, .int .i64 x.ta, .int .i64 x.tc, .int .i64 x.inst, .int .i64 x.qty, .int .i64 x.price, .int .i64 x.group, .int .i64 x.day, .int .i64 st] 29)).heap.size := S3.out.size
      clear hone HNx HIsk HNot
      rw [hd]
      clear hd
      go_wp2_with (at_builtin; refine wpList_append_sl rfl (.tmp 51) (.tmp 53) tyGives rfl HO3.out HOne.out rfl rfl (cells_one _) (by unfold maxLen; omega) (by omega) hz3 ?_; intro x4 w4 ho4 hg4; have HO4 := hid ho4; have S4 := hid (S3.out.grown hg4 fun k e => (World.ownsRow.lt HO3.out k e).1); clear ho4 hg4)
      clear hz3
      go_roundw
      case rel => exact ⟨k + 1, by omega, by go_num, by rw [HD.out], HN1.out ▸ HO4.out, S4.out⟩
      case measure => simp [intOf]; omega
    have HK := hid hkf
    by_cases hkf2 : k < f
    case pos =>
      have hq : (x.id == id) = false := HNot.out hkf2
      have hd : decide (f < k) = false := decide_eq_false (by omega)
      have HN1 : Hid (((turned L id st).take k).flatMap Gv.cells ++ Gv.cells x = ((turned L id st).take (k + 1)).flatMap Gv.cells) := HNx.out _ (if_neg HK.out)
      have HD : Hid (decide (f < k + 1) = false) := decide_eq_false (by omega)
      have S3 := hid ((HS.out.alloc (.cells #[.int .i64 x.id, .int .i64 x.fa, .int .i64 x.fc, .int .i64 x.ta, .int .i64 x.tc, .int .i64 x.inst, .int .i64 x.qty, .int .i64 x.price, .int .i64 x.group, .int .i64 x.day, .int .i64 x.state] 29)).alloc (.cells #[.int .i64 x.id, .int .i64 x.fa, .int .i64 x.fc, .int .i64 x.ta, .int .i64 x.tc, .int .i64 x.inst, .int .i64 x.qty, .int .i64 x.price, .int .i64 x.group, .int .i64 x.day, .int .i64 x.state] 29))
      have hone := one_made (wr.alloc (.cells #[.int .i64 x.id, .int .i64 x.fa, .int .i64 x.fc, .int .i64 x.ta, .int .i64 x.tc, .int .i64 x.inst, .int .i64 x.qty, .int .i64 x.price, .int .i64 x.group, .int .i64 x.day, .int .i64 x.state] 29)) x
      simp only [World.size_alloc] at hone
      have HOne := hid hone
      have HO3 := hid (rown_same HO.out (((Same.refl wr).alloc (.cells #[.int .i64 x.id, .int .i64 x.fa, .int .i64 x.fc, .int .i64 x.ta, .int .i64 x.tc, .int .i64 x.inst, .int .i64 x.qty, .int .i64 x.price, .int .i64 x.group, .int .i64 x.day, .int .i64 x.state] 29)).alloc (.cells #[.int .i64 x.id, .int .i64 x.fa, .int .i64 x.fc, .int .i64 x.ta, .int .i64 x.tc, .int .i64 x.inst, .int .i64 x.qty, .int .i64 x.price, .int .i64 x.group, .int .i64 x.day, .int .i64 x.state] 29)))
      have hz3 : w.heap.size ≤ ((wr.alloc (.cells #[.int .i64 x.id, .int .i64 x.fa, .int .i64 x.fc, .int .i64 x.ta, .int .i64 x.tc, .int .i64 x.inst, .int .i64 x.qty, .int .i64 x.price, .int .i64 x.group, .int .i64 x.day, .int .i64 x.state] 29)).alloc (.cells #[.int .i64 x.id, .int .i64 x.fa, .int .i64 x.fc, .int .i64 x.ta, .int .i64 x.tc, .int .i64 x.inst, .int .i64 x.qty, .int .i64 x.price, .int .i64 x.group, .int .i64 x.day, .int .i64 x.state] 29)).heap.size := S3.out.size
      clear hone HNx HIsk HNot hkf hkf2
      rw [hd]
      clear hd
      go_wp2_with (at_builtin; refine wpList_append_sl rfl (.tmp 51) (.tmp 53) tyGives rfl HO3.out HOne.out rfl rfl (cells_one _) (by unfold maxLen; omega) (by omega) hz3 ?_; intro x4 w4 ho4 hg4; have HO4 := hid ho4; have S4 := hid (S3.out.grown hg4 fun k e => (World.ownsRow.lt HO3.out k e).1); clear ho4 hg4)
      clear hz3
      go_roundw
      case rel => exact ⟨k + 1, by omega, by go_num, by rw [HD.out], HN1.out ▸ HO4.out, S4.out⟩
      case measure => simp [intOf]; omega
    have hd : decide (f < k) = true := decide_eq_true (by omega)
    cases hq : (x.id == id)
    all_goals
      have HN1 : Hid (((turned L id st).take k).flatMap Gv.cells ++ Gv.cells x = ((turned L id st).take (k + 1)).flatMap Gv.cells) := HNx.out _ (if_neg HK.out)
      have HD : Hid (decide (f < k + 1) = true) := decide_eq_true (by omega)
      have S3 := hid ((HS.out.alloc (.cells #[.int .i64 x.id, .int .i64 x.fa, .int .i64 x.fc, .int .i64 x.ta, .int .i64 x.tc, .int .i64 x.inst, .int .i64 x.qty, .int .i64 x.price, .int .i64 x.group, .int .i64 x.day, .int .i64 x.state] 29)).alloc (.cells #[.int .i64 x.id, .int .i64 x.fa, .int .i64 x.fc, .int .i64 x.ta, .int .i64 x.tc, .int .i64 x.inst, .int .i64 x.qty, .int .i64 x.price, .int .i64 x.group, .int .i64 x.day, .int .i64 x.state] 29))
      have hone := one_made (wr.alloc (.cells #[.int .i64 x.id, .int .i64 x.fa, .int .i64 x.fc, .int .i64 x.ta, .int .i64 x.tc, .int .i64 x.inst, .int .i64 x.qty, .int .i64 x.price, .int .i64 x.group, .int .i64 x.day, .int .i64 x.state] 29)) x
      simp only [World.size_alloc] at hone
      have HOne := hid hone
      have HO3 := hid (rown_same HO.out (((Same.refl wr).alloc (.cells #[.int .i64 x.id, .int .i64 x.fa, .int .i64 x.fc, .int .i64 x.ta, .int .i64 x.tc, .int .i64 x.inst, .int .i64 x.qty, .int .i64 x.price, .int .i64 x.group, .int .i64 x.day, .int .i64 x.state] 29)).alloc (.cells #[.int .i64 x.id, .int .i64 x.fa, .int .i64 x.fc, .int .i64 x.ta, .int .i64 x.tc, .int .i64 x.inst, .int .i64 x.qty, .int .i64 x.price, .int .i64 x.group, .int .i64 x.day, .int .i64 x.state] 29)))
      have hz3 : w.heap.size ≤ ((wr.alloc (.cells #[.int .i64 x.id, .int .i64 x.fa, .int .i64 x.fc, .int .i64 x.ta, .int .i64 x.tc, .int .i64 x.inst, .int .i64 x.qty, .int .i64 x.price, .int .i64 x.group, .int .i64 x.day, .int .i64 x.state] 29)).alloc (.cells #[.int .i64 x.id, .int .i64 x.fa, .int .i64 x.fc, .int .i64 x.ta, .int .i64 x.tc, .int .i64 x.inst, .int .i64 x.qty, .int .i64 x.price, .int .i64 x.group, .int .i64 x.day, .int .i64 x.state] 29)).heap.size := S3.out.size
      clear hone HNx HIsk HNot hkf hkf2
      rw [hd]
      clear hd
      go_wp2_with (at_builtin; refine wpList_append_sl rfl (.tmp 51) (.tmp 53) tyGives rfl HO3.out HOne.out rfl rfl (cells_one _) (by unfold maxLen; omega) (by omega) hz3 ?_; intro x4 w4 ho4 hg4; have HO4 := hid ho4; have S4 := hid (S3.out.grown hg4 fun k e => (World.ownsRow.lt HO3.out k e).1); clear ho4 hg4)
      clear hz3
      go_roundw
      case rel => exact ⟨k + 1, by omega, by go_num, by rw [HD.out], HN1.out ▸ HO4.out, S4.out⟩
      case measure => simp [intOf]; omega
end Go.Proofs.Ytijdjpmceclmhaa
