/- GIVE: what give.Turn, Find and the statements' own lives compute. -/
import Derived.Test.YtijdjpmceclmhaaGv3
namespace Go.Proofs.Ytijdjpmceclmhaa
open Go.RowKit

def OwnG (w : World) (base : Nat) (v : Value) (L : List Gv) : Prop := w.ownsRow base 29 11 v L.length (L.flatMap Gv.cells) ∧ (L = [] → v = .slice none 0 0)
theorem OwnG.gs {w : World} {base : Nat} {v : Value} {L : List Gv} (h : OwnG w base v L) : Gs w v L := ⟨Sl.of_owns h.1, h.2⟩
theorem flat_oneCell (L : List Gv) : ∀ u ∈ L.flatMap Gv.cells, u.oneCell' = true := by
  intro u hu
  obtain ⟨x, _, hx⟩ := List.mem_flatMap.1 hu
  exact cells_one x u hx

/-- a row of this type, empty, just laid -/
theorem own_none (w : World) : (w.alloc (.cells #[] 29)).ownsRow w.heap.size 29 11 (.slice (some ⟨w.heap.size, 0, none⟩) 0 0) 0 [] :=
  World.ownsRow_lit w #[] 0 (Nat.le_refl _) (by decide) rfl

set_option maxHeartbeats 800000 in
set_option maxRecDepth 100000 in
theorem cloneGives (w : World) (v : Value) (L : List Gv) (hL : Gs w v L) (hl : L.length ≤ 64) :
    Calls Try.prog 20 #[v] w fun en w' => ∃ v, en = .returned v ∧ OwnG w' w.heap.size v L ∧ Same w w' := by
  obtain ⟨ao, cap, rfl, h1, h2⟩ := hL.form
  have S0 := Same.refl w
  by_cases h0 : L = []
  · have hv := hL.2 h0
    subst h0
    simp only [Value.slice.injEq] at hv
    obtain ⟨rfl, _, rfl⟩ := hv
    have kn := fun (w : World) => Lib.run_eql_slice_nil (P := Try.prog) w 23 29 none 0 0 0 0 Try.underlying23
    simp only [Option.isNone_none] at kn
    go_enter Try.func20, Try.ntmps20
    go_wp2_with fail
    go_ret
    exact ⟨_, rfl, ⟨World.ownsRow_nil _ _ _ _, fun _ => rfl⟩, S0⟩
  · have hn : L.length ≠ 0 := fun e => h0 (List.eq_nil_of_length_eq_zero e)
    obtain ⟨g, o, rfl, _⟩ := Sl.cells hL.1 hn
    have kn := fun (w : World) => Lib.run_eql_slice_nil (P := Try.prog) w 23 29 (some ⟨g, o, none⟩) L.length cap 0 0 Try.underlying23
    simp only [Option.isNone_some] at kn
    have S1 := S0.alloc (.cells #[] 29)
    have hb1 := (hL.same S1).1
    have HO := own_none w
    go_enter Try.func20, Try.ntmps20
    go_wp2_with (at_builtin; refine wpList_append_sl rfl (.tmp 5) (.tmp 6) tyGives rfl HO hb1 rfl rfl (flat_oneCell L) (by unfold maxLen; omega) (by omega) (by simp) ?_; intro x1 w1 ho1 hg1; simp only [List.nil_append, Nat.zero_add] at ho1; have S2 : Same w w1 := S1.grown hg1 (fun k e => (World.ownsRow.lt HO k e).1))
    go_ret
    exact ⟨_, rfl, ⟨ho1, fun e => absurd e h0⟩, S2⟩

def turnErr (L : List Gv) (id st : Int) : Int :=
  if L.length ≤ fnd L id then 11 else if st < 2 ∨ 5 < st then 2 else if (L[fnd L id]?.map Gv.state) ≠ some 1 then 13 else 0
def Gv.to (g : Gv) (st : Int) : Gv := { g with state := st }
def turned (L : List Gv) (id st : Int) : List Gv := L.modify (fnd L id) fun g => g.to st
theorem turned_length (L : List Gv) (id st : Int) : (turned L id st).length = L.length := by simp [turned]

theorem flat_set (st : Int) : ∀ (L : List Gv) (i : Nat), i < L.length → (L.flatMap Gv.cells).set (i * 11 + 10) (.int .i64 st) = (L.modify i fun g => g.to st).flatMap Gv.cells
  | [], i, h => absurd h (Nat.not_lt_zero i)
  | x :: L, 0, _ => by simp [Gv.cells, Gv.to, i64]
  | x :: L, i + 1, h => by
    have ih := flat_set st L i (by simpa using h)
    have hl : (Gv.cells x).length = 11 := rfl
    rw [List.flatMap_cons, List.set_append_right _ _ (by rw [hl]; omega), hl, show (i + 1) * 11 + 10 - 11 = i * 11 + 10 from by omega, ih]
    simp
theorem fndI_neg {L : List Gv} {id : Int} (h : L.length ≤ fnd L id) : fndI L id = -1 := by unfold fndI; rw [if_neg (by omega)]
theorem fndI_pos {L : List Gv} {id : Int} (h : fnd L id < L.length) : fndI L id = (fnd L id : Int) := by unfold fndI; rw [if_pos h]

set_option maxHeartbeats 1600000 in
set_option maxRecDepth 100000 in
theorem giveTurn_err (w : World) (v : Value) (L : List Gv) (id st : Int) (hL : Gs w v L) (he : turnErr L id st ≠ 0) :
    Calls Try.prog 7 #[v, .int .i64 id, .int .i64 st] w (RetGs2 [] (turnErr L id st) w) := by
  by_cases hf : L.length ≤ fnd L id
  · have e : turnErr L id st = 11 := by unfold turnErr; rw [if_pos hf]
    rw [e]
    have HA := hid (giveAt w v L id hL)
    rw [fndI_neg hf] at HA
    clear he e
    go_enter Try.func7, Try.ntmps7
    go_wp2_with fail
    refine HA.out.mono ?_
    rintro en w1 ⟨rfl, S1⟩
    go_wp2_with fail
    go_ret2
    exact ⟨_, rfl, Gs.nil _, S1⟩
  · have HA := hid (giveAt w v L id hL)
    rw [fndI_pos (by omega)] at HA
    obtain ⟨ao, cap, rfl, h1, h2⟩ := hL.form
    unfold maxLen at h2
    have hnn : ¬ ((fnd L id : Int) < 0) := by omega
    by_cases hs : st < 2 ∨ 5 < st
    · have e : turnErr L id st = 2 := by unfold turnErr; rw [if_neg hf, if_pos hs]
      rw [e]; clear he e
      have hs' : st < 2 ∨ (¬ st < 2 ∧ 5 < st) := by omega
      clear hs
      generalize fnd L id = i at *
      rcases hs' with hs | ⟨hs, hs2⟩
      all_goals
        go_enter Try.func7, Try.ntmps7
        go_wp2_with fail
        refine HA.out.mono ?_
        rintro en w1 ⟨rfl, S1⟩
        go_wp2_with fail
        go_ret2
        exact ⟨_, rfl, Gs.nil _, S1⟩
    · have hlt : fnd L id < L.length := by omega
      have e : turnErr L id st = 13 ∧ L[fnd L id].state ≠ 1 := by
        have hq : ¬ (L[fnd L id]?.map Gv.state) = some 1 := fun h => he (by unfold turnErr; rw [if_neg hf, if_neg hs, if_neg (by simpa using h)])
        refine ⟨by unfold turnErr; rw [if_neg hf, if_neg hs, if_pos hq], ?_⟩
        rw [List.getElem?_eq_getElem hlt] at hq
        simpa using hq
      rw [e.1]
      have hb : (L[fnd L id].state != 1) = true := by rw [bne_iff_ne]; exact e.2
      have hs1 : ¬ st < 2 := fun h => hs (.inl h)
      have hs2 : ¬ 5 < st := fun h => hs (.inr h)
      clear he e hs hf
      obtain ⟨g, o, rfl, c⟩ := hL.row (fnd L id) hlt
      have c10 := c.2.2.2.2.2.2.2.2.2.2
      clear c
      generalize L[fnd L id].state = s0 at *
      generalize fnd L id = i at *
      have hblk := World.block_lt_of_cell? w _ c10
      have HC := hid c10; clear c10
      go_enter Try.func7, Try.ntmps7
      go_wp2_with fail
      refine HA.out.mono ?_
      rintro en w1 ⟨rfl, S1⟩
      have c10 := (S1.cell hblk).trans HC.out
      go_wp2_with fail
      go_ret2
      exact ⟨_, rfl, Gs.nil _, S1⟩

set_option maxHeartbeats 1600000 in
set_option maxRecDepth 100000 in
theorem giveTurn_ok (w : World) (v : Value) (L : List Gv) (id st : Int) (hL : Gs w v L) (hl : L.length ≤ 64) (he : turnErr L id st = 0) :
    Calls Try.prog 7 #[v, .int .i64 id, .int .i64 st] w (RetGs2 (turned L id st) 0 w) := by
  have hlt : fnd L id < L.length := by
    rcases Nat.lt_or_ge (fnd L id) L.length with h | h
    · exact h
    · unfold turnErr at he; rw [if_pos h] at he; cases he
  have hs : ¬ (st < 2 ∨ 5 < st) := fun h => by unfold turnErr at he; rw [if_neg (by omega), if_pos h] at he; cases he
  have hq : L[fnd L id].state = 1 := by
    unfold turnErr at he
    rw [if_neg (by omega), if_neg hs, List.getElem?_eq_getElem hlt] at he
    by_cases h : L[fnd L id].state = 1
    · exact h
    · rw [if_pos (by simpa using h)] at he; cases he
  have HA := hid (giveAt w v L id hL)
  rw [fndI_pos hlt] at HA
  have HM := hid (flat_set st L (fnd L id) hlt)
  have HT : Hid (turned L id st = L.modify (fnd L id) fun g => g.to st) := rfl
  have HTL := hid (turned_length L id st)
  obtain ⟨ao, cap, rfl, h1, h2⟩ := hL.form
  unfold maxLen at h2
  have hnn : ¬ ((fnd L id : Int) < 0) := by omega
  have hb : (L[fnd L id].state != 1) = false := by rw [hq]; rfl
  have hs1 : ¬ st < 2 := fun h => hs (.inl h)
  have hs2 : ¬ 5 < st := fun h => hs (.inr h)
  obtain ⟨g, o, rfl, c⟩ := hL.row (fnd L id) hlt
  have c10 := c.2.2.2.2.2.2.2.2.2.2
  clear he hs c hq
  generalize L[fnd L id].state = s0 at *
  have hblk := World.block_lt_of_cell? w _ c10
  have HC := hid c10; clear c10
  have hne : L ≠ [] := fun e => by subst e; simp at hlt
  generalize turned L id st = L' at *
  generalize fnd L id = i at *
  go_enter Try.func7, Try.ntmps7
  go_wp2_with fail
  refine HA.out.mono ?_
  rintro en w1 ⟨rfl, S1⟩
  have c10 := (S1.cell hblk).trans HC.out
  go_wp2_with fail
  refine (cloneGives _ _ L (hL.same S1) hl).mono ?_
  rintro en w2 ⟨v2, rfl, ho, S2⟩
  obtain ⟨g2, cap2, cur, rfl, hb2, hg2, hn2, hm2, hs2', ht2⟩ := ho.1.2.resolve_left (fun h => by omega)
  unfold maxLen at hm2
  have hj : i * 11 + 10 < L.length * 11 := by omega
  have d10 : w2.cell? ⟨g2, i * 11 + 10, none⟩ = (L.flatMap Gv.cells)[i * 11 + 10]? := ho.1.cellAt _ hj
  have f10 : w2.frozen? ⟨g2, i * 11 + 10, none⟩ = false := ho.1.frozenAt _
  obtain ⟨u, hu⟩ : ∃ u, (L.flatMap Gv.cells)[i * 11 + 10]? = some u := ⟨_, List.getElem?_eq_getElem (by rw [ho.1.1]; exact hj)⟩
  rw [hu] at d10
  have HW := hid (ho.1.stored (i * 11 + 10) (.int .i64 st)).1
  rw [HM.out, ← HT.out] at HW
  clear hu hg2 ht2 hs2'
  go_wp2_with fail
  go_ret2
  refine ⟨_, rfl, ⟨?_, fun e => ?_⟩, (S1.trans S2).setCell (p := ⟨g2, i * 11 + 10, none⟩) (Nat.le_trans S1.size hb2) _⟩
  · rw [HTL.out]; exact Sl.of_owns HW.out
  · have := HTL.out
    rw [e] at this
    exact absurd (List.eq_nil_of_length_eq_zero this.symm) hne
end Go.Proofs.Ytijdjpmceclmhaa
