/- GIVE: what give.New, Turn, Find, Clone compute. -/
import Derived.Test.YtijdjpmceclmhaaGv2
import Derived.Deep.RegionLawGrows
import Derived.BigRegion
namespace Go.Proofs.Ytijdjpmceclmhaa
open Go.RowKit

/-- append that grows, as one step of a region that draws its order: the slice is full -/
theorem step_append_full {P : Program} {ops : Array Oper} {o : Oper} {a : Act} {w : World} {K : Act → World → Prop} {Q : Exit → Act → World → Prop} {E : Prop}
    (hg : o.guard = none) (s x : Operand) {t e : TypeId} {size bytes : Nat} {z : Value} (T : RowTy P t e size bytes z) (hop : o.op = Op.call { callee := Callee.builtin Builtin.append, args := #[s, x], argTypes := #[t, t] })
    {ao : Option Addr} {n : Nat} {xs : List Value} (hv : Sl w e size (.slice ao n n) n xs) {ad : Addr} {m c : Nat} {e' : TypeId} {ys : List Value} (hy : Sl w e' size (.slice (some ad) m c) m ys) (h1c : ∀ u ∈ ys, u.oneCell' = true)
    (hs : a.eval s = .slice ao n n) (hx : a.eval x = .slice (some ad) m c) (hm : 0 < m) (b1 : n + m ≤ maxLen) (b2 : (n + m) * bytes ≤ 140737488355328)
    (hK : ∀ v' w', w'.ownsRow w.heap.size e size v' (n + m) (xs ++ ys) → w.grownBy w' none → K (a.put o.dst v') w') :
    if Region.wanted o (yielded ops a.tmps) = true then Oper.wp P o a w K Q else E := by
  obtain ⟨i, hi, hz, hsz, hb⟩ := info_parts T.info
  refine step_append_grows hg s x t hop e i z size bytes T.under hi hz hsz hb T.cells T.pos ao n n xs hs ?_ hv.1 ?_ ad m c ys hx hy.1 ?_ h1c (by omega) b1 b2 hK
  · intro h
    obtain ⟨_, ao', cap', hv', h2, h3, h4, h5⟩ := hv
    simp only [Value.slice.injEq] at hv'
    obtain ⟨rfl, _, rfl⟩ := hv'
    exact ⟨h4 h, h4 h⟩
  · intro b hb' j u hu
    have hn : n ≠ 0 := by
      rintro rfl
      have : xs = [] := List.eq_nil_of_length_eq_zero (by simpa using hv.1)
      subst this
      simp at hu
    obtain ⟨g, off, h1, h2⟩ := Sl.cells hv hn
    rw [h1] at hb'
    cases hb'
    have hadd : (⟨g, off, none⟩ : Addr).add j = ⟨g, off + j, none⟩ := by unfold Addr.add; split <;> simp_all
    rw [hadd]
    exact h2 j u hu
  · intro j u hu
    have hm' : m ≠ 0 := by omega
    obtain ⟨g, off, h1, h2⟩ := Sl.cells hy hm'
    cases h1
    have hadd : (⟨g, off, none⟩ : Addr).add j = ⟨g, off + j, none⟩ := by unfold Addr.add; split <;> simp_all
    rw [hadd]
    exact h2 j u hu

theorem one_made (w : World) (x : Gv) : Sl (w.alloc (.cells #[.int .i64 x.id, .int .i64 x.fa, .int .i64 x.fc, .int .i64 x.ta, .int .i64 x.tc, .int .i64 x.inst, .int .i64 x.qty, .int .i64 x.price, .int .i64 x.group, .int .i64 x.day, .int .i64 x.state] 29)) 29 11 (.slice (some ⟨w.heap.size, 0, none⟩) 1 1) 1 (Gv.cells x) :=
  Sl.made 29 11 w.heap.size 1 1 _ _ (heap_alloc_new w _) (Nat.le_refl _) (by decide) rfl ⟨[], rfl⟩
theorem cells_one (x : Gv) : ∀ u ∈ Gv.cells x, u.oneCell' = true := by
  intro u hu
  simp only [Gv.cells, List.mem_cons, List.not_mem_nil, or_false] at hu
  rcases hu with rfl | rfl | rfl | rfl | rfl | rfl | rfl | rfl | rfl | rfl | rfl <;> rfl
/-- the slice up to its length, with no room behind -/
theorem Gs.full {w : World} {ao : Option Addr} {cap : Nat} {L : List Gv} (h : Gs w (.slice ao L.length cap) L) (_hne : L.length ≠ 0) : Sl w 29 11 (.slice ao L.length L.length) L.length (L.flatMap Gv.cells) := by
  obtain ⟨h1, ao', cap', hv, h2, h3, h4, h5⟩ := h.1
  simp only [Value.slice.injEq] at hv
  obtain ⟨rfl, _, rfl⟩ := hv
  exact ⟨h1, ao, L.length, rfl, Nat.le_refl _, by omega, fun e => by have := h4 e; omega, h5⟩

/-- a call hands back give-ups, a number and an error -/
def RetGs3 (L : List Gv) (n e : Int) (w : World) (en : Ending) (w' : World) : Prop := ∃ v, en = .returned (.tuple #[v, .int .i64 n, .int .i64 e]) ∧ Gs w' v L ∧ Same w w'
def RetGs2 (L : List Gv) (e : Int) (w : World) (en : Ending) (w' : World) : Prop := ∃ v, en = .returned (.tuple #[v, .int .i64 e]) ∧ Gs w' v L ∧ Same w w'

def newErr (L : List Gv) (g : Gv) (day : Int) : Int :=
  if g.fa = g.ta ∧ g.fc = g.tc then 24 else if g.qty = 0 ∨ day < 0 ∨ 1048576 < day then 2 else if 64 ≤ L.length then 25 else 0
def newOne (L : List Gv) (g : Gv) (day : Int) : Gv := { g with id := 1 + (L.length : Int), state := 1, day := day + 8 }
/-- the numbers rise from 1 on -/
def rising (L : List Gv) : Prop := ∀ k (hk : k < L.length), L[k].id = (k : Int) + 1

def aggG (g : Gv) : Value := .agg #[.int .i64 g.id, .int .i64 g.fa, .int .i64 g.fc, .int .i64 g.ta, .int .i64 g.tc, .int .i64 g.inst, .int .i64 g.qty, .int .i64 g.price, .int .i64 g.group, .int .i64 g.day, .int .i64 g.state]

set_option maxHeartbeats 1600000 in
set_option maxRecDepth 100000 in
theorem giveNew_err (w : World) (v : Value) (L : List Gv) (g : Gv) (day : Int) (hL : Gs w v L) (he : newErr L g day ≠ 0) :
    Calls Try.prog 6 #[v, aggG g, .int .i64 day] w (RetGs3 [] 0 (newErr L g day) w) := by
  obtain ⟨ao, cap, rfl, h1, h2⟩ := hL.form
  unfold maxLen at h2
  unfold aggG
  by_cases hs : g.fa = g.ta ∧ g.fc = g.tc
  · have e : newErr L g day = 24 := by unfold newErr; rw [if_pos hs]
    rw [e]; clear he e
    have b1 : (g.fa == g.ta) = true := beq_iff_eq.2 hs.1
    have b2 : (g.fc == g.tc) = true := beq_iff_eq.2 hs.2
    clear hs
    go_enter Try.func6, Try.ntmps6
    go_wp2_with fail
    go_ret3
    exact ⟨_, rfl, Gs.nil _, (Same.refl w).alloc _⟩
  · have hb : (g.fa == g.ta) = false ∨ ((g.fa == g.ta) = true ∧ (g.fc == g.tc) = false) := by
      by_cases a : g.fa = g.ta
      · exact .inr ⟨beq_iff_eq.2 a, beq_eq_false_iff_ne.2 fun b => hs ⟨a, b⟩⟩
      · exact .inl (beq_eq_false_iff_ne.2 a)
    by_cases ha : g.qty = 0 ∨ day < 0 ∨ 1048576 < day
    · have e : newErr L g day = 2 := by unfold newErr; rw [if_neg hs, if_pos ha]
      rw [e]; clear he e hs
      have hc : (g.qty == 0) = true ∨ ((g.qty == 0) = false ∧ day < 0) ∨ ((g.qty == 0) = false ∧ ¬ day < 0 ∧ 1048576 < day) := by
        by_cases a : g.qty = 0
        · exact .inl (beq_iff_eq.2 a)
        · by_cases b : day < 0
          · exact .inr (.inl ⟨beq_eq_false_iff_ne.2 a, b⟩)
          · exact .inr (.inr ⟨beq_eq_false_iff_ne.2 a, b, by rcases ha with h | h | h; exact absurd h a; exact absurd h b; exact h⟩)
      clear ha
      rcases hb with b1 | ⟨b1, b2⟩ <;> rcases hc with q1 | ⟨q1, q2⟩ | ⟨q1, q2, q3⟩
      all_goals
        go_enter Try.func6, Try.ntmps6
        go_wp2_with fail
        go_ret3
        exact ⟨_, rfl, Gs.nil _, (Same.refl w).alloc _⟩
    · have hl : 64 ≤ L.length := by
        rcases Nat.lt_or_ge L.length 64 with h | h
        · exact absurd (by unfold newErr; rw [if_neg hs, if_neg ha, if_neg (by omega)]) he
        · exact h
      have e : newErr L g day = 25 := by unfold newErr; rw [if_neg hs, if_neg ha, if_pos hl]
      rw [e]; clear he e hs
      have q1 : (g.qty == 0) = false := beq_eq_false_iff_ne.2 fun h => ha (.inl h)
      have q2 : ¬ day < 0 := fun h => ha (.inr (.inl h))
      have q3 : ¬ 1048576 < day := fun h => ha (.inr (.inr h))
      clear ha
      rcases hb with b1 | ⟨b1, b2⟩
      all_goals
        go_enter Try.func6, Try.ntmps6
        go_wp2_with fail
        go_ret3
        exact ⟨_, rfl, Gs.nil _, (Same.refl w).alloc _⟩

theorem flat_snoc (L : List Gv) (x : Gv) : (L ++ [x]).flatMap Gv.cells = L.flatMap Gv.cells ++ Gv.cells x := by simp

theorem gs_new {w : World} {base : Nat} {v : Value} {L : List Gv} {x : Gv} (h : w.ownsRow base 29 11 v (L.length + 1) (L.flatMap Gv.cells ++ Gv.cells x)) : Gs w v (L ++ [x]) := by
  refine ⟨?_, fun e => absurd e (by simp)⟩
  rw [List.length_append, flat_snoc]
  exact Sl.of_owns h

set_option maxHeartbeats 1600000 in
set_option maxRecDepth 100000 in
theorem giveNew_ok (w : World) (v : Value) (L : List Gv) (g : Gv) (day : Int) (hL : Gs w v L) (hr : rising L) (he : newErr L g day = 0) :
    Calls Try.prog 6 #[v, aggG g, .int .i64 day] w (RetGs3 (L ++ [newOne L g day]) (1 + (L.length : Int)) 0 w) := by
  obtain ⟨ao, cap, rfl, h1, h2⟩ := hL.form
  unfold maxLen at h2
  have hs : ¬ (g.fa = g.ta ∧ g.fc = g.tc) := fun h => by unfold newErr at he; rw [if_pos h] at he; cases he
  have ha : ¬ (g.qty = 0 ∨ day < 0 ∨ 1048576 < day) := fun h => by unfold newErr at he; rw [if_neg hs, if_pos h] at he; cases he
  have hl : L.length < 64 := by
    rcases Nat.lt_or_ge L.length 64 with h | h
    · exact h
    · unfold newErr at he; rw [if_neg hs, if_neg ha, if_pos h] at he; cases he
  have hb : (g.fa == g.ta) = false ∨ ((g.fa == g.ta) = true ∧ (g.fc == g.tc) = false) := by
    by_cases a : g.fa = g.ta
    · exact .inr ⟨beq_iff_eq.2 a, beq_eq_false_iff_ne.2 fun b => hs ⟨a, b⟩⟩
    · exact .inl (beq_eq_false_iff_ne.2 a)
  have q1 : (g.qty == 0) = false := beq_eq_false_iff_ne.2 fun h => ha (.inl h)
  have q2 : ¬ day < 0 := fun h => ha (.inr (.inl h))
  have q3 : ¬ 1048576 < day := fun h => ha (.inr (.inr h))
  clear ha hs he
  have HN : Hid (Gv.cells (newOne L g day) = _) := rfl
  unfold aggG
  rcases hb with b1 | ⟨b1, b2⟩
  · by_cases hn : 0 < L.length
    · obtain ⟨gb, o, rfl, c0, _⟩ := hL.row (L.length - 1) (by omega)
      have hid1 : L[L.length - 1].id = (L.length : Int) := by rw [hr (L.length - 1) (by omega)]; omega
      rw [hid1] at c0
      clear hid1
      have c0' : ∀ o1, (w.alloc o1).cell? ⟨gb, o + (L.length - 1) * 11, none⟩ = some (.int .i64 (L.length : Int)) := fun o1 =>
        (((Same.refl w).alloc o1).cell (World.block_lt_of_cell? w _ c0)).trans c0
      go_enter Try.func6, Try.ntmps6
      go_wp2_with fail
      have S1 := (Same.refl w).alloc (.cells #[.int .i64 (1 + (L.length : Int)), .int .i64 g.fa, .int .i64 g.fc, .int .i64 g.ta, .int .i64 g.tc, .int .i64 g.inst, .int .i64 g.qty, .int .i64 g.price, .int .i64 g.group, .int .i64 (day + 8), .int .i64 1] 29)
      have S2 := S1.alloc (.cells #[.int .i64 (1 + (L.length : Int)), .int .i64 g.fa, .int .i64 g.fc, .int .i64 g.ta, .int .i64 g.tc, .int .i64 g.inst, .int .i64 g.qty, .int .i64 g.price, .int .i64 g.group, .int .i64 (day + 8), .int .i64 1] 29)
      have hfull := (hL.full (by omega)).same S2
      have hone := one_made (w.alloc (.cells #[.int .i64 (1 + (L.length : Int)), .int .i64 g.fa, .int .i64 g.fc, .int .i64 g.ta, .int .i64 g.tc, .int .i64 g.inst, .int .i64 g.qty, .int .i64 g.price, .int .i64 g.group, .int .i64 (day + 8), .int .i64 1] 29)) (newOne L g day)
      simp only [World.size_alloc] at hone
      have HF := hid hfull
      have HO := hid hone
      clear hfull hone
      go_region_law (refine step_append_full rfl (.tmp 57) (.tmp 59) tyGives rfl (ao := some ⟨gb, o, none⟩) (n := L.length) (xs := L.flatMap Gv.cells) HF.out (ad := ⟨w.heap.size + 1, 0, none⟩) (m := 1) (c := 1) (ys := Gv.cells (newOne L g day)) HO.out (cells_one _) (by simp [Act.eval]) (by simp [Act.eval]) (by omega) (by unfold maxLen; omega) (by omega) ?_; intro v' w' ho hg)
      go_wp2_with fail
      go_ret3
      exact ⟨_, rfl, gs_new ho, S2.drew.grown hg fun k e => nomatch e⟩
    · have hL0 : L = [] := List.eq_nil_of_length_eq_zero (by omega)
      subst hL0
      obtain ⟨rfl, rfl⟩ : ao = none ∧ cap = 0 := by
        have := hL.2 rfl
        simp only [Value.slice.injEq] at this
        exact ⟨this.1, this.2.2⟩
      clear hr hn hL
      go_enter Try.func6, Try.ntmps6
      go_wp2_with fail
      have S1 := (Same.refl w).alloc (.cells #[.int .i64 1, .int .i64 g.fa, .int .i64 g.fc, .int .i64 g.ta, .int .i64 g.tc, .int .i64 g.inst, .int .i64 g.qty, .int .i64 g.price, .int .i64 g.group, .int .i64 (day + 8), .int .i64 1] 29)
      have S2 := S1.alloc (.cells #[.int .i64 1, .int .i64 g.fa, .int .i64 g.fc, .int .i64 g.ta, .int .i64 g.tc, .int .i64 g.inst, .int .i64 g.qty, .int .i64 g.price, .int .i64 g.group, .int .i64 (day + 8), .int .i64 1] 29)
      have hone := one_made (w.alloc (.cells #[.int .i64 1, .int .i64 g.fa, .int .i64 g.fc, .int .i64 g.ta, .int .i64 g.tc, .int .i64 g.inst, .int .i64 g.qty, .int .i64 g.price, .int .i64 g.group, .int .i64 (day + 8), .int .i64 1] 29)) (newOne [] g day)
      simp only [World.size_alloc] at hone
      have HO := hid hone
      clear hone
      have HF := fun w0 : World => hid (Sl.nil w0 29 11)
      go_region_law (refine step_append_full rfl (.tmp 57) (.tmp 59) tyGives rfl (ao := none) (n := 0) (xs := []) (HF _).out (ad := ⟨w.heap.size + 1, 0, none⟩) (m := 1) (c := 1) (ys := Gv.cells (newOne [] g day)) HO.out (cells_one _) (by simp [Act.eval]) (by simp [Act.eval]) (by omega) (by unfold maxLen; omega) (by omega) ?_; intro v' w' ho hg)
      go_wp2_with fail
      go_ret3
      exact ⟨_, rfl, gs_new (L := []) ho, S2.drew.grown hg fun k e => nomatch e⟩
  · by_cases hn : 0 < L.length
    · obtain ⟨gb, o, rfl, c0, _⟩ := hL.row (L.length - 1) (by omega)
      have hid1 : L[L.length - 1].id = (L.length : Int) := by rw [hr (L.length - 1) (by omega)]; omega
      rw [hid1] at c0
      clear hid1
      have c0' : ∀ o1, (w.alloc o1).cell? ⟨gb, o + (L.length - 1) * 11, none⟩ = some (.int .i64 (L.length : Int)) := fun o1 =>
        (((Same.refl w).alloc o1).cell (World.block_lt_of_cell? w _ c0)).trans c0
      go_enter Try.func6, Try.ntmps6
      go_wp2_with fail
      have S1 := (Same.refl w).alloc (.cells #[.int .i64 (1 + (L.length : Int)), .int .i64 g.fa, .int .i64 g.fc, .int .i64 g.ta, .int .i64 g.tc, .int .i64 g.inst, .int .i64 g.qty, .int .i64 g.price, .int .i64 g.group, .int .i64 (day + 8), .int .i64 1] 29)
      have S2 := S1.alloc (.cells #[.int .i64 (1 + (L.length : Int)), .int .i64 g.fa, .int .i64 g.fc, .int .i64 g.ta, .int .i64 g.tc, .int .i64 g.inst, .int .i64 g.qty, .int .i64 g.price, .int .i64 g.group, .int .i64 (day + 8), .int .i64 1] 29)
      have hfull := (hL.full (by omega)).same S2
      have hone := one_made (w.alloc (.cells #[.int .i64 (1 + (L.length : Int)), .int .i64 g.fa, .int .i64 g.fc, .int .i64 g.ta, .int .i64 g.tc, .int .i64 g.inst, .int .i64 g.qty, .int .i64 g.price, .int .i64 g.group, .int .i64 (day + 8), .int .i64 1] 29)) (newOne L g day)
      simp only [World.size_alloc] at hone
      have HF := hid hfull
      have HO := hid hone
      clear hfull hone
      go_region_law (refine step_append_full rfl (.tmp 57) (.tmp 59) tyGives rfl (ao := some ⟨gb, o, none⟩) (n := L.length) (xs := L.flatMap Gv.cells) HF.out (ad := ⟨w.heap.size + 1, 0, none⟩) (m := 1) (c := 1) (ys := Gv.cells (newOne L g day)) HO.out (cells_one _) (by simp [Act.eval]) (by simp [Act.eval]) (by omega) (by unfold maxLen; omega) (by omega) ?_; intro v' w' ho hg)
      go_wp2_with fail
      go_ret3
      exact ⟨_, rfl, gs_new ho, S2.drew.grown hg fun k e => nomatch e⟩
    · have hL0 : L = [] := List.eq_nil_of_length_eq_zero (by omega)
      subst hL0
      obtain ⟨rfl, rfl⟩ : ao = none ∧ cap = 0 := by
        have := hL.2 rfl
        simp only [Value.slice.injEq] at this
        exact ⟨this.1, this.2.2⟩
      clear hr hn hL
      go_enter Try.func6, Try.ntmps6
      go_wp2_with fail
      have S1 := (Same.refl w).alloc (.cells #[.int .i64 1, .int .i64 g.fa, .int .i64 g.fc, .int .i64 g.ta, .int .i64 g.tc, .int .i64 g.inst, .int .i64 g.qty, .int .i64 g.price, .int .i64 g.group, .int .i64 (day + 8), .int .i64 1] 29)
      have S2 := S1.alloc (.cells #[.int .i64 1, .int .i64 g.fa, .int .i64 g.fc, .int .i64 g.ta, .int .i64 g.tc, .int .i64 g.inst, .int .i64 g.qty, .int .i64 g.price, .int .i64 g.group, .int .i64 (day + 8), .int .i64 1] 29)
      have hone := one_made (w.alloc (.cells #[.int .i64 1, .int .i64 g.fa, .int .i64 g.fc, .int .i64 g.ta, .int .i64 g.tc, .int .i64 g.inst, .int .i64 g.qty, .int .i64 g.price, .int .i64 g.group, .int .i64 (day + 8), .int .i64 1] 29)) (newOne [] g day)
      simp only [World.size_alloc] at hone
      have HO := hid hone
      clear hone
      have HF := fun w0 : World => hid (Sl.nil w0 29 11)
      go_region_law (refine step_append_full rfl (.tmp 57) (.tmp 59) tyGives rfl (ao := none) (n := 0) (xs := []) (HF _).out (ad := ⟨w.heap.size + 1, 0, none⟩) (m := 1) (c := 1) (ys := Gv.cells (newOne [] g day)) HO.out (cells_one _) (by simp [Act.eval]) (by simp [Act.eval]) (by omega) (by unfold maxLen; omega) (by omega) ?_; intro v' w' ho hg)
      go_wp2_with fail
      go_ret3
      exact ⟨_, rfl, gs_new (L := []) ho, S2.drew.grown hg fun k e => nomatch e⟩
end Go.Proofs.Ytijdjpmceclmhaa
