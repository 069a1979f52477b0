/- GIVE's reference: New. Printed by mkgr3.py. -/
import Derived.Test.YtijdjpmceclmhaaGr2
import Derived.Deep.RegionHeld3
namespace Go.Proofs.Ytijdjpmceclmhaa
open Go.RowKit

theorem step_append_own {P : Program} {ops : Array Oper} {o : Oper} {a : Act} {w : World} {K : Act → World → Prop} {Q : Exit → Act → World → Prop} {E : Prop} (hgd : o.guard = none) (s x : Operand)
    {t e : TypeId} {size bytes : Nat} {z : Value} (T : RowTy P t e size bytes z) (ho : o.op = .call { callee := .builtin .append, args := #[s, x], argTypes := #[t, t] })
    {base : Nat} {v : Value} {n : Nat} {xs : List Value} (hown : w.ownsRow base e size v n xs) {e' : TypeId} {y : Value} {m : Nat} {ys : List Value} (hy : Sl w e' size y m ys) (hs : a.eval s = v) (hx : a.eval x = y)
    (h1 : ∀ u ∈ ys, u.oneCell' = true) (h63 : n + m ≤ maxLen) (hbytes : (n + m) * bytes ≤ 140737488355328) (hbase : base ≤ w.heap.size)
    (h : ∀ v' w', w'.ownsRow base e size v' (n + m) (xs ++ ys) → w.grownBy w' v.ownBlock → K (a.put o.dst v') w') :
    if Region.wanted o (yielded ops a.tmps) = true then Oper.wp P o a w K Q else E := by
  have hw : Region.wanted o (yielded ops a.tmps) = true := by simp [Region.wanted, hgd]
  rw [if_pos hw]
  obtain ⟨v', w', hr, q1, q2⟩ := run_append_sl (P := P) w T o.type hown hy h1 h63 hbytes hbase
  have hfin := h v' w' q1 q2
  unfold Oper.wp execOp
  simp only [ho, resolve, invoke, builtin, Sem.run_bind, Sem.run_pure, Result.andThen_ok, List.map_toArray, List.map_cons, List.map_nil, hs, hx, hr]
  exact hfin
set_option maxHeartbeats 1600000 in
set_option maxRecDepth 100000 in
theorem rgNew_err (w : World) (v : Value) (L : List Gv) (g : Gv) (day : Int) (hL : Gs w v L) (he : newErr L g day ≠ 0) :
    Calls Try.prog 10 #[v, aggG g, .int .i64 day] w (RetGs3 [] 0 (newErr L g day) w) := by
  obtain ⟨ao, cap, rfl, h1, h2⟩ := hL.form
  unfold maxLen at h2
  unfold aggG
  by_cases hs : g.fa = g.ta ∧ g.fc = g.tc
  · have e : newErr L g day = 24 := by unfold newErr; rw [if_pos hs]
    rw [e]; clear he e
    have b1 : (g.fa == g.ta) = true := beq_iff_eq.2 hs.1
    have b2 : (g.fc == g.tc) = true := beq_iff_eq.2 hs.2
    clear hs
    go_enter Try.func10, Try.ntmps10
    go_wp2_with fail
    go_ret3
    exact ⟨_, rfl, Gs.nil _, (Same.refl w).alloc _⟩
  · have hb : (g.fa == g.ta) = false ∨ ((g.fa == g.ta) = true ∧ (g.fc == g.tc) = false) := by
      by_cases a : g.fa = g.ta
      · exact .inr ⟨beq_iff_eq.2 a, beq_eq_false_iff_ne.2 fun b => hs ⟨a, b⟩⟩
      · exact .inl (beq_eq_false_iff_ne.2 a)
    by_cases ha : g.qty = 0 ∨ day < 0 ∨ 1048576 < day
    · have e : newErr L g day = 2 := by unfold newErr; rw [if_neg hs, if_pos ha]
      rw [e]; clear he e hs
      have hc : (g.qty == 0) = true ∨ ((g.qty == 0) = false ∧ day < 0) ∨ ((g.qty == 0) = false ∧ ¬ day < 0 ∧ 1048576 < day) := by
        by_cases a : g.qty = 0
        · exact .inl (beq_iff_eq.2 a)
        · by_cases b : day < 0
          · exact .inr (.inl ⟨beq_eq_false_iff_ne.2 a, b⟩)
          · exact .inr (.inr ⟨beq_eq_false_iff_ne.2 a, b, by rcases ha with h | h | h; exact absurd h a; exact absurd h b; exact h⟩)
      clear ha
      rcases hb with b1 | ⟨b1, b2⟩ <;> rcases hc with q1 | ⟨q1, q2⟩ | ⟨q1, q2, q3⟩
      all_goals
        go_enter Try.func10, Try.ntmps10
        go_wp2_with fail
        go_ret3
        exact ⟨_, rfl, Gs.nil _, (Same.refl w).alloc _⟩
    · have hl : 64 ≤ L.length := by
        rcases Nat.lt_or_ge L.length 64 with h | h
        · exact absurd (by unfold newErr; rw [if_neg hs, if_neg ha, if_neg (by omega)]) he
        · exact h
      have e : newErr L g day = 25 := by unfold newErr; rw [if_neg hs, if_neg ha, if_pos hl]
      rw [e]; clear he e hs
      have q1 : (g.qty == 0) = false := beq_eq_false_iff_ne.2 fun h => ha (.inl h)
      have q2 : ¬ day < 0 := fun h => ha (.inr (.inl h))
      have q3 : ¬ 1048576 < day := fun h => ha (.inr (.inr h))
      clear ha
      rcases hb with b1 | ⟨b1, b2⟩
      all_goals
        go_enter Try.func10, Try.ntmps10
        go_wp2_with fail
        go_ret3
        exact ⟨_, rfl, Gs.nil _, (Same.refl w).alloc _⟩

set_option maxHeartbeats 6400000 in
set_option maxRecDepth 100000 in
theorem rgNew_ok (w : World) (v : Value) (L : List Gv) (g : Gv) (day : Int) (hL : Gs w v L) (hr : rising L) (he : newErr L g day = 0) :
    Calls Try.prog 10 #[v, aggG g, .int .i64 day] w (RetGs3 (L ++ [newOne L g day]) (1 + (L.length : Int)) 0 w) := by
  obtain ⟨ao, cap, rfl, h1, h2⟩ := hL.form
  unfold maxLen at h2
  have hs : ¬ (g.fa = g.ta ∧ g.fc = g.tc) := fun h => by unfold newErr at he; rw [if_pos h] at he; cases he
  have ha : ¬ (g.qty = 0 ∨ day < 0 ∨ 1048576 < day) := fun h => by unfold newErr at he; rw [if_neg hs, if_pos h] at he; cases he
  have hl : L.length < 64 := by
    rcases Nat.lt_or_ge L.length 64 with h | h
    · exact h
    · unfold newErr at he; rw [if_neg hs, if_neg ha, if_pos h] at he; cases he
  have hb : (g.fa == g.ta) = false ∨ ((g.fa == g.ta) = true ∧ (g.fc == g.tc) = false) := by
    by_cases a : g.fa = g.ta
    · exact .inr ⟨beq_iff_eq.2 a, beq_eq_false_iff_ne.2 fun b => hs ⟨a, b⟩⟩
    · exact .inl (beq_eq_false_iff_ne.2 a)
  have q1 : (g.qty == 0) = false := beq_eq_false_iff_ne.2 fun h => ha (.inl h)
  have q2 : ¬ day < 0 := fun h => ha (.inr (.inl h))
  have q3 : ¬ 1048576 < day := fun h => ha (.inr (.inr h))
  have HL := hid hL
  clear ha hs he
  unfold aggG
  rcases hb with b1 | ⟨b1, b2⟩
  all_goals
    by_cases hn : 0 < L.length
    case pos =>
      obtain ⟨gb, o, rfl, c0, _⟩ := hL.row (L.length - 1) (by omega)
      have hid1 : L[L.length - 1].id = (L.length : Int) := by rw [hr (L.length - 1) (by omega)]; omega
      rw [hid1] at c0
      clear hid1 hr hL
      have c0' : ∀ o1, (w.alloc o1).cell? ⟨gb, o + (L.length - 1) * 11, none⟩ = some (.int .i64 (L.length : Int)) := fun o1 =>
        (((Same.refl w).alloc o1).cell (World.block_lt_of_cell? w _ c0)).trans c0
      go_enter Try.func10, Try.ntmps10
      go_upto_region 13 with fail
      clear c0' c0
      have S1 := hid ((Same.refl w).alloc (.cells #[.int .i64 ((L.length : Int) + 1), .int .i64 g.fa, .int .i64 g.fc, .int .i64 g.ta, .int .i64 g.tc, .int .i64 g.inst, .int .i64 g.qty, .int .i64 g.price, .int .i64 g.group, .int .i64 (day + 8), .int .i64 1] 29))
      have C1 := hid (cells29 (heap_alloc_new w (.cells #[.int .i64 ((L.length : Int) + 1), .int .i64 g.fa, .int .i64 g.fc, .int .i64 g.ta, .int .i64 g.tc, .int .i64 g.inst, .int .i64 g.qty, .int .i64 g.price, .int .i64 g.group, .int .i64 (day + 8), .int .i64 1] 29)))
      have HL1 := hid (HL.out.same S1.out)
      have hbx : w.heap.size < (w.alloc (.cells #[.int .i64 ((L.length : Int) + 1), .int .i64 g.fa, .int .i64 g.fc, .int .i64 g.ta, .int .i64 g.tc, .int .i64 g.inst, .int .i64 g.qty, .int .i64 g.price, .int .i64 g.group, .int .i64 (day + 8), .int .i64 1] 29)).heap.size := by simp
      have hln : (L : List Gv).length ≤ 64 := by omega
      generalize w.alloc (.cells #[.int .i64 ((L.length : Int) + 1), .int .i64 g.fa, .int .i64 g.fc, .int .i64 g.ta, .int .i64 g.tc, .int .i64 g.inst, .int .i64 g.qty, .int .i64 g.price, .int .i64 g.group, .int .i64 (day + 8), .int .i64 1] 29) = w1 at *
      generalize hbe : w.heap.size = bx at *
      have HBe := hid hbe
      clear hbe
      go_wp2_with (at_builtin; refine wpList_append_sl rfl (.tmp 47) (.tmp 48) tyGives rfl (World.ownsRow_nil w1 w1.heap.size 29 11) HL1.out.1 rfl rfl (flat_oneCell L) (by unfold maxLen; simp; omega) (by simp; omega) (Nat.le_refl _) ?_; intro x2 w2 ho2 hg2; rw [Nat.zero_add, List.nil_append] at ho2; have S2 := hid ((Same.refl w1).grown_nil hg2); have O2 := hid ho2; have hf2 := Sl.form (Sl.of_owns ho2); obtain ⟨a2, qc2, rfl, _, _⟩ := hf2; clear ho2 hg2)
      have HC2 : Hid (∀ wz : World, Same w1 wz → wz.cell? ⟨bx, 0, none⟩ = some (.int .i64 ((L.length : Int) + 1)) ∧ wz.cell? ⟨bx, 1, none⟩ = some (.int .i64 g.fa) ∧ wz.cell? ⟨bx, 2, none⟩ = some (.int .i64 g.fc) ∧ wz.cell? ⟨bx, 3, none⟩ = some (.int .i64 g.ta) ∧ wz.cell? ⟨bx, 4, none⟩ = some (.int .i64 g.tc) ∧ wz.cell? ⟨bx, 5, none⟩ = some (.int .i64 g.inst) ∧ wz.cell? ⟨bx, 6, none⟩ = some (.int .i64 g.qty) ∧ wz.cell? ⟨bx, 7, none⟩ = some (.int .i64 g.price) ∧ wz.cell? ⟨bx, 8, none⟩ = some (.int .i64 g.group) ∧ wz.cell? ⟨bx, 9, none⟩ = some (.int .i64 (day + 8)) ∧ wz.cell? ⟨bx, 10, none⟩ = some (.int .i64 1)) := fun wz Z => by
        obtain ⟨⟨k0, k1, k2, k3, k4, k5, k6, k7, k8, k9, k10⟩, _⟩ := C1.out
        exact ⟨(Z.cell (p := ⟨bx, 0, none⟩) hbx).trans k0, (Z.cell (p := ⟨bx, 1, none⟩) hbx).trans k1, (Z.cell (p := ⟨bx, 2, none⟩) hbx).trans k2, (Z.cell (p := ⟨bx, 3, none⟩) hbx).trans k3, (Z.cell (p := ⟨bx, 4, none⟩) hbx).trans k4, (Z.cell (p := ⟨bx, 5, none⟩) hbx).trans k5, (Z.cell (p := ⟨bx, 6, none⟩) hbx).trans k6, (Z.cell (p := ⟨bx, 7, none⟩) hbx).trans k7, (Z.cell (p := ⟨bx, 8, none⟩) hbx).trans k8, (Z.cell (p := ⟨bx, 9, none⟩) hbx).trans k9, (Z.cell (p := ⟨bx, 10, none⟩) hbx).trans k10⟩
      obtain ⟨k0, k1, k2, k3, k4, k5, k6, k7, k8, k9, k10⟩ := HC2.out w2 S2.out
      have hone := one_made w2.drew { g with id := ((L.length : Int) + 1), state := 1, day := day + 8 }
      have HO := hid hone
      have T3 := hid ((Same.refl w2).drew.alloc (.cells #[.int .i64 ((L.length : Int) + 1), .int .i64 g.fa, .int .i64 g.fc, .int .i64 g.ta, .int .i64 g.tc, .int .i64 g.inst, .int .i64 g.qty, .int .i64 g.price, .int .i64 g.group, .int .i64 (day + 8), .int .i64 1] 29))
      have O3 := hid (show (w2.drew.alloc (.cells #[.int .i64 ((L.length : Int) + 1), .int .i64 g.fa, .int .i64 g.fc, .int .i64 g.ta, .int .i64 g.tc, .int .i64 g.inst, .int .i64 g.qty, .int .i64 g.price, .int .i64 g.group, .int .i64 (day + 8), .int .i64 1] 29)).ownsRow w1.heap.size 29 11 (.slice a2 (L : List Gv).length qc2) (L : List Gv).length ((L : List Gv).flatMap Gv.cells) from by
        obtain ⟨z1, z2⟩ := O2.out
        refine ⟨z1, ?_⟩
        rcases z2 with z2 | ⟨g', cap', cur, z3, z4, z5, z6⟩
        · exact .inl z2
        · exact .inr ⟨g', cap', cur, z3, z4, (T3.out.block g' (Array.getElem?_eq_some_iff.1 z5).1 fun x => x).trans z5, z6⟩)
      have hz2 := S2.out.size
      have hz3 : w1.heap.size ≤ (w2.drew.alloc (.cells #[.int .i64 ((L.length : Int) + 1), .int .i64 g.fa, .int .i64 g.fc, .int .i64 g.ta, .int .i64 g.tc, .int .i64 g.inst, .int .i64 g.qty, .int .i64 g.price, .int .i64 g.group, .int .i64 (day + 8), .int .i64 1] 29)).heap.size := (S2.out.trans T3.out).size
      clear hone
      go_wp2_with fail
      go_region_held3 (fun w' => w'.cell? ⟨bx, 0, none⟩ = some (.int .i64 ((L.length : Int) + 1)) ∧ w'.cell? ⟨bx, 1, none⟩ = some (.int .i64 g.fa) ∧ w'.cell? ⟨bx, 2, none⟩ = some (.int .i64 g.fc) ∧ w'.cell? ⟨bx, 3, none⟩ = some (.int .i64 g.ta) ∧ w'.cell? ⟨bx, 4, none⟩ = some (.int .i64 g.tc) ∧ w'.cell? ⟨bx, 5, none⟩ = some (.int .i64 g.inst) ∧ w'.cell? ⟨bx, 6, none⟩ = some (.int .i64 g.qty) ∧ w'.cell? ⟨bx, 7, none⟩ = some (.int .i64 g.price) ∧ w'.cell? ⟨bx, 8, none⟩ = some (.int .i64 g.group) ∧ w'.cell? ⟨bx, 9, none⟩ = some (.int .i64 (day + 8)) ∧ w'.cell? ⟨bx, 10, none⟩ = some (.int .i64 1))
        (first | with_reducible exact ⟨by assumption, by assumption, by assumption, by assumption, by assumption, by assumption, by assumption, by assumption, by assumption, by assumption, by assumption⟩ | go_keep)
        ((refine step_append_own (by rfl) (.tmp 50) (.tmp 52) tyGives (by rfl) O3.out HO.out (by rfl) (by rfl) (cells_one _) (by unfold maxLen; omega) (by omega) hz3 ?_; intro x4 w4 ho4 hg4; have S4 := hid ((S2.out.trans T3.out).grown hg4 (fun k e => (World.ownsRow.lt O3.out k e).1)); have HO4 := hid ho4; obtain ⟨m0, m1, m2, m3, m4, m5, m6, m7, m8, m9, m10⟩ := HC2.out w4 S4.out; clear ho4 hg4))
      clear k0 k1 k2 k3 k4 k5 k6 k7 k8 k9 k10 m0 m1 m2 m3 m4 m5 m6 m7 m8 m9 m10
      go_wp2_with fail
      go_ret3
      have hnw : newOne L g day = { g with id := ((L.length : Int) + 1), state := 1, day := day + 8 } := by unfold newOne; rw [Int.add_comm 1]
      rw [hnw, show (1 + (L.length : Int)) = (L.length : Int) + 1 from Int.add_comm _ _]
      exact ⟨_, rfl, gs_new HO4.out, S1.out.trans S4.out⟩
    case neg =>
      have hL0 : L = [] := List.eq_nil_of_length_eq_zero (by omega)
      subst hL0
      obtain ⟨rfl, rfl⟩ : ao = none ∧ cap = 0 := by
        have := hL.2 rfl
        simp only [Value.slice.injEq] at this
        exact ⟨this.1, this.2.2⟩
      clear hr hn hL
      go_enter Try.func10, Try.ntmps10
      go_upto_region 13 with fail
      have S1 := hid ((Same.refl w).alloc (.cells #[.int .i64 1, .int .i64 g.fa, .int .i64 g.fc, .int .i64 g.ta, .int .i64 g.tc, .int .i64 g.inst, .int .i64 g.qty, .int .i64 g.price, .int .i64 g.group, .int .i64 (day + 8), .int .i64 1] 29))
      have C1 := hid (cells29 (heap_alloc_new w (.cells #[.int .i64 1, .int .i64 g.fa, .int .i64 g.fc, .int .i64 g.ta, .int .i64 g.tc, .int .i64 g.inst, .int .i64 g.qty, .int .i64 g.price, .int .i64 g.group, .int .i64 (day + 8), .int .i64 1] 29)))
      have HL1 := hid (HL.out.same S1.out)
      have hbx : w.heap.size < (w.alloc (.cells #[.int .i64 1, .int .i64 g.fa, .int .i64 g.fc, .int .i64 g.ta, .int .i64 g.tc, .int .i64 g.inst, .int .i64 g.qty, .int .i64 g.price, .int .i64 g.group, .int .i64 (day + 8), .int .i64 1] 29)).heap.size := by simp
      have hln : ([] : List Gv).length ≤ 64 := by simp
      generalize w.alloc (.cells #[.int .i64 1, .int .i64 g.fa, .int .i64 g.fc, .int .i64 g.ta, .int .i64 g.tc, .int .i64 g.inst, .int .i64 g.qty, .int .i64 g.price, .int .i64 g.group, .int .i64 (day + 8), .int .i64 1] 29) = w1 at *
      generalize hbe : w.heap.size = bx at *
      have HBe := hid hbe
      clear hbe
      go_wp2_with fail
      have S2 := hid (Same.refl w1)
      have O2 := hid (World.ownsRow_nil w1 w1.heap.size 29 11)
      have HC2 : Hid (∀ wz : World, Same w1 wz → wz.cell? ⟨bx, 0, none⟩ = some (.int .i64 1) ∧ wz.cell? ⟨bx, 1, none⟩ = some (.int .i64 g.fa) ∧ wz.cell? ⟨bx, 2, none⟩ = some (.int .i64 g.fc) ∧ wz.cell? ⟨bx, 3, none⟩ = some (.int .i64 g.ta) ∧ wz.cell? ⟨bx, 4, none⟩ = some (.int .i64 g.tc) ∧ wz.cell? ⟨bx, 5, none⟩ = some (.int .i64 g.inst) ∧ wz.cell? ⟨bx, 6, none⟩ = some (.int .i64 g.qty) ∧ wz.cell? ⟨bx, 7, none⟩ = some (.int .i64 g.price) ∧ wz.cell? ⟨bx, 8, none⟩ = some (.int .i64 g.group) ∧ wz.cell? ⟨bx, 9, none⟩ = some (.int .i64 (day + 8)) ∧ wz.cell? ⟨bx, 10, none⟩ = some (.int .i64 1)) := fun wz Z => by
        obtain ⟨⟨k0, k1, k2, k3, k4, k5, k6, k7, k8, k9, k10⟩, _⟩ := C1.out
        exact ⟨(Z.cell (p := ⟨bx, 0, none⟩) hbx).trans k0, (Z.cell (p := ⟨bx, 1, none⟩) hbx).trans k1, (Z.cell (p := ⟨bx, 2, none⟩) hbx).trans k2, (Z.cell (p := ⟨bx, 3, none⟩) hbx).trans k3, (Z.cell (p := ⟨bx, 4, none⟩) hbx).trans k4, (Z.cell (p := ⟨bx, 5, none⟩) hbx).trans k5, (Z.cell (p := ⟨bx, 6, none⟩) hbx).trans k6, (Z.cell (p := ⟨bx, 7, none⟩) hbx).trans k7, (Z.cell (p := ⟨bx, 8, none⟩) hbx).trans k8, (Z.cell (p := ⟨bx, 9, none⟩) hbx).trans k9, (Z.cell (p := ⟨bx, 10, none⟩) hbx).trans k10⟩
      obtain ⟨k0, k1, k2, k3, k4, k5, k6, k7, k8, k9, k10⟩ := HC2.out w1 S2.out
      have hone := one_made w1.drew { g with id := 1, state := 1, day := day + 8 }
      have HO := hid hone
      have T3 := hid ((Same.refl w1).drew.alloc (.cells #[.int .i64 1, .int .i64 g.fa, .int .i64 g.fc, .int .i64 g.ta, .int .i64 g.tc, .int .i64 g.inst, .int .i64 g.qty, .int .i64 g.price, .int .i64 g.group, .int .i64 (day + 8), .int .i64 1] 29))
      have O3 := hid (show (w1.drew.alloc (.cells #[.int .i64 1, .int .i64 g.fa, .int .i64 g.fc, .int .i64 g.ta, .int .i64 g.tc, .int .i64 g.inst, .int .i64 g.qty, .int .i64 g.price, .int .i64 g.group, .int .i64 (day + 8), .int .i64 1] 29)).ownsRow w1.heap.size 29 11 (.slice none 0 0) ([] : List Gv).length (([] : List Gv).flatMap Gv.cells) from by
        obtain ⟨z1, z2⟩ := O2.out
        refine ⟨z1, ?_⟩
        rcases z2 with z2 | ⟨g', cap', cur, z3, z4, z5, z6⟩
        · exact .inl z2
        · exact .inr ⟨g', cap', cur, z3, z4, (T3.out.block g' (Array.getElem?_eq_some_iff.1 z5).1 fun x => x).trans z5, z6⟩)
      have hz2 := S2.out.size
      have hz3 : w1.heap.size ≤ (w1.drew.alloc (.cells #[.int .i64 1, .int .i64 g.fa, .int .i64 g.fc, .int .i64 g.ta, .int .i64 g.tc, .int .i64 g.inst, .int .i64 g.qty, .int .i64 g.price, .int .i64 g.group, .int .i64 (day + 8), .int .i64 1] 29)).heap.size := (S2.out.trans T3.out).size
      clear hone
      go_wp2_with fail
      go_region_held3 (fun w' => w'.cell? ⟨bx, 0, none⟩ = some (.int .i64 1) ∧ w'.cell? ⟨bx, 1, none⟩ = some (.int .i64 g.fa) ∧ w'.cell? ⟨bx, 2, none⟩ = some (.int .i64 g.fc) ∧ w'.cell? ⟨bx, 3, none⟩ = some (.int .i64 g.ta) ∧ w'.cell? ⟨bx, 4, none⟩ = some (.int .i64 g.tc) ∧ w'.cell? ⟨bx, 5, none⟩ = some (.int .i64 g.inst) ∧ w'.cell? ⟨bx, 6, none⟩ = some (.int .i64 g.qty) ∧ w'.cell? ⟨bx, 7, none⟩ = some (.int .i64 g.price) ∧ w'.cell? ⟨bx, 8, none⟩ = some (.int .i64 g.group) ∧ w'.cell? ⟨bx, 9, none⟩ = some (.int .i64 (day + 8)) ∧ w'.cell? ⟨bx, 10, none⟩ = some (.int .i64 1))
        (first | with_reducible exact ⟨by assumption, by assumption, by assumption, by assumption, by assumption, by assumption, by assumption, by assumption, by assumption, by assumption, by assumption⟩ | go_keep)
        ((refine step_append_own (by rfl) (.tmp 50) (.tmp 52) tyGives (by rfl) O3.out HO.out (by rfl) (by rfl) (cells_one _) (by unfold maxLen; omega) (by omega) hz3 ?_; intro x4 w4 ho4 hg4; have S4 := hid ((S2.out.trans T3.out).grown hg4 (fun k e => (World.ownsRow.lt O3.out k e).1)); have HO4 := hid ho4; obtain ⟨m0, m1, m2, m3, m4, m5, m6, m7, m8, m9, m10⟩ := HC2.out w4 S4.out; clear ho4 hg4))
      clear k0 k1 k2 k3 k4 k5 k6 k7 k8 k9 k10 m0 m1 m2 m3 m4 m5 m6 m7 m8 m9 m10
      go_wp2_with fail
      go_ret3
      have hnw : newOne [] g day = { g with id := 1, state := 1, day := day + 8 } := by unfold newOne; rfl
      rw [hnw]
      exact ⟨_, rfl, gs_new HO4.out, S1.out.trans S4.out⟩
end Go.Proofs.Ytijdjpmceclmhaa
