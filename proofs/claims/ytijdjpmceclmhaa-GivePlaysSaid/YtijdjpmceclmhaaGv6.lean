/- GIVE: the walk of GiveStays. -/
import Derived.Test.YtijdjpmceclmhaaGv5
namespace Go.Proofs.Ytijdjpmceclmhaa
open Go.RowKit

structure Dv where
  kind : Int
  day : Int
  id : Int
  state : Int
  g : Gv
def Dv.cells (d : Dv) : List Value := [i64 d.kind, i64 d.day, i64 d.id, i64 d.state] ++ d.g.cells
/-- The slice value v reads as these steps. -/
def Ds (w : World) (e : TypeId) (v : Value) (L : List Dv) : Prop := Sl w e 15 v L.length (L.flatMap Dv.cells)
theorem Ds.form {w : World} {e : TypeId} {v : Value} {L : List Dv} (h : Ds w e v L) : ∃ ao cap, v = .slice ao L.length cap ∧ L.length ≤ cap ∧ cap ≤ maxLen := Sl.form h
theorem Ds.same {w w' : World} {e : TypeId} {v : Value} {L : List Dv} (h : Ds w e v L) (k : Same w w') : Ds w' e v L := Sl.same h k
def Cells15 (w : World) (g b : Nat) (d : Dv) : Prop :=
  w.cell? ⟨g, b, none⟩ = some (.int .i64 d.kind) ∧ w.cell? ⟨g, b + 1, none⟩ = some (.int .i64 d.day) ∧ w.cell? ⟨g, b + 2, none⟩ = some (.int .i64 d.id) ∧ w.cell? ⟨g, b + 3, none⟩ = some (.int .i64 d.state) ∧
  w.cell? ⟨g, b + 4, none⟩ = some (.int .i64 d.g.id) ∧ w.cell? ⟨g, b + 5, none⟩ = some (.int .i64 d.g.fa) ∧ w.cell? ⟨g, b + 6, none⟩ = some (.int .i64 d.g.fc) ∧ w.cell? ⟨g, b + 7, none⟩ = some (.int .i64 d.g.ta) ∧
  w.cell? ⟨g, b + 8, none⟩ = some (.int .i64 d.g.tc) ∧ w.cell? ⟨g, b + 9, none⟩ = some (.int .i64 d.g.inst) ∧ w.cell? ⟨g, b + 10, none⟩ = some (.int .i64 d.g.qty) ∧ w.cell? ⟨g, b + 11, none⟩ = some (.int .i64 d.g.price) ∧
  w.cell? ⟨g, b + 12, none⟩ = some (.int .i64 d.g.group) ∧ w.cell? ⟨g, b + 13, none⟩ = some (.int .i64 d.g.day) ∧ w.cell? ⟨g, b + 14, none⟩ = some (.int .i64 d.g.state)
theorem Ds.row {w : World} {e : TypeId} {ao : Option Addr} {cap : Nat} {L : List Dv} (h : Ds w e (.slice ao L.length cap) L) (k : Nat) (hk : k < L.length) :
    ∃ g o, ao = some ⟨g, o, none⟩ ∧ Cells15 w g (o + k * 15) L[k] := by
  obtain ⟨g, o, h1, h2⟩ := Sl.cells h (by omega)
  have c : ∀ j u, (Dv.cells L[k])[j]? = some u → w.cell? ⟨g, o + (k * 15 + j), none⟩ = some u := fun j u hu => h2 _ u (by
    have hj : j < 15 := by
      have := (List.getElem?_eq_some_iff.1 hu).1
      simpa [Dv.cells, Gv.cells] using this
    rw [flat_at Dv.cells 15 (fun _ => rfl) L k j hk hj]
    exact hu)
  refine ⟨g, o, h1, c 0 _ rfl, ?_, ?_, ?_, ?_, ?_, ?_, ?_, ?_, ?_, ?_, ?_, ?_, ?_, ?_⟩
  · rw [Nat.add_assoc]; exact c 1 _ rfl
  · rw [Nat.add_assoc]; exact c 2 _ rfl
  · rw [Nat.add_assoc]; exact c 3 _ rfl
  · rw [Nat.add_assoc]; exact c 4 _ rfl
  · rw [Nat.add_assoc]; exact c 5 _ rfl
  · rw [Nat.add_assoc]; exact c 6 _ rfl
  · rw [Nat.add_assoc]; exact c 7 _ rfl
  · rw [Nat.add_assoc]; exact c 8 _ rfl
  · rw [Nat.add_assoc]; exact c 9 _ rfl
  · rw [Nat.add_assoc]; exact c 10 _ rfl
  · rw [Nat.add_assoc]; exact c 11 _ rfl
  · rw [Nat.add_assoc]; exact c 12 _ rfl
  · rw [Nat.add_assoc]; exact c 13 _ rfl
  · rw [Nat.add_assoc]; exact c 14 _ rfl

/-- what one step may do to the give-ups -/
def okStep (L L' : List Gv) : Prop := rising L' ∧ L.length ≤ L'.length ∧ L'.length ≤ 64 ∧ ∀ k (h : k < L.length) (h' : k < L'.length), L'[k] = L[k] ∨ (L[k].state = 1 ∧ ∃ st, st ≠ 1 ∧ L'[k] = L[k].to st)
theorem ok_new (L : List Gv) (g : Gv) (day : Int) (hr : rising L) (he : newErr L g day = 0) : okStep L (L ++ [newOne L g day]) := by
  have hl : L.length < 64 := by
    rcases Nat.lt_or_ge L.length 64 with h | h
    · exact h
    · unfold newErr at he
      split at he
      · cases he
      · split at he
        · cases he
        · first | (rw [if_pos h] at he; cases he) | exact absurd he (by decide)
  refine ⟨fun k hk => ?_, by simp, by simp; omega, fun k h h' => .inl (List.getElem_append_left h)⟩
  by_cases h : k < L.length
  · rw [List.getElem_append_left h]; exact hr k h
  · have : k = L.length := by simp at hk; omega
    subst this
    simp [newOne]; omega
theorem turn_facts {L : List Gv} {id st : Int} (he : turnErr L id st = 0) : fnd L id < L.length ∧ st ≠ 1 ∧ ∀ h, (L[fnd L id]'h).state = 1 := by
  unfold turnErr at he
  split at he
  · cases he
  · rename_i h1
    split at he
    · cases he
    · rename_i h2
      split at he
      · cases he
      · rename_i h3
        refine ⟨by omega, by omega, fun h => ?_⟩
        have h4 : (L[fnd L id]?.map Gv.state) = some 1 := by simpa using h3
        rw [List.getElem?_eq_getElem h] at h4
        simpa using h4
theorem turned_at (L : List Gv) (id st : Int) (k : Nat) (h : k < L.length) (h' : k < (turned L id st).length) : (turned L id st)[k] = if fnd L id = k then L[k].to st else L[k] := by
  simp only [turned, List.getElem_modify]
theorem ok_turn (L : List Gv) (id st : Int) (hr : rising L) (hl : L.length ≤ 64) (he : turnErr L id st = 0) : okStep L (turned L id st) := by
  obtain ⟨h1, h2, h3⟩ := turn_facts he
  refine ⟨fun k hk => ?_, by rw [turned_length]; omega, by rw [turned_length]; exact hl, fun k h h' => ?_⟩
  · have hk2 : k < L.length := by rw [turned_length] at hk; exact hk
    rw [turned_at L id st k hk2 hk]
    split
    · exact hr k hk2
    · exact hr k hk2
  · rw [turned_at L id st k h h']
    split
    · rename_i e
      subst e
      exact .inr ⟨h3 _, st, h2, rfl⟩
    · exact .inl rfl

theorem rising_of_ok {L L' : List Gv} (h : okStep L L') : rising L' := h.1

set_option maxHeartbeats 3200000 in
set_option maxRecDepth 100000 in
theorem giveStaysWalk (w : World) (e : TypeId) (v : Value) (D : List Dv) (hD : Ds w e v D) :
    Calls Try.prog 3 #[v] w (RetSame (.bool true) w) := by
  obtain ⟨ao, cap, rfl, h1, h2⟩ := hD.form
  unfold maxLen at h2
  have HV := hid giveLives
  go_enter Try.func3, Try.ntmps3
  go_wp2_with fail
  go_loopw [3, 4] (fun all i wr => ∃ k : Nat, ∃ L : List Gv, k ≤ D.length ∧ i = .int .i64 k ∧ Gs wr all L ∧ rising L ∧ L.length ≤ 64 ∧ Same w wr) (fun _ i _ => D.length - (intOf i).toNat)
  case atStart => exact ⟨0, [], Nat.zero_le _, rfl, Gs.nil _, rising_nil, Nat.zero_le _, Same.refl w⟩
  case round =>
    obtain ⟨k, L, hk, rfl, hL, hr, hl, S⟩ := hrel
    by_cases hlt : k < D.length ∧ k < 90
    · obtain ⟨hlt, h90⟩ := hlt
      obtain ⟨g, o, rfl, c0, c1, c2, c3, c4, c5, c6, c7, c8, c9, c10, c11, c12, c13, c14⟩ := (hD.same S).row k hlt
      generalize D[k] = d at *
      have HR := hid hr; clear hr
      obtain ⟨al, cl, rfl, k1, k2⟩ := hL.form
      unfold maxLen at k2
      cases hk0 : d.kind == 0
      · by_cases he : turnErr L d.id d.state = 0
        · have HT := hid (giveTurn_ok · · L d.id d.state · hl he)
          have HO := hid (ok_turn L d.id d.state HR.out hl he)
          clear he
          generalize turned L d.id d.state = L' at *
          go_wp2_with fail
          refine (HT.out _ _ (hL.same ((Same.refl _).alloc _))).mono ?_
          rintro en w1 ⟨v1, rfl, g1, S1⟩
          have S1' := ((Same.refl wr).alloc (.cells #[.int .i64 d.kind, .int .i64 d.day, .int .i64 d.id, .int .i64 d.state, .int .i64 d.g.id, .int .i64 d.g.fa, .int .i64 d.g.fc, .int .i64 d.g.ta, .int .i64 d.g.tc, .int .i64 d.g.inst, .int .i64 d.g.qty, .int .i64 d.g.price, .int .i64 d.g.group, .int .i64 d.g.day, .int .i64 d.g.state] 31)).trans S1
          have S2 := S.trans S1'
          go_wp2_with fail
          clear c0 c1 c2 c3 c4 c5 c6 c7 c8 c9 c10 c11 c12 c13 c14
          go_loopw [8] (fun i wq => ∃ j : Nat, j ≤ L'.length ∧ i = .int .i64 j ∧ Same w1 wq) (fun i _ => L'.length - (intOf i).toNat)
          case atStart => exact ⟨0, Nat.zero_le _, rfl, Same.refl _⟩
          case round =>
            obtain ⟨j, hj, rfl, Sj⟩ := hrel
            obtain ⟨an, cn, rfl, f1, f2⟩ := g1.form
            unfold maxLen at f2
            by_cases hjl : j < L'.length
            · obtain ⟨gn, on, rfl, d0, d1, d2, d3, d4, d5, d6, d7, d8, d9, d10⟩ := (g1.same Sj).row j hjl
              rw [HO.out.1 j hjl] at d0
              by_cases hjo : j < L.length
              · obtain ⟨gl, ol, rfl, c0, c1, c2, c3, c4, c5, c6, c7, c8, c9, c10⟩ := ((hL.same S1').same Sj).row j hjo
                have hid0 : L[j].id = (j : Int) + 1 := HR.out j hjo
                rcases HO.out.2.2.2 j hjo hjl with heq | ⟨hst, st, hne, heq⟩
                · rw [heq] at d1 d2 d3 d4 d5 d6 d7 d8 d9 d10
                  rw [hid0] at c0
                  clear heq hid0
                  generalize L[j] = x at *
                  go_wp2_with fail
                  go_quiet (fail)
                  go_wp2_with fail
                  go_roundw
                  case rel => exact ⟨j + 1, by omega, by go_num, Sj.drewN _⟩
                  case measure => simp [intOf]; omega
                · rw [heq] at d1 d2 d3 d4 d5 d6 d7 d8 d9 d10
                  rw [hid0] at c0
                  rw [hst] at c10
                  simp only [Gv.to] at d1 d2 d3 d4 d5 d6 d7 d8 d9 d10
                  clear heq hid0 hst
                  generalize L[j] = x at *
                  go_wp2_with fail
                  go_quiet (fail)
                  go_wp2_with fail
                  go_roundw
                  case rel => exact ⟨j + 1, by omega, by go_num, Sj.drewN _⟩
                  case measure => simp [intOf]; omega
              · have hd : decide ((j : Int) < (L.length : Int)) = false := by simp; omega
                go_wp2_with fail
                go_quiet (fail)
                go_wp2_with fail
                go_roundw
                case rel => exact ⟨j + 1, by omega, by go_num, Sj.drewN _⟩
                case measure => simp [intOf]; omega
            · go_wp2_with fail
              go_roundw
              case rel => exact ⟨k + 1, L', by omega, by go_num, g1.same Sj, HO.out.1, HO.out.2.2.1, S2.trans Sj⟩
              case measure => simp [intOf]; omega
        · have HT := hid (giveTurn_err · · L d.id d.state · he)
          have hne : (turnErr L d.id d.state != 0) = true := by rw [bne_iff_ne]; exact he
          clear he
          generalize turnErr L d.id d.state = er at *
          go_wp2_with fail
          refine (HT.out _ _ (hL.same ((Same.refl _).alloc _))).mono ?_
          rintro en w1 ⟨v1, rfl, g1, S1⟩
          have S2 := (S.alloc (.cells #[.int .i64 d.kind, .int .i64 d.day, .int .i64 d.id, .int .i64 d.state, .int .i64 d.g.id, .int .i64 d.g.fa, .int .i64 d.g.fc, .int .i64 d.g.ta, .int .i64 d.g.tc, .int .i64 d.g.inst, .int .i64 d.g.qty, .int .i64 d.g.price, .int .i64 d.g.group, .int .i64 d.g.day, .int .i64 d.g.state] 31)).trans S1
          have hv1 := g1.2 rfl
          subst hv1
          go_wp2_with fail
          go_roundw
          case rel => exact ⟨k + 1, L, by omega, by go_num, hL.same (((Same.refl _).alloc (.cells #[.int .i64 d.kind, .int .i64 d.day, .int .i64 d.id, .int .i64 d.state, .int .i64 d.g.id, .int .i64 d.g.fa, .int .i64 d.g.fc, .int .i64 d.g.ta, .int .i64 d.g.tc, .int .i64 d.g.inst, .int .i64 d.g.qty, .int .i64 d.g.price, .int .i64 d.g.group, .int .i64 d.g.day, .int .i64 d.g.state] 31)).trans S1), HR.out, hl, S2⟩
          case measure => simp [intOf]; omega
      · by_cases he : newErr L d.g d.day = 0
        · have HT := hid (giveNew_ok · · L d.g d.day · HR.out he)
          have HO := hid (ok_new L d.g d.day HR.out he)
          unfold aggG at HT
          clear he
          generalize L ++ [newOne L d.g d.day] = L' at *
          go_wp2_with fail
          refine (HT.out _ _ (hL.same ((Same.refl _).alloc _))).mono ?_
          rintro en w1 ⟨v1, rfl, g1, S1⟩
          have S1' := ((Same.refl wr).alloc (.cells #[.int .i64 d.kind, .int .i64 d.day, .int .i64 d.id, .int .i64 d.state, .int .i64 d.g.id, .int .i64 d.g.fa, .int .i64 d.g.fc, .int .i64 d.g.ta, .int .i64 d.g.tc, .int .i64 d.g.inst, .int .i64 d.g.qty, .int .i64 d.g.price, .int .i64 d.g.group, .int .i64 d.g.day, .int .i64 d.g.state] 31)).trans S1
          have S2 := S.trans S1'
          go_wp2_with fail
          clear c0 c1 c2 c3 c4 c5 c6 c7 c8 c9 c10 c11 c12 c13 c14
          go_loopw [8] (fun i wq => ∃ j : Nat, j ≤ L'.length ∧ i = .int .i64 j ∧ Same w1 wq) (fun i _ => L'.length - (intOf i).toNat)
          case atStart => exact ⟨0, Nat.zero_le _, rfl, Same.refl _⟩
          case round =>
            obtain ⟨j, hj, rfl, Sj⟩ := hrel
            obtain ⟨an, cn, rfl, f1, f2⟩ := g1.form
            unfold maxLen at f2
            by_cases hjl : j < L'.length
            · obtain ⟨gn, on, rfl, d0, d1, d2, d3, d4, d5, d6, d7, d8, d9, d10⟩ := (g1.same Sj).row j hjl
              rw [HO.out.1 j hjl] at d0
              by_cases hjo : j < L.length
              · obtain ⟨gl, ol, rfl, c0, c1, c2, c3, c4, c5, c6, c7, c8, c9, c10⟩ := ((hL.same S1').same Sj).row j hjo
                have hid0 : L[j].id = (j : Int) + 1 := HR.out j hjo
                rcases HO.out.2.2.2 j hjo hjl with heq | ⟨hst, st, hne, heq⟩
                · rw [heq] at d1 d2 d3 d4 d5 d6 d7 d8 d9 d10
                  rw [hid0] at c0
                  clear heq hid0
                  generalize L[j] = x at *
                  go_wp2_with fail
                  go_quiet (fail)
                  go_wp2_with fail
                  go_roundw
                  case rel => exact ⟨j + 1, by omega, by go_num, Sj.drewN _⟩
                  case measure => simp [intOf]; omega
                · rw [heq] at d1 d2 d3 d4 d5 d6 d7 d8 d9 d10
                  rw [hid0] at c0
                  rw [hst] at c10
                  simp only [Gv.to] at d1 d2 d3 d4 d5 d6 d7 d8 d9 d10
                  clear heq hid0 hst
                  generalize L[j] = x at *
                  go_wp2_with fail
                  go_quiet (fail)
                  go_wp2_with fail
                  go_roundw
                  case rel => exact ⟨j + 1, by omega, by go_num, Sj.drewN _⟩
                  case measure => simp [intOf]; omega
              · have hd : decide ((j : Int) < (L.length : Int)) = false := by simp; omega
                go_wp2_with fail
                go_quiet (fail)
                go_wp2_with fail
                go_roundw
                case rel => exact ⟨j + 1, by omega, by go_num, Sj.drewN _⟩
                case measure => simp [intOf]; omega
            · go_wp2_with fail
              go_roundw
              case rel => exact ⟨k + 1, L', by omega, by go_num, g1.same Sj, HO.out.1, HO.out.2.2.1, S2.trans Sj⟩
              case measure => simp [intOf]; omega
        · have HT := hid (giveNew_err · · L d.g d.day · he)
          unfold aggG at HT
          have hne : (newErr L d.g d.day != 0) = true := by rw [bne_iff_ne]; exact he
          clear he
          generalize newErr L d.g d.day = er at *
          go_wp2_with fail
          refine (HT.out _ _ (hL.same ((Same.refl _).alloc _))).mono ?_
          rintro en w1 ⟨v1, rfl, g1, S1⟩
          have S2 := (S.alloc (.cells #[.int .i64 d.kind, .int .i64 d.day, .int .i64 d.id, .int .i64 d.state, .int .i64 d.g.id, .int .i64 d.g.fa, .int .i64 d.g.fc, .int .i64 d.g.ta, .int .i64 d.g.tc, .int .i64 d.g.inst, .int .i64 d.g.qty, .int .i64 d.g.price, .int .i64 d.g.group, .int .i64 d.g.day, .int .i64 d.g.state] 31)).trans S1
          have hv1 := g1.2 rfl
          subst hv1
          go_wp2_with fail
          go_roundw
          case rel => exact ⟨k + 1, L, by omega, by go_num, hL.same (((Same.refl _).alloc (.cells #[.int .i64 d.kind, .int .i64 d.day, .int .i64 d.id, .int .i64 d.state, .int .i64 d.g.id, .int .i64 d.g.fa, .int .i64 d.g.fc, .int .i64 d.g.ta, .int .i64 d.g.tc, .int .i64 d.g.inst, .int .i64 d.g.qty, .int .i64 d.g.price, .int .i64 d.g.group, .int .i64 d.g.day, .int .i64 d.g.state] 31)).trans S1), HR.out, hl, S2⟩
          case measure => simp [intOf]; omega
    · have hlt' : ¬ k < D.length ∨ (k < D.length ∧ ¬ k < 90) := by omega
      rcases hlt' with hlt | ⟨hlt, h90⟩
      all_goals
        go_wp2_with fail
        refine (HV.out _).mono ?_
        rintro en w1 ⟨rfl, S1⟩
        go_wp2_with fail
        go_ret
        exact ⟨rfl, S.trans S1⟩
end Go.Proofs.Ytijdjpmceclmhaa
