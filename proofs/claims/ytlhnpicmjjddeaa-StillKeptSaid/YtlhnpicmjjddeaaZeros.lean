/- append(b, make([]byte, n)...): noughts behind a row of bytes of the call's own. No program in sight. -/
import Derived.Test.YtlhnpicmjjddeaaMem
import Derived.Lib.AppendZerosOnto
import Derived.Lib.AppendZeros
namespace Go.Proofs.Ytlhnpicmjjddeaa
open Go.RowKit

theorem zeroCells_one (n : Nat) : (Builtin.zeroCells #[Value.int .u8 0] n).toList = (List.replicate n (0 : UInt8)).map u8 := by
  unfold Builtin.zeroCells
  apply List.ext_getElem
  · simp
  · intro i h1 h2
    simp [u8, Nat.mod_one]

theorem run_append_zeros {P : Program} (w : World) {t tn : TypeId} {kn : IntKind} (T : RowTy P t 5 1 1 (.int .u8 0)) (htn : P.underlying tn = some (.int kn)) (ty : TypeId) (kq : IntKind) {base : Nat} {v : Value} {l : List UInt8}
    (hown : OwnB w base v l) (k : Nat) (hb : l.length + k ≤ 140737488355328) (hbase : base ≤ w.heap.size) :
    ∃ v' w', (Builtin.append_ #[t, tn] ty #[v, .int kq k]).run P w = .ok v' w' ∧ OwnB w' base v' (l ++ List.replicate k 0) ∧ w.grownBy w' v.ownBlock := by
  obtain ⟨i, hi, hz, hs, hby⟩ := info_parts T.info
  have hsz : i.size = 1 := hs
  have hkw : IntKind.i64.wrap (k : Int) = k := by rw [IntKind.wrap_i64]; omega
  have h48i : ¬ (281474976710656 < (k : Int) * (i.bytes : Int)) := by rw [hby]; omega
  have hneg : ¬ ((k : Int) < 0) := by omega
  by_cases hk : k = 0
  · subst hk
    have hw0 : IntKind.i64.wrap 0 = 0 := by rw [IntKind.wrap_i64]; omega
    refine ⟨v, w, ?_, by simpa using hown, World.grownBy.refl _ _⟩
    rcases hown.2 with ⟨rfl, hn⟩ | ⟨g, cap, cur, rfl, _, hg, hnc, hcm, hcs, htk⟩
    · simp [Builtin.append_, run_underlying T.under, run_underlying htn, sizeOf, typeInfo, hi, asInt, asIntOf, hw0]
    · simp [Builtin.append_, run_underlying T.under, run_underlying htn, sizeOf, typeInfo, hi, asInt, asIntOf, hw0, hnc, storeCells]
  · have hk0 : 0 < k := by omega
    have newL : ∀ (olds : List Value), olds = l.map u8 → ∀ n, n = l.length → ∀ c, (w.drew.alloc (.cells (olds.toArray ++ Builtin.zeroCells #[.int .u8 0] k ++ Builtin.zeroCells #[.int .u8 0] (grownCap w (n + k) c 5 - (n + k))) 5)).ownsRow base 5 1
        (.slice (some ⟨w.heap.size, 0, none⟩) (n + k) (grownCap w (n + k) c 5)) (l ++ List.replicate k 0).length ((l ++ List.replicate k 0).map u8) := by
      intro olds ho n hn c
      subst ho; subst hn
      have hge := grownCap_ge w (l.length + k) c 5
      have hcm : grownCap w (l.length + k) c 5 ≤ maxLen := grownCap_le_maxLen w (l.length + k) c 5 (by unfold maxLen; omega)
      refine ⟨by simp, .inr ⟨w.heap.size, _, _, by simp, hbase, heap_alloc_new w.drew _, by simpa using hge, hcm, ?_, ?_⟩⟩
      · simp only [Array.size_append, List.size_toArray, size_zeroCells, List.length_map]
        simp; omega
      · simp only [Array.toList_append, zeroCells_one, List.append_assoc]
        rw [← List.append_assoc, ← List.map_append]
        rw [List.take_append_of_le_length (by simp)]
        exact List.take_of_length_le (by simp)
    have grw : ∀ o (row : Option Nat), w.grownBy (w.drew.alloc o) row := fun o row => ⟨rfl, rfl, rfl, by simp, fun j hj _ => Below.heap_alloc w.drew o j hj⟩
    rcases hown.2 with ⟨rfl, hn⟩ | ⟨g, cap, cur, rfl, hbg, hg, hnc, hcm, hcs, htk⟩
    · have hl : l = [] := List.eq_nil_of_length_eq_zero hn
      subst hl
      have hr := Lib.run_append_nil_zeros (P := P) w t tn ty 5 i (.int .u8 0) kq kn T.under htn hi hz k hk0 (by omega) (by omega) (by rw [hby]; omega)
      have hnw := newL [] rfl 0 rfl 0
      simp only [Nat.zero_add, Array.empty_append] at hnw
      exact ⟨_, _, hr, hnw, grw _ _⟩
    · by_cases hroom : l.length + k ≤ cap
      · have hst := run_storeCells_at P g l.length 5 ((List.replicate k (0 : UInt8)).map u8) 0 cur w hg (by simp; omega) (bytes_one _)
        simp only [Nat.add_zero] at hst
        have hzc := zeroCells_one k
        refine ⟨.slice (some ⟨g, 0, none⟩) (l.length + k) cap, w.setRow g (cur.toList.take l.length ++ (List.replicate k (0 : UInt8)).map u8 ++ cur.toList.drop (l.length + ((List.replicate k (0 : UInt8)).map u8).length)).toArray, ?_, ?_, ?_⟩
        · have hadd : (⟨g, 0, none⟩ : Addr).add l.length = ⟨g, l.length, none⟩ := by unfold Addr.add; split <;> simp_all
          simp [Builtin.append_, run_underlying T.under, run_underlying htn, sizeOf, typeInfo, zeroValue, hi, hz, hsz, asInt, asIntOf, hkw, hneg, h48i, hroom, hk, hadd, Value.cells, hzc]
          simp at hst
          rw [hst]
          rfl
        · refine ⟨by simp, .inr ⟨g, cap, _, by simp, hbg, setRow_heap w g cur _ 5 _ hg, by simpa using hroom, hcm, ?_, ?_⟩⟩
          · simp at hcs ⊢; omega
          · have hxx : cur.toList.take l.length = l.map u8 := by simpa using htk
            rw [hxx, ← List.map_append]
            show List.take _ (_ ++ _) = _
            rw [List.take_append_of_le_length (by simp)]
            exact List.take_of_length_le (by simp)
        · exact ⟨rfl, rfl, rfl, by simp, fun j _ hj => setRow_other w g j _ (fun e => hj (by simp [Value.ownBlock, e]))⟩
      · have hold : (Builtin.firstCells i.size l.length (.slice (some ⟨g, 0, none⟩) l.length cap)).run P w.drew = .ok (l.map u8).toArray w.drew :=
          run_firstCells_some (P := P) w.drew i.size l.length ⟨g, 0, none⟩ l.length cap (l.map u8) (by rw [hsz]; simp) (by
            intro j u hu
            have := World.ownsRow.cells hown (g := g) rfl j u hu
            simpa using this)
        have hr := Lib.run_append_grow_zeros (P := P) w t tn ty 5 i (.int .u8 0) kq kn T.under htn hi hz (some ⟨g, 0, none⟩) l.length cap (l.map u8) hold k hk0 (by omega) (by omega) (by omega) (by rw [hby]; omega) (by rw [hby]; exact growslice_fits (by omega) (by omega))
        exact ⟨_, _, hr, newL _ rfl _ rfl cap, grw _ _⟩

theorem wpList_append_zeros {P : Program} {w : World} {ops : Array Oper} {rest : List Oper} {o : Oper} {a : Act} {Q : Exit → Act → World → Prop} (hgd : o.guard = none) (s x : Operand)
    (t tn : TypeId) {kn : IntKind} (T : RowTy P t 5 1 1 (.int .u8 0)) (htn : P.underlying tn = some (.int kn)) (ho : o.op = .call { callee := .builtin .append, args := #[s, x], argTypes := #[t, tn] })
    {base : Nat} {v : Value} {l : List UInt8} (hown : OwnB w base v l) (kq : IntKind) (k : Nat) (hs : a.eval s = v) (hx : a.eval x = .int kq k)
    (hb : l.length + k ≤ 140737488355328) (hbase : base ≤ w.heap.size)
    (h : ∀ v' w', OwnB w' base v' (l ++ List.replicate k 0) → w.grownBy w' v.ownBlock → wpList P ops Q rest (a.put o.dst v') w') : wpList P ops Q (o :: rest) a w :=
  wpList_plain hgd fun _ hK => by
    obtain ⟨v', w', hr, h2, h3⟩ := run_append_zeros (P := P) w T htn o.type kq hown k hb hbase
    unfold Oper.wp execOp
    simp only [ho, resolve, invoke, builtin, Sem.run_bind, Sem.run_pure, Result.andThen_ok, List.map_toArray, List.map_cons, List.map_nil, hs, hx, hr]
    exact hK _ _ (h v' w' h2 h3)
end Go.Proofs.Ytlhnpicmjjddeaa
