/- Rows of rows of bytes that a call makes itself; made rows of noughts; the drive's small functions once more. -/
import Derived.Test.YtlhnpicmjjddeaaDw3
namespace Go.Proofs.Ytlhnpicmjjddeaa
open Go.RowKit

theorem tyRows : RowTy Try.prog 36 23 1 24 (.slice none 0 0) := ⟨Try.underlying36, by kernel_rfl, rfl, by decide⟩

/-- a row of rows of bytes of the call's own -/
def OwnR (w : World) (base : Nat) (v : Value) (ls : List (List UInt8)) : Prop :=
  ∃ us, w.ownsRow base 23 1 v ls.length us ∧ ∀ i (h : i < ls.length) u, us[i]? = some u → Bytes w 5 u ls[i] ∧ ∀ g, homeOf u = some g → base ≤ g
theorem OwnR.nil (w : World) (base : Nat) : OwnR w base (.slice none 0 0) [] := ⟨[], World.ownsRow_nil w base 23 1, fun _ h => absurd h (Nat.not_lt_zero _)⟩
theorem OwnR.lt {w : World} {base : Nat} {v : Value} {ls : List (List UInt8)} (h : OwnR w base v ls) : ∀ k, v.ownBlock = some k → base ≤ k ∧ k < w.heap.size := fun k e => let ⟨_, h1, _⟩ := h; World.ownsRow.lt h1 k e
theorem home_own {v : Value} {g : Nat} (h : homeOf v = some g) : v.ownBlock = some g := by
  unfold homeOf at h
  split at h
  · simp only [Option.some.injEq] at h; subst h; rfl
  · cases h
theorem OwnR.rows2N {w : World} {base : Nat} {v : Value} {ls : List (List UInt8)} (h : OwnR w base v ls) {M : Nat → Prop} (hM : ∀ k, M k → k < base) : Rows2N M w 23 v ls := by
  obtain ⟨us, h1, h2⟩ := h
  refine ⟨us, by have := h1.1; omega, Sl.of_owns h1, fun g hg hm => ?_, fun i hi u hu => ⟨⟨5, (h2 i hi u hu).1⟩, fun g hg hm => ?_⟩⟩
  · have := (World.ownsRow.lt h1 g (home_own hg)).1
    have := hM g hm
    omega
  · have := (h2 i hi u hu).2 g hg
    have := hM g hm
    omega
theorem OwnR.rows {w : World} {base : Nat} {v : Value} {ls : List (List UInt8)} (h : OwnR w base v ls) : Rows2 w 23 v ls := (h.rows2N (M := NoB) fun _ x => x.elim).rows
theorem owns_keep {w w' : World} {M : Nat → Prop} {base : Nat} {e : TypeId} {size : Nat} {v : Value} {n : Nat} {xs : List Value} (h : w.ownsRow base e size v n xs) (k : Keep M w w') (hm : ∀ g, v.ownBlock = some g → ¬ M g) : w'.ownsRow base e size v n xs := by
  obtain ⟨h1, h2⟩ := h
  refine ⟨h1, ?_⟩
  rcases h2 with h2 | ⟨g, cap, cur, rfl, b, c, d⟩
  · exact .inl h2
  · exact .inr ⟨g, cap, cur, rfl, b, by rw [k.block g (Array.getElem?_eq_some_iff.1 c).1 (hm g rfl)]; exact c, d⟩
/-- what keeps all blocks from 'base' on keeps it -/
theorem OwnR.keep {w w' : World} {M : Nat → Prop} {base : Nat} {v : Value} {ls : List (List UInt8)} (h : OwnR w base v ls) (k : Keep M w w') (hm : ∀ g, M g → g < base) : OwnR w' base v ls := by
  obtain ⟨us, h1, h2⟩ := h
  refine ⟨us, owns_keep h1 k fun g hg hx => ?_, fun i hi u hu => ⟨(h2 i hi u hu).1.keep k fun g hg hx => ?_, (h2 i hi u hu).2⟩⟩
  · have := (World.ownsRow.lt h1 g hg).1
    have := hm g hx
    omega
  · have := (h2 i hi u hu).2 g hg
    have := hm g hx
    omega
theorem OwnR.same {w w' : World} {base : Nat} {v : Value} {ls : List (List UInt8)} (h : OwnR w base v ls) (k : Same w w') : OwnR w' base v ls := h.keep k fun _ x => x.elim
theorem OwnR.mono {w : World} {base base' : Nat} {v : Value} {ls : List (List UInt8)} (h : OwnR w base v ls) (hb : base' ≤ base) : OwnR w base' v ls := by
  obtain ⟨us, ⟨h1, h2⟩, h3⟩ := h
  refine ⟨us, ⟨h1, ?_⟩, fun i hi u hu => ⟨(h3 i hi u hu).1, fun g hg => Nat.le_trans hb ((h3 i hi u hu).2 g hg)⟩⟩
  rcases h2 with h2 | ⟨g, cap, cur, a, b, c⟩
  · exact .inl h2
  · exact .inr ⟨g, cap, cur, a, Nat.le_trans hb b, c⟩
/-- a block of rows is none of bytes -/
theorem OwnR.apart {w : World} {base : Nat} {v u : Value} {ls : List (List UInt8)} {l : List UInt8} (h : OwnR w base v ls) (hu : Bytes w 5 u l) {g : Nat} (hg : homeOf u = some g) : v.ownBlock ≠ some g := by
  obtain ⟨us, ⟨h1, h2⟩, h3⟩ := h
  intro e
  obtain ⟨cur, fr, hc⟩ : ∃ cur fr, w.heap[g]? = some (.cells cur 5 fr) := by
    obtain ⟨_, ao, cap, rfl, _, _, _, h5⟩ := hu
    rcases h5 with h5 | ⟨g', o, cur, fr, rfl, hg', _⟩
    · rw [h5] at hg; cases ao <;> simp [homeOf] at hg
    · cases hl : l.length with
      | zero => rw [hl] at hg; simp [homeOf] at hg
      | succ n => rw [hl] at hg; simp [homeOf] at hg; subst hg; exact ⟨cur, fr, hg'⟩
  rcases h2 with ⟨rfl, _⟩ | ⟨g', cap, cur', rfl, b, c, d⟩
  · simp [Value.ownBlock] at e
  · simp [Value.ownBlock] at e
    subst e
    rw [hc] at c
    simp at c

theorem Sl.form' {w : World} {e : TypeId} {size : Nat} {v : Value} {n : Nat} {xs : List Value} (h : Sl w e size v n xs) : ∃ ao cap, v = .slice ao n cap := let ⟨_, ao, cap, h1, _⟩ := h; ⟨ao, cap, h1⟩
theorem Bytes.one {w : World} {e : TypeId} {v : Value} {l : List UInt8} (h : Bytes w e v l) : v.oneCell' = true := by obtain ⟨ao, cap, rfl, _⟩ := h.form; rfl

/-- append of rows to a row of rows of the call's own -/
theorem wpList_append_rows {P : Program} {w : World} {ops : Array Oper} {rest : List Oper} {o : Oper} {a : Act} {Q : Exit → Act → World → Prop} (hgd : o.guard = none) (s x : Operand)
    (t : TypeId) (T : RowTy P t 23 1 24 (.slice none 0 0)) (ho : o.op = .call { callee := .builtin .append, args := #[s, x], argTypes := #[t, t] })
    {base : Nat} {v : Value} {ls : List (List UInt8)} (hown : OwnR w base v ls) {e' : TypeId} {y : Value} {us : List Value} {rs : List (List UInt8)} (hy : Sl w e' 1 y rs.length us)
    (hr : ∀ i (h : i < rs.length) u, us[i]? = some u → Bytes w 5 u rs[i] ∧ ∀ g, homeOf u = some g → base ≤ g) (hs : a.eval s = v) (hx : a.eval x = y)
    (hb : ls.length + rs.length ≤ 1000000) (hbase : base ≤ w.heap.size)
    (h : ∀ v' w', OwnR w' base v' (ls ++ rs) → Keep (fun k => v.ownBlock = some k) w w' → wpList P ops Q rest (a.put o.dst v') w') : wpList P ops Q (o :: rest) a w := by
  obtain ⟨us0, h1, h2⟩ := id hown
  have hul : us.length = rs.length := by have := hy.1; omega
  refine wpList_append_sl hgd s x T ho h1 hy hs hx ?_ (by unfold maxLen; omega) (by omega) hbase ?_
  · intro u hu
    obtain ⟨i, hi, rfl⟩ := List.mem_iff_getElem.1 hu
    exact (hr i (by omega) _ (List.getElem?_eq_getElem hi)).1.one
  · intro v' w' h3 h4
    have K : Keep (fun k => v.ownBlock = some k) w w' := (Keep.refl _ w).grown h4 fun k e => .inl e
    refine h v' w' ⟨us0 ++ us, by rw [List.length_append]; exact h3, ?_⟩ K
    have h0 : us0.length = ls.length := by have := h1.1; omega
    intro i hi u hu
    rw [List.length_append] at hi
    rcases Nat.lt_or_ge i ls.length with hl | hl
    · rw [List.getElem?_append_left (by omega)] at hu
      rw [List.getElem_append_left hl]
      obtain ⟨q1, q2⟩ := h2 i hl u hu
      exact ⟨q1.keep K fun g hg => hown.apart q1 hg, q2⟩
    · rw [List.getElem?_append_right (by omega), h0] at hu
      rw [List.getElem_append_right hl]
      obtain ⟨q1, q2⟩ := hr (i - ls.length) (by omega) u hu
      exact ⟨q1.keep K fun g hg => hown.apart q1 hg, q2⟩

theorem OwnB.fresh {w : World} {base : Nat} {v : Value} {l : List UInt8} (h : OwnB w base v l) : ∀ g, homeOf v = some g → base ≤ g := fun g hg => (h.lt g (home_own hg)).1

theorem Keep.fresh {a b : World} {M : Nat → Prop} (K : Keep M a b) (h : ∀ k, M k → a.heap.size ≤ k) : Same a b := K.weak fun k hk hm => by have := h k hm; omega
theorem Same.keepOwn {a b c : World} {M : Nat → Prop} (S : Same a b) (K : Keep M b c) (h : ∀ k, M k → a.heap.size ≤ k) : Same a c := Keep.trans' S K fun i hi hm => by have := h i hm; omega
/-! ### rows of noughts -/
def zeros (n : Nat) : Array Value := ((List.replicate n (0 : UInt8)).map u8).toArray
theorem madeCells_zeros (n : Nat) : madeCells (Value.int .u8 0).cells n = zeros n := by
  unfold madeCells zeros
  have : (Value.int IntKind.u8 0).cells = #[Value.int IntKind.u8 0] := rfl
  rw [this]
  apply Array.ext
  · simp
  · intro i h1 h2
    simp [u8, Nat.mod_one]
theorem info5 : (Try.prog.info? 5).map (fun i => (i.zero, i.size, i.bytes)) = some (some (.int .u8 0), 1, 1) := by kernel_rfl
theorem runMakeBytes (w : World) (n : Nat) (h2 : n ≤ 1000000) : (Instr.makeSlice 23 (.int .i64 n) (.int .i64 n)).run Try.prog w =
    .ok (.slice (some ⟨w.heap.size, 0, none⟩) n n) (w.alloc (.cells (zeros n) 5)) := by
  obtain ⟨i, hi, hz, hs, hb⟩ := info_parts info5
  have := run_makeSlice (P := Try.prog) w 23 5 i (.int .u8 0) Try.underlying23 hi hz .i64 .i64 n n (by omega) (Int.le_refl _) (by rw [hs]; simp; omega) (by rw [hb]; omega) (by omega)
  rw [hs] at this
  simp only [Int.toNat_natCast, Nat.mul_one] at this
  rw [madeCells_zeros] at this
  exact this
theorem runMake96 (w : World) : (Instr.makeSlice 23 (.int .i64 96) (.int .i64 96)).run Try.prog w = .ok (.slice (some ⟨w.heap.size, 0, none⟩) 96 96) (w.alloc (.cells (zeros 96) 5)) := runMakeBytes w 96 (by omega)
theorem OwnB.zeros (w : World) (n : Nat) (h2 : n ≤ 1000000) : OwnB (w.alloc (.cells (zeros n) 5)) w.heap.size (.slice (some ⟨w.heap.size, 0, none⟩) n n) (List.replicate n 0) :=
  OwnB.made _ _ n _ _ (heap_alloc_new w _) (Nat.le_refl _) (by unfold maxLen; omega) (by simp) rfl
end Go.Proofs.Ytlhnpicmjjddeaa
