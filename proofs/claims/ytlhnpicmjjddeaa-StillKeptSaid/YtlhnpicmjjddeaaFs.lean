/- FRAME: rows of frames in memory. -/
import Derived.Test.YtlhnpicmjjddeaaFw6
namespace Go.Proofs.Ytlhnpicmjjddeaa
open Go.RowKit

theorem tyFrames : RowTy Try.prog 77 60 6 64 (.agg #[.int .i64 0, .int .i64 0, .int .i64 0, .int .i64 0, .int .i64 0, .slice none 0 0]) := ⟨Try.underlying77, by kernel_rfl, rfl, by decide⟩
/-- a frame and where its bytes lie -/
abbrev FV := Fr × Value
def FV.cells (p : FV) : List Value := [.int .i64 p.1.life, .int .i64 p.1.era, .int .i64 p.1.seq, .int .i64 p.1.part, .int .i64 p.1.parts, p.2]
theorem flatF_at : ∀ (L : List FV) (k j : Nat) (hk : k < L.length), j < 6 → (L.flatMap FV.cells)[k * 6 + j]? = (FV.cells L[k])[j]?
  | [], k, j, hk, _ => absurd hk (Nat.not_lt_zero k)
  | x :: L, 0, j, _, hj => by
    rw [List.flatMap_cons, List.getElem?_append_left (by simp [FV.cells]; omega)]
    simp
  | x :: L, k + 1, j, hk, hj => by
    rw [List.flatMap_cons, List.getElem?_append_right (by simp [FV.cells]; omega), show (FV.cells x).length = 6 from rfl, show (k + 1) * 6 + j - 6 = k * 6 + j from by omega]
    exact flatF_at L k j (by simpa using hk) hj
theorem flatF_length (L : List FV) : (L.flatMap FV.cells).length = L.length * 6 := by
  induction L with
  | nil => rfl
  | cons x L ih => rw [List.flatMap_cons, List.length_append, ih]; simp [FV.cells]; omega
/-- The slice value v holds these frames. -/
def Frs (w : World) (e : TypeId) (v : Value) (L : List Fr) : Prop := ∃ P : List FV, P.map Prod.fst = L ∧ Sl w e 6 v L.length (P.flatMap FV.cells) ∧ ∀ p ∈ P, ∃ e', Bytes w e' p.2 p.1.data
theorem Frs.form {w : World} {e : TypeId} {v : Value} {L : List Fr} (h : Frs w e v L) : ∃ ao cap, v = .slice ao L.length cap ∧ L.length ≤ cap ∧ cap ≤ maxLen := let ⟨_, _, h2, _⟩ := h; Sl.form h2
theorem Frs.nil (w : World) (e : TypeId) : Frs w e (.slice none 0 0) [] := ⟨[], rfl, Sl.nil w e 6, by simp⟩
theorem Frs.same {w w' : World} {e : TypeId} {v : Value} {L : List Fr} (h : Frs w e v L) (S : Same w w') : Frs w' e v L :=
  let ⟨P, h1, h2, h3⟩ := h; ⟨P, h1, h2.same S, fun p hp => let ⟨e', hb⟩ := h3 p hp; ⟨e', hb.same S⟩⟩
/-- the six cells of a frame -/
def Cells6 (w : World) (g o : Nat) (f : Fr) (u : Value) : Prop :=
  w.cell? ⟨g, o, none⟩ = some (.int .i64 f.life) ∧ w.cell? ⟨g, o + 1, none⟩ = some (.int .i64 f.era) ∧ w.cell? ⟨g, o + 2, none⟩ = some (.int .i64 f.seq) ∧
  w.cell? ⟨g, o + 3, none⟩ = some (.int .i64 f.part) ∧ w.cell? ⟨g, o + 4, none⟩ = some (.int .i64 f.parts) ∧ w.cell? ⟨g, o + 5, none⟩ = some u
theorem Frs.rows {w : World} {e : TypeId} {ao : Option Addr} {cap : Nat} {L : List Fr} (h : Frs w e (.slice ao L.length cap) L) (hn : L.length ≠ 0) :
    ∃ g o, ao = some ⟨g, o, none⟩ ∧ ∀ k (hk : k < L.length), ∃ a c e', Cells6 w g (o + k * 6) L[k] (.slice a L[k].data.length c) ∧ Bytes w e' (.slice a L[k].data.length c) L[k].data := by
  obtain ⟨P, h1, h2, h3⟩ := h
  obtain ⟨g, o, rfl, hc⟩ := h2.cells hn
  refine ⟨g, o, rfl, fun k hk => ?_⟩
  have hkP : k < P.length := by rw [← h1, List.length_map] at hk; exact hk
  have hLk : L[k] = P[k].1 := by simp [← h1]
  obtain ⟨e', hb⟩ := h3 P[k] (List.getElem_mem hkP)
  obtain ⟨a, c, hv, _, _⟩ := hb.form
  rw [hLk]
  have cc : ∀ j u, j < 6 → (FV.cells P[k])[j]? = some u → w.cell? ⟨g, o + k * 6 + j, none⟩ = some u := fun j u hj hu => by
    rw [Nat.add_assoc]
    exact hc (k * 6 + j) u (by rw [flatF_at P k j hkP hj]; exact hu)
  rw [hv] at hb
  refine ⟨a, c, e', ⟨by have := cc 0 _ (by omega) rfl; simpa using this, cc 1 _ (by omega) rfl, cc 2 _ (by omega) rfl, cc 3 _ (by omega) rfl, cc 4 _ (by omega) rfl, ?_⟩, hb⟩
  rw [← hv]
  exact cc 5 _ (by omega) rfl
/-- A row of frames of the call's own; the bytes of its frames lie in blocks of bytes. -/
def OwnF (w : World) (base : Nat) (v : Value) (L : List Fr) : Prop := ∃ P : List FV, P.map Prod.fst = L ∧ w.ownsRow base 60 6 v L.length (P.flatMap FV.cells) ∧ ∀ p ∈ P, Bytes w 5 p.2 p.1.data
theorem OwnF.frs {w : World} {base : Nat} {v : Value} {L : List Fr} (h : OwnF w base v L) : Frs w 60 v L := let ⟨P, h1, h2, h3⟩ := h; ⟨P, h1, Sl.of_owns h2, fun p hp => ⟨5, h3 p hp⟩⟩
theorem OwnF.nil (w : World) (base : Nat) : OwnF w base (.slice none 0 0) [] := ⟨[], rfl, World.ownsRow_nil w base 60 6, by simp⟩
theorem OwnF.same {w w' : World} {base : Nat} {v : Value} {L : List Fr} (h : OwnF w base v L) (S : Same w w') : OwnF w' base v L :=
  let ⟨P, h1, h2, h3⟩ := h; ⟨P, h1, owns_keep h2 S fun _ _ x => x, fun p hp => (h3 p hp).same S⟩
theorem OwnF.lt {w : World} {base : Nat} {v : Value} {L : List Fr} (h : OwnF w base v L) : ∀ k, v.ownBlock = some k → base ≤ k ∧ k < w.heap.size := fun k e => let ⟨_, _, h2, _⟩ := h; World.ownsRow.lt h2 k e
theorem bytes_block {w : World} {u : Value} {l : List UInt8} (hu : Bytes w 5 u l) {g : Nat} (hg : homeOf u = some g) : ∃ cur fr, w.heap[g]? = some (.cells cur 5 fr) := by
  obtain ⟨_, ao, cap, rfl, _, _, _, h5⟩ := hu
  rcases h5 with h5 | ⟨g', o, cur, fr, rfl, hg', _⟩
  · rw [h5] at hg; cases ao <;> simp [homeOf] at hg
  · cases hl : l.length with
    | zero => rw [hl] at hg; simp [homeOf] at hg
    | succ n => rw [hl] at hg; simp [homeOf] at hg; subst hg; exact ⟨cur, fr, hg'⟩
theorem owns_block {w : World} {base : Nat} {e : TypeId} {size : Nat} {v : Value} {n : Nat} {xs : List Value} (h : w.ownsRow base e size v n xs) {g : Nat} (hg : v.ownBlock = some g) : ∃ cur, w.heap[g]? = some (.cells cur e (0, 0)) := by
  rcases h.2 with ⟨rfl, _⟩ | ⟨g', cap, cur', rfl, b, c, d⟩
  · simp [Value.ownBlock] at hg
  · simp [Value.ownBlock] at hg
    subst hg
    exact ⟨cur', c⟩
/-- a frame in a row that was just laid -/
theorem one_frame (w : World) (f : Fr) (u : Value) :
    Sl (w.alloc (.cells #[.int .i64 f.life, .int .i64 f.era, .int .i64 f.seq, .int .i64 f.part, .int .i64 f.parts, u] 60)) 60 6 (.slice (some ⟨w.heap.size, 0, none⟩) 1 1) 1 (FV.cells (f, u)) :=
  Sl.made 60 6 w.heap.size 1 1 _ _ (heap_alloc_new w _) (Nat.le_refl _) (by decide) rfl ⟨[], rfl⟩
/-- append of one frame -/
theorem wpList_append_frame {P : Program} {w : World} {ops : Array Oper} {rest : List Oper} {o : Oper} {a : Act} {Q : Exit → Act → World → Prop} (hgd : o.guard = none) (s x : Operand)
    (t : TypeId) (T : RowTy P t 60 6 64 (.agg #[.int .i64 0, .int .i64 0, .int .i64 0, .int .i64 0, .int .i64 0, .slice none 0 0])) (ho : o.op = .call { callee := .builtin .append, args := #[s, x], argTypes := #[t, t] })
    {base : Nat} {v : Value} {L : List Fr} (hown : OwnF w base v L) {f : Fr} {u : Value} {e' : TypeId} {y : Value} (hy : Sl w e' 6 y 1 (FV.cells (f, u))) (hu : Bytes w 5 u f.data) (hs : a.eval s = v) (hx : a.eval x = y)
    (hb : L.length ≤ 1000000) (hbase : base ≤ w.heap.size)
    (h : ∀ v' w', OwnF w' base v' (L ++ [f]) → Keep (fun k => v.ownBlock = some k) w w' → wpList P ops Q rest (a.put o.dst v') w') : wpList P ops Q (o :: rest) a w := by
  obtain ⟨P0, h1, h2, h3⟩ := id hown
  have hone : ∀ z ∈ FV.cells (f, u), z.oneCell' = true := by
    intro z hz
    simp [FV.cells] at hz
    rcases hz with rfl | rfl | rfl | rfl | rfl | rfl
    · rfl
    · rfl
    · rfl
    · rfl
    · rfl
    · exact hu.one
  refine wpList_append_sl hgd s x T ho h2 hy hs hx hone (by unfold maxLen; omega) (by omega) hbase ?_
  intro v' w' q1 q2
  have K : Keep (fun k => v.ownBlock = some k) w w' := (Keep.refl _ w).grown q2 fun k e => .inl e
  have keepB : ∀ {u0 : Value} {l0 : List UInt8}, Bytes w 5 u0 l0 → Bytes w' 5 u0 l0 := fun {u0 l0} hb => hb.keep K fun g hg hm => by
    obtain ⟨c1, f1, e1⟩ := bytes_block hb hg
    obtain ⟨c2, e2⟩ := owns_block h2 hm
    rw [e1] at e2
    simp at e2
  refine h v' w' ⟨P0 ++ [(f, u)], by simp [h1], by rw [List.length_append, List.flatMap_append]; simpa using q1, fun p hp => ?_⟩ K
  rcases List.mem_append.1 hp with hp | hp
  · exact keepB (h3 p hp)
  · simp at hp
    subst hp
    exact keepB hu
end Go.Proofs.Ytlhnpicmjjddeaa
