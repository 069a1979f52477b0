/- SCROLL: a drive and a scroll of the walk's own. SCROLL: a drive and a scroll of the walk's own, and the reference's, side by side. SCROLL: a drive and a scroll of the walk's own, and the reference's, side by side: opened, asked. What comes in, opened: rows of steps of layers 8 and 10. No further condition. SCROLL's statements: Few of numbers that came in. SCROLL: the walk of ScrollPlays. Printed by mksp.py. What comes in, opened: rows of sectors as they are, or as frames. No further condition. SCROLL's statements: Lay. Printed by mklay.py. SCROLL: the walk of ScrollReads. -/
import Derived.Test.YtlhnpicmjjddeaaGrp7
import Derived.Test.YtlhnpicmjjddeaaGrp1
import Derived.Test.YtlhnpicmjjddeaaGrp2
set_option linter.unusedVariables false
set_option linter.unusedSimpArgs false
namespace Go.Proofs.Ytlhnpicmjjddeaa
open Go.RowKit

/-- a row of rows of the call's own; its rows lie anywhere but in M, and in no new block -/
def OwnN (w : World) (M : Nat → Prop) (base : Nat) (v : Value) (ls : List (List UInt8)) : Prop :=
  ∃ us, w.ownsRow base 23 1 v ls.length us ∧ ∀ i (h : i < ls.length) u, us[i]? = some u → (∃ e', Bytes w e' u ls[i]) ∧ ∀ g, homeOf u = some g → ¬ M g ∧ g < base
theorem OwnN.nil (w : World) (M : Nat → Prop) (base : Nat) : OwnN w M base (.slice none 0 0) [] := ⟨[], World.ownsRow_nil w base 23 1, fun _ h => absurd h (Nat.not_lt_zero _)⟩
theorem OwnN.same {w w' : World} {M : Nat → Prop} {base : Nat} {v : Value} {ls : List (List UInt8)} (h : OwnN w M base v ls) (S : Same w w') : OwnN w' M base v ls :=
  let ⟨us, h1, h2⟩ := h; ⟨us, owns_keep h1 S fun _ _ x => x, fun i hi u hu => let ⟨⟨e', hb⟩, hn⟩ := h2 i hi u hu; ⟨⟨e', hb.same S⟩, hn⟩⟩
theorem OwnN.lt {w : World} {M : Nat → Prop} {base : Nat} {v : Value} {ls : List (List UInt8)} (h : OwnN w M base v ls) : ∀ k, v.ownBlock = some k → base ≤ k ∧ k < w.heap.size := fun k e => let ⟨_, h1, _⟩ := h; World.ownsRow.lt h1 k e
theorem OwnN.rows2N {w : World} {M : Nat → Prop} {base : Nat} {v : Value} {ls : List (List UInt8)} (h : OwnN w M base v ls) (hM : ∀ k, M k → k < base) : Rows2N M w 23 v ls := by
  obtain ⟨us, h1, h2⟩ := h
  refine ⟨us, by have := h1.1; omega, Sl.of_owns h1, fun g hg hm => ?_, fun i hi u hu => ⟨(h2 i hi u hu).1, fun g hg => ((h2 i hi u hu).2 g hg).1⟩⟩
  have := (World.ownsRow.lt h1 g (home_own hg)).1
  have := hM g hm
  omega
theorem wpList_append_n {P : Program} {w : World} {ops : Array Oper} {rest : List Oper} {o : Oper} {a : Act} {Q : Exit → Act → World → Prop} (hgd : o.guard = none) (s x : Operand)
    (t : TypeId) (T : RowTy P t 23 1 24 (.slice none 0 0)) (ho : o.op = .call { callee := .builtin .append, args := #[s, x], argTypes := #[t, t] })
    {M : Nat → Prop} {base : Nat} {v : Value} {ls : List (List UInt8)} (hown : OwnN w M base v ls) {e' : TypeId} {y : Value} {us : List Value} {rs : List (List UInt8)} (hy : Sl w e' 1 y rs.length us)
    (hr : ∀ i (h : i < rs.length) u, us[i]? = some u → (∃ e2, Bytes w e2 u rs[i]) ∧ ∀ g, homeOf u = some g → ¬ M g ∧ g < base) (hs : a.eval s = v) (hx : a.eval x = y)
    (hb : ls.length + rs.length ≤ 1000000) (hbase : base ≤ w.heap.size)
    (h : ∀ v' w', OwnN w' M base v' (ls ++ rs) → Keep (fun k => v.ownBlock = some k) w w' → wpList P ops Q rest (a.put o.dst v') w') : wpList P ops Q (o :: rest) a w := by
  obtain ⟨us0, h1, h2⟩ := id hown
  have hul : us.length = rs.length := by have := hy.1; omega
  refine wpList_append_sl hgd s x T ho h1 hy hs hx ?_ (by unfold maxLen; omega) (by omega) hbase ?_
  · intro u hu
    obtain ⟨i, hi, rfl⟩ := List.mem_iff_getElem.1 hu
    obtain ⟨⟨e2, hb2⟩, _⟩ := hr i (by omega) _ (List.getElem?_eq_getElem hi)
    exact hb2.one
  · intro v' w' h3 h4
    have K : Keep (fun k => v.ownBlock = some k) w w' := (Keep.refl _ w).grown h4 fun k e => .inl e
    refine h v' w' ⟨us0 ++ us, by rw [List.length_append]; exact h3, ?_⟩ K
    have h0 : us0.length = ls.length := by have := h1.1; omega
    intro i hi u hu
    rw [List.length_append] at hi
    rcases Nat.lt_or_ge i ls.length with hl | hl
    · rw [List.getElem?_append_left (by omega)] at hu
      rw [List.getElem_append_left hl]
      obtain ⟨⟨e2, q1⟩, q2⟩ := h2 i hl u hu
      exact ⟨⟨e2, q1.keep K fun g hg hm => by have := (q2 g hg).2; have := (hown.lt g hm).1; omega⟩, q2⟩
    · rw [List.getElem?_append_right (by omega), h0] at hu
      rw [List.getElem_append_right hl]
      obtain ⟨⟨e2, q1⟩, q2⟩ := hr (i - ls.length) (by omega) u hu
      exact ⟨⟨e2, q1.keep K fun g hg hm => by have := (q2 g hg).2; have := (hown.lt g hm).1; omega⟩, q2⟩
/-- rows that lie apart, as a source of an append -/
theorem Rows2N.src {w : World} {M : Nat → Prop} {e : TypeId} {v : Value} {rs : List (List UInt8)} (h : Rows2N M w e v rs) {base : Nat} (hb : w.heap.size ≤ base) :
    ∃ us, Sl w e 1 v rs.length us ∧ ∀ i (h : i < rs.length) u, us[i]? = some u → (∃ e2, Bytes w e2 u rs[i]) ∧ ∀ g, homeOf u = some g → ¬ M g ∧ g < base :=
  let ⟨us, _, h2, _, h4⟩ := h
  ⟨us, h2, fun i hi u hu => ⟨(h4 i hi u hu).1, fun g hg => ⟨(h4 i hi u hu).2 g hg, by obtain ⟨e2, hb2⟩ := (h4 i hi u hu).1; have := Sl.home_lt hb2 hg; omega⟩⟩⟩
theorem Rows2N.same {M : Nat → Prop} {w w' : World} {e : TypeId} {v : Value} {ls : List (List UInt8)} (h : Rows2N M w e v ls) (S : Same w w') : Rows2N M w' e v ls := h.keep (S.keep M)
theorem Rows2N.nil (M : Nat → Prop) (w : World) (e : TypeId) : Rows2N M w e (.slice none 0 0) [] := ⟨[], rfl, Sl.nil w e 1, (fun g h => by simp [homeOf] at h), fun i h => absurd h (Nat.not_lt_zero i)⟩

/-- a drive and a scroll of the walk's own -/
structure MidS (w0 w : World) (p s : Value) (F : Nat → Prop) (D : Dv) (S : Sc) : Prop where
  parts : ∃ FD FS, IsDv w p FD D ∧ IsSc w s p FS S ∧ (∀ i, FD i → ¬ FS i) ∧ (∀ i, F i ↔ (FD i ∨ FS i))
  bnd : Bnd F w0.heap.size w.heap.size
  old : Same w0 w
theorem MidS.same {w0 w w' : World} {p s : Value} {F : Nat → Prop} {D : Dv} {S : Sc} (h : MidS w0 w p s F D S) (Z : Same w w') : MidS w0 w' p s F D S :=
  let ⟨FD, FS, h1, h2, h3, h4⟩ := h.parts; ⟨⟨FD, FS, h1.same Z, h2.same Z, h3, h4⟩, h.bnd.mono Z.size, h.old.trans Z⟩
theorem MidS.ok {w0 w : World} {p s : Value} {F : Nat → Prop} {D : Dv} {S : Sc} (h : MidS w0 w p s F D S) : S.Ok := let ⟨_, _, _, h2, _⟩ := h.parts; h2.ok
theorem MidS.dok {w0 w : World} {p s : Value} {F : Nat → Prop} {D : Dv} {S : Sc} (h : MidS w0 w p s F D S) : D.Ok := let ⟨_, _, h1, _⟩ := h.parts; h1.ok
theorem MidS.sptr {w0 w : World} {p s : Value} {F : Nat → Prop} {D : Dv} {S : Sc} (h : MidS w0 w p s F D S) : ∃ b, s = .pointer (some ⟨b, 0, none⟩) := let ⟨_, _, _, h2, _⟩ := h.parts; h2.ptr
theorem MidS.append {w0 w : World} {p s : Value} {F : Nat → Prop} {D : Dv} {S : Sc} (h : MidS w0 w p s F D S) (v : Value) (e : TypeId) (b : List UInt8) (hb : Bytes w e v b) (hl : b.length ≤ 20000) (hnb : ∀ g, homeOf v = some g → ¬ F g) :
    Calls Try.prog 69 #[s, v] w fun en w' => ∃ F', en = .returned (.int .i64 (S.append D b).1) ∧ Keep F w w' ∧ Grow F F' w w' ∧ MidS w0 w' p s F' (S.append D b).2.2 (S.append D b).2.1 := by
  obtain ⟨FD, FS, h1, h2, h3, h4⟩ := h.parts
  refine (cAppend w s p v FD FS D S b e h1 h2 h3 (fun k hk => (h.bnd k ((h4 k).2 (.inl hk))).2) hb hl (fun g hg hn => hnb g hg ((h4 g).2 (.inl hn)))).mono ?_
  rintro en w' ⟨FS', rfl, K, I, J, G⟩
  have K' : Keep F w w' := K.weak' fun i hi => (h4 i).2 hi
  have G' : Grow F (fun i => FD i ∨ FS' i) w w' := fun i hi => by
    rcases hi with hi | hi
    · exact .inl ((h4 i).2 (.inl hi))
    · exact (G i hi).imp (fun x => (h4 i).2 (.inr x)) id
  refine ⟨fun i => FD i ∨ FS' i, rfl, K', G', ⟨FD, FS', I, J, fun i hi hn => ?_, fun i => Iff.rfl⟩, h.bnd.grow G' K.size h.old.size, h.old.keepOwn K' fun k hk => (h.bnd k hk).1⟩
  rcases G i hn with x | x
  · exact h3 i hi x
  · have := (h.bnd i ((h4 i).2 (.inl hi))).2; omega
theorem MidS.fuse {w0 w : World} {p s : Value} {F : Nat → Prop} {D : Dv} {S : Sc} (h : MidS w0 w p s F D S) (v : Value) (e : TypeId) (m : Int) (ks : List Int) (hk : Ints w e v ks) (hl : ks.length ≤ 1000) (hm : -9223372036854775808 ≤ m ∧ m ≤ 9223372036854775807) :
    Calls Try.prog 35 #[p, .int .i64 m, v] w fun en w' => ∃ F', en = .returned (.int .i64 (D.fuse m ks).1) ∧ Keep F w w' ∧ Grow F F' w w' ∧ MidS w0 w' p s F' (D.fuse m ks).2 S := by
  obtain ⟨FD, FS, h1, h2, h3, h4⟩ := h.parts
  refine (dFuseD w p v FD D m ks e h1 hk hl hm).mono ?_
  rintro en w' ⟨FD', rfl, K, I, G⟩
  have K' : Keep F w w' := K.weak' fun i hi => (h4 i).2 (.inl hi)
  have G' : Grow F (fun i => FD' i ∨ FS i) w w' := fun i hi => by
    rcases hi with hi | hi
    · exact (G i hi).imp (fun x => (h4 i).2 (.inl x)) id
    · exact .inl ((h4 i).2 (.inr hi))
  refine ⟨fun i => FD' i ∨ FS i, rfl, K', G', ⟨FD', FS, I, h2.keep K (fun i hi hn => h3 i hn hi), fun i hi hn => ?_, fun i => Iff.rfl⟩, h.bnd.grow G' K.size h.old.size, h.old.keepOwn K' fun k hk => (h.bnd k hk).1⟩
  rcases G i hi with x | x
  · exact h3 i x hn
  · have := (h.bnd i ((h4 i).2 (.inr hn))).2; omega
theorem MidS.start {w0 w : World} {p s : Value} {F : Nat → Prop} {D : Dv} {S : Sc} (h : MidS w0 w p s F D S) :
    Calls Try.prog 41 #[p] w fun en w' => en = .returned (.int .i64 0) ∧ Keep F w w' ∧ MidS w0 w' p s F D.start S := by
  obtain ⟨FD, FS, h1, h2, h3, h4⟩ := h.parts
  refine (dStartD w p FD D h1).mono ?_
  rintro en w' ⟨rfl, K, I⟩
  have K' : Keep F w w' := K.weak' fun i hi => (h4 i).2 (.inl hi)
  exact ⟨rfl, K', ⟨FD, FS, I, h2.keep K (fun i hi hn => h3 i hn hi), h3, h4⟩, h.bnd.mono K.size, h.old.keepOwn K' fun k hk => (h.bnd k hk).1⟩
theorem MidS.open {w0 w : World} {p s : Value} {F : Nat → Prop} {D : Dv} {S : Sc} (h : MidS w0 w p s F D S) (a b life era : Int) (hE : D.openE a b life era = 0) :
    Calls Try.prog 61 #[p, .int .i64 a, .int .i64 b, .int .i64 life, .int .i64 era] w fun en w' => ∃ s' F', en = .returned (.tuple #[s', .int .i64 0]) ∧ Same w w' ∧ Grow F F' w w' ∧ MidS w0 w' p s' F' D (D.opened a b life era) := by
  obtain ⟨FD, FS, h1, h2, h3, h4⟩ := h.parts
  refine (cOpen w p FD D a b life era h1 (fun k hk => (h.bnd k ((h4 k).2 (.inl hk))).2)).mono ?_
  rintro en w' hr
  obtain ⟨s', FS', rfl, I, Z, B⟩ := hr.good hE
  have G' : Grow F (fun i => FD i ∨ FS' i) w w' := fun i hi => by
    rcases hi with hi | hi
    · exact .inl ((h4 i).2 (.inl hi))
    · exact .inr (B i hi)
  exact ⟨s', fun i => FD i ∨ FS' i, rfl, Z, G', ⟨FD, FS', h1.same Z, I, fun i hi hn => by have h5 := (h.bnd i ((h4 i).2 (.inl hi))).2; have h6 := (B i hn).1; omega, fun i => Iff.rfl⟩, h.bnd.grow G' Z.size h.old.size, h.old.trans Z⟩
theorem MidS.first {w0 w : World} {p : Value} {F : Nat → Prop} {D : Dv} (h : Mid w0 w p F D) (a b life era : Int) (hE : D.openE a b life era = 0) :
    Calls Try.prog 61 #[p, .int .i64 a, .int .i64 b, .int .i64 life, .int .i64 era] w fun en w' => ∃ s' F', en = .returned (.tuple #[s', .int .i64 0]) ∧ Same w w' ∧ MidS w0 w' p s' F' D (D.opened a b life era) := by
  refine (cOpen w p F D a b life era h.dv (fun k hk => (h.bnd k hk).2)).mono ?_
  rintro en w' hr
  obtain ⟨s', FS', rfl, I, Z, B⟩ := hr.good hE
  have G' : Grow F (fun i => F i ∨ FS' i) w w' := fun i hi => hi.imp id (B i)
  exact ⟨s', fun i => F i ∨ FS' i, rfl, Z, ⟨F, FS', h.dv.same Z, I, fun i hi hn => by have h5 := (h.bnd i hi).2; have h6 := (B i hn).1; omega, fun i => Iff.rfl⟩, h.bnd.grow G' Z.size h.old.size, h.old.trans Z⟩
theorem MidS.records {w0 w : World} {p s : Value} {F : Nat → Prop} {D : Dv} {S : Sc} (h : MidS w0 w p s F D S) :
    Calls Try.prog 65 #[s] w fun en w' => ∃ a c, en = .returned (.slice a S.all.length c) ∧ Rows2N F w' 23 (.slice a S.all.length c) S.all ∧ Same w w' := by
  obtain ⟨FD, FS, h1, h2, h3, h4⟩ := h.parts
  refine (cRecords w s p FS S h2 h1.ptr).mono ?_
  rintro en w' ⟨v, rfl, O, Z⟩
  obtain ⟨a, c, rfl, _, _⟩ := O.rows.form
  exact ⟨a, c, rfl, O.rows2N fun k hk => (h.bnd k hk).2, Z⟩
theorem MidS.live {w0 w : World} {p s : Value} {F : Nat → Prop} {D : Dv} {S : Sc} (h : MidS w0 w p s F D S) : Calls Try.prog 37 #[p] w (RetSame (.bool !D.off) w) := by
  obtain ⟨FD, FS, h1, _⟩ := h.parts
  exact dLiveD w p FD D h1
theorem Rows2N.sames {M M' : Nat → Prop} {w : World} {e e' : TypeId} {v v' : Value} {ls ls' : List (List UInt8)} (h : Rows2N M w e v ls) (h' : Rows2N M' w e' v' ls') : Calls Try.prog 64 #[v, v'] w (RetSame (.bool (decide (ls = ls'))) w) :=
  rSame2 w e e' v v' ls ls' h.rows h'.rows
theorem Rows2N.form {M : Nat → Prop} {w : World} {e : TypeId} {v : Value} {ls : List (List UInt8)} (h : Rows2N M w e v ls) : ∃ a c, v = .slice a ls.length c := let ⟨a, c, h1, _⟩ := h.rows.form; ⟨a, c, h1⟩
end Go.Proofs.Ytlhnpicmjjddeaa
namespace Go.Proofs.Ytlhnpicmjjddeaa
open Go.RowKit

theorem heap_alloc_new' (w : World) (o : Obj) : (w.alloc o).heap[w.heap.size]? = some o := heap_alloc_new w o
def Dj (A B : Nat → Prop) : Prop := ∀ i, A i → ¬ B i
theorem Dj.symm {A B : Nat → Prop} (h : Dj A B) : Dj B A := fun i hb ha => h i ha hb
theorem Dj.growL {A A' B : Nat → Prop} {w w' : World} (h : Dj A B) (g : Grow A A' w w') (hB : ∀ k, B k → k < w.heap.size) : Dj A' B := fun i hi hb => by
  rcases g i hi with x | x
  · exact h i x hb
  · have := hB i hb; omega
theorem Dj.growR {A B B' : Nat → Prop} {w w' : World} (h : Dj A B) (g : Grow B B' w w') (hA : ∀ k, A k → k < w.heap.size) : Dj A B' := (h.symm.growL g hA).symm
/-- a drive, the reference's drive -/
structure MidD (w0 w : World) (p px : Value) (FD FX : Nat → Prop) (D D2 : Dv) : Prop where
  dv : IsDv w p FD D
  rd : IsRd w px FX D2
  dx : Dj FD FX
  bd : Bnd FD w0.heap.size w.heap.size
  bx : Bnd FX w0.heap.size w.heap.size
  old : Same w0 w
/-- a drive, a scroll; the reference's drive, the reference's scroll; objects A that lie aside -/
structure MidX (A : Nat → Obj → Prop) (w0 w : World) (p s px sx : Value) (D : Dv) (S : Sc) (D2 : Dv) (S2 : Sc) : Prop where
  parts : ∃ FD FS FX FY N, MidD w0 w p px FD FX D D2 ∧ IsSc w s p FS S ∧ IsRs w sx px FY N S2 ∧ Dj FD FS ∧ Dj FD FY ∧ Dj FS FX ∧ Dj FS FY ∧ Dj FX FY ∧ Bnd FS w0.heap.size w.heap.size ∧ Bnd FY w0.heap.size w.heap.size ∧
    (∀ g, N g → ¬ FD g ∧ ¬ FS g ∧ ¬ FX g ∧ g < w.heap.size) ∧ (∀ g o, A g o → w.heap[g]? = some o ∧ ¬ FD g ∧ ¬ FS g ∧ ¬ FX g ∧ ¬ FY g)
section
variable {w0 w w' : World} {p s px sx : Value} {D D2 : Dv} {S S2 : Sc} {FD FX : Nat → Prop} {A : Nat → Obj → Prop}
theorem MidD.same (h : MidD w0 w p px FD FX D D2) (Z : Same w w') : MidD w0 w' p px FD FX D D2 := ⟨h.dv.same Z, h.rd.same Z, h.dx, h.bd.mono Z.size, h.bx.mono Z.size, h.old.trans Z⟩
theorem MidX.same (h : MidX A w0 w p s px sx D S D2 S2) (Z : Same w w') : MidX A w0 w' p s px sx D S D2 S2 :=
  let ⟨FD, FS, FX, FY, N, h1, h2, h3, h4, h5, h6, h7, h8, h9, h10, h11, h12⟩ := h.parts
  ⟨FD, FS, FX, FY, N, h1.same Z, h2.same Z, h3.same Z, h4, h5, h6, h7, h8, h9.mono Z.size, h10.mono Z.size, (fun g hg => let ⟨a, b, c, d⟩ := h11 g hg; ⟨a, b, c, Nat.lt_of_lt_of_le d Z.size⟩), fun g o hg => let ⟨a, b⟩ := h12 g o hg; ⟨(Z.block g (Array.getElem?_eq_some_iff.1 a).1 fun x => x).trans a, b⟩⟩
theorem MidX.put (h : MidX A w0 w p s px sx D S D2 S2) (o : Obj) : MidX (fun g x => A g x ∨ (g = w.heap.size ∧ x = o)) w0 (w.alloc o) p s px sx D S D2 S2 := by
  obtain ⟨FD, FS, FX, FY, N, h1, h2, h3, h4, h5, h6, h7, h8, h9, h10, h11, h12⟩ := (h.same ((Same.refl w).alloc o)).parts
  obtain ⟨FD', FS', FX', FY', N', k1, k2, k3, k4, k5, k6, k7, k8, k9, k10, k11, k12⟩ := h.parts
  have T : Same w (w.alloc o) := (Same.refl w).alloc o
  refine ⟨FD', FS', FX', FY', N', k1.same T, k2.same T, k3.same T, k4, k5, k6, k7, k8, k9.mono T.size, k10.mono T.size, (fun g hg => let ⟨a, b, c, d⟩ := k11 g hg; ⟨a, b, c, Nat.lt_of_lt_of_le d T.size⟩), fun g x hx => ?_⟩
  rcases hx with hx | ⟨rfl, rfl⟩
  · obtain ⟨a, b⟩ := k12 g x hx
    exact ⟨(T.block g (Array.getElem?_eq_some_iff.1 a).1 fun x => x).trans a, b⟩
  · refine ⟨heap_alloc_new' w x, fun hf => ?_, fun hf => ?_, fun hf => ?_, fun hf => ?_⟩
    · have := (k1.bd _ hf).2; omega
    · have := (k9 _ hf).2; omega
    · have := (k1.bx _ hf).2; omega
    · have := (k10 _ hf).2; omega
def NoA (_ : Nat) (_ : Obj) : Prop := False
theorem MidX.bare (h : MidX A w0 w p s px sx D S D2 S2) : MidX NoA w0 w p s px sx D S D2 S2 :=
  let ⟨FD, FS, FX, FY, N, h1, h2, h3, h4, h5, h6, h7, h8, h9, h10, h11, h12⟩ := h.parts
  ⟨FD, FS, FX, FY, N, h1, h2, h3, h4, h5, h6, h7, h8, h9, h10, h11, fun _ _ x => x.elim⟩
theorem MidX.aside (h : MidX A w0 w p s px sx D S D2 S2) {g : Nat} {o : Obj} (ha : A g o) : w.heap[g]? = some o :=
  let ⟨_, _, _, _, _, _, _, _, _, _, _, _, _, _, _, _, h12⟩ := h.parts; (h12 g o ha).1
theorem MidX.old (h : MidX A w0 w p s px sx D S D2 S2) : Same w0 w := let ⟨_, _, _, _, _, h1, _⟩ := h.parts; h1.old
theorem MidX.ok (h : MidX A w0 w p s px sx D S D2 S2) : S.Ok := let ⟨_, _, _, _, _, _, h2, _⟩ := h.parts; h2.ok
theorem MidX.dok (h : MidX A w0 w p s px sx D S D2 S2) : D.Ok := let ⟨_, _, _, _, _, h1, _⟩ := h.parts; h1.dv.ok
theorem MidX.ptrs (h : MidX A w0 w p s px sx D S D2 S2) : (∃ b, p = .pointer (some ⟨b, 0, none⟩)) ∧ (∃ b, s = .pointer (some ⟨b, 0, none⟩)) ∧ (∃ b, px = .pointer (some ⟨b, 0, none⟩)) ∧ (∃ b, sx = .pointer (some ⟨b, 0, none⟩)) :=
  let ⟨_, _, _, _, _, h1, h2, h3, _⟩ := h.parts; ⟨h1.dv.ptr, h2.ptr, h1.rd.ptr, h3.ptr⟩
/-- bytes that came in are read where they lay -/
theorem bytes_low {F : Nat → Prop} {e : TypeId} {v : Value} {b : List UInt8} (hb : Bytes w0 e v b) {c : Nat} (B : Bnd F w0.heap.size c) : ∀ g, homeOf v = some g → ¬ F g := fun g hg hn => by
  have h1 := Sl.home_lt hb hg
  have h2 := (B g hn).1
  omega
theorem ints_low {F : Nat → Prop} {e : TypeId} {v : Value} {b : List Int} (hb : Ints w0 e v b) {c : Nat} (B : Bnd F w0.heap.size c) : ∀ g, homeOf v = some g → ¬ F g := fun g hg hn => by
  have h1 := Sl.home_lt hb hg
  have h2 := (B g hn).1
  omega
theorem MidX.append (h : MidX A w0 w p s px sx D S D2 S2) (v : Value) (e : TypeId) (b : List UInt8) (hb : Bytes w0 e v b) (hl : b.length ≤ 400) :
    Calls Try.prog 69 #[s, v] w fun en w' => en = .returned (.int .i64 (S.append D b).1) ∧ MidX A w0 w' p s px sx (S.append D b).2.2 (S.append D b).2.1 D2 S2 := by
  obtain ⟨FD, FS, FX, FY, N, h1, h2, h3, h4, h5, h6, h7, h8, h9, h10, h11, h12⟩ := h.parts
  refine (cAppend w s p v FD FS D S b e h1.dv h2 h4 (fun k hk => (h1.bd k hk).2) (hb.same h1.old) (by omega) (bytes_low hb h1.bd)).mono ?_
  rintro en w' ⟨FS', rfl, K, I, J, G⟩
  have hz := K.size
  have Z : Same w0 w' := h1.old.keepOwn K fun k hk => by
    rcases hk with hk | hk
    · exact (h1.bd k hk).1
    · exact (h9 k hk).1
  refine ⟨rfl, FD, FS', FX, FY, N, ⟨I, h1.rd.keep K fun i hi hn => ?_, h1.dx, h1.bd.mono hz, h1.bx.mono hz, Z⟩, J, h3.keep K (fun i hi hn => ?_) (fun i hi hn => ?_), h4.growR G (fun k hk => (h1.bd k hk).2), h5, h6.growL G (fun k hk => (h1.bx k hk).2), h7.growL G (fun k hk => (h10 k hk).2), h8, h9.grow G hz h1.old.size, h10.mono hz, fun g hg => ?_, fun g o ho => ?_⟩
  · rcases hn with hn | hn
    · exact h1.dx i hn hi
    · exact h6 i hn hi
  · rcases hn with hn | hn
    · exact h5 i hn hi
    · exact h7 i hn hi
  · rcases hn with hn | hn
    · exact (h11 i hi).1 hn
    · exact (h11 i hi).2.1 hn
  · obtain ⟨a, b, c, d⟩ := h11 g hg
    refine ⟨a, fun hf => ?_, c, by omega⟩
    rcases G g hf with x | x
    · exact b x
    · omega
  · obtain ⟨q, a, b, c, d⟩ := h12 g o ho
    have hl := (Array.getElem?_eq_some_iff.1 q).1
    refine ⟨(K.block g hl fun x => x.elim a b).trans q, a, fun hf => ?_, c, d⟩
    rcases G g hf with x | x
    · exact b x
    · omega
theorem MidX.rappend (h : MidX A w0 w p s px sx D S D2 S2) (hok : S2.Ok) (v : Value) (e : TypeId) (b : List UInt8) (hb : Bytes w0 e v b) (hl : b.length ≤ 400) :
    Calls Try.prog 70 #[sx, v] w fun en w' => en = .returned (.int .i64 (S2.append D2 b).1) ∧ MidX A w0 w' p s px sx D S (S2.append D2 b).2.2 (S2.append D2 b).2.1 := by
  obtain ⟨FD, FS, FX, FY, N, h1, h2, h3, h4, h5, h6, h7, h8, h9, h10, h11, h12⟩ := h.parts
  refine (rAppend w sx px v FX FY N D2 S2 b e h1.rd h3 hok h8 (fun k hk => (h1.bx k hk).2) (fun k hk => (h10 k hk).2) (fun g hg => ⟨(h11 g hg).2.2.1, (h11 g hg).2.2.2⟩) (hb.same h1.old) hl (fun g hg => ⟨bytes_low hb h1.bx g hg, bytes_low hb h10 g hg⟩)).mono ?_
  rintro en w' ⟨FX', FY', N', rfl, K, I, J, GX, GY, hXY, hNX, hN⟩
  have hz := K.size
  have Z : Same w0 w' := h1.old.keepOwn K fun k hk => by
    rcases hk with hk | hk
    · exact (h1.bx k hk).1
    · exact (h10 k hk).1
  refine ⟨rfl, FD, FS, FX', FY', N', ⟨h1.dv.keep K fun i hi hn => ?_, I, h1.dx.growR GX (fun k hk => (h1.bd k hk).2), h1.bd.mono hz, h1.bx.grow GX hz h1.old.size, Z⟩, h2.keep K (fun i hi hn => ?_), J, h4, h5.growR GY (fun k hk => (h1.bd k hk).2), h6.growR GX (fun k hk => (h9 k hk).2), h7.growR GY (fun k hk => (h9 k hk).2), hXY, h9.mono hz, h10.grow GY hz h1.old.size, fun g hg => ?_, fun g o ho => ?_⟩
  · rcases hn with hn | hn
    · exact h1.dx i hi hn
    · exact h5 i hi hn
  · rcases hn with hn | hn
    · exact h6 i hi hn
    · exact h7 i hi hn
  · rcases hN g hg with x | x
    · obtain ⟨a, b, c, d⟩ := h11 g x
      exact ⟨a, b, hNX g hg, by omega⟩
    · have hl2 := Sl.home_lt (hb.same h1.old) x
      exact ⟨bytes_low hb h1.bd g x, bytes_low hb h9 g x, hNX g hg, by omega⟩
  · obtain ⟨q, a, b, c, d⟩ := h12 g o ho
    have hl := (Array.getElem?_eq_some_iff.1 q).1
    refine ⟨(K.block g hl fun x => x.elim c d).trans q, a, b, fun hf => ?_, fun hf => ?_⟩
    · rcases GX g hf with x | x
      · exact c x
      · omega
    · rcases GY g hf with x | x
      · exact d x
      · omega
theorem MidX.fuse (h : MidX A w0 w p s px sx D S D2 S2) (v : Value) (e : TypeId) (m : Int) (ks : List Int) (hk : Ints w0 e v ks) (hl : ks.length ≤ 1000) (hm : -9223372036854775808 ≤ m ∧ m ≤ 9223372036854775807) :
    Calls Try.prog 35 #[p, .int .i64 m, v] w fun en w' => en = .returned (.int .i64 (D.fuse m ks).1) ∧ MidX A w0 w' p s px sx (D.fuse m ks).2 S D2 S2 := by
  obtain ⟨FD, FS, FX, FY, N, h1, h2, h3, h4, h5, h6, h7, h8, h9, h10, h11, h12⟩ := h.parts
  refine (dFuseD w p v FD D m ks e h1.dv (hk.same h1.old) hl hm).mono ?_
  rintro en w' ⟨FD', rfl, K, I, G⟩
  have hz := K.size
  have Z : Same w0 w' := h1.old.keepOwn K fun k hk => (h1.bd k hk).1
  refine ⟨rfl, FD', FS, FX, FY, N, ⟨I, h1.rd.keep K (fun i hi hn => h1.dx i hn hi), h1.dx.growL G (fun k hk => (h1.bx k hk).2), h1.bd.grow G hz h1.old.size, h1.bx.mono hz, Z⟩, h2.keep K (fun i hi hn => h4 i hn hi), h3.keep K (fun i hi hn => h5 i hn hi) (fun i hi => (h11 i hi).1), h4.growL G (fun k hk => (h9 k hk).2), h5.growL G (fun k hk => (h10 k hk).2), h6, h7, h8, h9.mono hz, h10.mono hz, fun g hg => ?_, fun g o ho => ?_⟩
  · obtain ⟨a, b, c, d⟩ := h11 g hg
    refine ⟨fun hf => ?_, b, c, by omega⟩
    rcases G g hf with x | x
    · exact a x
    · omega
  · obtain ⟨q, a, b, c, d⟩ := h12 g o ho
    have hl := (Array.getElem?_eq_some_iff.1 q).1
    refine ⟨(K.block g hl a).trans q, fun hf => ?_, b, c, d⟩
    rcases G g hf with x | x
    · exact a x
    · omega
theorem MidX.rfuse (h : MidX A w0 w p s px sx D S D2 S2) (v : Value) (e : TypeId) (m : Int) (ks : List Int) (hk : Ints w0 e v ks) (hl : ks.length ≤ 1000) (hm : -9223372036854775808 ≤ m ∧ m ≤ 9223372036854775807) :
    Calls Try.prog 71 #[px, .int .i64 m, v] w fun en w' => en = .returned (.int .i64 (D2.fuse m ks).1) ∧ MidX A w0 w' p s px sx D S (D2.fuse m ks).2 S2 := by
  obtain ⟨FD, FS, FX, FY, N, h1, h2, h3, h4, h5, h6, h7, h8, h9, h10, h11, h12⟩ := h.parts
  refine (rFused w px v FX D2 m ks e h1.rd (hk.same h1.old) (ints_low hk h1.bx) hl hm).mono ?_
  rintro en w' ⟨FX', rfl, K, I, G⟩
  have hz := K.size
  have Z : Same w0 w' := h1.old.keepOwn K fun k hk => (h1.bx k hk).1
  refine ⟨rfl, FD, FS, FX', FY, N, ⟨h1.dv.keep K (fun i hi hn => h1.dx i hi hn), I, h1.dx.growR G (fun k hk => (h1.bd k hk).2), h1.bd.mono hz, h1.bx.grow G hz h1.old.size, Z⟩, h2.keep K (fun i hi hn => h6 i hi hn), h3.keep K (fun i hi hn => h8 i hn hi) (fun i hi => (h11 i hi).2.2.1), h4, h5, h6.growR G (fun k hk => (h9 k hk).2), h7, h8.growL G (fun k hk => (h10 k hk).2), h9.mono hz, h10.mono hz, fun g hg => ?_, fun g o ho => ?_⟩
  · obtain ⟨a, b, c, d⟩ := h11 g hg
    refine ⟨a, b, fun hf => ?_, by omega⟩
    rcases G g hf with x | x
    · exact c x
    · omega
  · obtain ⟨q, a, b, c, d⟩ := h12 g o ho
    have hl := (Array.getElem?_eq_some_iff.1 q).1
    refine ⟨(K.block g hl c).trans q, a, b, fun hf => ?_, d⟩
    rcases G g hf with x | x
    · exact c x
    · omega
theorem MidX.start (h : MidX A w0 w p s px sx D S D2 S2) : Calls Try.prog 41 #[p] w fun en w' => en = .returned (.int .i64 0) ∧ MidX A w0 w' p s px sx D.start S D2 S2 := by
  obtain ⟨FD, FS, FX, FY, N, h1, h2, h3, h4, h5, h6, h7, h8, h9, h10, h11, h12⟩ := h.parts
  refine (dStartD w p FD D h1.dv).mono ?_
  rintro en w' ⟨rfl, K, I⟩
  have hz := K.size
  have Z : Same w0 w' := h1.old.keepOwn K fun k hk => (h1.bd k hk).1
  exact ⟨rfl, FD, FS, FX, FY, N, ⟨I, h1.rd.keep K (fun i hi hn => h1.dx i hn hi), h1.dx, h1.bd.mono hz, h1.bx.mono hz, Z⟩, h2.keep K (fun i hi hn => h4 i hn hi), h3.keep K (fun i hi hn => h5 i hn hi) (fun i hi => (h11 i hi).1), h4, h5, h6, h7, h8, h9.mono hz, h10.mono hz, (fun g hg => let ⟨a, b, c, d⟩ := h11 g hg; ⟨a, b, c, by omega⟩), fun g o ho => let ⟨q, a, b⟩ := h12 g o ho; ⟨(K.block g (Array.getElem?_eq_some_iff.1 q).1 a).trans q, a, b⟩⟩
/-- the reference's drive: power on -/
theorem IsRd.start {b : Nat} {F : Nat → Prop} (h : IsRd w (.pointer (some ⟨b, 0, none⟩)) F D) :
    F b ∧ (∃ v1 v2, w.cell? ⟨b, 1, none⟩ = some v1 ∧ w.cell? ⟨b, 2, none⟩ = some v2 ∧ w.frozen? ⟨b, 1, none⟩ = false ∧ w.frozen? ⟨b, 2, none⟩ = false) ∧
    IsRd ((w.setCell ⟨b, 1, none⟩ (.bool false)).setCell ⟨b, 2, none⟩ (.int .i64 (-1))) (.pointer (some ⟨b, 0, none⟩)) F D.start := by
  obtain ⟨b', rv, fz, kv, ks, n, e, h1, h2, h3, h4, h5, h6, h7, h8⟩ := h
  obtain rfl : b = b' := by simpa using e
  obtain ⟨c0, c1, c2, c3, c4⟩ := h1.cells
  have K : Keep (fun k => k = b) w ((w.setCell ⟨b, 1, none⟩ (.bool false)).setCell ⟨b, 2, none⟩ (.int .i64 (-1))) := ((Keep.refl (fun k => k = b) w).setCell (p := ⟨b, 1, none⟩) (.inl rfl) _).setCell (p := ⟨b, 2, none⟩) (.inl rfl) _
  refine ⟨h2, ⟨_, _, c1, c2, h1.free 1, h1.free 2⟩, b, rv, -1, kv, ks, n, rfl, (h1.set1 _).set2 _, h2, h3.box5 h1 K, h4.box5 h1 K, h5, (fun _ => rfl), (fun x => by cases x), ?_⟩
  obtain ⟨q1, q2, q3, q4, q5, q6, q7⟩ := h8
  exact ⟨q1, q2, q3, (fun _ x => by cases x), by simp [Dv.start], by simp [Dv.start], by simp [Dv.start]⟩
theorem MidX.rstart {b : Nat} (h : MidX A w0 w p s (.pointer (some ⟨b, 0, none⟩)) sx D S D2 S2) :
    (∃ v1 v2, w.cell? ⟨b, 1, none⟩ = some v1 ∧ w.cell? ⟨b, 2, none⟩ = some v2 ∧ w.frozen? ⟨b, 1, none⟩ = false ∧ w.frozen? ⟨b, 2, none⟩ = false) ∧
    MidX A w0 ((w.setCell ⟨b, 1, none⟩ (.bool false)).setCell ⟨b, 2, none⟩ (.int .i64 (-1))) p s (.pointer (some ⟨b, 0, none⟩)) sx D S D2.start S2 := by
  obtain ⟨FD, FS, FX, FY, N, h1, h2, h3, h4, h5, h6, h7, h8, h9, h10, h11, h12⟩ := h.parts
  obtain ⟨hF, hc, I⟩ := h1.rd.start
  have K : Keep FX w ((w.setCell ⟨b, 1, none⟩ (.bool false)).setCell ⟨b, 2, none⟩ (.int .i64 (-1))) := ((Keep.refl FX w).setCell (p := ⟨b, 1, none⟩) (.inl hF) _).setCell (p := ⟨b, 2, none⟩) (.inl hF) _
  have hz := K.size
  have Z := h1.old.keepOwn K fun k hk => (h1.bx k hk).1
  exact ⟨hc, FD, FS, FX, FY, N, ⟨h1.dv.keep K (fun i hi hn => h1.dx i hi hn), I, h1.dx, h1.bd.mono hz, h1.bx.mono hz, Z⟩, h2.keep K (fun i hi hn => h6 i hi hn), h3.keep K (fun i hi hn => h8 i hn hi) (fun i hi => (h11 i hi).2.2.1), h4, h5, h6, h7, h8, h9.mono hz, h10.mono hz, (fun g hg => let ⟨a, b, c, d⟩ := h11 g hg; ⟨a, b, c, by omega⟩), fun g o ho => let ⟨q, a, b, c, d⟩ := h12 g o ho; ⟨(K.block g (Array.getElem?_eq_some_iff.1 q).1 c).trans q, a, b, c, d⟩⟩
end
end Go.Proofs.Ytlhnpicmjjddeaa
namespace Go.Proofs.Ytlhnpicmjjddeaa
open Go.RowKit

/-- a drive, a scroll; the reference's drive -/
structure MidR (w0 w : World) (p s px : Value) (D : Dv) (S : Sc) (D2 : Dv) : Prop where
  parts : ∃ FD FS FX, MidD w0 w p px FD FX D D2 ∧ IsSc w s p FS S ∧ Dj FD FS ∧ Dj FS FX ∧ Bnd FS w0.heap.size w.heap.size
/-- both drives, however they lie -/
def MidE (w0 w : World) (p px : Value) (D D2 : Dv) : Prop := ∃ FD FX, MidD w0 w p px FD FX D D2
section
variable {w0 w w' : World} {p s px sx : Value} {D D2 : Dv} {S S2 : Sc} {A : Nat → Obj → Prop}
theorem MidX.forget (h : MidX A w0 w p s px sx D S D2 S2) : MidE w0 w p px D D2 := let ⟨FD, _, FX, _, _, h1, _⟩ := h.parts; ⟨FD, FX, h1⟩
theorem MidE.same (h : MidE w0 w p px D D2) (Z : Same w w') : MidE w0 w' p px D D2 := let ⟨FD, FX, h1⟩ := h; ⟨FD, FX, h1.same Z⟩
theorem MidE.old (h : MidE w0 w p px D D2) : Same w0 w := let ⟨_, _, h1⟩ := h; h1.old
theorem MidE.ptrs (h : MidE w0 w p px D D2) : (∃ b, p = .pointer (some ⟨b, 0, none⟩)) ∧ (∃ b, px = .pointer (some ⟨b, 0, none⟩)) := let ⟨_, _, h1⟩ := h; ⟨h1.dv.ptr, h1.rd.ptr⟩
theorem MidE.ok (h : MidE w0 w p px D D2) : D.Ok := let ⟨_, _, h1⟩ := h; h1.dv.ok
theorem MidR.same (h : MidR w0 w p s px D S D2) (Z : Same w w') : MidR w0 w' p s px D S D2 :=
  let ⟨FD, FS, FX, h1, h2, h3, h4, h5⟩ := h.parts; ⟨FD, FS, FX, h1.same Z, h2.same Z, h3, h4, h5.mono Z.size⟩
theorem MidR.old (h : MidR w0 w p s px D S D2) : Same w0 w := let ⟨_, _, _, h1, _⟩ := h.parts; h1.old
theorem MidR.sptr (h : MidR w0 w p s px D S D2) : ∃ b, s = .pointer (some ⟨b, 0, none⟩) := let ⟨_, _, _, _, h2, _⟩ := h.parts; h2.ptr
theorem MidR.ok (h : MidR w0 w p s px D S D2) : S.Ok := let ⟨_, _, _, _, h2, _⟩ := h.parts; h2.ok
theorem MidX.used (h : MidX A w0 w p s px sx D S D2 S2) : Calls Try.prog 66 #[s] w (RetSame (.int .i64 (S.at_ - S.from_)) w) := by
  obtain ⟨FD, FS, FX, FY, N, h1, h2, _⟩ := h.parts
  exact cUsed w s p FS S h2 h1.dv.ptr
theorem MidX.records (h : MidX A w0 w p s px sx D S D2 S2) : Calls Try.prog 65 #[s] w (RetRows S.all w) := by
  obtain ⟨FD, FS, FX, FY, N, h1, h2, _⟩ := h.parts
  exact cRecords w s p FS S h2 h1.dv.ptr
theorem MidE.newest (h : MidE w0 w p px D D2) (a b : Int) : Calls Try.prog 67 #[p, .int .i64 a, .int .i64 b] w (RetSame (.int .i64 (D.newest a b)) w) := by
  obtain ⟨FD, FX, h1⟩ := h
  exact cNewest w p FD D a b h1.dv
theorem MidE.rnewest (h : MidE w0 w p px D D2) (x y : Nat) (hx : x ≤ y) (hy : y ≤ D2.C.length) : Calls Try.prog 68 #[px, .int .i64 x, .int .i64 y] w (RetSame (.int .i64 (D2.newest x y)) w) := by
  obtain ⟨FD, FX, h1⟩ := h
  have hok := h1.rd.ok.1
  obtain ⟨b, rv, fz, kv, ks, n, rfl, q1, q2, q3, _⟩ := h1.rd
  have e : D2.newest x y = D2.most x (y - x) := by
    have g1 : D2.within x y = true := decide_eq_true ⟨by omega, by omega, by omega⟩
    unfold Dv.newest
    rw [if_pos g1, show ((y : Int) - (x : Int)).toNat = y - x from by omega]
  rw [e]
  exact rNewest w b _ _ _ _ _ D2 x y q1 q3.rows hx hy hok
/-- the reference's scroll, seen -/
theorem MidX.seen (h : MidX A w0 w p s px sx D S D2 S2) : ∃ b v, sx = .pointer (some ⟨b, 0, none⟩) ∧ w.cell? ⟨b, 5, none⟩ = some v ∧ w.cell? ⟨b, 6, none⟩ = some (.int .i64 (S2.at_ - S2.from_)) ∧ Rows2 w 23 v S2.all := by
  obtain ⟨FD, FS, FX, FY, N, h1, h2, ⟨b, v, rfl, hB, hF, hQ, _⟩, _⟩ := h.parts
  obtain ⟨c0, c1, c2, c3, c4, c5, c6, c7⟩ := hB.cells
  exact ⟨b, v, rfl, c5, c6, hQ.rows⟩
theorem MidE.open (h : MidE w0 w p px D D2) (a b life era : Int) (hE : D.openE a b life era = 0) :
    Calls Try.prog 61 #[p, .int .i64 a, .int .i64 b, .int .i64 life, .int .i64 era] w fun en w' => ∃ s', en = .returned (.tuple #[s', .int .i64 0]) ∧ MidR w0 w' p s' px D (D.opened a b life era) D2 := by
  obtain ⟨FD, FX, h1⟩ := h
  refine (cOpen w p FD D a b life era h1.dv (fun k hk => (h1.bd k hk).2)).mono ?_
  rintro en w' hr
  obtain ⟨s', FS', rfl, I, Z, B⟩ := hr.good hE
  have hz := h1.old.size
  exact ⟨s', rfl, FD, FS', FX, h1.same Z, I, fun i hi hn => by have := (h1.bd i hi).2; have := (B i hn).1; omega, fun i hi hn => by have := (h1.bx i hn).2; have := (B i hi).1; omega, fun k hk => ⟨by have := (B k hk).1; omega, (B k hk).2⟩⟩
theorem MidR.ropen (h : MidR w0 w p s px D S D2) (a b life era : Int) (hE : D2.openE a b life era = 0) :
    Calls Try.prog 62 #[px, .int .i64 a, .int .i64 b, .int .i64 life, .int .i64 era] w fun en w' => ∃ sx, en = .returned (.tuple #[sx, .int .i64 0]) ∧ MidX NoA w0 w' p s px sx D S D2 (D2.opened a b life era) := by
  obtain ⟨FD, FS, FX, h1, h2, h3, h4, h5⟩ := h.parts
  refine (rOpen w px FX D2 a b life era h1.rd).mono ?_
  rintro en w' hr
  rcases hr with ⟨e, _⟩ | ⟨_, sx, F, N, rfl, I, Z, B, BN⟩
  · rw [hE] at e; cases e
  have hz := h1.old.size
  refine ⟨sx, rfl, FD, FS, FX, F, N, h1.same Z, h2.same Z, I, h3, fun i hi hn => ?_, h4, fun i hi hn => ?_, fun i hi hn => ?_, h5.mono Z.size, fun k hk => ⟨by have := (B k hk).1; omega, (B k hk).2⟩, fun g hg => ⟨fun hf => ?_, fun hf => ?_, fun hf => ?_, (BN g hg).2⟩, fun _ _ x => x.elim⟩
  · have := (h1.bd i hi).2; have := (B i hn).1; omega
  · have := (h5 i hi).2; have := (B i hn).1; omega
  · have := (h1.bx i hi).2; have := (B i hn).1; omega
  · have := (h1.bd g hf).2; have := (BN g hg).1; omega
  · have := (h5 g hf).2; have := (BN g hg).1; omega
  · have := (h1.bx g hf).2; have := (BN g hg).1; omega
end
/-! ### lives are bounded -/
theorem most_le {D : Dv} {from_ B : Int} (hB : 0 ≤ B) : ∀ k : Nat, (∀ i : Nat, i < k → (decF (D.sector (from_ + i))).life ≤ B) → D.most from_ k ≤ B := by
  intro k
  induction k with
  | zero => intro _; exact hB
  | succ k ih =>
    intro h
    have h1 := ih fun i hi => h i (by omega)
    have h2 := h k (by omega)
    show max _ _ ≤ B
    omega
theorem most_has {D : Dv} {from_ : Int} : ∀ (k i : Nat), i < k → (decF (D.sector (from_ + i))).life ≤ D.most from_ k := by
  intro k
  induction k with
  | zero => intro i hi; omega
  | succ k ih =>
    intro i hi
    show _ ≤ max _ _
    by_cases e : i = k
    · subst e; omega
    · have := ih i (by omega); omega
theorem newest_sub {D : Dv} {a b c : Nat} (h1 : a ≤ b) (h2 : b ≤ c) (h3 : c ≤ D.C.length) : D.newest b c ≤ D.newest a c := by
  have g1 : D.within b c = true := decide_eq_true ⟨by omega, by omega, by omega⟩
  have g2 : D.within a c = true := decide_eq_true ⟨by omega, by omega, by omega⟩
  unfold Dv.newest
  rw [if_pos g1, if_pos g2]
  refine most_le (most_bound D a _).1 _ fun i hi => ?_
  have := most_has (D := D) (from_ := (a : Int)) ((c : Int) - (a : Int)).toNat (b - a + i) (by omega)
  rw [show (a : Int) + ((b - a + i : Nat) : Int) = (b : Int) + (i : Int) by omega] at this
  exact this
def Low (D : Dv) (L : Int) : Prop := ∀ i : Int, (decF (D.sector i)).right = true → (decF (D.sector i)).life ≤ L
theorem Low.newest {D : Dv} {L : Int} (h : Low D L) (hL : 0 ≤ L) (a b : Int) : D.newest a b ≤ L := by
  have := newest_lt (D := D) (from_ := a) (till := b) (L := L + 1) (fun i hi => by have := h i hi; omega) (by omega)
  omega
theorem Low.write {D : Dv} {L life era seq : Int} {b : List UInt8} (h : Low D L) (hl : life ≤ L) (at_ : Nat) (hc : cutE life era seq b = 0) : Low (D.write at_ (cutL life era seq b)).2 L := by
  unfold Dv.write
  split
  · exact h
  split
  · exact h
  split
  · exact h
  rename_i h1 h2 h3
  have hb : D.bad at_ (cutL life era seq b) = false := by simpa using h2
  unfold Dv.bad at hb
  simp at hb
  have ht := D.tornS (at_ := at_) (life := life) (era := era) (seq := seq) (b := b) (by have := cutL_length life era seq b; omega)
  intro i hi
  by_cases hk : ∃ k : Nat, k < nparts b.length ∧ D.keeps k = true ∧ i = at_ + k
  · obtain ⟨k, q1, q2, rfl⟩ := hk
    have := ht.new hc q1 q2
    have e : (decF ((D.wrote (at_ : Int) (cutL life era seq b)).sector ((at_ : Int) + (k : Int)))) = cutAt life era seq b k := this
    rw [e]
    exact hl
  · have := ht.2 i fun k q1 q2 e => hk ⟨k, q1, q2, e⟩
    have e : (D.wrote (at_ : Int) (cutL life era seq b)).sector i = D.sector i := this
    rw [e] at hi ⊢
    exact h i hi
theorem Low.append {D : Dv} {S : Sc} {L : Int} {b : List UInt8} (h : Low D L) (hl : S.life ≤ L) (h0 : 0 ≤ S.at_) : Low (S.append D b).2.2 L ∧ (S.append D b).2.1.life = S.life := by
  obtain ⟨a, ha⟩ := Int.eq_ofNat_of_zero_le h0
  unfold Sc.append
  split
  · exact ⟨h, rfl⟩
  split
  · exact ⟨h, rfl⟩
  rename_i hc
  have hc' : cutE S.life S.era (S.all.length + 1) b = 0 := by simpa using hc
  split
  · exact ⟨h, rfl⟩
  have hw := Low.write (era := S.era) (seq := S.all.length + 1) (b := b) h hl a hc'
  rw [← ha] at hw
  split
  · exact ⟨hw, rfl⟩
  · exact ⟨hw, rfl⟩
theorem write_len (D : Dv) (at_ : Int) (ls : List (List UInt8)) : (D.write at_ ls).2.C.length = D.C.length := by
  unfold Dv.write
  split
  · rfl
  split
  · rfl
  split
  · rfl
  · exact landed_length ..
theorem append_len (S : Sc) (D : Dv) (b : List UInt8) : (S.append D b).2.2.C.length = D.C.length := by
  unfold Sc.append
  split
  · rfl
  split
  · rfl
  split
  · rfl
  split
  · exact write_len ..
  · exact write_len ..
theorem Low.fuse {D : Dv} {L : Int} (h : Low D L) (n : Int) (ks : List Int) : Low (D.fuse n ks).2 L ∧ (D.fuse n ks).2.C.length = D.C.length := by
  unfold Dv.fuse
  split
  · exact ⟨h, rfl⟩
  · exact ⟨h, rfl⟩
end Go.Proofs.Ytlhnpicmjjddeaa
namespace Go.Proofs.Ytlhnpicmjjddeaa
open Go.RowKit Go.ChangeShapes Go.WideShapes Go.Deep

structure KDo where
  (kind n : Int)
  (b : List UInt8)
  (keep : List Int)
def KDoAt (w : World) (g o : Nat) (d : KDo) : Prop :=
  ∃ ab cb eb ak ck ek, w.cell? ⟨g, o, none⟩ = some (.int .i64 d.kind) ∧ w.cell? ⟨g, o + 1, none⟩ = some (.int .i64 d.n) ∧ w.cell? ⟨g, o + 2, none⟩ = some (.slice ab d.b.length cb) ∧ Bytes w eb (.slice ab d.b.length cb) d.b ∧
    w.cell? ⟨g, o + 3, none⟩ = some (.slice ak d.keep.length ck) ∧ Ints w ek (.slice ak d.keep.length ck) d.keep ∧ -9223372036854775808 ≤ d.n ∧ d.n ≤ 9223372036854775807
def KDos (w : World) (v : Value) (n : Nat) : Prop := ∃ ao cap, v = .slice ao n cap ∧ n ≤ cap ∧ cap ≤ maxLen ∧ (n = 0 ∨ ∃ g o, ao = some ⟨g, o, none⟩ ∧ ∀ i, i < n → ∃ d, KDoAt w g (o + i * 4) d)
section
variable {H : Type} {enc : TypeId × Value → H} {w : World} {base : Nat} {held : Bool}
theorem int_cell_wf {n : Nat} {v : Value} {y : DataW H × List MemPlace} {spare : Nat → Bool} (h : DataW.trod enc Try.prog w base spare held n 3 [v] = some y) : ∃ i, v = .int .i64 i ∧ -9223372036854775808 ≤ i ∧ i ≤ 9223372036854775807 := by
  obtain ⟨i, hi, _, hw⟩ := DataW.trod_int Try.underlying3 h
  cases hi
  exact ⟨i, rfl, i64_of_wf hw⟩
theorem open_kdos {t e : TypeId} {fuel : Nat} {a1 : Option Addr} {len1 cap1 : Nat} {x : DataW H × List MemPlace} (ht : Try.prog.underlying t = some (.slice e)) (hs : Try.prog.underlying e = some (.struct (Try.prog.fieldsOf e)))
    (hone : oneCellFields Try.prog (Try.prog.fieldsOf e) = true) (hz : (Try.prog.fieldsOf e).size = 4) (hty : ((Try.prog.fieldsOf e).toList.map (·.type)) = [3, 3, 23, 37]) (hC : Try.prog.cellsOf e = 4)
    (h : DataW.trod enc Try.prog w base (fun _ => true) held fuel t (Value.cells (.slice a1 len1 cap1)).toList = some x) : KDos w (.slice a1 len1 cap1) len1 := by
  obtain ⟨h1, h2, _, h3⟩ := open_structs ht hs hone hz hC (by omega) h
  refine ⟨a1, cap1, rfl, h1, h2, ?_⟩
  rcases h3 with h3 | ⟨g, o, rfl, h3⟩
  · exact .inl h3
  refine .inr ⟨g, o, rfl, fun i hi => ?_⟩
  obtain ⟨n, hn⟩ := h3 i hi
  have key : ∀ j (hj : j < 4), ∃ v y, w.cell? ⟨g, o + i * 4 + j, none⟩ = some v ∧ DataW.trod enc Try.prog w base (fun _ => true) held n ([3, 3, 23, 37][j]'hj) [v] = some y := by
    intro j hj
    obtain ⟨f, hf, ht⟩ := type_at hty j hj
    obtain ⟨v, y, h1, h2⟩ := hn j f hf
    rw [ht] at h2
    exact ⟨v, y, h1, h2⟩
  obtain ⟨v0, y0, e0, t0⟩ := key 0 (by omega)
  obtain ⟨v1, y1, e1, t1⟩ := key 1 (by omega)
  obtain ⟨v2, y2, e2, t2⟩ := key 2 (by omega)
  obtain ⟨v3, y3, e3, t3⟩ := key 3 (by omega)
  obtain ⟨i0, rfl, _⟩ := int_cell_wf t0
  obtain ⟨i1, rfl, w1⟩ := int_cell_wf t1
  obtain ⟨eb, b, hb⟩ := bytes_cell t2
  obtain ⟨ek, ks, hk, hk2⟩ := ints_cell t3
  obtain ⟨ab, cb, rfl, _, _⟩ := hb.form
  obtain ⟨ak, ck, rfl, _, _⟩ := hk.form
  exact ⟨⟨i0, i1, b, ks⟩, ab, cb, eb, ak, ck, ek, e0, e1, e2, hb, e3, hk, w1⟩
theorem open_kdos111 {fuel : Nat} {a1 : Option Addr} {len1 cap1 : Nat} {x : DataW H × List MemPlace} (h : DataW.trod enc Try.prog w base (fun _ => true) held fuel 111 (Value.cells (.slice a1 len1 cap1)).toList = some x) : KDos w (.slice a1 len1 cap1) len1 :=
  open_kdos (t := 111) (e := 113) (by kernel_rfl) (by kernel_rfl) (by kernel_rfl) (by kernel_rfl) (by kernel_rfl) (by kernel_rfl) h
theorem open_kdos127 {fuel : Nat} {a1 : Option Addr} {len1 cap1 : Nat} {x : DataW H × List MemPlace} (h : DataW.trod enc Try.prog w base (fun _ => true) held fuel 127 (Value.cells (.slice a1 len1 cap1)).toList = some x) : KDos w (.slice a1 len1 cap1) len1 :=
  open_kdos (t := 127) (e := 128) (by kernel_rfl) (by kernel_rfl) (by kernel_rfl) (by kernel_rfl) (by kernel_rfl) (by kernel_rfl) h
end
end Go.Proofs.Ytlhnpicmjjddeaa
namespace Go.Proofs.Ytlhnpicmjjddeaa
open Go.RowKit

theorem lFew0 (w0 w : World) (e : TypeId) (v : Value) (l : List Int) (h : Ints w0 e v l) : Calls Try.prog 58 #[v] w fun en w' => ∃ v', en = .returned v' ∧ Ints w0 e v' (l.take 20) ∧ w = w' := by
  obtain ⟨ao, cap, rfl, h1, h2⟩ := h.form
  unfold maxLen at h2
  by_cases hl : 20 < l.length
  · have H := hid (h.head 20 (by omega))
    go_enter Try.func58, Try.ntmps58
    go_wp2_with fail
    go_ret
    exact ⟨_, rfl, H.out, rfl⟩
  · have H := hid h
    have ht : Hid (l.take 20 = l) := List.take_of_length_le (by omega)
    go_enter Try.func58, Try.ntmps58
    go_wp2_with fail
    go_ret
    exact ⟨_, rfl, by rw [ht.out]; exact H.out, rfl⟩
end Go.Proofs.Ytlhnpicmjjddeaa
namespace Go.Proofs.Ytlhnpicmjjddeaa
open Go.RowKit

theorem mid_first {w w1 w2 : World} {p px : Value} {FD FX : Nat → Prop} {D D2 : Dv} (h1 : IsDv w1 p FD D) (S1 : Same w w1) (B1 : Bnd FD w.heap.size w1.heap.size) (h2 : IsRd w2 px FX D2) (S2 : Same w1 w2) (B2 : Bnd FX w1.heap.size w2.heap.size) : MidE w w2 p px D D2 :=
  ⟨FD, FX, h1.same S2, h2, fun i hi hn => by have := (B1 i hi).2; have := (B2 i hn).1; omega, B1.mono S2.size, fun k hk => ⟨by have := (B2 k hk).1; have := S1.size; omega, (B2 k hk).2⟩, S1.trans S2⟩
theorem rSameEq (w : World) (e1 e2 : TypeId) (v1 v2 : Value) (l : List (List UInt8)) (h1 : Rows2 w e1 v1 l) (h2 : Rows2 w e2 v2 l) : Calls Try.prog 64 #[v1, v2] w (RetSame (.bool true) w) := by
  have := rSame2 w e1 e2 v1 v2 l l h1 h2
  rwa [decide_eq_true (rfl : l = l)] at this
/-- what stays so in ScrollPlays -/
structure Pl (D : Dv) (S : Sc) (L : Int) : Prop where
  len : D.C.length = 14
  low : Low D L
  life : S.life ≤ L
theorem Pl.new {A : Nat} {E : Int} (hA : A ≤ 3) (hE : 0 ≤ E ∧ E ≤ 5) : (Dv.new 14).openE A 14 1 E = 0 ∧ Pl (Dv.new 14) ((Dv.new 14).opened A 14 1 E) 1 := by
  have hl : (Dv.new 14).C.length = 14 := by simp [Dv.new]
  have hf : (0 : Int) ≤ A ∧ (A : Int) ≤ 14 ∧ (14 : Int) ≤ (Dv.new 14).C.length := by rw [hl]; omega
  exact ⟨open_zero hf (by omega) (by omega) (new_low 14 1), hl, fun i h => Int.le_of_lt (new_low 14 1 i h), Int.le_refl _⟩
theorem Pl.append {D : Dv} {S : Sc} {L : Int} (h : Pl D S L) (h0 : 0 ≤ S.at_) (b : List UInt8) : Pl (S.append D b).2.2 (S.append D b).2.1 L := by
  have q := h.low.append (b := b) h.life h0
  exact ⟨(append_len S D b).trans h.len, q.1, by rw [q.2]; exact h.life⟩
theorem Pl.fuse {D : Dv} {S : Sc} {L : Int} (h : Pl D S L) (m : Int) (ks : List Int) : Pl (D.fuse m ks).2 S L := by
  have q := h.low.fuse m ks
  exact ⟨q.2.trans h.len, q.1, h.life⟩
theorem Pl.reopen {D : Dv} {S : Sc} {L : Int} (h : Pl D S L) (hL : 0 ≤ L ∧ L ≤ 200) {A : Nat} {E r : Int} (hA : A ≤ 3) (hE : 0 ≤ E ∧ E ≤ 5) (hr : 1 ≤ r ∧ r ≤ 3) :
    0 ≤ D.start.newest 0 14 ∧ D.start.newest 0 14 ≤ 200 ∧ D.start.openE A 14 (D.start.newest 0 14 + r) E = 0 ∧ Pl D.start (D.start.opened A 14 (D.start.newest 0 14 + r) E) (L + 3) := by
  have hs : Low D.start L := h.low
  have hlen : D.start.C.length = 14 := h.len
  have hn := hs.newest hL.1 0 14
  have hn0 := (newest_bound D.start 0 14).1
  have hsub := newest_sub (D := D.start) (a := 0) (b := A) (c := 14) (by omega) (by omega) (by omega)
  refine ⟨hn0, by omega, if_pos ⟨decide_eq_true ⟨by omega, by omega, by omega⟩, by omega, by omega, by omega, by omega, ?_⟩, hlen, fun i hi => by have := hs i hi; omega, by show D.start.newest 0 14 + r ≤ L + 3; omega⟩
  have e : D.start.newest ((0 : Nat) : Int) ((14 : Nat) : Int) = D.start.newest 0 14 := rfl
  rw [e] at hsub
  have e2 : D.start.newest (A : Int) ((14 : Nat) : Int) = D.start.newest (A : Int) 14 := rfl
  rw [e2] at hsub
  omega
set_option maxHeartbeats 25600000 in
set_option maxRecDepth 100000 in
theorem scrollPlaysWalk (w : World) (fr er : Int) (v : Value) (n : Nat) (hv : KDos w v n) : Calls Try.prog 17 #[.int .i64 fr, .int .i64 er, v] w (RetSame (.bool true) w) := by
  have H9 := hid cLives
  have HCt := hid r01Cut0
  have HFe := hid lFew0
  have HSa := hid rSameEq
  have HIn := hid r01In
  obtain ⟨ao, cap, rfl, hn1, hn2, hrows⟩ := hv
  unfold maxLen at hn2
  have HRows := hid hrows
  clear hrows
  go_enter Try.func17, Try.ntmps17
  go_wp2_with fail
  refine (HIn.out _ _ _ _).mono ?_
  rintro en w1 ⟨rfl, rfl⟩
  obtain ⟨A, hA, eA⟩ : ∃ A : Nat, A ≤ 3 ∧ (if fr < 0 then (0 : Int) else if 3 < fr then 3 else fr) = A := by
    by_cases h1 : fr < 0
    · exact ⟨0, by omega, by rw [if_pos h1]; rfl⟩
    by_cases h2 : 3 < fr
    · exact ⟨3, by omega, by rw [if_neg h1, if_pos h2]; rfl⟩
    · exact ⟨fr.toNat, by omega, by rw [if_neg h1, if_neg h2]; omega⟩
  rw [eA]
  clear eA
  go_wp2_with fail
  refine (HIn.out _ _ _ _).mono ?_
  rintro en w1 ⟨rfl, rfl⟩
  obtain ⟨E, hE, eE⟩ : ∃ E : Int, (0 ≤ E ∧ E ≤ 5) ∧ (if er < 0 then (0 : Int) else if 5 < er then 5 else er) = E := by
    by_cases h1 : er < 0
    · exact ⟨0, by omega, by rw [if_pos h1]⟩
    by_cases h2 : 5 < er
    · exact ⟨5, by omega, by rw [if_neg h1, if_pos h2]⟩
    · exact ⟨er, by omega, by rw [if_neg h1, if_neg h2]⟩
  rw [eE]
  clear eE
  have HAE := hid (And.intro hA hE)
  clear hA hE
  go_wp2_with fail
  refine (dNewD w 14 (by omega) (by omega)).mono ?_
  rintro en w1 ⟨p, FD, rfl, S1, D1, B1⟩
  obtain ⟨pb, rfl⟩ := D1.ptr
  have X1 := hid (And.intro D1 (And.intro S1 B1))
  clear D1 S1 B1
  go_wp2_with fail
  refine (rNewD w1 14 (by omega) (by omega)).mono ?_
  rintro en w2 ⟨px, FX, rfl, S2, D2, B2⟩
  obtain ⟨xb, rfl⟩ := D2.ptr
  have M2 := hid (mid_first X1.out.1 X1.out.2.1 X1.out.2.2 D2 S2 B2)
  clear X1 D2 S2 B2
  have HPl := hid (Pl.new (A := A) (E := E) HAE.out.1 HAE.out.2)
  go_wp2_with fail
  refine (M2.out.open A 14 1 E HPl.out.1).mono ?_
  rintro en w3 ⟨s, rfl, M3⟩
  obtain ⟨sb, rfl⟩ := M3.sptr
  have M3 := hid M3
  clear M2
  go_wp2_with fail
  refine (M3.out.ropen A 14 1 E HPl.out.1).mono ?_
  rintro en w4 ⟨sx, rfl, M4⟩
  obtain ⟨yb, rfl⟩ := M4.ptrs.2.2.2
  have M4 := hid M4
  clear M3
  go_wp2_with fail
  go_loopw [10, 12, 14] (fun s y i wr => ∃ (k sb yb : Nat) (L : Int) (D : Dv) (S : Sc), k ≤ 40 ∧ 1 ≤ L ∧ L ≤ 3 * k + 1 ∧ s = .pointer (some ⟨sb, 0, none⟩) ∧ y = .pointer (some ⟨yb, 0, none⟩) ∧ i = .int .i64 k ∧
    MidX NoA w wr (.pointer (some ⟨pb, 0, none⟩)) s (.pointer (some ⟨xb, 0, none⟩)) y D S D S ∧ Pl D S L) (fun _ _ i _ => 40 - (intOf i).toNat)
  case atStart => exact ⟨0, sb, yb, 1, _, _, by omega, by omega, by omega, rfl, rfl, rfl, M4.out, HPl.out.2⟩
  case round =>
    clear M4 HPl
    obtain ⟨k, sb, yb, L, D, S, hk, hL1, hL2, rfl, rfl, rfl, M, P⟩ := hrel
    have M := hid M
    have P := hid P
    by_cases hlt : k < n
    case neg =>
      go_wp2_with fail
      refine (H9.out _).mono ?_
      rintro en w5 ⟨rfl, S5⟩
      go_wp2_with fail
      go_ret
      exact ⟨rfl, M.out.old.trans S5⟩
    by_cases hlt2 : k < 40
    case neg =>
      go_wp2_with fail
      refine (H9.out _).mono ?_
      rintro en w5 ⟨rfl, S5⟩
      go_wp2_with fail
      go_ret
      exact ⟨rfl, M.out.old.trans S5⟩
    obtain ⟨g, o, hao, hall⟩ : ∃ g o, ao = some ⟨g, o, none⟩ ∧ ∀ i, i < n → ∃ d, KDoAt w g (o + i * 4) d := by
      rcases HRows.out with h0 | h0
      · omega
      · exact h0
    subst hao
    obtain ⟨d, ab, cb, eb, ak, ck, ek, c0, c1, c2, hb, c3, hks, hdn⟩ := hall k hlt
    have hg0 := World.block_lt_of_cell? w _ c0
    have r0 : wr.cell? ⟨g, o + k * 4, none⟩ = _ := (M.out.old.cell (p := ⟨g, o + k * 4, none⟩) hg0).trans c0
    have r1 : wr.cell? ⟨g, o + k * 4 + 1, none⟩ = _ := (M.out.old.cell (p := ⟨g, o + k * 4 + 1, none⟩) hg0).trans c1
    have r2 : wr.cell? ⟨g, o + k * 4 + 2, none⟩ = _ := (M.out.old.cell (p := ⟨g, o + k * 4 + 2, none⟩) hg0).trans c2
    have r3 : wr.cell? ⟨g, o + k * 4 + 3, none⟩ = _ := (M.out.old.cell (p := ⟨g, o + k * 4 + 3, none⟩) hg0).trans c3
    have HB := hid hb
    have HK := hid hks
    have Hdn := hid hdn
    have M1 := hid (M.out.put (.cells #[.int .i64 d.kind, .int .i64 d.n, .slice ab d.b.length cb, .slice ak d.keep.length ck] 113))
    have hki : (0 : Int) ≤ (k : Int) := by omega
    have hkn : (k : Int) < (n : Int) := by omega
    clear hall c0 c1 c2 c3 hb hks hg0 hdn M
    go_wp2_with fail
    generalize hw1 : wr.alloc (.cells #[.int .i64 d.kind, .int .i64 d.n, .slice ab d.b.length cb, .slice ak d.keep.length ck] 113) = w1 at *
    have hBx := M1.out.aside (g := wr.heap.size) (o := .cells #[.int .i64 d.kind, .int .i64 d.n, .slice ab d.b.length cb, .slice ak d.keep.length ck] 113) (.inr ⟨rfl, rfl⟩)
    have HBox : Hid (∀ wz : World, wz.heap[wr.heap.size]? = some (.cells #[.int .i64 d.kind, .int .i64 d.n, .slice ab d.b.length cb, .slice ak d.keep.length ck] 113 (0, 0)) →
        wz.cell? ⟨wr.heap.size, 0, none⟩ = some (.int .i64 d.kind) ∧ wz.cell? ⟨wr.heap.size, 1, none⟩ = some (.int .i64 d.n) ∧ wz.cell? ⟨wr.heap.size, 3, none⟩ = some (.slice ak d.keep.length ck)) := fun wz hz => ⟨by rw [cell_of_row wz _ _ _ 113 _ hz]; rfl, by rw [cell_of_row wz _ _ _ 113 _ hz]; rfl, by rw [cell_of_row wz _ _ _ 113 _ hz]; rfl⟩
    have HAs : Hid (∀ (wz : World) (D : Dv) (S : Sc) (D2 : Dv) (S2 : Sc) (s y : Value), MidX (fun g x => NoA g x ∨ (g = wr.heap.size ∧ x = .cells #[.int .i64 d.kind, .int .i64 d.n, .slice ab d.b.length cb, .slice ak d.keep.length ck] 113)) w wz (.pointer (some ⟨pb, 0, none⟩)) s (.pointer (some ⟨xb, 0, none⟩)) y D S D2 S2 →
        wz.cell? ⟨wr.heap.size, 0, none⟩ = some (.int .i64 d.kind) ∧ wz.cell? ⟨wr.heap.size, 1, none⟩ = some (.int .i64 d.n) ∧ wz.cell? ⟨wr.heap.size, 3, none⟩ = some (.slice ak d.keep.length ck)) := fun _ _ _ _ _ _ _ h => HBox.out _ (h.aside (.inr ⟨rfl, rfl⟩))
    clear hw1 hBx r0 r1 r2 r3 HBox
    generalize wr.heap.size = fb at *
    obtain ⟨b0, b1, b3⟩ := HAs.out _ _ _ _ _ _ _ M1.out
    refine (show Calls Try.prog 22 #[_, .int .i64 250] w1 _ from HCt.out w w1 eb _ d.b 250 HB.out).mono ?_
    rintro en w1' ⟨v1, rfl, Y1, rfl⟩
    have hle : (d.b.take 250).length ≤ 250 := by rw [List.length_take]; omega
    have Y1 := hid Y1
    clear HB
    generalize d.b.take 250 = x at *
    obtain ⟨a1, q1, rfl, _, _⟩ := Y1.out.form
    by_cases k0 : d.kind = 0
    case pos =>
      rw [k0] at b0
      have hok := hid M1.out.ok
      have P4 := hid (P.out.append (by have := hok.out.fit; omega) x)
      clear k0
      go_wp2_with fail
      refine (M1.out.append _ eb x Y1.out (by omega)).mono ?_
      rintro en w4 ⟨rfl, M4⟩
      have M4 := hid M4
      clear M1 b0 b1 b3
      go_wp2_with fail
      refine (M4.out.rappend hok.out _ eb x Y1.out (by omega)).mono ?_
      rintro en w5 ⟨rfl, M5⟩
      have M5 := hid M5
      clear M4
      generalize (S.append D x).2.2 = D5 at *
      generalize (S.append D x).2.1 = S5 at *
      generalize (S.append D x).1 = r5 at *
      obtain ⟨e0, e1, e3⟩ := HAs.out _ _ _ _ _ _ _ M5.out
      go_wp2_with fail
      obtain ⟨yb', yv, hyb, n5, n6, HRy⟩ := M5.out.seen
      obtain rfl : yb = yb' := by simpa using hyb
      obtain ⟨ya, yc, rfl, _, _⟩ := HRy.form
      have HRy := hid HRy
      have H5 := hid (fun (wz : World) (Z : Same w5 wz) => And.intro ((Z.cell (p := ⟨yb, 5, none⟩) (World.block_lt_of_cell? w5 ⟨yb, 5, none⟩ n5)).trans n5) ((Z.cell (p := ⟨yb, 6, none⟩) (World.block_lt_of_cell? w5 ⟨yb, 6, none⟩ n6)).trans n6))
      have HRc := hid (M5.out.same (Same.refl w5).drew).records
      have HSm := hid (fun (wz : World) (v7 : Value) (Z : Same w5 wz) (h : Rows2 wz 23 v7 S5.all) => HSa.out wz 23 23 v7 _ _ h (HRy.out.same Z))
      have HUs := hid (fun (wz : World) (Z : Same w5 wz) => (M5.out.same Z).used)
      clear hyb HRy
      go_region_held3 (fun w' => w'.cell? ⟨yb, 5, none⟩ = some (.slice ya S5.all.length yc) ∧ w'.cell? ⟨yb, 6, none⟩ = some (.int .i64 (S5.at_ - S5.from_)))
        (first | with_reducible exact ⟨by assumption, by assumption⟩ | go_keep)
        (first
          | (go_at_call 65; (with_reducible refine HRc.out.mono ?_); rintro en w7 ⟨v7, rfl, O7, Z7⟩; obtain ⟨a7, q7, rfl, _, _⟩ := O7.rows.form; have Z7 := hid ((Same.refl w5).drew.trans Z7); have R7 := hid O7.rows; obtain ⟨h5, h6⟩ := H5.out _ Z7.out; clear O7)
          | (go_at_call 64; (with_reducible refine (HSm.out w7 _ Z7.out R7.out).mono ?_); rintro en w8 ⟨rfl, Z8⟩; have Z8 := hid (Z7.out.trans Z8); obtain ⟨h5', h6'⟩ := H5.out _ Z8.out)
          | (go_at_call 66; (with_reducible refine (HUs.out w8 Z8.out).mono ?_); rintro en w9 ⟨rfl, Z9⟩; have Z9 := hid (Z8.out.trans Z9); obtain ⟨h5'', h6''⟩ := H5.out _ Z9.out))
      clear n5 n6 h5 h6 h5' h6' h5'' h6''
      have MF := hid (M5.out.same Z9.out).bare
      go_wp2_with fail
      go_roundw
      case rel => exact ⟨k + 1, sb, yb, L, D5, S5, by omega, by omega, by omega, rfl, rfl, by go_num, MF.out, P4.out⟩
      case measure => simp [intOf]; omega
    have k0b : (d.kind == 0) = false := by rw [beq_eq_false_iff_ne]; exact k0
    by_cases k1 : d.kind = 1
    case pos =>
      rw [k1] at b0
      obtain ⟨ks, hks⟩ : ∃ ks, d.keep.take 20 = ks := ⟨_, rfl⟩
      have hlk : ks.length ≤ 1000 := by rw [← hks, List.length_take]; omega
      have HFk := hid (fun wz => HFe.out w wz ek _ d.keep HK.out)
      rw [hks] at HFk
      clear hks k0 k1 k0b
      have MD := hid (M1.out.same (Same.refl w1).drew)
      have hdn := Hdn.out
      go_wp2_with fail
      clear b0
      go_region_held3 (fun w' => w'.cell? ⟨fb, 1, none⟩ = some (.int .i64 d.n) ∧ w'.cell? ⟨fb, 3, none⟩ = some (.slice ak d.keep.length ck))
        (first | with_reducible exact ⟨by assumption, by assumption⟩ | go_keep)
        (first
          | (go_at_call 58; (with_reducible refine (HFk.out _).mono ?_); rintro en wk ⟨kv, rfl, HKI, rfl⟩; obtain ⟨ka, kc, rfl, _, _⟩ := HKI.form; have HKI := hid HKI)
          | (go_at_call 35; (with_reducible refine (MD.out.fuse _ ek d.n ks HKI.out hlk hdn).mono ?_); rintro en w3 ⟨rfl, M3⟩; have M3 := hid M3; obtain ⟨g0', g1', g3'⟩ := HAs.out _ _ _ _ _ _ _ M3.out)
          | (go_at_call 71; (with_reducible refine (M3.out.rfuse _ ek d.n ks HKI.out hlk hdn).mono ?_); rintro en w4 ⟨rfl, M4⟩; have M4 := hid M4; obtain ⟨h0', h1', h3'⟩ := HAs.out _ _ _ _ _ _ _ M4.out))
      have P4 := hid (P.out.fuse d.n ks)
      clear b1 b3 g0' g1' g3' h1' h3' MD M3 HKI HFk
      generalize (D.fuse d.n ks).2 = D5 at *
      generalize (D.fuse d.n ks).1 = r5 at *
      go_wp2_with fail
      obtain ⟨yb', yv, hyb, n5, n6, HRy⟩ := M4.out.seen
      obtain rfl : yb = yb' := by simpa using hyb
      obtain ⟨ya, yc, rfl, _, _⟩ := HRy.form
      have HRy := hid HRy
      have H5 := hid (fun (wz : World) (Z : Same w4 wz) => And.intro ((Z.cell (p := ⟨yb, 5, none⟩) (World.block_lt_of_cell? w4 ⟨yb, 5, none⟩ n5)).trans n5) ((Z.cell (p := ⟨yb, 6, none⟩) (World.block_lt_of_cell? w4 ⟨yb, 6, none⟩ n6)).trans n6))
      have HRc := hid (M4.out.same (Same.refl w4).drew).records
      have HSm := hid (fun (wz : World) (v7 : Value) (Z : Same w4 wz) (h : Rows2 wz 23 v7 S.all) => HSa.out wz 23 23 v7 _ _ h (HRy.out.same Z))
      have HUs := hid (fun (wz : World) (Z : Same w4 wz) => (M4.out.same Z).used)
      clear hyb HRy
      go_region_held3 (fun w' => w'.cell? ⟨yb, 5, none⟩ = some (.slice ya S.all.length yc) ∧ w'.cell? ⟨yb, 6, none⟩ = some (.int .i64 (S.at_ - S.from_)))
        (first | with_reducible exact ⟨by assumption, by assumption⟩ | go_keep)
        (first
          | (go_at_call 65; (with_reducible refine HRc.out.mono ?_); rintro en w7 ⟨v7, rfl, O7, Z7⟩; obtain ⟨a7, q7, rfl, _, _⟩ := O7.rows.form; have Z7 := hid ((Same.refl w4).drew.trans Z7); have R7 := hid O7.rows; obtain ⟨h5, h6⟩ := H5.out _ Z7.out; clear O7)
          | (go_at_call 64; (with_reducible refine (HSm.out w7 _ Z7.out R7.out).mono ?_); rintro en w8 ⟨rfl, Z8⟩; have Z8 := hid (Z7.out.trans Z8); obtain ⟨h5', h6'⟩ := H5.out _ Z8.out)
          | (go_at_call 66; (with_reducible refine (HUs.out w8 Z8.out).mono ?_); rintro en w9 ⟨rfl, Z9⟩; have Z9 := hid (Z8.out.trans Z9); obtain ⟨h5'', h6''⟩ := H5.out _ Z9.out))
      clear n5 n6 h5 h6 h5' h6' h5'' h6''
      have MF := hid (M4.out.same Z9.out).bare
      go_wp2_with fail
      go_roundw
      case rel => exact ⟨k + 1, sb, yb, L, D5, S, by omega, by omega, by omega, rfl, rfl, by go_num, MF.out, P4.out⟩
      case measure => simp [intOf]; omega
    have k1b : (d.kind == 1) = false := by rw [beq_eq_false_iff_ne]; exact k1
    by_cases k2 : d.kind = 2
    case neg =>
      have k2b : (d.kind == 2) = false := by rw [beq_eq_false_iff_ne]; exact k2
      clear k0 k1 k2
      go_wp2_with fail
      refine (M1.out.forget.newest 0 14).mono ?_
      rintro en w3 ⟨rfl, Z3⟩
      have M3 := hid (M1.out.same Z3)
      clear b0 b1 b3 Z3
      have HN := hid (show Calls Try.prog 68 #[.pointer (some ⟨xb, 0, none⟩), .int .i64 0, .int .i64 14] w3 (RetSame (.int .i64 (D.newest 0 14)) w3) from M3.out.forget.rnewest 0 14 (by omega) (by have := P.out.len; omega))
      generalize D.newest 0 14 = nw at *
      go_wp2_with fail
      refine HN.out.mono ?_
      rintro en w4 ⟨rfl, Z4⟩
      have M4 := hid (M3.out.same Z4)
      clear Z4
      go_wp2_with fail
      obtain ⟨yb', yv, hyb, n5, n6, HRy⟩ := M4.out.seen
      obtain rfl : yb = yb' := by simpa using hyb
      obtain ⟨ya, yc, rfl, _, _⟩ := HRy.form
      have HRy := hid HRy
      have H5 := hid (fun (wz : World) (Z : Same w4 wz) => And.intro ((Z.cell (p := ⟨yb, 5, none⟩) (World.block_lt_of_cell? w4 ⟨yb, 5, none⟩ n5)).trans n5) ((Z.cell (p := ⟨yb, 6, none⟩) (World.block_lt_of_cell? w4 ⟨yb, 6, none⟩ n6)).trans n6))
      have HRc := hid (M4.out.same (Same.refl w4).drew).records
      have HSm := hid (fun (wz : World) (v7 : Value) (Z : Same w4 wz) (h : Rows2 wz 23 v7 S.all) => HSa.out wz 23 23 v7 _ _ h (HRy.out.same Z))
      have HUs := hid (fun (wz : World) (Z : Same w4 wz) => (M4.out.same Z).used)
      clear hyb HRy
      go_region_held3 (fun w' => w'.cell? ⟨yb, 5, none⟩ = some (.slice ya S.all.length yc) ∧ w'.cell? ⟨yb, 6, none⟩ = some (.int .i64 (S.at_ - S.from_)))
        (first | with_reducible exact ⟨by assumption, by assumption⟩ | go_keep)
        (first
          | (go_at_call 65; (with_reducible refine HRc.out.mono ?_); rintro en w7 ⟨v7, rfl, O7, Z7⟩; obtain ⟨a7, q7, rfl, _, _⟩ := O7.rows.form; have Z7 := hid ((Same.refl w4).drew.trans Z7); have R7 := hid O7.rows; obtain ⟨h5, h6⟩ := H5.out _ Z7.out; clear O7)
          | (go_at_call 64; (with_reducible refine (HSm.out w7 _ Z7.out R7.out).mono ?_); rintro en w8 ⟨rfl, Z8⟩; have Z8 := hid (Z7.out.trans Z8); obtain ⟨h5', h6'⟩ := H5.out _ Z8.out)
          | (go_at_call 66; (with_reducible refine (HUs.out w8 Z8.out).mono ?_); rintro en w9 ⟨rfl, Z9⟩; have Z9 := hid (Z8.out.trans Z9); obtain ⟨h5'', h6''⟩ := H5.out _ Z9.out))
      clear n5 n6 h5 h6 h5' h6' h5'' h6''
      have MF := hid (M4.out.same Z9.out).bare
      go_wp2_with fail
      go_roundw
      case rel => exact ⟨k + 1, sb, yb, L, D, S, by omega, by omega, by omega, rfl, rfl, by go_num, MF.out, P.out⟩
      case measure => simp [intOf]; omega
    rw [k2] at b0
    clear k0 k1 k2
    obtain ⟨r, hr, er⟩ : ∃ r : Int, (1 ≤ r ∧ r ≤ 3) ∧ (if d.n < 1 then (1 : Int) else if 3 < d.n then 3 else d.n) = r := by
      by_cases h1 : d.n < 1
      · exact ⟨1, by omega, by rw [if_pos h1]⟩
      by_cases h2 : 3 < d.n
      · exact ⟨3, by omega, by rw [if_neg h1, if_pos h2]⟩
      · exact ⟨d.n, by omega, by rw [if_neg h1, if_neg h2]⟩
    have HInr := hid (fun wz => HIn.out wz d.n 1 3)
    rw [er] at HInr
    have HRe := hid (P.out.reopen (A := A) (E := E) (r := r) (by omega) HAE.out.1 HAE.out.2 hr)
    have hlen2 : Hid (D.start.C.length = 14) := P.out.len
    clear er
    go_wp2_with fail
    refine M1.out.start.mono ?_
    rintro en w3 ⟨rfl, M3⟩
    obtain ⟨⟨v1, v2, x1, x2, z1, z2⟩, M4⟩ := M3.rstart
    have M4 := hid M4
    clear M1 b0 b1 b3
    go_wp2_with fail
    generalize hw5 : (w3.setCell ⟨xb, 1, none⟩ (.bool false)).setCell ⟨xb, 2, none⟩ (.int .i64 (-1)) = w5 at *
    obtain ⟨e0, e1, e3⟩ := HAs.out _ _ _ _ _ _ _ M4.out
    clear hw5 M3 x1 x2 z1 z2
    have HN := hid (show Calls Try.prog 68 #[.pointer (some ⟨xb, 0, none⟩), .int .i64 0, .int .i64 14] w5.drew (RetSame (.int .i64 (D.start.newest 0 14)) w5.drew) from (M4.out.same (Same.refl w5).drew).forget.rnewest 0 14 (by omega) (by have := hlen2.out; omega))
    generalize D.start.newest 0 14 = nw at *
    have hn0 := HRe.out.1
    have hn9 := HRe.out.2.1
    have hwr : IntKind.i64.wrap (nw + r) = nw + r := by rw [IntKind.wrap_i64]; omega
    go_region_held3 (fun w' => w'.cell? ⟨fb, 1, none⟩ = some (.int .i64 d.n))
      (first | with_reducible exact (by assumption) | go_keep)
      (first
        | (go_at_call 68; (with_reducible refine HN.out.mono ?_); rintro en w6 ⟨rfl, Z6⟩; have Z6 := hid ((Same.refl w5).drew.trans Z6); obtain ⟨g0', g1', g3'⟩ := HAs.out _ _ _ _ _ _ _ (M4.out.same Z6.out))
        | (go_at_call 31; (with_reducible refine (HInr.out _).mono ?_); rintro en w7 ⟨rfl, rfl⟩))
    have M6 := hid (M4.out.same Z6.out).forget
    clear M4 e0 e1 e3 g0' g1' g3' hwr
    go_wp2_with fail
    refine (M6.out.open A 14 (nw + r) E HRe.out.2.2.1).mono ?_
    rintro en w8 ⟨s', rfl, M8⟩
    obtain ⟨sb', rfl⟩ := M8.sptr
    have M8 := hid M8
    clear M6
    go_wp2_with fail
    refine (M8.out.ropen A 14 (nw + r) E HRe.out.2.2.1).mono ?_
    rintro en w9' ⟨sx', rfl, M9⟩
    obtain ⟨yb2, rfl⟩ := M9.ptrs.2.2.2
    have M9 := hid M9
    have P4 := hid HRe.out.2.2.2
    clear M8 HRe HN
    generalize D.start.opened A 14 (nw + r) E = S5 at *
    generalize D.start = D5 at *
    go_wp2_with fail
    obtain ⟨yb', yv, hyb, n5, n6, HRy⟩ := M9.out.seen
    obtain rfl : yb2 = yb' := by simpa using hyb
    obtain ⟨ya, yc, rfl, _, _⟩ := HRy.form
    have HRy := hid HRy
    have H5 := hid (fun (wz : World) (Z : Same w9' wz) => And.intro ((Z.cell (p := ⟨yb2, 5, none⟩) (World.block_lt_of_cell? w9' ⟨yb2, 5, none⟩ n5)).trans n5) ((Z.cell (p := ⟨yb2, 6, none⟩) (World.block_lt_of_cell? w9' ⟨yb2, 6, none⟩ n6)).trans n6))
    have HRc := hid (M9.out.same (Same.refl w9').drew).records
    have HSm := hid (fun (wz : World) (v7 : Value) (Z : Same w9' wz) (h : Rows2 wz 23 v7 S5.all) => HSa.out wz 23 23 v7 _ _ h (HRy.out.same Z))
    have HUs := hid (fun (wz : World) (Z : Same w9' wz) => (M9.out.same Z).used)
    clear hyb HRy
    go_region_held3 (fun w' => w'.cell? ⟨yb2, 5, none⟩ = some (.slice ya S5.all.length yc) ∧ w'.cell? ⟨yb2, 6, none⟩ = some (.int .i64 (S5.at_ - S5.from_)))
      (first | with_reducible exact ⟨by assumption, by assumption⟩ | go_keep)
      (first
        | (go_at_call 65; (with_reducible refine HRc.out.mono ?_); rintro en w7 ⟨v7, rfl, O7, Z7⟩; obtain ⟨a7, q7, rfl, _, _⟩ := O7.rows.form; have Z7 := hid ((Same.refl w9').drew.trans Z7); have R7 := hid O7.rows; obtain ⟨h5, h6⟩ := H5.out _ Z7.out; clear O7)
        | (go_at_call 64; (with_reducible refine (HSm.out w7 _ Z7.out R7.out).mono ?_); rintro en w8 ⟨rfl, Z8⟩; have Z8 := hid (Z7.out.trans Z8); obtain ⟨h5', h6'⟩ := H5.out _ Z8.out)
        | (go_at_call 66; (with_reducible refine (HUs.out w8 Z8.out).mono ?_); rintro en w9 ⟨rfl, Z9⟩; have Z9 := hid (Z8.out.trans Z9); obtain ⟨h5'', h6''⟩ := H5.out _ Z9.out))
    clear n5 n6 h5 h6 h5' h6' h5'' h6''
    have MF := hid (M9.out.same Z9.out).bare
    go_wp2_with fail
    go_roundw
    case rel => exact ⟨k + 1, sb', yb2, (L + 3), D5, S5, by omega, by omega, by omega, rfl, rfl, by go_num, MF.out, P4.out⟩
    case measure => simp [intOf]; omega
end Go.Proofs.Ytlhnpicmjjddeaa
namespace Go.Proofs.Ytlhnpicmjjddeaa
open Go.RowKit Go.ChangeShapes Go.WideShapes Go.Deep

/-- a sector as it is, and a frame, at an address -/
def RawAt (w : World) (g o : Nat) (b : List UInt8) (f : Fr) : Prop :=
  ∃ ab cb eb ad cd ed, w.cell? ⟨g, o, none⟩ = some (.slice ab b.length cb) ∧ Bytes w eb (.slice ab b.length cb) b ∧ Cells6 w g (o + 1) f (.slice ad f.data.length cd) ∧ Bytes w ed (.slice ad f.data.length cd) f.data
def Raws (w : World) (v : Value) (n : Nat) : Prop := ∃ ao cap, v = .slice ao n cap ∧ n ≤ cap ∧ cap ≤ maxLen ∧ (n = 0 ∨ ∃ g o, ao = some ⟨g, o, none⟩ ∧ ∀ i, i < n → ∃ b f, RawAt w g (o + i * 7) b f)
section
variable {H : Type} {enc : TypeId × Value → H} {w : World} {base : Nat} {held : Bool}
theorem open_elems {spare : Nat → Bool} {t e : TypeId} {size : Nat} {fuel : Nat} {a1 : Option Addr} {len1 cap1 : Nat} {x : DataW H × List MemPlace} (ht : Try.prog.underlying t = some (.slice e))
    (hC : Try.prog.cellsOf e = size) (hpos : 0 < size)
    (h : DataW.trod enc Try.prog w base spare held fuel t (Value.cells (.slice a1 len1 cap1)).toList = some x) :
    len1 ≤ cap1 ∧ cap1 ≤ maxLen ∧ (len1 = 0 ∨ ∃ g o, a1 = some ⟨g, o, none⟩ ∧ ∀ i, i < len1 → ∃ n cs y, cs.length = size ∧ (∀ j, j < size → w.cell? ⟨g, o + i * size + j, none⟩ = cs[j]?) ∧ DataW.trod enc Try.prog w base spare held n e cs = some y) := by
  rcases open_slice ht h with ⟨hcs, _⟩ | ⟨a, len, cap, m, n, D, Pl, hcs, hb, hl, hm, hmm, _, hel⟩
  · simp [Value.cells] at hcs
    obtain ⟨rfl, rfl, rfl⟩ := hcs
    exact ⟨Nat.le_refl _, Nat.zero_le _, .inl rfl⟩
  · simp [Value.cells] at hcs
    obtain ⟨rfl, rfl, rfl⟩ := hcs
    have hlm : len1 ≤ m := by rw [hmm]; split <;> omega
    refine ⟨hl, hm, ?_⟩
    rcases Nat.eq_zero_or_pos len1 with h0 | h0
    · exact .inl h0
    right
    have each : ∀ i, i < len1 → ∃ n cs y, cs.length = size ∧ (∀ j, j < size → w.cell? (a.add (i * size + j)) = cs[j]?) ∧ DataW.trod enc Try.prog w base spare held n e cs = some y := by
      intro i hi
      obtain ⟨cs', hc, hr⟩ := hel i (by omega)
      rw [hC] at hc
      obtain ⟨_, hlen, hcell⟩ := World.cells?_some hc
      refine ⟨_, cs', _, hlen, fun j hj => ?_, hr⟩
      have hcj := hcell j hj
      rw [addr_add_add'] at hcj
      exact hcj
    obtain ⟨n0, cs0, y0, hl0, hc0, _⟩ := each 0 h0
    have hc1 := hc0 0 hpos
    have ha : a.add (0 * size + 0) = a := by simp [Addr.add]
    rw [ha, List.getElem?_eq_getElem (by omega)] at hc1
    obtain ⟨cur, e', fr, hbk, hsp, _⟩ := block_of_cell hc1
    obtain ⟨b, o, sp⟩ := a
    simp only at hsp hbk
    subst hsp
    refine ⟨b, o, rfl, fun i hi => ?_⟩
    obtain ⟨n', cs', y', h1, h2, h3⟩ := each i hi
    refine ⟨n', cs', y', h1, fun j hj => ?_, h3⟩
    have hadd : (⟨b, o, none⟩ : Addr).add (i * size + j) = ⟨b, o + i * size + j, none⟩ := by unfold Addr.add; split <;> simp_all <;> omega
    rw [← hadd]
    exact h2 j hj
theorem fields152 : Try.prog.underlying 152 = some (.struct (Try.prog.fieldsOf 152)) := by kernel_rfl
theorem parts152 : ((Try.prog.fieldsOf 152).toList.map (fun f => (f.type, f.offset))) = [(23, 0), (59, 1)] := by kernel_rfl
theorem cells152 : Try.prog.cellsOf 152 = 7 := by kernel_rfl
theorem cells23 : Try.prog.cellsOf 23 = 1 := by kernel_rfl
theorem list7 {α : Type} (cs : List α) (hl : cs.length = 7) : ∃ c0 c1 c2 c3 c4 c5 c6, cs = [c0, c1, c2, c3, c4, c5, c6] := by
  match cs, hl with
  | [c0, c1, c2, c3, c4, c5, c6], _ => exact ⟨c0, c1, c2, c3, c4, c5, c6, rfl⟩
theorem open_raws {fuel : Nat} {a1 : Option Addr} {len1 cap1 : Nat} {x : DataW H × List MemPlace} (h : DataW.trod enc Try.prog w base (fun _ => true) held fuel 88 (Value.cells (.slice a1 len1 cap1)).toList = some x) : Raws w (.slice a1 len1 cap1) len1 := by
  obtain ⟨h1, h2, h3⟩ := open_elems (t := 88) (e := 152) (by kernel_rfl) cells152 (by omega) h
  refine ⟨a1, cap1, rfl, h1, h2, ?_⟩
  rcases h3 with h3 | ⟨g, o, rfl, h3⟩
  · exact .inl h3
  refine .inr ⟨g, o, rfl, fun i hi => ?_⟩
  obtain ⟨n, cs, y, hl, hc, hr⟩ := h3 i hi
  obtain ⟨xs, n', _, hx, _, hlen, hg⟩ := DataW.trod_struct fields152 hr
  have hp := parts152
  have hsz : (Try.prog.fieldsOf 152).size = 2 := by have := congrArg List.length hp; simpa using this
  have f0 : ∃ f, (Try.prog.fieldsOf 152)[0]? = some f ∧ f.type = 23 ∧ f.offset = 0 := by
    refine ⟨_, Array.getElem?_eq_getElem (by omega), ?_⟩
    have := congrArg (fun l => l[0]?) hp
    simp only [List.getElem?_map, Array.getElem?_toList, Array.getElem?_eq_getElem (show 0 < (Try.prog.fieldsOf 152).size by omega), Option.map_some, List.getElem?_cons_zero, Option.some.injEq, Prod.mk.injEq] at this
    exact this
  have f1 : ∃ f, (Try.prog.fieldsOf 152)[1]? = some f ∧ f.type = 59 ∧ f.offset = 1 := by
    refine ⟨_, Array.getElem?_eq_getElem (by omega), ?_⟩
    have := congrArg (fun l => l[1]?) hp
    simp only [List.getElem?_map, Array.getElem?_toList, Array.getElem?_eq_getElem (show 1 < (Try.prog.fieldsOf 152).size by omega), Option.map_some, List.getElem?_cons_zero, List.getElem?_cons_succ, Option.some.injEq, Prod.mk.injEq] at this
    exact this
  obtain ⟨p0, q0, t0, o0⟩ := f0
  obtain ⟨p1, q1, t1, o1⟩ := f1
  have r0 := hg 0 p0 q0
  have r1 := hg 1 p1 q1
  rw [t0, o0, cells23, List.getElem?_eq_getElem (by omega : 0 < xs.length)] at r0
  rw [t1, o1, cells59, List.getElem?_eq_getElem (by omega : 1 < xs.length)] at r1
  generalize xs[0] = z0 at r0
  generalize xs[1] = z1 at r1
  clear q0 q1 hg hlen hx
  obtain ⟨c0, c1, c2, c3, c4, c5, c6, rfl⟩ := list7 cs hl
  simp only [List.drop_zero, List.take_succ_cons, List.take_zero] at r0
  simp only [List.drop_succ_cons, List.drop_zero, List.take_succ_cons, List.take_zero] at r1
  obtain ⟨eb, b, hb⟩ := bytes_cell r0
  obtain ⟨f, u, ed, hcs, hd⟩ := frame_cells r1 rfl
  obtain ⟨ab, cb, rfl, _, _⟩ := hb.form
  obtain ⟨ad, cd, rfl, _, _⟩ := hd.form
  simp only [List.cons.injEq, and_true] at hcs
  obtain ⟨rfl, rfl, rfl, rfl, rfl, rfl⟩ := hcs
  refine ⟨b, f, ab, cb, eb, ad, cd, ed, ?_, hb, ⟨?_, ?_, ?_, ?_, ?_, ?_⟩, hd⟩
  · have := hc 0 (by omega); simpa using this
  · have := hc 1 (by omega); simpa using this
  · have := hc 2 (by omega); simpa [Nat.add_assoc] using this
  · have := hc 3 (by omega); simpa [Nat.add_assoc] using this
  · have := hc 4 (by omega); simpa [Nat.add_assoc] using this
  · have := hc 5 (by omega); simpa [Nat.add_assoc] using this
  · have := hc 6 (by omega); simpa [Nat.add_assoc] using this
end
end Go.Proofs.Ytlhnpicmjjddeaa
namespace Go.Proofs.Ytlhnpicmjjddeaa
open Go.RowKit

theorem cellsOf_one (y : List UInt8) : cellsOf [y] = [pad96 y] := rfl
theorem OwnR.first {w : World} {base : Nat} {v : Value} {l : List UInt8} (h : OwnR w base v [l]) :
    ∃ g c a q, v = .slice (some ⟨g, 0, none⟩) 1 c ∧ w.cell? ⟨g, 0, none⟩ = some (.slice a l.length q) ∧ Bytes w 5 (.slice a l.length q) l ∧ ∀ g', homeOf (.slice a l.length q) = some g' → base ≤ g' := by
  obtain ⟨us, h1, h2⟩ := h
  have hl := h1.1
  simp only [List.length_singleton, Nat.mul_one] at hl h1
  obtain ⟨u, rfl⟩ : ∃ u, us = [u] := by
    match us, hl with
    | [u], _ => exact ⟨u, rfl⟩
  obtain ⟨q1, q2⟩ := h2 0 (by simp) u rfl
  obtain ⟨a, q, rfl, _, _⟩ := q1.form
  rcases h1.2 with ⟨_, hz⟩ | ⟨g, cap, cur, rfl, _⟩
  · cases hz
  · have := h1.cellAt 0 (by omega)
    exact ⟨g, cap, a, q, rfl, this, q1, q2⟩
theorem MidD.rsize {w0 w : World} {p px : Value} {FD FX : Nat → Prop} {D D2 : Dv} (h : MidD w0 w p px FD FX D D2) : ∃ b a c, px = .pointer (some ⟨b, 0, none⟩) ∧ w.cell? ⟨b, 0, none⟩ = some (.slice a D2.C.length c) := by
  obtain ⟨b, rv, fz, kv, ks, n, rfl, q1, q2, q3, _⟩ := h.rd
  obtain ⟨a, c, rfl, _, _⟩ := q3.rows.form
  exact ⟨b, a, c, rfl, q1.cells.1⟩
theorem MidD.write {w0 w w1 : World} {p px v : Value} {FD FX : Nat → Prop} {D D2 : Dv} (h : MidD w0 w p px FD FX D D2) (Z : Same w w1) (at_ : Int) (e : TypeId) (ls : List (List UInt8)) (hR : Rows2N FD w1 e v ls) :
    Calls Try.prog 34 #[p, .int .i64 at_, v] w1 fun en w' => en = .returned (.int .i64 (D.write at_ ls).1) ∧ Keep FD w1 w' ∧ MidD w0 w' p px FD FX (D.write at_ ls).2 D2 := by
  have h1 := h.same Z
  refine (dWrite w1 p FD D at_ e v ls h1.dv hR).mono ?_
  rintro en w' ⟨rfl, K, I⟩
  exact ⟨rfl, K, I, h1.rd.keep K (fun i hi hn => h1.dx i hn hi), h1.dx, h1.bd.mono K.size, h1.bx.mono K.size, h1.old.keepOwn K fun k hk => (h1.bd k hk).1⟩
theorem MidD.rwrite {w0 w w1 : World} {p px v : Value} {FD FX : Nat → Prop} {D D2 : Dv} (h : MidD w0 w p px FD FX D D2) (Z : Same w w1) (at_ : Int) (e : TypeId) (ls : List (List UInt8)) (hR : Rows2N FX w1 e v ls) :
    Calls Try.prog 104 #[px, .int .i64 at_, v] w1 fun en w' => en = .returned (.int .i64 (D2.write at_ ls).1) ∧ MidE w0 w' p px D (D2.write at_ ls).2 := by
  have h1 := h.same Z
  refine (rWrite w1 px FX D2 at_ e v ls h1.rd hR).mono ?_
  rintro en w' ⟨FX', rfl, K, I, G⟩
  exact ⟨rfl, FD, FX', h1.dv.keep K (fun i hi hn => h1.dx i hi hn), I, h1.dx.growR G (fun k hk => (h1.bd k hk).2), h1.bd.mono K.size, h1.bx.grow G K.size h1.old.size, h1.old.keepOwn K fun k hk => (h1.bx k hk).1⟩
set_option maxHeartbeats 12800000 in
set_option maxRecDepth 100000 in
theorem layWalk (w0 w : World) (p px v : Value) (n : Nat) (D : Dv) (hv : Raws w0 v n) (h : MidE w0 w p px D D) :
    Calls Try.prog 60 #[p, px, v] w fun en w' => en = .returned (.tuple #[]) ∧ ∃ D' : Dv, MidE w0 w' p px D' D' ∧ D'.C.length = D.C.length := by
  have HCt := hid r01Cut0
  have HEn := hid rEncode
  have HLc := hid lCells
  have H0 := hid h
  have hok := h.ok.1
  obtain ⟨⟨pb, rfl⟩, ⟨xb, rfl⟩⟩ := h.ptrs
  obtain ⟨ao, cap, rfl, hn1, hn2, hrows⟩ := hv
  unfold maxLen at hn2
  have HRows := hid hrows
  clear hrows h
  go_enter Try.func60, Try.ntmps60
  go_wp2_with fail
  go_loopw [6] (fun i wr => ∃ (k : Nat) (D' : Dv), k ≤ D.C.length ∧ i = .int .i64 k ∧ MidE w0 wr (.pointer (some ⟨pb, 0, none⟩)) (.pointer (some ⟨xb, 0, none⟩)) D' D' ∧ D'.C.length = D.C.length) (fun i _ => D.C.length - (intOf i).toNat)
  case atStart => exact ⟨0, D, Nat.zero_le _, rfl, H0.out, rfl⟩
  case round =>
    clear H0
    obtain ⟨k, D', hk, rfl, ⟨FD, FX, M⟩, hlen⟩ := hrel
    have M := hid M
    have HLen := hid hlen
    obtain ⟨xb', xa, xc, hxe, x0⟩ := M.out.rsize
    obtain rfl : xb = xb' := by simpa using hxe
    rw [hlen] at x0
    clear hxe hlen
    by_cases hlt : k < n
    case neg =>
      go_wp2_with fail
      go_end0
      exact ⟨rfl, D', ⟨FD, FX, M.out⟩, HLen.out⟩
    by_cases hlt2 : k < D.C.length
    case neg =>
      go_wp2_with fail
      go_end0
      exact ⟨rfl, D', ⟨FD, FX, M.out⟩, HLen.out⟩
    obtain ⟨g, o, hao, hall⟩ : ∃ g o, ao = some ⟨g, o, none⟩ ∧ ∀ i, i < n → ∃ b f, RawAt w0 g (o + i * 7) b f := by
      rcases HRows.out with h0 | h0
      · omega
      · exact h0
    subst hao
    obtain ⟨b, f, ab, cb, eb, ad, cd, ed, c0, hb, hf, hd⟩ := hall k hlt
    have hg0 := World.block_lt_of_cell? w0 _ c0
    have hf2 := hf.same M.out.old
    obtain ⟨f0, f1, f2, f3, f4, f5⟩ := hf2
    have HC0 := hid (fun (wz : World) (Z : Same w0 wz) => (Z.cell (p := ⟨g, o + k * 7, none⟩) hg0).trans c0)
    have HB := hid hb
    have HD := hid hd
    have hki : (0 : Int) ≤ (k : Int) := by omega
    have BX := hid (BoxR.new wr (.int .i64 f.life) (.int .i64 f.era) (.int .i64 f.seq) (.int .i64 f.part) (.int .i64 f.parts) (.slice ad f.data.length cd))
    have Z1 := hid ((Same.refl wr).alloc (.cells #[.int .i64 f.life, .int .i64 f.era, .int .i64 f.seq, .int .i64 f.part, .int .i64 f.parts, .slice ad f.data.length cd] 59))
    clear hall hb hf hd c0 hg0
    go_wp2_with fail
    refine (show Calls Try.prog 22 #[_, .int .i64 80] _ _ from HCt.out w0 _ ed _ f.data 80 HD.out).mono ?_
    rintro en w1' ⟨v1, rfl, Y1, rfl⟩
    obtain ⟨a1, q1, rfl, _, _⟩ := Y1.form
    generalize hw1 : wr.alloc (.cells #[.int .i64 f.life, .int .i64 f.era, .int .i64 f.seq, .int .i64 f.part, .int .i64 f.parts, .slice ad f.data.length cd] 59) = w1 at *
    clear hw1
    have Y1 := hid Y1
    have z5 := BX.out.free 5
    obtain ⟨y0, y1, y2, y3, y4, y5⟩ := BX.out.cells
    obtain ⟨f', hf'⟩ : ∃ f' : Fr, f' = ⟨f.life, f.era, f.seq, f.part, f.parts, f.data.take 80⟩ := ⟨_, rfl⟩
    have hfd : Hid (f'.data = f.data.take 80) := by show _ = _; rw [hf']
    have B2 := hid (BX.out.set5 (.slice a1 (f.data.take 80).length q1))
    have Z2 := hid (Z1.out.setCell (p := ⟨wr.heap.size, 5, none⟩) (Nat.le_refl _) (.slice a1 (f.data.take 80).length q1))
    generalize f.data.take 80 = dt at *
    generalize wr.heap.size = fb at *
    go_upto_region 5 with fail
    generalize w1.setCell ⟨fb, 5, none⟩ (.slice a1 dt.length q1) = w2 at *
    clear y0 y1 y2 y3 y4 y5 z5 BX f0 f1 f2 f3 f4 f5
    obtain ⟨y0, y1, y2, y3, y4, y5⟩ := B2.out.cells
    have HEk := hid (HEn.out w2 (f'.agg (.slice a1 dt.length q1)) f' ⟨_, ed, rfl, by rw [hfd.out]; exact Y1.out.same (M.out.old.trans Z2.out)⟩)
    unfold Fr.agg at HEk
    have hag : Hid (f'.life = f.life ∧ f'.era = f.era ∧ f'.seq = f.seq ∧ f'.part = f.part ∧ f'.parts = f.parts) := by show _ ∧ _; rw [hf']; exact ⟨rfl, rfl, rfl, rfl, rfl⟩
    rw [hag.out.1, hag.out.2.1, hag.out.2.2.1, hag.out.2.2.2.1, hag.out.2.2.2.2] at HEk
    clear hag hfd Y1 hf' B2
    go_wp2_with fail
    refine HEk.out.mono ?_
    rintro en w3 ⟨v3, rfl, O3, S3⟩
    obtain ⟨a3, q3, rfl, _, _⟩ := O3.bytes.form
    have O3 := hid O3
    have Z3 := hid (Z2.out.trans S3)
    clear S3 y0 y1 y2 y3 y4 y5
    cases hr : f'.right
    case true =>
      have he : encE f' = 0 := by unfold encE; rw [hr]; rfl
      rw [he]
      clear he hr HEk
      have HY := hid O3.out.bytes
      have HFr : Hid (∀ g', homeOf (.slice a3 (encOf f').length q3) = some g' → wr.heap.size ≤ g') := fun g' hg' => by have := O3.out.fresh g' hg'; have := Z2.out.size; omega
      clear O3
      generalize encOf f' = bb at *
      have HRN := hid (Rows2N.one (F := FD) HY.out (fun g' hg' hn => by have := HFr.out g' hg'; have := (M.out.bd g' hn).2; omega) (fun hn => by have := (M.out.bd _ hn).2; have := Z3.out.size; omega))
      have ZA := hid (Z3.out.alloc (.cells #[.slice a3 bb.length q3] 23))
      go_wp2_with fail
      refine (M.out.write ZA.out k 23 [bb] HRN.out).mono ?_
      rintro en w4 ⟨rfl, K4, M4⟩
      have M4 := hid M4
      have HY4 := hid ((HY.out.same ((Same.refl w3).alloc (.cells #[.slice a3 bb.length q3] 23))).keep K4 (fun g' hg' hn => by have := HFr.out g' hg'; have := (M.out.bd g' hn).2; omega))
      have hz4 := K4.size
      have HRN2 := hid (Rows2N.one (F := FX) HY4.out (fun g' hg' hn => by have := HFr.out g' hg'; have := (M.out.bx g' hn).2; omega) (fun hn => by have := (M.out.bx _ hn).2; have := ZA.out.size; omega))
      clear K4 hz4 HRN HY
      go_wp2_with fail
      refine (M4.out.rwrite ((Same.refl w4).alloc _) k 23 [bb] HRN2.out).mono ?_
      rintro en w5 ⟨rfl, M5⟩
      have M5 := hid M5
      have HL5 : Hid ((D'.write (k : Int) [bb]).2.C.length = D.C.length) := by show _ = _; rw [write_len]; exact HLen.out
      clear HRN2 HY4 M4
      go_wp2_with fail
      go_roundw
      case rel => exact ⟨k + 1, (D'.write (k : Int) [bb]).2, by omega, by go_num, M5.out, HL5.out⟩
      case measure => simp [intOf]; omega
    case false =>
      have he : encE f' = 2 := by unfold encE; rw [hr]; rfl
      rw [he]
      have c0 := HC0.out w3 (M.out.old.trans Z3.out)
      clear he hr HEk O3
      generalize (encOf f').length = le at *
      go_wp2_with fail
      refine (show Calls Try.prog 22 #[_, .int .i64 96] _ _ from HCt.out w0 _ eb _ b 96 HB.out).mono ?_
      rintro en w3' ⟨v6, rfl, Y6, rfl⟩
      obtain ⟨a6, q6, rfl, _, _⟩ := Y6.form
      have Y6 := hid (Y6.same (M.out.old.trans Z3.out))
      generalize b.take 96 = dy at *
      have HR6 := hid (Rows2N.one (F := NoB) Y6.out (fun _ _ x => x) (fun x => x)).rows
      have Z6 := hid (Z3.out.alloc (.cells #[.slice a6 dy.length q6] 23))
      go_wp2_with fail
      refine (HLc.out _ _ _ _ HR6.out).mono ?_
      rintro en w7 ⟨v7, rfl, O7, S7⟩
      rw [cellsOf_one] at O7
      obtain ⟨g7, c7, a8, q8, rfl, n0, Y8, hF8⟩ := O7.first
      have HY := hid Y8
      have HFr : Hid (∀ g', homeOf (.slice a8 (pad96 dy).length q8) = some g' → wr.heap.size ≤ g') := fun g' hg' => by have := hF8 g' hg'; have := Z6.out.size; omega
      have Z7 := hid (Z6.out.trans S7)
      clear O7 S7 Y8 hF8 HR6 c0
      generalize pad96 dy = bb at *
      have HRN := hid (Rows2N.one (F := FD) HY.out (fun g' hg' hn => by have := HFr.out g' hg'; have := (M.out.bd g' hn).2; omega) (fun hn => by have := (M.out.bd _ hn).2; have := Z7.out.size; omega))
      have ZA := hid (Z7.out.alloc (.cells #[.slice a8 bb.length q8] 23))
      go_wp2_with fail
      refine (M.out.write ZA.out k 23 [bb] HRN.out).mono ?_
      rintro en w4 ⟨rfl, K4, M4⟩
      have M4 := hid M4
      have HY4 := hid ((HY.out.same ((Same.refl w7).alloc (.cells #[.slice a8 bb.length q8] 23))).keep K4 (fun g' hg' hn => by have := HFr.out g' hg'; have := (M.out.bd g' hn).2; omega))
      have hz4 := K4.size
      have HRN2 := hid (Rows2N.one (F := FX) HY4.out (fun g' hg' hn => by have := HFr.out g' hg'; have := (M.out.bx g' hn).2; omega) (fun hn => by have := (M.out.bx _ hn).2; have := ZA.out.size; omega))
      clear K4 hz4 HRN HY
      go_wp2_with fail
      refine (M4.out.rwrite ((Same.refl w4).alloc _) k 23 [bb] HRN2.out).mono ?_
      rintro en w5 ⟨rfl, M5⟩
      have M5 := hid M5
      have HL5 : Hid ((D'.write (k : Int) [bb]).2.C.length = D.C.length) := by show _ = _; rw [write_len]; exact HLen.out
      clear HRN2 HY4 M4
      go_wp2_with fail
      go_roundw
      case rel => exact ⟨k + 1, (D'.write (k : Int) [bb]).2, by omega, by go_num, M5.out, HL5.out⟩
      case measure => simp [intOf]; omega
end Go.Proofs.Ytlhnpicmjjddeaa
namespace Go.Proofs.Ytlhnpicmjjddeaa
open Go.RowKit

theorem openE_or (D : Dv) (a b life era : Int) : D.openE a b life era = 2 ∨ (D.openE a b life era = 0 ∧ 0 ≤ a ∧ a ≤ b ∧ b ≤ D.C.length) := by
  unfold Dv.openE
  split
  · rename_i h
    have q : 0 ≤ a ∧ a ≤ b ∧ b ≤ D.C.length := of_decide_eq_true h.1
    exact .inr ⟨rfl, q⟩
  · exact .inl rfl
theorem MidE.openNo {w0 w : World} {p px : Value} {D D2 : Dv} (h : MidE w0 w p px D D2) (a b life era : Int) (hE : D.openE a b life era = 2) :
    Calls Try.prog 61 #[p, .int .i64 a, .int .i64 b, .int .i64 life, .int .i64 era] w (RetSame (.tuple #[.pointer none, .int .i64 2]) w) := by
  obtain ⟨FD, FX, h1⟩ := h
  refine (cOpen w p FD D a b life era h1.dv (fun k hk => (h1.bd k hk).2)).mono ?_
  rintro en w' (⟨_, rfl, Z⟩ | ⟨e, _⟩)
  · exact ⟨rfl, Z⟩
  · rw [hE] at e; cases e
theorem MidE.ropenNo {w0 w : World} {p px : Value} {D D2 : Dv} (h : MidE w0 w p px D D2) (a b life era : Int) (hE : D2.openE a b life era = 2) :
    Calls Try.prog 62 #[px, .int .i64 a, .int .i64 b, .int .i64 life, .int .i64 era] w (RetSame (.tuple #[.pointer none, .int .i64 2]) w) := by
  obtain ⟨FD, FX, h1⟩ := h
  refine (rOpen w px FX D2 a b life era h1.rd).mono ?_
  rintro en w' (⟨_, rfl, Z⟩ | ⟨e, _⟩)
  · exact ⟨rfl, Z⟩
  · rw [hE] at e; cases e
set_option maxHeartbeats 12800000 in
set_option maxRecDepth 100000 in
theorem scrollReadsWalk (w : World) (v : Value) (n : Nat) (a b life era : Int) (hv : Raws w v n) : Calls Try.prog 15 #[v, .int .i64 a, .int .i64 b, .int .i64 life, .int .i64 era] w (RetSame (.bool true) w) := by
  have H9 := hid cLives
  have HSa := hid rSameEq
  have HV := hid hv
  obtain ⟨ao, cap, rfl, _⟩ := hv
  go_enter Try.func15, Try.ntmps15
  go_wp2_with fail
  refine (dNewD w 20 (by omega) (by omega)).mono ?_
  rintro en w1 ⟨p, FD, rfl, S1, D1, B1⟩
  obtain ⟨pb, rfl⟩ := D1.ptr
  have X1 := hid (And.intro D1 (And.intro S1 B1))
  clear D1 S1 B1
  go_wp2_with fail
  refine (rNewD w1 20 (by omega) (by omega)).mono ?_
  rintro en w2 ⟨px, FX, rfl, S2, D2, B2⟩
  obtain ⟨xb, rfl⟩ := D2.ptr
  have M2 := hid (mid_first X1.out.1 X1.out.2.1 X1.out.2.2 D2 S2 B2)
  clear X1 D2 S2 B2
  go_wp2_with fail
  refine (layWalk w w2 _ _ _ n _ HV.out M2.out).mono ?_
  rintro en w3 ⟨rfl, D, M3, hlen⟩
  have hl2 : D.C.length = 20 := by rw [hlen]; simp [Dv.new]
  have HL := hid hl2
  have M3 := hid M3
  clear M2 HV hlen hl2
  rcases openE_or D a b life era with hE | ⟨hE, h1, h2, h3⟩
  · have HE := hid hE
    clear hE
    go_wp2_with fail
    refine (M3.out.openNo a b life era HE.out).mono ?_
    rintro en w4 ⟨rfl, Z4⟩
    have M4 := hid (M3.out.same Z4)
    clear M3 Z4
    go_wp2_with fail
    refine (M4.out.ropenNo a b life era HE.out).mono ?_
    rintro en w5 ⟨rfl, Z5⟩
    have M5 := hid (M4.out.same Z5)
    clear M4 Z5
    go_wp2_with fail
    refine (H9.out _).mono ?_
    rintro en w6 ⟨rfl, Z6⟩
    go_wp2_with fail
    go_ret
    exact ⟨rfl, M5.out.old.trans Z6⟩
  obtain ⟨x, rfl⟩ := Int.eq_ofNat_of_zero_le (a := a) h1
  obtain ⟨y, rfl⟩ := Int.eq_ofNat_of_zero_le (a := b) (by omega)
  have hxy : x ≤ y := by omega
  have hyl : y ≤ D.C.length := by omega
  have HE := hid hE
  clear hE h1 h2 h3
  go_wp2_with fail
  refine (M3.out.open x y life era HE.out).mono ?_
  rintro en w4 ⟨s, rfl, M4⟩
  obtain ⟨sb, rfl⟩ := M4.sptr
  have M4 := hid M4
  clear M3
  go_wp2_with fail
  refine (M4.out.ropen x y life era HE.out).mono ?_
  rintro en w5 ⟨sx, rfl, M5⟩
  obtain ⟨yb, rfl⟩ := M5.ptrs.2.2.2
  have M5 := hid M5
  clear M4
  generalize D.opened x y life era = S at *
  go_wp2_with fail
  obtain ⟨yb', yv, hyb, n5, n6, HRy⟩ := M5.out.seen
  obtain rfl : yb = yb' := by simpa using hyb
  obtain ⟨ya, yc, rfl, _, _⟩ := HRy.form
  have HRy := hid HRy
  have H5 := hid (fun (wz : World) (Z : Same w5 wz) => And.intro ((Z.cell (p := ⟨yb, 5, none⟩) (World.block_lt_of_cell? w5 ⟨yb, 5, none⟩ n5)).trans n5) ((Z.cell (p := ⟨yb, 6, none⟩) (World.block_lt_of_cell? w5 ⟨yb, 6, none⟩ n6)).trans n6))
  have HRc := hid (M5.out.same (Same.refl w5).drew).records
  have HSm := hid (fun (wz : World) (v7 : Value) (Z : Same w5 wz) (h : Rows2 wz 23 v7 S.all) => HSa.out wz 23 23 v7 _ _ h (HRy.out.same Z))
  have HUs := hid (fun (wz : World) (Z : Same w5 wz) => (M5.out.same Z).used)
  have HNd := hid (fun (wz : World) (Z : Same w5 wz) => (M5.out.same Z).forget.newest x y)
  have HNr := hid (fun (wz : World) (Z : Same w5 wz) => (M5.out.same Z).forget.rnewest x y hxy hyl)
  clear hyb HRy
  generalize D.newest x y = nw at *
  go_region_held3 (fun w' => w'.cell? ⟨yb, 5, none⟩ = some (.slice ya S.all.length yc) ∧ w'.cell? ⟨yb, 6, none⟩ = some (.int .i64 (S.at_ - S.from_)))
    (first | with_reducible exact ⟨by assumption, by assumption⟩ | go_keep)
    (first
      | (go_at_call 65; (with_reducible refine HRc.out.mono ?_); rintro en w7 ⟨v7, rfl, O7, Z7⟩; obtain ⟨a7, q7, rfl, _, _⟩ := O7.rows.form; have Z7 := hid ((Same.refl w5).drew.trans Z7); have R7 := hid O7.rows; obtain ⟨h5, h6⟩ := H5.out _ Z7.out; clear O7)
      | (go_at_call 64; (with_reducible refine (HSm.out w7 _ Z7.out R7.out).mono ?_); rintro en w8 ⟨rfl, Z8⟩; have Z8 := hid (Z7.out.trans Z8); obtain ⟨h5', h6'⟩ := H5.out _ Z8.out)
      | (go_at_call 66; (with_reducible refine (HUs.out w8 Z8.out).mono ?_); rintro en w9 ⟨rfl, Z9⟩; have Z9 := hid (Z8.out.trans Z9); obtain ⟨h5'', h6''⟩ := H5.out _ Z9.out)
      | (go_at_call 67; (with_reducible refine (HNd.out w9 Z9.out).mono ?_); rintro en w10 ⟨rfl, Z10⟩; have Z10 := hid (Z9.out.trans Z10); obtain ⟨k5, k6⟩ := H5.out _ Z10.out)
      | (go_at_call 68; (with_reducible refine (HNr.out w10 Z10.out).mono ?_); rintro en w11 ⟨rfl, Z11⟩; have Z11 := hid (Z10.out.trans Z11); obtain ⟨k5', k6'⟩ := H5.out _ Z11.out)
      | (go_at_call 63; (with_reducible refine (H9.out _).mono ?_); rintro en w12 ⟨rfl, Z12⟩; have Z12 := hid (Z11.out.trans Z12); obtain ⟨k5'', k6''⟩ := H5.out _ Z12.out))
  clear n5 n6 h5 h6 h5' h6' h5'' h6'' k5 k6 k5' k6' k5'' k6''
  go_wp2_with fail
  go_ret
  exact ⟨rfl, M5.out.old.trans Z12.out⟩
end Go.Proofs.Ytlhnpicmjjddeaa
