/- SCROLL: a drive and a scroll of the walk's own, and the reference's, side by side. VAULT's reference: Append. VAULT's reference: Compact. Printed by mkrf10c.py. VAULT: a drive and a vault of the walk's own. SCROLL: a drive and a scroll of the walk's own, and the reference's, side by side: opened, asked. VAULT: a drive and a vault of the walk's own, and the reference's, side by side. Printed by mkvx.py. VAULT: Left; opened side by side; whether they are the same. VAULT's statements: same. What comes in, opened: rows of steps of layers 8 and 10. No further condition. SCROLL's statements: Few of numbers that came in. -/
import Derived.Test.YtlhnpicmjjddeaaGrp7
import Derived.Test.YtlhnpicmjjddeaaGrp8
import Derived.Test.YtlhnpicmjjddeaaGrp3
import Derived.Test.YtlhnpicmjjddeaaGrp1
set_option linter.unusedVariables false
set_option linter.unusedSimpArgs false
namespace Go.Proofs.Ytlhnpicmjjddeaa
open Go.RowKit

theorem heap_alloc_new' (w : World) (o : Obj) : (w.alloc o).heap[w.heap.size]? = some o := heap_alloc_new w o
def Dj (A B : Nat → Prop) : Prop := ∀ i, A i → ¬ B i
theorem Dj.symm {A B : Nat → Prop} (h : Dj A B) : Dj B A := fun i hb ha => h i ha hb
theorem Dj.growL {A A' B : Nat → Prop} {w w' : World} (h : Dj A B) (g : Grow A A' w w') (hB : ∀ k, B k → k < w.heap.size) : Dj A' B := fun i hi hb => by
  rcases g i hi with x | x
  · exact h i x hb
  · have := hB i hb; omega
theorem Dj.growR {A B B' : Nat → Prop} {w w' : World} (h : Dj A B) (g : Grow B B' w w') (hA : ∀ k, A k → k < w.heap.size) : Dj A B' := (h.symm.growL g hA).symm
/-- a drive, the reference's drive -/
structure MidD (w0 w : World) (p px : Value) (FD FX : Nat → Prop) (D D2 : Dv) : Prop where
  dv : IsDv w p FD D
  rd : IsRd w px FX D2
  dx : Dj FD FX
  bd : Bnd FD w0.heap.size w.heap.size
  bx : Bnd FX w0.heap.size w.heap.size
  old : Same w0 w
/-- a drive, a scroll; the reference's drive, the reference's scroll; objects A that lie aside -/
structure MidX (A : Nat → Obj → Prop) (w0 w : World) (p s px sx : Value) (D : Dv) (S : Sc) (D2 : Dv) (S2 : Sc) : Prop where
  parts : ∃ FD FS FX FY N, MidD w0 w p px FD FX D D2 ∧ IsSc w s p FS S ∧ IsRs w sx px FY N S2 ∧ Dj FD FS ∧ Dj FD FY ∧ Dj FS FX ∧ Dj FS FY ∧ Dj FX FY ∧ Bnd FS w0.heap.size w.heap.size ∧ Bnd FY w0.heap.size w.heap.size ∧
    (∀ g, N g → ¬ FD g ∧ ¬ FS g ∧ ¬ FX g ∧ g < w.heap.size) ∧ (∀ g o, A g o → w.heap[g]? = some o ∧ ¬ FD g ∧ ¬ FS g ∧ ¬ FX g ∧ ¬ FY g)
section
variable {w0 w w' : World} {p s px sx : Value} {D D2 : Dv} {S S2 : Sc} {FD FX : Nat → Prop} {A : Nat → Obj → Prop}
theorem MidD.same (h : MidD w0 w p px FD FX D D2) (Z : Same w w') : MidD w0 w' p px FD FX D D2 := ⟨h.dv.same Z, h.rd.same Z, h.dx, h.bd.mono Z.size, h.bx.mono Z.size, h.old.trans Z⟩
theorem MidX.same (h : MidX A w0 w p s px sx D S D2 S2) (Z : Same w w') : MidX A w0 w' p s px sx D S D2 S2 :=
  let ⟨FD, FS, FX, FY, N, h1, h2, h3, h4, h5, h6, h7, h8, h9, h10, h11, h12⟩ := h.parts
  ⟨FD, FS, FX, FY, N, h1.same Z, h2.same Z, h3.same Z, h4, h5, h6, h7, h8, h9.mono Z.size, h10.mono Z.size, (fun g hg => let ⟨a, b, c, d⟩ := h11 g hg; ⟨a, b, c, Nat.lt_of_lt_of_le d Z.size⟩), fun g o hg => let ⟨a, b⟩ := h12 g o hg; ⟨(Z.block g (Array.getElem?_eq_some_iff.1 a).1 fun x => x).trans a, b⟩⟩
theorem MidX.put (h : MidX A w0 w p s px sx D S D2 S2) (o : Obj) : MidX (fun g x => A g x ∨ (g = w.heap.size ∧ x = o)) w0 (w.alloc o) p s px sx D S D2 S2 := by
  obtain ⟨FD, FS, FX, FY, N, h1, h2, h3, h4, h5, h6, h7, h8, h9, h10, h11, h12⟩ := (h.same ((Same.refl w).alloc o)).parts
  obtain ⟨FD', FS', FX', FY', N', k1, k2, k3, k4, k5, k6, k7, k8, k9, k10, k11, k12⟩ := h.parts
  have T : Same w (w.alloc o) := (Same.refl w).alloc o
  refine ⟨FD', FS', FX', FY', N', k1.same T, k2.same T, k3.same T, k4, k5, k6, k7, k8, k9.mono T.size, k10.mono T.size, (fun g hg => let ⟨a, b, c, d⟩ := k11 g hg; ⟨a, b, c, Nat.lt_of_lt_of_le d T.size⟩), fun g x hx => ?_⟩
  rcases hx with hx | ⟨rfl, rfl⟩
  · obtain ⟨a, b⟩ := k12 g x hx
    exact ⟨(T.block g (Array.getElem?_eq_some_iff.1 a).1 fun x => x).trans a, b⟩
  · refine ⟨heap_alloc_new' w x, fun hf => ?_, fun hf => ?_, fun hf => ?_, fun hf => ?_⟩
    · have := (k1.bd _ hf).2; omega
    · have := (k9 _ hf).2; omega
    · have := (k1.bx _ hf).2; omega
    · have := (k10 _ hf).2; omega
def NoA (_ : Nat) (_ : Obj) : Prop := False
theorem MidX.bare (h : MidX A w0 w p s px sx D S D2 S2) : MidX NoA w0 w p s px sx D S D2 S2 :=
  let ⟨FD, FS, FX, FY, N, h1, h2, h3, h4, h5, h6, h7, h8, h9, h10, h11, h12⟩ := h.parts
  ⟨FD, FS, FX, FY, N, h1, h2, h3, h4, h5, h6, h7, h8, h9, h10, h11, fun _ _ x => x.elim⟩
theorem MidX.aside (h : MidX A w0 w p s px sx D S D2 S2) {g : Nat} {o : Obj} (ha : A g o) : w.heap[g]? = some o :=
  let ⟨_, _, _, _, _, _, _, _, _, _, _, _, _, _, _, _, h12⟩ := h.parts; (h12 g o ha).1
theorem MidX.old (h : MidX A w0 w p s px sx D S D2 S2) : Same w0 w := let ⟨_, _, _, _, _, h1, _⟩ := h.parts; h1.old
theorem MidX.ok (h : MidX A w0 w p s px sx D S D2 S2) : S.Ok := let ⟨_, _, _, _, _, _, h2, _⟩ := h.parts; h2.ok
theorem MidX.dok (h : MidX A w0 w p s px sx D S D2 S2) : D.Ok := let ⟨_, _, _, _, _, h1, _⟩ := h.parts; h1.dv.ok
theorem MidX.ptrs (h : MidX A w0 w p s px sx D S D2 S2) : (∃ b, p = .pointer (some ⟨b, 0, none⟩)) ∧ (∃ b, s = .pointer (some ⟨b, 0, none⟩)) ∧ (∃ b, px = .pointer (some ⟨b, 0, none⟩)) ∧ (∃ b, sx = .pointer (some ⟨b, 0, none⟩)) :=
  let ⟨_, _, _, _, _, h1, h2, h3, _⟩ := h.parts; ⟨h1.dv.ptr, h2.ptr, h1.rd.ptr, h3.ptr⟩
/-- bytes that came in are read where they lay -/
theorem bytes_low {F : Nat → Prop} {e : TypeId} {v : Value} {b : List UInt8} (hb : Bytes w0 e v b) {c : Nat} (B : Bnd F w0.heap.size c) : ∀ g, homeOf v = some g → ¬ F g := fun g hg hn => by
  have h1 := Sl.home_lt hb hg
  have h2 := (B g hn).1
  omega
theorem ints_low {F : Nat → Prop} {e : TypeId} {v : Value} {b : List Int} (hb : Ints w0 e v b) {c : Nat} (B : Bnd F w0.heap.size c) : ∀ g, homeOf v = some g → ¬ F g := fun g hg hn => by
  have h1 := Sl.home_lt hb hg
  have h2 := (B g hn).1
  omega
theorem MidX.append (h : MidX A w0 w p s px sx D S D2 S2) (v : Value) (e : TypeId) (b : List UInt8) (hb : Bytes w0 e v b) (hl : b.length ≤ 400) :
    Calls Try.prog 69 #[s, v] w fun en w' => en = .returned (.int .i64 (S.append D b).1) ∧ MidX A w0 w' p s px sx (S.append D b).2.2 (S.append D b).2.1 D2 S2 := by
  obtain ⟨FD, FS, FX, FY, N, h1, h2, h3, h4, h5, h6, h7, h8, h9, h10, h11, h12⟩ := h.parts
  refine (cAppend w s p v FD FS D S b e h1.dv h2 h4 (fun k hk => (h1.bd k hk).2) (hb.same h1.old) (by omega) (bytes_low hb h1.bd)).mono ?_
  rintro en w' ⟨FS', rfl, K, I, J, G⟩
  have hz := K.size
  have Z : Same w0 w' := h1.old.keepOwn K fun k hk => by
    rcases hk with hk | hk
    · exact (h1.bd k hk).1
    · exact (h9 k hk).1
  refine ⟨rfl, FD, FS', FX, FY, N, ⟨I, h1.rd.keep K fun i hi hn => ?_, h1.dx, h1.bd.mono hz, h1.bx.mono hz, Z⟩, J, h3.keep K (fun i hi hn => ?_) (fun i hi hn => ?_), h4.growR G (fun k hk => (h1.bd k hk).2), h5, h6.growL G (fun k hk => (h1.bx k hk).2), h7.growL G (fun k hk => (h10 k hk).2), h8, h9.grow G hz h1.old.size, h10.mono hz, fun g hg => ?_, fun g o ho => ?_⟩
  · rcases hn with hn | hn
    · exact h1.dx i hn hi
    · exact h6 i hn hi
  · rcases hn with hn | hn
    · exact h5 i hn hi
    · exact h7 i hn hi
  · rcases hn with hn | hn
    · exact (h11 i hi).1 hn
    · exact (h11 i hi).2.1 hn
  · obtain ⟨a, b, c, d⟩ := h11 g hg
    refine ⟨a, fun hf => ?_, c, by omega⟩
    rcases G g hf with x | x
    · exact b x
    · omega
  · obtain ⟨q, a, b, c, d⟩ := h12 g o ho
    have hl := (Array.getElem?_eq_some_iff.1 q).1
    refine ⟨(K.block g hl fun x => x.elim a b).trans q, a, fun hf => ?_, c, d⟩
    rcases G g hf with x | x
    · exact b x
    · omega
theorem MidX.rappend (h : MidX A w0 w p s px sx D S D2 S2) (hok : S2.Ok) (v : Value) (e : TypeId) (b : List UInt8) (hb : Bytes w0 e v b) (hl : b.length ≤ 400) :
    Calls Try.prog 70 #[sx, v] w fun en w' => en = .returned (.int .i64 (S2.append D2 b).1) ∧ MidX A w0 w' p s px sx D S (S2.append D2 b).2.2 (S2.append D2 b).2.1 := by
  obtain ⟨FD, FS, FX, FY, N, h1, h2, h3, h4, h5, h6, h7, h8, h9, h10, h11, h12⟩ := h.parts
  refine (rAppend w sx px v FX FY N D2 S2 b e h1.rd h3 hok h8 (fun k hk => (h1.bx k hk).2) (fun k hk => (h10 k hk).2) (fun g hg => ⟨(h11 g hg).2.2.1, (h11 g hg).2.2.2⟩) (hb.same h1.old) hl (fun g hg => ⟨bytes_low hb h1.bx g hg, bytes_low hb h10 g hg⟩)).mono ?_
  rintro en w' ⟨FX', FY', N', rfl, K, I, J, GX, GY, hXY, hNX, hN⟩
  have hz := K.size
  have Z : Same w0 w' := h1.old.keepOwn K fun k hk => by
    rcases hk with hk | hk
    · exact (h1.bx k hk).1
    · exact (h10 k hk).1
  refine ⟨rfl, FD, FS, FX', FY', N', ⟨h1.dv.keep K fun i hi hn => ?_, I, h1.dx.growR GX (fun k hk => (h1.bd k hk).2), h1.bd.mono hz, h1.bx.grow GX hz h1.old.size, Z⟩, h2.keep K (fun i hi hn => ?_), J, h4, h5.growR GY (fun k hk => (h1.bd k hk).2), h6.growR GX (fun k hk => (h9 k hk).2), h7.growR GY (fun k hk => (h9 k hk).2), hXY, h9.mono hz, h10.grow GY hz h1.old.size, fun g hg => ?_, fun g o ho => ?_⟩
  · rcases hn with hn | hn
    · exact h1.dx i hi hn
    · exact h5 i hi hn
  · rcases hn with hn | hn
    · exact h6 i hi hn
    · exact h7 i hi hn
  · rcases hN g hg with x | x
    · obtain ⟨a, b, c, d⟩ := h11 g x
      exact ⟨a, b, hNX g hg, by omega⟩
    · have hl2 := Sl.home_lt (hb.same h1.old) x
      exact ⟨bytes_low hb h1.bd g x, bytes_low hb h9 g x, hNX g hg, by omega⟩
  · obtain ⟨q, a, b, c, d⟩ := h12 g o ho
    have hl := (Array.getElem?_eq_some_iff.1 q).1
    refine ⟨(K.block g hl fun x => x.elim c d).trans q, a, b, fun hf => ?_, fun hf => ?_⟩
    · rcases GX g hf with x | x
      · exact c x
      · omega
    · rcases GY g hf with x | x
      · exact d x
      · omega
theorem MidX.fuse (h : MidX A w0 w p s px sx D S D2 S2) (v : Value) (e : TypeId) (m : Int) (ks : List Int) (hk : Ints w0 e v ks) (hl : ks.length ≤ 1000) (hm : -9223372036854775808 ≤ m ∧ m ≤ 9223372036854775807) :
    Calls Try.prog 35 #[p, .int .i64 m, v] w fun en w' => en = .returned (.int .i64 (D.fuse m ks).1) ∧ MidX A w0 w' p s px sx (D.fuse m ks).2 S D2 S2 := by
  obtain ⟨FD, FS, FX, FY, N, h1, h2, h3, h4, h5, h6, h7, h8, h9, h10, h11, h12⟩ := h.parts
  refine (dFuseD w p v FD D m ks e h1.dv (hk.same h1.old) hl hm).mono ?_
  rintro en w' ⟨FD', rfl, K, I, G⟩
  have hz := K.size
  have Z : Same w0 w' := h1.old.keepOwn K fun k hk => (h1.bd k hk).1
  refine ⟨rfl, FD', FS, FX, FY, N, ⟨I, h1.rd.keep K (fun i hi hn => h1.dx i hn hi), h1.dx.growL G (fun k hk => (h1.bx k hk).2), h1.bd.grow G hz h1.old.size, h1.bx.mono hz, Z⟩, h2.keep K (fun i hi hn => h4 i hn hi), h3.keep K (fun i hi hn => h5 i hn hi) (fun i hi => (h11 i hi).1), h4.growL G (fun k hk => (h9 k hk).2), h5.growL G (fun k hk => (h10 k hk).2), h6, h7, h8, h9.mono hz, h10.mono hz, fun g hg => ?_, fun g o ho => ?_⟩
  · obtain ⟨a, b, c, d⟩ := h11 g hg
    refine ⟨fun hf => ?_, b, c, by omega⟩
    rcases G g hf with x | x
    · exact a x
    · omega
  · obtain ⟨q, a, b, c, d⟩ := h12 g o ho
    have hl := (Array.getElem?_eq_some_iff.1 q).1
    refine ⟨(K.block g hl a).trans q, fun hf => ?_, b, c, d⟩
    rcases G g hf with x | x
    · exact a x
    · omega
theorem MidX.rfuse (h : MidX A w0 w p s px sx D S D2 S2) (v : Value) (e : TypeId) (m : Int) (ks : List Int) (hk : Ints w0 e v ks) (hl : ks.length ≤ 1000) (hm : -9223372036854775808 ≤ m ∧ m ≤ 9223372036854775807) :
    Calls Try.prog 71 #[px, .int .i64 m, v] w fun en w' => en = .returned (.int .i64 (D2.fuse m ks).1) ∧ MidX A w0 w' p s px sx D S (D2.fuse m ks).2 S2 := by
  obtain ⟨FD, FS, FX, FY, N, h1, h2, h3, h4, h5, h6, h7, h8, h9, h10, h11, h12⟩ := h.parts
  refine (rFused w px v FX D2 m ks e h1.rd (hk.same h1.old) (ints_low hk h1.bx) hl hm).mono ?_
  rintro en w' ⟨FX', rfl, K, I, G⟩
  have hz := K.size
  have Z : Same w0 w' := h1.old.keepOwn K fun k hk => (h1.bx k hk).1
  refine ⟨rfl, FD, FS, FX', FY, N, ⟨h1.dv.keep K (fun i hi hn => h1.dx i hi hn), I, h1.dx.growR G (fun k hk => (h1.bd k hk).2), h1.bd.mono hz, h1.bx.grow G hz h1.old.size, Z⟩, h2.keep K (fun i hi hn => h6 i hi hn), h3.keep K (fun i hi hn => h8 i hn hi) (fun i hi => (h11 i hi).2.2.1), h4, h5, h6.growR G (fun k hk => (h9 k hk).2), h7, h8.growL G (fun k hk => (h10 k hk).2), h9.mono hz, h10.mono hz, fun g hg => ?_, fun g o ho => ?_⟩
  · obtain ⟨a, b, c, d⟩ := h11 g hg
    refine ⟨a, b, fun hf => ?_, by omega⟩
    rcases G g hf with x | x
    · exact c x
    · omega
  · obtain ⟨q, a, b, c, d⟩ := h12 g o ho
    have hl := (Array.getElem?_eq_some_iff.1 q).1
    refine ⟨(K.block g hl c).trans q, a, b, fun hf => ?_, d⟩
    rcases G g hf with x | x
    · exact c x
    · omega
theorem MidX.start (h : MidX A w0 w p s px sx D S D2 S2) : Calls Try.prog 41 #[p] w fun en w' => en = .returned (.int .i64 0) ∧ MidX A w0 w' p s px sx D.start S D2 S2 := by
  obtain ⟨FD, FS, FX, FY, N, h1, h2, h3, h4, h5, h6, h7, h8, h9, h10, h11, h12⟩ := h.parts
  refine (dStartD w p FD D h1.dv).mono ?_
  rintro en w' ⟨rfl, K, I⟩
  have hz := K.size
  have Z : Same w0 w' := h1.old.keepOwn K fun k hk => (h1.bd k hk).1
  exact ⟨rfl, FD, FS, FX, FY, N, ⟨I, h1.rd.keep K (fun i hi hn => h1.dx i hn hi), h1.dx, h1.bd.mono hz, h1.bx.mono hz, Z⟩, h2.keep K (fun i hi hn => h4 i hn hi), h3.keep K (fun i hi hn => h5 i hn hi) (fun i hi => (h11 i hi).1), h4, h5, h6, h7, h8, h9.mono hz, h10.mono hz, (fun g hg => let ⟨a, b, c, d⟩ := h11 g hg; ⟨a, b, c, by omega⟩), fun g o ho => let ⟨q, a, b⟩ := h12 g o ho; ⟨(K.block g (Array.getElem?_eq_some_iff.1 q).1 a).trans q, a, b⟩⟩
/-- the reference's drive: power on -/
theorem IsRd.start {b : Nat} {F : Nat → Prop} (h : IsRd w (.pointer (some ⟨b, 0, none⟩)) F D) :
    F b ∧ (∃ v1 v2, w.cell? ⟨b, 1, none⟩ = some v1 ∧ w.cell? ⟨b, 2, none⟩ = some v2 ∧ w.frozen? ⟨b, 1, none⟩ = false ∧ w.frozen? ⟨b, 2, none⟩ = false) ∧
    IsRd ((w.setCell ⟨b, 1, none⟩ (.bool false)).setCell ⟨b, 2, none⟩ (.int .i64 (-1))) (.pointer (some ⟨b, 0, none⟩)) F D.start := by
  obtain ⟨b', rv, fz, kv, ks, n, e, h1, h2, h3, h4, h5, h6, h7, h8⟩ := h
  obtain rfl : b = b' := by simpa using e
  obtain ⟨c0, c1, c2, c3, c4⟩ := h1.cells
  have K : Keep (fun k => k = b) w ((w.setCell ⟨b, 1, none⟩ (.bool false)).setCell ⟨b, 2, none⟩ (.int .i64 (-1))) := ((Keep.refl (fun k => k = b) w).setCell (p := ⟨b, 1, none⟩) (.inl rfl) _).setCell (p := ⟨b, 2, none⟩) (.inl rfl) _
  refine ⟨h2, ⟨_, _, c1, c2, h1.free 1, h1.free 2⟩, b, rv, -1, kv, ks, n, rfl, (h1.set1 _).set2 _, h2, h3.box5 h1 K, h4.box5 h1 K, h5, (fun _ => rfl), (fun x => by cases x), ?_⟩
  obtain ⟨q1, q2, q3, q4, q5, q6, q7⟩ := h8
  exact ⟨q1, q2, q3, (fun _ x => by cases x), by simp [Dv.start], by simp [Dv.start], by simp [Dv.start]⟩
theorem MidX.rstart {b : Nat} (h : MidX A w0 w p s (.pointer (some ⟨b, 0, none⟩)) sx D S D2 S2) :
    (∃ v1 v2, w.cell? ⟨b, 1, none⟩ = some v1 ∧ w.cell? ⟨b, 2, none⟩ = some v2 ∧ w.frozen? ⟨b, 1, none⟩ = false ∧ w.frozen? ⟨b, 2, none⟩ = false) ∧
    MidX A w0 ((w.setCell ⟨b, 1, none⟩ (.bool false)).setCell ⟨b, 2, none⟩ (.int .i64 (-1))) p s (.pointer (some ⟨b, 0, none⟩)) sx D S D2.start S2 := by
  obtain ⟨FD, FS, FX, FY, N, h1, h2, h3, h4, h5, h6, h7, h8, h9, h10, h11, h12⟩ := h.parts
  obtain ⟨hF, hc, I⟩ := h1.rd.start
  have K : Keep FX w ((w.setCell ⟨b, 1, none⟩ (.bool false)).setCell ⟨b, 2, none⟩ (.int .i64 (-1))) := ((Keep.refl FX w).setCell (p := ⟨b, 1, none⟩) (.inl hF) _).setCell (p := ⟨b, 2, none⟩) (.inl hF) _
  have hz := K.size
  have Z := h1.old.keepOwn K fun k hk => (h1.bx k hk).1
  exact ⟨hc, FD, FS, FX, FY, N, ⟨h1.dv.keep K (fun i hi hn => h1.dx i hi hn), I, h1.dx, h1.bd.mono hz, h1.bx.mono hz, Z⟩, h2.keep K (fun i hi hn => h6 i hi hn), h3.keep K (fun i hi hn => h8 i hn hi) (fun i hi => (h11 i hi).2.2.1), h4, h5, h6, h7, h8, h9.mono hz, h10.mono hz, (fun g hg => let ⟨a, b, c, d⟩ := h11 g hg; ⟨a, b, c, by omega⟩), fun g o ho => let ⟨q, a, b, c, d⟩ := h12 g o ho; ⟨(K.block g (Array.getElem?_eq_some_iff.1 q).1 c).trans q, a, b, c, d⟩⟩
end
end Go.Proofs.Ytlhnpicmjjddeaa
namespace Go.Proofs.Ytlhnpicmjjddeaa
open Go.RowKit

/-- what a call on the reference's vault leaves -/
def RetVR (r : Int × Vt × Dv) (v p : Value) (FX F N : Nat → Prop) (hm : Nat → Prop) (w : World) (en : Ending) (w' : World) : Prop :=
  ∃ FX' F' N', en = .returned (.int .i64 r.1) ∧ Keep (fun k => FX k ∨ F k) w w' ∧ IsRd w' p FX' r.2.2 ∧ IsRv w' v p F' N' r.2.1 ∧ Grow FX FX' w w' ∧ Grow F F' w w' ∧ Dj FX' F' ∧ (∀ g, N' g → ¬ FX' g) ∧ (∀ g, N' g → N g ∨ hm g ∨ (w.heap.size ≤ g ∧ g < w'.heap.size))
theorem IsRd.offCell {w : World} {p : Value} {F : Nat → Prop} {D : Dv} (h : IsRd w p F D) : ∃ b, p = .pointer (some ⟨b, 0, none⟩) ∧ w.cell? ⟨b, 1, none⟩ = some (.bool D.off) := by
  obtain ⟨b, rv, fz, kv, ks, n, rfl, h1, _⟩ := h
  exact ⟨b, rfl, h1.cells.2.1⟩
set_option maxHeartbeats 6400000 in
set_option maxRecDepth 100000 in
theorem rvAppend (w : World) (v p u : Value) (FX F N : Nat → Prop) (D : Dv) (V : Vt) (b : List UInt8) (e : TypeId) (hD : IsRd w p FX D) (hV : IsRv w v p F N V) (hok : V.S.Ok) (hx : Dj FX F) (hFX : ∀ k, FX k → k < w.heap.size) (hF : ∀ k, F k → k < w.heap.size)
    (hN : ∀ g, N g → ¬ FX g ∧ g < w.heap.size) (hb : Bytes w e u b) (hl : b.length ≤ 400) (hnb : ∀ g, homeOf u = some g → ¬ FX g ∧ ¬ F g) :
    Calls Try.prog 81 #[v, u] w (RetVR (V.append D b) v p FX F N (fun g => homeOf u = some g) w) := by
  have HV0 := hid hV
  have HD := hid hD
  have HA0 : Hid (V.ready D ≠ 0 → V.append D b = (9, V, D)) := fun h => if_pos h
  have HA1 : Hid (V.ready D = 0 → V.append D b = ((V.S.append D b).1, { V with S := (V.S.append D b).2.1, dead := V.dead || (V.S.append D b).1 == 9 }, (V.S.append D b).2.2)) := fun h => if_neg (by rw [h]; exact fun x => x rfl)
  have HRy : Hid (V.ready D = if V.dead || D.off then 9 else 0) := rfl
  obtain ⟨pb, rfl, d1⟩ := hD.offCell
  obtain ⟨ub, cb, rfl, _, _⟩ := hb.form
  obtain ⟨vb, sp, sv, FS, es, rfl, hB, hS, hFS, hFb, hnFS, hY, hYN, hNF⟩ := hV
  obtain ⟨sb, rfl⟩ := hS.ptr
  have HAp := hid (rAppend w _ _ _ FX FS N D V.S b e hD hS hok (fun i hi hn => hx i hi (hFS i hn)) hFX (fun k hk => hF k (hFS k hk)) hN hb hl (fun g hg => ⟨(hnb g hg).1, fun hn => (hnb g hg).2 (hFS g hn)⟩))
  have HX := hid (And.intro hFS (And.intro hFb (And.intro hnFS (And.intro hY (And.intro hYN (And.intro hNF (And.intro hx (And.intro hFX (And.intro hF (And.intro hN hnb))))))))))
  have HStop : Hid (V.append D b = (9, V, D) → RetVR (V.append D b) (.pointer (some ⟨vb, 0, none⟩)) (.pointer (some ⟨pb, 0, none⟩)) FX F N (fun g => homeOf (.slice ub b.length cb) = some g) w (.returned (.int .i64 9)) w) := fun h => by
    rw [h]
    exact ⟨FX, F, N, rfl, Keep.refl _ _, HD.out, HV0.out, Grow.refl _ _ _, Grow.refl _ _ _, hx, fun g hg => (hN g hg).1, fun g hg => .inl hg⟩
  have HB := hid hB
  obtain ⟨c0, c1, c2, c3, c4, c5, c6⟩ := hB.cells
  clear hD hB hS hFS hFb hnFS hY hYN hNF hx hFX hF hN hb hl hnb hok
  cases hdead : V.dead
  case true =>
    have hz := hid (HStop.out (HA0.out (by rw [HRy.out, hdead]; simp)))
    rw [hdead] at c6
    clear hdead
    go_enter Try.func81, Try.ntmps81
    go_wp2_with fail
    go_ret
    exact hz.out
  cases hoff : D.off
  case true =>
    have hz := hid (HStop.out (HA0.out (by rw [HRy.out, hoff]; simp)))
    rw [hdead] at c6
    rw [hoff] at d1
    clear hdead hoff
    go_enter Try.func81, Try.ntmps81
    go_wp2_with fail
    go_ret
    exact hz.out
  have hz := HA1.out (by rw [HRy.out, hdead, hoff]; rfl)
  rw [hdead] at c6 hz
  rw [hoff] at d1
  have HZ := hid hz
  clear hdead hoff hz HA0 HA1 HStop
  go_enter Try.func81, Try.ntmps81
  go_wp2_with fail
  refine HAp.out.mono ?_
  rintro en w1 ⟨FX', FS', N', rfl, K, I, J, GX, GS, hXS, hNX, hN'⟩
  have hvb : ¬ (FX vb ∨ FS vb) := fun h => by
    rcases h with h | h
    · exact HX.out.2.2.2.2.2.2.1 vb h HX.out.2.1
    · exact HX.out.2.2.1 h
  have B1 := hid (HB.out.keep K hvb)
  have X1 := hid (And.intro K (And.intro I (And.intro J (And.intro GX (And.intro GS (And.intro hXS (And.intro hNX hN')))))))
  have z6 := B1.out.free 6
  clear K I J GX GS hXS hNX hN' hvb c0 c1 c2 c3 c4 c5 c6 d1 HAp
  obtain ⟨c0, c1, c2, c3, c4, c5, c6⟩ := B1.out.cells
  generalize (V.S.append D b) = R at *
  obtain ⟨r, S', D'⟩ := R
  simp only at *
  go_wp2_with fail
  go_ret
  rw [HZ.out]
  obtain ⟨K, I, J, GX, GS, hXS, hNX, hN'⟩ := X1.out
  obtain ⟨hFS, hFb, hnFS, hY, hYN, hNF, hx, hFX, hF, hN, hnb⟩ := HX.out
  have K6 : Keep (fun k => k = vb) w1 (w1.setCell ⟨vb, 6, none⟩ (.bool (r == 9))) := (Keep.refl (fun k => k = vb) w1).setCell (p := ⟨vb, 6, none⟩) (.inl rfl) _
  have hsz : (w1.setCell ⟨vb, 6, none⟩ (.bool (r == 9))).heap.size = w1.heap.size := by simp
  have hvl := hF vb hFb
  have hX' : ∀ i, FX' i → ¬ F i := fun i hi hn => by
    rcases GX i hi with h | h
    · exact hx i h hn
    · have := hF i hn; omega
  have hS' : ¬ FS' vb := fun h => by
    rcases GS vb h with h | h
    · exact hnFS h
    · omega
  have hNv : ∀ g, N' g → ¬ F g := fun g hg => by
    rcases hN' g hg with h | h
    · exact hNF g h
    · exact (hnb g h).2
  have hJN : ∀ g, N' g → ¬ FS' g := by obtain ⟨_, _, _, _, _, _, h⟩ := J; exact h
  have hNN : ∀ g, N g → ¬ (FX g ∨ FS g) := fun g hg h => by
    rcases h with h | h
    · exact (hN g hg).1 h
    · exact hNF g hg (hFS g h)
  refine ⟨FX', (fun i => F i ∨ FS' i), (fun g => N' g ∨ N g), rfl, ?_, I.keep K6 (fun i hi e => by subst e; exact hX' i hi hFb), ⟨vb, .pointer (some ⟨sb, 0, none⟩), sv, FS', es, rfl, ?_, ?_, fun i hi => .inr hi, .inl hFb, hS', ?_, fun g hg => .inr (hYN g hg), ?_⟩, ?_, ?_, ?_, ?_, ?_⟩
  · refine (K.weak' fun i hi => ?_).trans (K6.weak' fun i hi => ?_)
    · rcases hi with hi | hi
      · exact .inl hi
      · exact .inr (hFS i hi)
    · subst hi; exact .inr hFb
  · exact B1.out.set6 _
  · have J6 := J.keep K6 (fun i hi e => by subst e; exact hS' hi) (fun i hi e => by subst e; exact hNv i hi hFb)
    obtain ⟨b', v', q1, q2', q3, q4, q5⟩ := J6
    refine ⟨b', v', q1, q2', q3, q4.foot (fun i hi => hi) (fun i hi => .inl hi), fun g hg hf => ?_⟩
    rcases hg with hg | hg
    · exact hJN g hg hf
    · rcases GS g hf with h | h
      · exact hNF g hg (hFS g h)
      · have := (hN g hg).2; omega
  · exact (hY.keep K fun g hg h => hNN g (hYN g hg) h).keep K6 fun g hg e => by subst e; exact hNF g (hYN g hg) hFb
  · intro g hg hf
    rcases hf with hf | hf
    · rcases hg with hg | hg
      · exact hNv g hg hf
      · exact hNF g hg hf
    · rcases hg with hg | hg
      · exact hJN g hg hf
      · rcases GS g hf with h | h
        · exact hNF g hg (hFS g h)
        · have := (hN g hg).2; omega
  · intro i hi
    rw [hsz]
    exact GX i hi
  · intro i hi
    rw [hsz]
    rcases hi with hi | hi
    · exact .inl hi
    · exact (GS i hi).imp (hFS i) id
  · intro i hi hf
    rcases hf with hf | hf
    · exact hX' i hi hf
    · exact hXS i hi hf
  · intro g hg hf
    rcases hg with hg | hg
    · exact hNX g hg hf
    · rcases GX g hf with h | h
      · exact (hN g hg).1 h
      · have := (hN g hg).2; omega
  · intro g hg
    rcases hg with hg | hg
    · exact (hN' g hg).imp id .inl
    · exact .inl hg
end Go.Proofs.Ytlhnpicmjjddeaa
namespace Go.Proofs.Ytlhnpicmjjddeaa
open Go.RowKit

theorem RetOpenR.good {D : Dv} {p : Value} {a b life era : Int} {w : World} {en : Ending} {w' : World} (h : RetOpenR D p a b life era w en w') (he : D.openE a b life era = 0) :
    ∃ s F N, en = .returned (.tuple #[s, .int .i64 0]) ∧ IsRs w' s p F N (D.opened a b life era) ∧ Same w w' ∧ Bnd F w.heap.size w'.heap.size ∧ Bnd N w.heap.size w'.heap.size := by
  rcases h with ⟨e, _⟩ | ⟨_, h⟩
  · rw [he] at e; cases e
  · exact h
set_option maxHeartbeats 12800000 in
set_option maxRecDepth 100000 in
theorem rvCompact (w : World) (v p u : Value) (FX F N : Nat → Prop) (D : Dv) (V : Vt) (b : List UInt8) (e : TypeId) (hD : IsRd w p FX D) (hV : IsRv w v p F N V) (hok : V.Ok) (hx : Dj FX F) (hFX : ∀ k, FX k → k < w.heap.size) (hF : ∀ k, F k → k < w.heap.size)
    (hN : ∀ g, N g → ¬ FX g ∧ g < w.heap.size) (hb : Bytes w e u b) (hl : b.length ≤ 400) (hnb : ∀ g, homeOf u = some g → ¬ FX g ∧ ¬ F g)
    (hE : V.ready D = 0 → V.life < 16777214 → (D.save 0 V.each V.life (V.era + 1) b).1 = 0 → (D.save 0 V.each V.life (V.era + 1) b).2.openE (2 * V.each) (D.save 0 V.each V.life (V.era + 1) b).2.C.length (V.life + 1) (V.era + 1) = 0) :
    Calls Try.prog 82 #[v, u] w (RetVR (V.compact D b) v p FX F N (fun g => homeOf u = some g) w) := by
  have HV0 := hid hV
  have HD := hid hD
  have HA0 : Hid (V.ready D ≠ 0 → V.compact D b = (9, V, D)) := fun h => if_pos h
  have HA1 : Hid (V.ready D = 0 → 16777214 ≤ V.life → V.compact D b = (10, V, D)) := fun h h2 => by
    show _ = _
    unfold Vt.compact; rw [if_neg (by rw [h]; exact fun x => x rfl), if_pos h2]
  have HA2 : Hid (V.ready D = 0 → ¬ 16777214 ≤ V.life → (D.save 0 V.each V.life (V.era + 1) b).1 ≠ 0 → V.compact D b = ((D.save 0 V.each V.life (V.era + 1) b).1, { V with dead := V.dead || (D.save 0 V.each V.life (V.era + 1) b).1 == 9 }, (D.save 0 V.each V.life (V.era + 1) b).2)) := fun h h2 h3 => by
    show _ = _
    unfold Vt.compact; rw [if_neg (by rw [h]; exact fun x => x rfl), if_neg h2, if_pos h3]
  have HA3 : Hid (V.ready D = 0 → ¬ 16777214 ≤ V.life → (D.save 0 V.each V.life (V.era + 1) b).1 = 0 → V.compact D b = (0, (V.saved b).turned (D.save 0 V.each V.life (V.era + 1) b).2, (D.save 0 V.each V.life (V.era + 1) b).2)) := fun h h2 h3 => by
    show _ = _
    unfold Vt.compact; rw [if_neg (by rw [h]; exact fun x => x rfl), if_neg h2, if_neg (by rw [h3]; exact fun x => x rfl)]
  have HRy : Hid (V.ready D = if V.dead || D.off then 9 else 0) := rfl
  have HE0 := hid hE
  have hech := hok.each
  have hlf := hok.life
  have her := hok.era
  have HSv := hid (fun (w' : World) (Z : Same w w') => rSave w' p u FX D 0 V.each V.life (V.era + 1) b e (hD.same Z) (fun k hk => Nat.lt_of_lt_of_le (hFX k hk) Z.size) (hb.same Z) hl (by omega) (by omega) (by omega))
  obtain ⟨pb, rfl, d1⟩ := hD.offCell
  obtain ⟨ub, cb, rfl, _, _⟩ := hb.form
  obtain ⟨vb, sp, sv, FS, es, rfl, hB, hS, hFS, hFb, hnFS, hY, hYN, hNF⟩ := hV
  obtain ⟨sb0, rfl⟩ := hS.ptr
  obtain ⟨av, cv, rfl, _, _⟩ := hY.form
  have hul := fun g (h : homeOf (.slice ub b.length cb) = some g) => Sl.home_lt hb h
  have HX := hid (And.intro hFS (And.intro hFb (And.intro hnFS (And.intro hS (And.intro hY (And.intro hYN (And.intro hNF (And.intro hx (And.intro hFX (And.intro hF (And.intro hN (And.intro hnb (And.intro hb hul)))))))))))))
  have HStop : Hid (∀ r, V.compact D b = (r, V, D) → ∀ w', Same w w' → RetVR (V.compact D b) (.pointer (some ⟨vb, 0, none⟩)) (.pointer (some ⟨pb, 0, none⟩)) FX F N (fun g => homeOf (.slice ub b.length cb) = some g) w (.returned (.int .i64 r)) w') := fun r h w' Z => by
    rw [h]
    exact ⟨FX, F, N, rfl, Z.keep _, HD.out.same Z, HV0.out.same Z, Grow.refl _ _ _, Grow.refl _ _ _, hx, fun g hg => (hN g hg).1, fun g hg => .inl hg⟩
  have HB := hid hB
  obtain ⟨c0, c1, c2, c3, c4, c5, c6⟩ := hB.cells
  clear hD hB hS hFS hFb hnFS hY hYN hNF hx hFX hF hN hb hl hnb hok hul hE
  cases hdead : V.dead
  case true =>
    have hz := hid (HStop.out 9 (HA0.out (by rw [HRy.out, hdead]; simp)) _ (Same.refl _))
    rw [hdead] at c6
    clear hdead
    go_enter Try.func82, Try.ntmps82
    go_wp2_with fail
    go_ret
    exact hz.out
  cases hoff : D.off
  case true =>
    have hz := hid (HStop.out 9 (HA0.out (by rw [HRy.out, hoff]; simp)) _ (Same.refl _))
    rw [hdead] at c6
    rw [hoff] at d1
    clear hdead hoff
    go_enter Try.func82, Try.ntmps82
    go_wp2_with fail
    go_ret
    exact hz.out
  have HRz : Hid (V.ready D = 0) := by show _ = _; rw [HRy.out, hdead, hoff]; rfl
  have Hdead := hid hdead
  rw [hdead] at c6
  rw [hoff] at d1
  clear hdead hoff HA0
  by_cases hlife : 16777214 ≤ V.life
  case pos =>
    have hz := hid (HStop.out 10 (HA1.out HRz.out hlife) _ (Same.refl _))
    have dl : decide (16777214 ≤ V.life) = true := decide_eq_true hlife
    clear hlife
    go_enter Try.func82, Try.ntmps82
    go_wp2_with fail
    go_ret
    exact hz.out
  have dl : decide (16777214 ≤ V.life) = false := decide_eq_false hlife
  have HA2' := hid (HA2.out HRz.out hlife)
  have HA3' := hid (HA3.out HRz.out hlife)
  have HE1 := hid (HE0.out HRz.out (by omega))
  have hlife2 : V.life < 16777214 := by omega
  have hwe : IntKind.i64.wrap (V.era + 1) = V.era + 1 := by rw [IntKind.wrap_i64]; omega
  clear hlife HA1 HA2 HA3 HE0 HRz HRy
  have HSk := hid (HSv.out w.drew (Same.refl w).drew)
  have hvX : Hid (¬ FX vb) := fun h => HX.out.2.2.2.2.2.2.2.1 vb h HX.out.2.1
  generalize hSV : D.save 0 V.each V.life (V.era + 1) b = SV at *
  obtain ⟨r, D'⟩ := SV
  simp only at *
  clear hSV HSv
  go_enter Try.func82, Try.ntmps82
  go_upto_region 5 with fail
  go_region_held3 (fun w' => w'.cell? ⟨vb, 0, none⟩ = some (.pointer (some ⟨pb, 0, none⟩)) ∧ w'.cell? ⟨vb, 1, none⟩ = some (.int .i64 V.each) ∧ w'.cell? ⟨vb, 2, none⟩ = some (.int .i64 V.life) ∧ w'.cell? ⟨vb, 3, none⟩ = some (.int .i64 V.era))
    (first | with_reducible exact ⟨by assumption, by assumption, by assumption, by assumption⟩ | go_keep)
    (first | (go_at_call 115; (with_reducible refine HSk.out.mono ?_); rintro en w1 ⟨FX', rfl, K1, I1, G1⟩; obtain ⟨m0, m1, m2, m3, m4, m5, m6⟩ := (HB.out.keep (((Same.refl w).drew.keep FX).trans K1) hvX.out).cells))
  have K1 := hid (((Same.refl w).drew.keep FX).trans K1)
  have hG1 : ∀ i, FX' i → FX i ∨ (w.heap.size ≤ i ∧ i < w1.heap.size) := fun i hi => G1 i hi
  have HG1 := hid hG1
  have I1 := hid I1
  have B1 := hid (HB.out.keep K1.out hvX.out)
  clear c0 c1 c2 c3 c4 c5 c6 d1 HSk G1 hG1 hwe
  by_cases hr : r = 0
  case neg =>
    have HZ := hid (HA2'.out hr)
    have hnz : (r != 0) = true := by rw [bne_iff_ne]; exact hr
    have z6 := B1.out.free 6
    clear hr HA2' HA3' HE1
    go_wp2_with fail
    go_ret
    rw [HZ.out]
    obtain ⟨hFS, hFb, hnFS, hS, hY, hYN, hNF, hx, hFX, hF, hN, hnb, hb, hul⟩ := HX.out
    have K6 : Keep (fun k => k = vb) w1 (w1.setCell ⟨vb, 6, none⟩ (.bool (r == 9))) := (Keep.refl (fun k => k = vb) w1).setCell (p := ⟨vb, 6, none⟩) (.inl rfl) _
    have hsz : (w1.setCell ⟨vb, 6, none⟩ (.bool (r == 9))).heap.size = w1.heap.size := by simp
    have hvl := hF vb hFb
    have hX' : ∀ i, FX' i → ¬ F i := fun i hi hn => by
      rcases HG1.out i hi with h | h
      · exact hx i h hn
      · have := hF i hn; omega
    have hNX : ∀ g, N g → ¬ FX' g := fun g hg hi => by
      rcases HG1.out g hi with h | h
      · exact (hN g hg).1 h
      · have := (hN g hg).2; omega
    refine ⟨FX', F, N, rfl, (K1.out.weak' fun i hi => .inl hi).trans (K6.weak' fun i hi => by subst hi; exact .inr hFb), I1.out.keep K6 (fun i hi e => by subst e; exact hX' i hi hFb), ⟨vb, .pointer (some ⟨sb0, 0, none⟩), _, FS, es, rfl, ?_, ?_, hFS, hFb, hnFS, ?_, hYN, hNF⟩, fun i hi => by rw [hsz]; exact HG1.out i hi, Grow.refl _ _ _, hX', hNX, fun g hg => .inl hg⟩
    · show BoxV _ vb _ _ _ _ _ _ (.bool (V.dead || r == 9))
      rw [Hdead.out]
      exact B1.out.set6 _
    · exact (hS.keep K1.out (fun i hi hn => hx i hn (hFS i hi)) (fun i hi hn => (hN i hi).1 hn)).keep K6 (fun i hi e => by subst e; exact hnFS hi) (fun i hi e => by subst e; exact hNF i hi hFb)
    · exact (hY.keep K1.out fun g hg hn => (hN g (hYN g hg)).1 hn).keep K6 fun g hg e => by subst e; exact hNF g (hYN g hg) hFb
  subst hr
  have HZ := hid (HA3'.out rfl)
  have HE := hid (HE1.out rfl)
  clear HA2' HA3' HE1
  have z4 := B1.out.free 4
  have z3 := B1.out.free 3
  have z2 := B1.out.free 2
  have K2 : Keep (fun k => k = vb) w1 (((w1.setCell ⟨vb, 4, none⟩ (.slice ub b.length cb)).setCell ⟨vb, 3, none⟩ (.int .i64 (V.era + 1))).setCell ⟨vb, 2, none⟩ (.int .i64 (V.life + 1))) :=
    (((Keep.refl (fun k => k = vb) w1).setCell (p := ⟨vb, 4, none⟩) (.inl rfl) _).setCell (p := ⟨vb, 3, none⟩) (.inl rfl) _).setCell (p := ⟨vb, 2, none⟩) (.inl rfl) _
  have K2 := hid K2
  have B2 := hid (((B1.out.set4 (.slice ub b.length cb)).set3 (.int .i64 (V.era + 1))).set2 (.int .i64 (V.life + 1)))
  have hX' : ∀ i, FX' i → ¬ F i := fun i hi hn => by
    rcases HG1.out i hi with h | h
    · exact HX.out.2.2.2.2.2.2.2.1 i h hn
    · have := HX.out.2.2.2.2.2.2.2.2.2.1 i hn; omega
  have HX' := hid hX'
  have hI2 := I1.out.keep K2.out (fun i hi e => by subst e; exact hX' i hi HX.out.2.1)
  have HI2 := hid hI2
  clear hX'
  go_upto_region 12 with fail
  clear m0 m1 m2 m3 m4 m5 m6 z4 z3 z2
  generalize (((w1.setCell ⟨vb, 4, none⟩ (.slice ub b.length cb)).setCell ⟨vb, 3, none⟩ (.int .i64 (V.era + 1))).setCell ⟨vb, 2, none⟩ (.int .i64 (V.life + 1))) = w2 at *
  obtain ⟨pb', prv, pfz, pkv, pks, pn, hpe, pB, pF, pQ, _⟩ := hI2
  obtain rfl : pb = pb' := by simpa using hpe
  obtain ⟨pa, pc, rfl, _, _⟩ := pQ.rows.form
  have P2 := hid pB
  obtain ⟨gp, _⟩ := pB.cells
  obtain ⟨g0, g1, g2, g3, g4, g5, g6⟩ := B2.out.cells
  have hlC : D'.C.length ≤ 2048 := I1.out.ok.1
  have HOk := hid (rOpen w2.drew _ FX' D' (2 * V.each) D'.C.length (V.life + 1) (V.era + 1) (HI2.out.same (Same.refl w2).drew))
  have hw1 : IntKind.i64.wrap (2 * V.each) = 2 * V.each := by rw [IntKind.wrap_i64]; omega
  clear hpe pB pF pQ
  obtain ⟨SS, hSS⟩ : ∃ SS : Bool → World → Prop, ∀ bz wz, SS bz wz ↔ (bz = false → wz.cell? ⟨vb, 0, none⟩ = some (.pointer (some ⟨pb, 0, none⟩)) ∧ wz.cell? ⟨vb, 1, none⟩ = some (.int .i64 V.each) ∧ wz.cell? ⟨vb, 2, none⟩ = some (.int .i64 (V.life + 1)) ∧ wz.cell? ⟨vb, 3, none⟩ = some (.int .i64 (V.era + 1)) ∧ wz.cell? ⟨pb, 0, none⟩ = some (.slice pa D'.C.length pc)) := ⟨_, fun _ _ => Iff.rfl⟩
  have HSS := hid hSS
  clear hSS
  refine wp_region_B 32 SS (by kernel_rfl) ((HSS.out _ _).2 fun _ => ⟨g0, g1, g2, g3, gp⟩) (fun hHeld => ?_)
  clear g0 g1 g2 g3 g4 g5 g6 gp
  refine' wpAnyB_take (i := 0) (b := false) rfl (by kernel_rfl) (by kernel_rfl) (by kernel_rfl) (by decide) (by kernel_rfl) (fun _ _ _ h => h) (by assumption) (.inl ⟨by rfl, ?_⟩) ?_
  rotate_left
  · (intro wz hSw; go_simp; try with_reducible rfl)
  try simp only [Act.put, List.setIfInBounds_toArray, List.set_cons_zero, List.set_cons_succ]
  refine' wpAnyB_take (i := 1) (b := false) rfl (by kernel_rfl) (by kernel_rfl) (by kernel_rfl) (by decide) (by kernel_rfl) (fun _ _ _ h => h) (by assumption) (.inl ⟨by rfl, ?_⟩) ?_
  rotate_left
  · (intro wz hSw; go_simp; try with_reducible rfl)
  try simp only [Act.put, List.setIfInBounds_toArray, List.set_cons_zero, List.set_cons_succ]
  refine' wpAnyB_take (i := 2) (b := false) rfl (by kernel_rfl) (by kernel_rfl) (by kernel_rfl) (by decide) (by kernel_rfl) (fun _ _ _ h => h) (by assumption) (.inl ⟨by rfl, ?_⟩) ?_
  rotate_left
  · (intro wz hSw; go_simp; try with_reducible rfl)
  try simp only [Act.put, List.setIfInBounds_toArray, List.set_cons_zero, List.set_cons_succ]
  refine' wpAnyB_take (i := 3) (b := false) rfl (by kernel_rfl) (by kernel_rfl) (by kernel_rfl) (by decide) (by kernel_rfl) (fun _ _ _ h => h) (by assumption) (.inl ⟨by rfl, ?_⟩) ?_
  rotate_left
  · (intro wz hSw; go_simp; try with_reducible rfl)
  try simp only [Act.put, List.setIfInBounds_toArray, List.set_cons_zero, List.set_cons_succ]
  refine' wpAnyB_early (i := 4) rfl (by kernel_rfl) (by kernel_rfl) (by kernel_rfl) (by decide) (by kernel_rfl) (by kernel_rfl) (fun _ _ _ h => h) (by assumption) (.inl ⟨by rfl, ?_⟩) ?_
  rotate_left
  · (intro wz hSw; obtain ⟨g0, g1, g2, g3, gp⟩ := (HSS.out _ _).1 hSw rfl; go_simp; try with_reducible rfl)
  try simp only [Act.put, List.setIfInBounds_toArray, List.set_cons_zero, List.set_cons_succ]
  refine' wpAnyB_take (i := 5) (b := false) rfl (by kernel_rfl) (by kernel_rfl) (by kernel_rfl) (by decide) (by kernel_rfl) (fun _ _ _ h => h) (by assumption) (.inl ⟨by rfl, ?_⟩) ?_
  rotate_left
  · (intro wz hSw; go_simp; try with_reducible rfl)
  try simp only [Act.put, List.setIfInBounds_toArray, List.set_cons_zero, List.set_cons_succ]
  refine' wpAnyB_take (i := 6) (b := false) rfl (by kernel_rfl) (by kernel_rfl) (by kernel_rfl) (by decide) (by kernel_rfl) (fun _ _ _ h => h) (by assumption) (.inl ⟨by rfl, ?_⟩) ?_
  rotate_left
  · (intro wz hSw; go_simp; try with_reducible rfl)
  try simp only [Act.put, List.setIfInBounds_toArray, List.set_cons_zero, List.set_cons_succ]
  refine' wpAnyB_take (i := 7) (b := false) rfl (by kernel_rfl) (by kernel_rfl) (by kernel_rfl) (by decide) (by kernel_rfl) (fun _ _ _ h => h) (by assumption) (.inl ⟨by rfl, ?_⟩) ?_
  rotate_left
  · (intro wz hSw; go_simp; try with_reducible rfl)
  try simp only [Act.put, List.setIfInBounds_toArray, List.set_cons_zero, List.set_cons_succ]
  refine' wpAnyB_early (i := 8) rfl (by kernel_rfl) (by kernel_rfl) (by kernel_rfl) (by decide) (by kernel_rfl) (by kernel_rfl) (fun _ _ _ h => h) (by assumption) (.inl ⟨by rfl, ?_⟩) ?_
  rotate_left
  · (intro wz hSw; obtain ⟨g0, g1, g2, g3, gp⟩ := (HSS.out _ _).1 hSw rfl; go_simp; try with_reducible rfl)
  try simp only [Act.put, List.setIfInBounds_toArray, List.set_cons_zero, List.set_cons_succ]
  refine' wpAnyB_take (i := 9) (b := false) rfl (by kernel_rfl) (by kernel_rfl) (by kernel_rfl) (by decide) (by kernel_rfl) (fun _ _ _ h => h) (by assumption) (.inl ⟨by rfl, ?_⟩) ?_
  rotate_left
  · (intro wz hSw; go_simp; try with_reducible rfl)
  try simp only [Act.put, List.setIfInBounds_toArray, List.set_cons_zero, List.set_cons_succ]
  refine' wpAnyB_take (i := 10) (b := false) rfl (by kernel_rfl) (by kernel_rfl) (by kernel_rfl) (by decide) (by kernel_rfl) (fun _ _ _ h => h) (by assumption) (.inl ⟨by rfl, ?_⟩) ?_
  rotate_left
  · (intro wz hSw; go_simp; try with_reducible rfl)
  try simp only [Act.put, List.setIfInBounds_toArray, List.set_cons_zero, List.set_cons_succ]
  refine' wpAnyB_take (i := 11) (b := false) rfl (by kernel_rfl) (by kernel_rfl) (by kernel_rfl) (by decide) (by kernel_rfl) (fun _ _ _ h => h) (by assumption) (.inl ⟨by rfl, ?_⟩) ?_
  rotate_left
  · (intro wz hSw; go_simp; try with_reducible rfl)
  try simp only [Act.put, List.setIfInBounds_toArray, List.set_cons_zero, List.set_cons_succ]
  refine' wpAnyB_take (i := 12) (b := false) rfl (by kernel_rfl) (by kernel_rfl) (by kernel_rfl) (by decide) (by kernel_rfl) (fun _ _ _ h => h) (by assumption) (.inl ⟨by rfl, ?_⟩) ?_
  rotate_left
  · (intro wz hSw; go_simp; try with_reducible rfl)
  try simp only [Act.put, List.setIfInBounds_toArray, List.set_cons_zero, List.set_cons_succ]
  refine' wpAnyB_early (i := 13) rfl (by kernel_rfl) (by kernel_rfl) (by kernel_rfl) (by decide) (by kernel_rfl) (by kernel_rfl) (fun _ _ _ h => h) (by assumption) (.inl ⟨by rfl, ?_⟩) ?_
  rotate_left
  · (intro wz hSw; obtain ⟨g0, g1, g2, g3, gp⟩ := (HSS.out _ _).1 hSw rfl; go_simp; try with_reducible rfl)
  try simp only [Act.put, List.setIfInBounds_toArray, List.set_cons_zero, List.set_cons_succ]
  refine' wpAnyB_take (i := 14) (b := false) rfl (by kernel_rfl) (by kernel_rfl) (by kernel_rfl) (by decide) (by kernel_rfl) (fun _ _ _ h => h) (by assumption) (.inl ⟨by rfl, ?_⟩) ?_
  rotate_left
  · (intro wz hSw; go_simp; try with_reducible rfl)
  try simp only [Act.put, List.setIfInBounds_toArray, List.set_cons_zero, List.set_cons_succ]
  refine' wpAnyB_take (i := 15) (b := false) rfl (by kernel_rfl) (by kernel_rfl) (by kernel_rfl) (by decide) (by kernel_rfl) (fun _ _ _ h => h) (by assumption) (.inl ⟨by rfl, ?_⟩) ?_
  rotate_left
  · (intro wz hSw; go_simp; try with_reducible rfl)
  try simp only [Act.put, List.setIfInBounds_toArray, List.set_cons_zero, List.set_cons_succ]
  refine' wpAnyB_early (i := 16) rfl (by kernel_rfl) (by kernel_rfl) (by kernel_rfl) (by decide) (by kernel_rfl) (by kernel_rfl) (fun _ _ _ h => h) (by assumption) (.inl ⟨by rfl, ?_⟩) ?_
  rotate_left
  · (intro wz hSw; obtain ⟨g0, g1, g2, g3, gp⟩ := (HSS.out _ _).1 hSw rfl; go_simp; try with_reducible rfl)
  try simp only [Act.put, List.setIfInBounds_toArray, List.set_cons_zero, List.set_cons_succ]
  refine' wpAnyB_take (i := 17) (b := false) rfl (by kernel_rfl) (by kernel_rfl) (by kernel_rfl) (by decide) (by kernel_rfl) (fun _ _ _ h => h) (by assumption) (.inl ⟨by rfl, ?_⟩) ?_
  rotate_left
  · (intro wz hSw; go_simp; try with_reducible rfl)
  try simp only [Act.put, List.setIfInBounds_toArray, List.set_cons_zero, List.set_cons_succ]
  refine' wpAnyB_take (i := 18) (b := false) rfl (by kernel_rfl) (by kernel_rfl) (by kernel_rfl) (by decide) (by kernel_rfl) (fun _ _ _ h => h) (by assumption) (.inl ⟨by rfl, ?_⟩) ?_
  rotate_left
  · (intro wz hSw; go_simp; try with_reducible rfl)
  try simp only [Act.put, List.setIfInBounds_toArray, List.set_cons_zero, List.set_cons_succ]
  refine' wpAnyB_take (i := 19) (b := false) rfl (by kernel_rfl) (by kernel_rfl) (by kernel_rfl) (by decide) (by kernel_rfl) (fun _ _ _ h => h) (by assumption) (.inl ⟨by rfl, ?_⟩) ?_
  rotate_left
  · (intro wz hSw; go_simp; try with_reducible rfl)
  try simp only [Act.put, List.setIfInBounds_toArray, List.set_cons_zero, List.set_cons_succ]
  refine' wpAnyB_take (i := 20) (b := false) rfl (by kernel_rfl) (by kernel_rfl) (by kernel_rfl) (by decide) (by kernel_rfl) (fun _ _ _ h => h) (by assumption) (.inl ⟨by rfl, ?_⟩) ?_
  rotate_left
  · (intro wz hSw; go_simp; try with_reducible rfl)
  try simp only [Act.put, List.setIfInBounds_toArray, List.set_cons_zero, List.set_cons_succ]
  refine' wpAnyB_early (i := 21) rfl (by kernel_rfl) (by kernel_rfl) (by kernel_rfl) (by decide) (by kernel_rfl) (by kernel_rfl) (fun _ _ _ h => h) (by assumption) (.inl ⟨by rfl, ?_⟩) ?_
  rotate_left
  · (intro wz hSw; obtain ⟨g0, g1, g2, g3, gp⟩ := (HSS.out _ _).1 hSw rfl; go_simp; try with_reducible rfl)
  try simp only [Act.put, List.setIfInBounds_toArray, List.set_cons_zero, List.set_cons_succ]
  refine' wpAnyB_take (i := 22) (b := false) rfl (by kernel_rfl) (by kernel_rfl) (by kernel_rfl) (by decide) (by kernel_rfl) (fun _ _ _ h => h) (by assumption) (.inl ⟨by rfl, ?_⟩) ?_
  rotate_left
  · (intro wz hSw; go_simp; try with_reducible rfl)
  try simp only [Act.put, List.setIfInBounds_toArray, List.set_cons_zero, List.set_cons_succ]
  refine' wpAnyB_take (i := 23) (b := false) rfl (by kernel_rfl) (by kernel_rfl) (by kernel_rfl) (by decide) (by kernel_rfl) (fun _ _ _ h => h) (by assumption) (.inl ⟨by rfl, ?_⟩) ?_
  rotate_left
  · (intro wz hSw; go_simp; try with_reducible rfl)
  try simp only [Act.put, List.setIfInBounds_toArray, List.set_cons_zero, List.set_cons_succ]
  refine' wpAnyB_take (i := 24) (b := false) rfl (by kernel_rfl) (by kernel_rfl) (by kernel_rfl) (by decide) (by kernel_rfl) (fun _ _ _ h => h) (by assumption) (.inl ⟨by rfl, ?_⟩) ?_
  rotate_left
  · (intro wz hSw; go_simp; try with_reducible rfl)
  try simp only [Act.put, List.setIfInBounds_toArray, List.set_cons_zero, List.set_cons_succ]
  refine' wpAnyB_early (i := 25) rfl (by kernel_rfl) (by kernel_rfl) (by kernel_rfl) (by decide) (by kernel_rfl) (by kernel_rfl) (fun _ _ _ h => h) (by assumption) (.inl ⟨by rfl, ?_⟩) ?_
  rotate_left
  · (intro wz hSw; obtain ⟨g0, g1, g2, g3, gp⟩ := (HSS.out _ _).1 hSw rfl; go_simp; try with_reducible rfl)
  try simp only [Act.put, List.setIfInBounds_toArray, List.set_cons_zero, List.set_cons_succ]
  refine wpAnyB_only (i := 26) (b := false) rfl (by kernel_rfl) (by kernel_rfl) (fun K hK => ?_)
  go_simp
  go_at_call 62
  refine HOk.out.mono ?_
  rintro en w4 hr4
  obtain ⟨s, F2, N2, rfl, I4, S4, B4, N4⟩ := RetOpenR.good hr4 HE.out
  obtain ⟨sb, rfl⟩ := I4.ptr
  have X4 := hid (And.intro I4 (And.intro S4 (And.intro B4 N4)))
  have B5 := hid (B2.out.same ((Same.refl w2).drew.trans S4))
  have D5 := hid (P2.out.same ((Same.refl w2).drew.trans S4))
  have z5 := B5.out.free 5
  obtain ⟨x0, x1, x2, x3, x4, x5, x6⟩ := B5.out.cells
  obtain ⟨xp, _⟩ := D5.out.cells
  clear I4 S4 B4 N4 hr4
  refine hK.out _ _ ((HSS.out _ _).2 fun _ => ⟨x0, x1, x2, x3, xp⟩) (fun hHeld => ?_)
  clear hK K
  try simp only [Act.put, List.setIfInBounds_toArray, List.set_cons_zero, List.set_cons_succ]
  refine' wpAnyB_take (i := 27) (b := false) rfl (by kernel_rfl) (by kernel_rfl) (by kernel_rfl) (by decide) (by kernel_rfl) (fun _ _ _ h => h) (by assumption) (.inl ⟨by rfl, ?_⟩) ?_
  rotate_left
  · (intro wz hSw; go_simp; try with_reducible rfl)
  try simp only [Act.put, List.setIfInBounds_toArray, List.set_cons_zero, List.set_cons_succ]
  refine' wpAnyB_take (i := 28) (b := false) rfl (by kernel_rfl) (by kernel_rfl) (by kernel_rfl) (by decide) (by kernel_rfl) (fun _ _ _ h => h) (by assumption) (.inl ⟨by rfl, ?_⟩) ?_
  rotate_left
  · (intro wz hSw; go_simp; try with_reducible rfl)
  try simp only [Act.put, List.setIfInBounds_toArray, List.set_cons_zero, List.set_cons_succ]
  refine' wpAnyB_take (i := 29) (b := false) rfl (by kernel_rfl) (by kernel_rfl) (by kernel_rfl) (by decide) (by kernel_rfl) (fun _ _ _ h => h) (by assumption) (.inl ⟨by rfl, ?_⟩) ?_
  rotate_left
  · (intro wz hSw; go_simp; try with_reducible rfl)
  try simp only [Act.put, List.setIfInBounds_toArray, List.set_cons_zero, List.set_cons_succ]
  refine' wpAnyB_take (i := 30) (b := false) rfl (by kernel_rfl) (by kernel_rfl) (by kernel_rfl) (by decide) (by kernel_rfl) (fun _ _ _ h => h) (by assumption) (.inl ⟨by rfl, ?_⟩) ?_
  rotate_left
  · (intro wz hSw; go_simp; try with_reducible rfl)
  try simp only [Act.put, List.setIfInBounds_toArray, List.set_cons_zero, List.set_cons_succ]
  refine' wpAnyB_take (i := 31) (b := false) rfl (by kernel_rfl) (by kernel_rfl) (by kernel_rfl) (by decide) (by kernel_rfl) (fun _ _ _ h => h) (by assumption) (.inl ⟨by rfl, ?_⟩) ?_
  rotate_left
  · (intro wz hSw; go_simp; try with_reducible rfl)
  try simp only [Act.put, List.setIfInBounds_toArray, List.set_cons_zero, List.set_cons_succ]
  refine wpAnyB_only (i := 32) (b := true) rfl (by kernel_rfl) (by kernel_rfl) (fun K hK => ?_)
  go_simp
  refine hK.out _ _ ((HSS.out _ _).2 fun h => Bool.noConfusion h) (fun hHeld => ?_)
  clear hK K
  try simp only [Act.put, List.setIfInBounds_toArray, List.set_cons_zero, List.set_cons_succ]
  refine wpAnyB_done (by kernel_rfl) ?_ _
  go_wp2_with fail
  go_ret
  rw [HZ.out]
  obtain ⟨I4, S4, B4, N4⟩ := X4.out
  obtain ⟨hFS, hFb, hnFS, hS, hY, hYN, hNF, hx, hFX, hF, hN, hnb, hb, hul⟩ := HX.out
  have K5 : Keep (fun k => k = vb) w4 (w4.setCell ⟨vb, 5, none⟩ (.pointer (some ⟨sb, 0, none⟩))) := (Keep.refl (fun k => k = vb) w4).setCell (p := ⟨vb, 5, none⟩) (.inl rfl) _
  have hsz : (w4.setCell ⟨vb, 5, none⟩ (.pointer (some ⟨sb, 0, none⟩))).heap.size = w4.heap.size := by simp
  have T4 : Same w2 w4 := (Same.refl w2).drew.trans S4
  have hs1 := K1.out.size
  have hs2 := K2.out.size
  have hs4 := T4.size
  have hB4 : Bnd F2 w2.heap.size w4.heap.size := B4
  have hN4 : Bnd N2 w2.heap.size w4.heap.size := N4
  have hvl := hF vb hFb
  have hF2 : ∀ i, F2 i → i ≠ vb := fun i hi e => by have := (hB4 i hi).1; omega
  have hN2 : ∀ i, N2 i → i ≠ vb := fun i hi e => by have := (hN4 i hi).1; omega
  have hnf : ∀ g, N2 g → ¬ F2 g := by obtain ⟨_, _, _, _, _, _, h⟩ := I4; exact h
  have hXl : ∀ i, FX' i → i < w1.heap.size := fun i hi => by
    rcases HG1.out i hi with h | h
    · have := hFX i h; omega
    · exact h.2
  have KF : Keep (fun k => FX k ∨ F k) w (w4.setCell ⟨vb, 5, none⟩ (.pointer (some ⟨sb, 0, none⟩))) := (((K1.out.weak' (M' := fun k => FX k ∨ F k) fun i hi => .inl hi).trans (K2.out.weak' fun i hi => by subst hi; exact .inr hFb)).same T4).trans (K5.weak' fun i hi => by subst hi; exact .inr hFb)
  refine ⟨FX', (fun i => i = vb ∨ F2 i), (fun g => N2 g ∨ homeOf (.slice ub b.length cb) = some g), rfl, KF, (HI2.out.same T4).keep K5 (fun i hi e => by subst e; exact HX'.out i hi hFb), ⟨vb, .pointer (some ⟨sb, 0, none⟩), .slice ub b.length cb, F2, e, rfl, ?_, ?_, fun i hi => .inr hi, .inl rfl, fun hi => hF2 vb hi rfl, ?_, fun g hg => .inr hg, ?_⟩, ?_, ?_, ?_, ?_, ?_⟩
  · exact B5.out.set5 _
  · have I5 := I4.keep K5 hF2 hN2
    obtain ⟨b', v', q1, q2', q3, q4, q5⟩ := I5
    refine ⟨b', v', q1, q2', q3, q4.foot (fun i hi => hi) (fun i hi => .inl hi), fun g hg hf => ?_⟩
    rcases hg with hg | hg
    · exact hnf g hg hf
    · have := hul g hg; have := (hB4 g hf).1; omega
  · exact hb.keep KF fun g hg hn => by
      rcases hn with hn | hn
      · exact (hnb g hg).1 hn
      · exact (hnb g hg).2 hn
  · intro g hg hf
    rcases hg with hg | hg
    · rcases hf with hf | hf
      · exact hN2 g hg hf
      · exact hnf g hg hf
    · have hgl := hul g hg
      rcases hf with hf | hf
      · subst hf; exact (hnb g hg).2 hFb
      · have := (hB4 g hf).1; omega
  · intro i hi
    rw [hsz]
    exact (HG1.out i hi).imp id fun h => ⟨h.1, by omega⟩
  · intro i hi
    rw [hsz]
    rcases hi with rfl | hi
    · exact .inl hFb
    · have := hB4 i hi
      exact .inr ⟨by omega, this.2⟩
  · intro i hi hf
    rcases hf with rfl | hf
    · exact HX'.out i hi hFb
    · have := hXl i hi; have := (hB4 i hf).1; omega
  · intro g hg hf
    have := hXl g hf
    rcases hg with hg | hg
    · have := (hN4 g hg).1; omega
    · rcases HG1.out g hf with h | h
      · exact (hnb g hg).1 h
      · have := hul g hg; omega
  · intro g hg
    rw [hsz]
    rcases hg with hg | hg
    · have := hN4 g hg
      exact .inr (.inr ⟨by omega, this.2⟩)
    · exact .inr (.inl hg)
end Go.Proofs.Ytlhnpicmjjddeaa
namespace Go.Proofs.Ytlhnpicmjjddeaa
open Go.RowKit

/-- a drive and a vault of the walk's own -/
structure MidV (w0 w : World) (p v : Value) (F : Nat → Prop) (D : Dv) (V : Vt) : Prop where
  parts : ∃ FD FV, IsDv w p FD D ∧ IsVt w v p FV V ∧ (∀ i, FD i → ¬ FV i) ∧ (∀ i, F i ↔ (FD i ∨ FV i))
  bnd : Bnd F w0.heap.size w.heap.size
  old : Same w0 w
section
variable {w0 w : World} {p v : Value} {F : Nat → Prop} {D : Dv} {V : Vt}
theorem MidV.same {w' : World} (h : MidV w0 w p v F D V) (Z : Same w w') : MidV w0 w' p v F D V :=
  let ⟨FD, FV, h1, h2, h3, h4⟩ := h.parts; ⟨⟨FD, FV, h1.same Z, h2.same Z, h3, h4⟩, h.bnd.mono Z.size, h.old.trans Z⟩
theorem MidV.ok (h : MidV w0 w p v F D V) : V.Ok := let ⟨_, _, _, h2, _⟩ := h.parts; h2.ok
theorem MidV.vptr (h : MidV w0 w p v F D V) : ∃ b, v = .pointer (some ⟨b, 0, none⟩) := let ⟨_, _, _, h2, _⟩ := h.parts; h2.ptr
theorem MidV.sok (h : MidV w0 w p v F D V) : V.S.Ok := let ⟨_, _, _, h2, _⟩ := h.parts; let ⟨_, _, _, _, _, _, h3, _⟩ := h2; h3.ok
theorem MidV.of_retV {w' : World} {en : Ending} {r : Int × Vt × Dv} {FD FV : Nat → Prop} (h : MidV w0 w p v F D V) (h3 : ∀ i, FD i → ¬ FV i) (h4 : ∀ i, F i ↔ (FD i ∨ FV i)) (hr : RetV r v p FD FV w en w') :
    ∃ F', en = .returned (.int .i64 r.1) ∧ Keep F w w' ∧ Grow F F' w w' ∧ MidV w0 w' p v F' r.2.2 r.2.1 := by
  obtain ⟨FV', rfl, K, I, J, G⟩ := hr
  have K' : Keep F w w' := K.weak' fun i hi => (h4 i).2 hi
  have G' : Grow F (fun i => FD i ∨ FV' i) w w' := fun i hi => by
    rcases hi with hi | hi
    · exact .inl ((h4 i).2 (.inl hi))
    · exact (G i hi).imp (fun x => (h4 i).2 (.inr x)) id
  refine ⟨fun i => FD i ∨ FV' i, rfl, K', G', ⟨FD, FV', I, J, fun i hi hn => ?_, fun i => Iff.rfl⟩, h.bnd.grow G' K.size h.old.size, h.old.keepOwn K' fun k hk => (h.bnd k hk).1⟩
  rcases G i hn with x | x
  · exact h3 i hi x
  · have := (h.bnd i ((h4 i).2 (.inl hi))).2; omega
theorem MidV.append (h : MidV w0 w p v F D V) (u : Value) (e : TypeId) (b : List UInt8) (hb : Bytes w e u b) (hl : b.length ≤ 20000) (hnb : ∀ g, homeOf u = some g → ¬ F g) :
    Calls Try.prog 74 #[v, u] w fun en w' => ∃ F', en = .returned (.int .i64 (V.append D b).1) ∧ Keep F w w' ∧ Grow F F' w w' ∧ MidV w0 w' p v F' (V.append D b).2.2 (V.append D b).2.1 := by
  obtain ⟨FD, FV, h1, h2, h3, h4⟩ := h.parts
  exact (vAppend w v p u FD FV D V b e h1 h2 h3 (fun k hk => (h.bnd k ((h4 k).2 (.inl hk))).2) (fun k hk => (h.bnd k ((h4 k).2 (.inr hk))).2) hb hl (fun g hg hn => hnb g hg ((h4 g).2 (.inl hn)))).mono fun en w' hr => h.of_retV h3 h4 hr
theorem MidV.compact (h : MidV w0 w p v F D V) (u : Value) (e : TypeId) (b : List UInt8) (hb : Bytes w e u b) (hl : b.length ≤ 20000) (hnb : ∀ g, homeOf u = some g → ¬ F g)
    (hE : V.ready D = 0 → V.life < 16777214 → (D.save 0 V.each V.life (V.era + 1) b).1 = 0 → V.era + 1 ≤ 16777215 ∧ (D.save 0 V.each V.life (V.era + 1) b).2.openE (2 * V.each) (D.save 0 V.each V.life (V.era + 1) b).2.C.length (V.life + 1) (V.era + 1) = 0) :
    Calls Try.prog 75 #[v, u] w fun en w' => ∃ F', en = .returned (.int .i64 (V.compact D b).1) ∧ Keep F w w' ∧ Grow F F' w w' ∧ MidV w0 w' p v F' (V.compact D b).2.2 (V.compact D b).2.1 := by
  obtain ⟨FD, FV, h1, h2, h3, h4⟩ := h.parts
  exact (vCompact w v p u FD FV D V b e h1 h2 h3 (fun k hk => (h.bnd k ((h4 k).2 (.inl hk))).2) (fun k hk => (h.bnd k ((h4 k).2 (.inr hk))).2) hb hl (fun g hg hn => hnb g hg ((h4 g).2 (.inl hn))) hE).mono fun en w' hr => h.of_retV h3 h4 hr
theorem MidV.fuse (h : MidV w0 w p v F D V) (u : Value) (e : TypeId) (m : Int) (ks : List Int) (hk : Ints w e u ks) (hl : ks.length ≤ 1000) (hm : -9223372036854775808 ≤ m ∧ m ≤ 9223372036854775807) :
    Calls Try.prog 35 #[p, .int .i64 m, u] w fun en w' => ∃ F', en = .returned (.int .i64 (D.fuse m ks).1) ∧ Keep F w w' ∧ Grow F F' w w' ∧ MidV w0 w' p v F' (D.fuse m ks).2 V := by
  obtain ⟨FD, FV, h1, h2, h3, h4⟩ := h.parts
  refine (dFuseD w p u FD D m ks e h1 hk hl hm).mono ?_
  rintro en w' ⟨FD', rfl, K, I, G⟩
  have K' : Keep F w w' := K.weak' fun i hi => (h4 i).2 (.inl hi)
  have G' : Grow F (fun i => FD' i ∨ FV i) w w' := fun i hi => by
    rcases hi with hi | hi
    · exact (G i hi).imp (fun x => (h4 i).2 (.inl x)) id
    · exact .inl ((h4 i).2 (.inr hi))
  refine ⟨fun i => FD' i ∨ FV i, rfl, K', G', ⟨FD', FV, I, h2.keep K (fun i hi hn => h3 i hn hi), fun i hi hn => ?_, fun i => Iff.rfl⟩, h.bnd.grow G' K.size h.old.size, h.old.keepOwn K' fun k hk => (h.bnd k hk).1⟩
  rcases G i hi with x | x
  · exact h3 i x hn
  · have := (h.bnd i ((h4 i).2 (.inr hn))).2; omega
theorem MidV.start (h : MidV w0 w p v F D V) :
    Calls Try.prog 41 #[p] w fun en w' => en = .returned (.int .i64 0) ∧ Keep F w w' ∧ MidV w0 w' p v F D.start V := by
  obtain ⟨FD, FV, h1, h2, h3, h4⟩ := h.parts
  refine (dStartD w p FD D h1).mono ?_
  rintro en w' ⟨rfl, K, I⟩
  have K' : Keep F w w' := K.weak' fun i hi => (h4 i).2 (.inl hi)
  exact ⟨rfl, K', ⟨FD, FV, I, h2.keep K (fun i hi hn => h3 i hn hi), h3, h4⟩, h.bnd.mono K.size, h.old.keepOwn K' fun k hk => (h.bnd k hk).1⟩
theorem RetVOpen.good {each : Int} {en : Ending} {w' : World} (h : RetVOpen D p each w en w') (he : D.vopenE each = 0) :
    ∃ v F, en = .returned (.tuple #[v, .int .i64 0]) ∧ IsVt w' v p F (D.vopened each) ∧ Same w w' ∧ Bnd F w.heap.size w'.heap.size := by
  rcases h with ⟨h, _⟩ | ⟨_, h⟩
  · exact absurd he h
  · exact h
theorem MidV.open (h : MidV w0 w p v F D V) (each : Int) (hE : D.vopenE each = 0) (he : -9223372036854775808 ≤ each ∧ each ≤ 9223372036854775807) :
    Calls Try.prog 73 #[p, .int .i64 each] w fun en w' => ∃ v' F', en = .returned (.tuple #[v', .int .i64 0]) ∧ Same w w' ∧ Grow F F' w w' ∧ MidV w0 w' p v' F' D (D.vopened each) := by
  obtain ⟨FD, FV, h1, h2, h3, h4⟩ := h.parts
  refine (vOpen w p FD D each h1 (fun k hk => (h.bnd k ((h4 k).2 (.inl hk))).2) he).mono ?_
  rintro en w' hr
  obtain ⟨v', FV', rfl, I, Z, B⟩ := hr.good hE
  have G' : Grow F (fun i => FD i ∨ FV' i) w w' := fun i hi => by
    rcases hi with hi | hi
    · exact .inl ((h4 i).2 (.inl hi))
    · exact .inr (B i hi)
  exact ⟨v', fun i => FD i ∨ FV' i, rfl, Z, G', ⟨FD, FV', h1.same Z, I, fun i hi hn => by have h5 := (h.bnd i ((h4 i).2 (.inl hi))).2; have h6 := (B i hn).1; omega, fun i => Iff.rfl⟩, h.bnd.grow G' Z.size h.old.size, h.old.trans Z⟩
theorem MidV.first (h : Mid w0 w p F D) (each : Int) (hE : D.vopenE each = 0) (he : -9223372036854775808 ≤ each ∧ each ≤ 9223372036854775807) :
    Calls Try.prog 73 #[p, .int .i64 each] w fun en w' => ∃ v' F', en = .returned (.tuple #[v', .int .i64 0]) ∧ Same w w' ∧ MidV w0 w' p v' F' D (D.vopened each) := by
  refine (vOpen w p F D each h.dv (fun k hk => (h.bnd k hk).2) he).mono ?_
  rintro en w' hr
  obtain ⟨v', FV', rfl, I, Z, B⟩ := hr.good hE
  have G' : Grow F (fun i => F i ∨ FV' i) w w' := fun i hi => hi.imp id (B i)
  exact ⟨v', fun i => F i ∨ FV' i, rfl, Z, ⟨F, FV', h.dv.same Z, I, fun i hi hn => by have h5 := (h.bnd i hi).2; have h6 := (B i hn).1; omega, fun i => Iff.rfl⟩, h.bnd.grow G' Z.size h.old.size, h.old.trans Z⟩
theorem MidV.records (h : MidV w0 w p v F D V) :
    Calls Try.prog 76 #[v] w fun en w' => ∃ a c, en = .returned (.slice a V.S.all.length c) ∧ Rows2N F w' 23 (.slice a V.S.all.length c) V.S.all ∧ Same w w' := by
  obtain ⟨FD, FV, h1, h2, h3, h4⟩ := h.parts
  refine (vRecords w v p FV V h2 h1.ptr).mono ?_
  rintro en w' ⟨u, rfl, O, Z⟩
  obtain ⟨a, c, rfl, _, _⟩ := O.rows.form
  exact ⟨a, c, rfl, O.rows2N fun k hk => (h.bnd k hk).2, Z⟩
theorem MidV.state (h : MidV w0 w p v F D V) :
    Calls Try.prog 72 #[v] w fun en w' => ∃ a c, en = .returned (.tuple #[.slice a V.state.length c, .bool (decide (0 < V.era))]) ∧ Apart F w' (.slice a V.state.length c) V.state ∧ Bytes w' 5 (.slice a V.state.length c) V.state ∧ Same w w' := by
  obtain ⟨FD, FV, h1, h2, h3, h4⟩ := h.parts
  refine (vState w v p FV V h2).mono ?_
  rintro en w' ⟨u, rfl, O, Z⟩
  obtain ⟨a, c, rfl, _, _⟩ := O.bytes.form
  exact ⟨a, c, rfl, Apart.fresh O h.bnd, O.bytes, Z⟩
theorem MidV.era (h : MidV w0 w p v F D V) : Calls Try.prog 77 #[v] w (RetSame (.int .i64 V.era) w) := by
  obtain ⟨FD, FV, h1, h2, _⟩ := h.parts
  exact vEra w v p FV V h2
theorem MidV.live (h : MidV w0 w p v F D V) : Calls Try.prog 37 #[p] w (RetSame (.bool !D.off) w) := by
  obtain ⟨FD, FV, h1, _⟩ := h.parts
  exact dLiveD w p FD D h1
end
theorem b1_apart {w0 w : World} {F : Nat → Prop} (B : Bnd F w0.heap.size w.heap.size) : ∀ g, homeOf (.slice (some ⟨w.heap.size, 0, none⟩) 1 1) = some g → ¬ F g := fun g hg hn => by
  simp [homeOf] at hg
  have := (B g hn).2
  omega
theorem Bnd.alloc {F : Nat → Prop} {a : Nat} {w : World} (B : Bnd F a w.heap.size) (o : Obj) : Bnd F a (w.alloc o).heap.size := B.mono (by simp)
end Go.Proofs.Ytlhnpicmjjddeaa
namespace Go.Proofs.Ytlhnpicmjjddeaa
open Go.RowKit

/-- a drive, a scroll; the reference's drive -/
structure MidR (w0 w : World) (p s px : Value) (D : Dv) (S : Sc) (D2 : Dv) : Prop where
  parts : ∃ FD FS FX, MidD w0 w p px FD FX D D2 ∧ IsSc w s p FS S ∧ Dj FD FS ∧ Dj FS FX ∧ Bnd FS w0.heap.size w.heap.size
/-- both drives, however they lie -/
def MidE (w0 w : World) (p px : Value) (D D2 : Dv) : Prop := ∃ FD FX, MidD w0 w p px FD FX D D2
section
variable {w0 w w' : World} {p s px sx : Value} {D D2 : Dv} {S S2 : Sc} {A : Nat → Obj → Prop}
theorem MidX.forget (h : MidX A w0 w p s px sx D S D2 S2) : MidE w0 w p px D D2 := let ⟨FD, _, FX, _, _, h1, _⟩ := h.parts; ⟨FD, FX, h1⟩
theorem MidE.same (h : MidE w0 w p px D D2) (Z : Same w w') : MidE w0 w' p px D D2 := let ⟨FD, FX, h1⟩ := h; ⟨FD, FX, h1.same Z⟩
theorem MidE.old (h : MidE w0 w p px D D2) : Same w0 w := let ⟨_, _, h1⟩ := h; h1.old
theorem MidE.ptrs (h : MidE w0 w p px D D2) : (∃ b, p = .pointer (some ⟨b, 0, none⟩)) ∧ (∃ b, px = .pointer (some ⟨b, 0, none⟩)) := let ⟨_, _, h1⟩ := h; ⟨h1.dv.ptr, h1.rd.ptr⟩
theorem MidE.ok (h : MidE w0 w p px D D2) : D.Ok := let ⟨_, _, h1⟩ := h; h1.dv.ok
theorem MidR.same (h : MidR w0 w p s px D S D2) (Z : Same w w') : MidR w0 w' p s px D S D2 :=
  let ⟨FD, FS, FX, h1, h2, h3, h4, h5⟩ := h.parts; ⟨FD, FS, FX, h1.same Z, h2.same Z, h3, h4, h5.mono Z.size⟩
theorem MidR.old (h : MidR w0 w p s px D S D2) : Same w0 w := let ⟨_, _, _, h1, _⟩ := h.parts; h1.old
theorem MidR.sptr (h : MidR w0 w p s px D S D2) : ∃ b, s = .pointer (some ⟨b, 0, none⟩) := let ⟨_, _, _, _, h2, _⟩ := h.parts; h2.ptr
theorem MidR.ok (h : MidR w0 w p s px D S D2) : S.Ok := let ⟨_, _, _, _, h2, _⟩ := h.parts; h2.ok
theorem MidX.used (h : MidX A w0 w p s px sx D S D2 S2) : Calls Try.prog 66 #[s] w (RetSame (.int .i64 (S.at_ - S.from_)) w) := by
  obtain ⟨FD, FS, FX, FY, N, h1, h2, _⟩ := h.parts
  exact cUsed w s p FS S h2 h1.dv.ptr
theorem MidX.records (h : MidX A w0 w p s px sx D S D2 S2) : Calls Try.prog 65 #[s] w (RetRows S.all w) := by
  obtain ⟨FD, FS, FX, FY, N, h1, h2, _⟩ := h.parts
  exact cRecords w s p FS S h2 h1.dv.ptr
theorem MidE.newest (h : MidE w0 w p px D D2) (a b : Int) : Calls Try.prog 67 #[p, .int .i64 a, .int .i64 b] w (RetSame (.int .i64 (D.newest a b)) w) := by
  obtain ⟨FD, FX, h1⟩ := h
  exact cNewest w p FD D a b h1.dv
theorem MidE.rnewest (h : MidE w0 w p px D D2) (x y : Nat) (hx : x ≤ y) (hy : y ≤ D2.C.length) : Calls Try.prog 68 #[px, .int .i64 x, .int .i64 y] w (RetSame (.int .i64 (D2.newest x y)) w) := by
  obtain ⟨FD, FX, h1⟩ := h
  have hok := h1.rd.ok.1
  obtain ⟨b, rv, fz, kv, ks, n, rfl, q1, q2, q3, _⟩ := h1.rd
  have e : D2.newest x y = D2.most x (y - x) := by
    have g1 : D2.within x y = true := decide_eq_true ⟨by omega, by omega, by omega⟩
    unfold Dv.newest
    rw [if_pos g1, show ((y : Int) - (x : Int)).toNat = y - x from by omega]
  rw [e]
  exact rNewest w b _ _ _ _ _ D2 x y q1 q3.rows hx hy hok
/-- the reference's scroll, seen -/
theorem MidX.seen (h : MidX A w0 w p s px sx D S D2 S2) : ∃ b v, sx = .pointer (some ⟨b, 0, none⟩) ∧ w.cell? ⟨b, 5, none⟩ = some v ∧ w.cell? ⟨b, 6, none⟩ = some (.int .i64 (S2.at_ - S2.from_)) ∧ Rows2 w 23 v S2.all := by
  obtain ⟨FD, FS, FX, FY, N, h1, h2, ⟨b, v, rfl, hB, hF, hQ, _⟩, _⟩ := h.parts
  obtain ⟨c0, c1, c2, c3, c4, c5, c6, c7⟩ := hB.cells
  exact ⟨b, v, rfl, c5, c6, hQ.rows⟩
theorem MidE.open (h : MidE w0 w p px D D2) (a b life era : Int) (hE : D.openE a b life era = 0) :
    Calls Try.prog 61 #[p, .int .i64 a, .int .i64 b, .int .i64 life, .int .i64 era] w fun en w' => ∃ s', en = .returned (.tuple #[s', .int .i64 0]) ∧ MidR w0 w' p s' px D (D.opened a b life era) D2 := by
  obtain ⟨FD, FX, h1⟩ := h
  refine (cOpen w p FD D a b life era h1.dv (fun k hk => (h1.bd k hk).2)).mono ?_
  rintro en w' hr
  obtain ⟨s', FS', rfl, I, Z, B⟩ := hr.good hE
  have hz := h1.old.size
  exact ⟨s', rfl, FD, FS', FX, h1.same Z, I, fun i hi hn => by have := (h1.bd i hi).2; have := (B i hn).1; omega, fun i hi hn => by have := (h1.bx i hn).2; have := (B i hi).1; omega, fun k hk => ⟨by have := (B k hk).1; omega, (B k hk).2⟩⟩
theorem MidR.ropen (h : MidR w0 w p s px D S D2) (a b life era : Int) (hE : D2.openE a b life era = 0) :
    Calls Try.prog 62 #[px, .int .i64 a, .int .i64 b, .int .i64 life, .int .i64 era] w fun en w' => ∃ sx, en = .returned (.tuple #[sx, .int .i64 0]) ∧ MidX NoA w0 w' p s px sx D S D2 (D2.opened a b life era) := by
  obtain ⟨FD, FS, FX, h1, h2, h3, h4, h5⟩ := h.parts
  refine (rOpen w px FX D2 a b life era h1.rd).mono ?_
  rintro en w' hr
  rcases hr with ⟨e, _⟩ | ⟨_, sx, F, N, rfl, I, Z, B, BN⟩
  · rw [hE] at e; cases e
  have hz := h1.old.size
  refine ⟨sx, rfl, FD, FS, FX, F, N, h1.same Z, h2.same Z, I, h3, fun i hi hn => ?_, h4, fun i hi hn => ?_, fun i hi hn => ?_, h5.mono Z.size, fun k hk => ⟨by have := (B k hk).1; omega, (B k hk).2⟩, fun g hg => ⟨fun hf => ?_, fun hf => ?_, fun hf => ?_, (BN g hg).2⟩, fun _ _ x => x.elim⟩
  · have := (h1.bd i hi).2; have := (B i hn).1; omega
  · have := (h5 i hi).2; have := (B i hn).1; omega
  · have := (h1.bx i hi).2; have := (B i hn).1; omega
  · have := (h1.bd g hf).2; have := (BN g hg).1; omega
  · have := (h5 g hf).2; have := (BN g hg).1; omega
  · have := (h1.bx g hf).2; have := (BN g hg).1; omega
end
/-! ### lives are bounded -/
theorem most_le {D : Dv} {from_ B : Int} (hB : 0 ≤ B) : ∀ k : Nat, (∀ i : Nat, i < k → (decF (D.sector (from_ + i))).life ≤ B) → D.most from_ k ≤ B := by
  intro k
  induction k with
  | zero => intro _; exact hB
  | succ k ih =>
    intro h
    have h1 := ih fun i hi => h i (by omega)
    have h2 := h k (by omega)
    show max _ _ ≤ B
    omega
theorem most_has {D : Dv} {from_ : Int} : ∀ (k i : Nat), i < k → (decF (D.sector (from_ + i))).life ≤ D.most from_ k := by
  intro k
  induction k with
  | zero => intro i hi; omega
  | succ k ih =>
    intro i hi
    show _ ≤ max _ _
    by_cases e : i = k
    · subst e; omega
    · have := ih i (by omega); omega
theorem newest_sub {D : Dv} {a b c : Nat} (h1 : a ≤ b) (h2 : b ≤ c) (h3 : c ≤ D.C.length) : D.newest b c ≤ D.newest a c := by
  have g1 : D.within b c = true := decide_eq_true ⟨by omega, by omega, by omega⟩
  have g2 : D.within a c = true := decide_eq_true ⟨by omega, by omega, by omega⟩
  unfold Dv.newest
  rw [if_pos g1, if_pos g2]
  refine most_le (most_bound D a _).1 _ fun i hi => ?_
  have := most_has (D := D) (from_ := (a : Int)) ((c : Int) - (a : Int)).toNat (b - a + i) (by omega)
  rw [show (a : Int) + ((b - a + i : Nat) : Int) = (b : Int) + (i : Int) by omega] at this
  exact this
def Low (D : Dv) (L : Int) : Prop := ∀ i : Int, (decF (D.sector i)).right = true → (decF (D.sector i)).life ≤ L
theorem Low.newest {D : Dv} {L : Int} (h : Low D L) (hL : 0 ≤ L) (a b : Int) : D.newest a b ≤ L := by
  have := newest_lt (D := D) (from_ := a) (till := b) (L := L + 1) (fun i hi => by have := h i hi; omega) (by omega)
  omega
theorem Low.write {D : Dv} {L life era seq : Int} {b : List UInt8} (h : Low D L) (hl : life ≤ L) (at_ : Nat) (hc : cutE life era seq b = 0) : Low (D.write at_ (cutL life era seq b)).2 L := by
  unfold Dv.write
  split
  · exact h
  split
  · exact h
  split
  · exact h
  rename_i h1 h2 h3
  have hb : D.bad at_ (cutL life era seq b) = false := by simpa using h2
  unfold Dv.bad at hb
  simp at hb
  have ht := D.tornS (at_ := at_) (life := life) (era := era) (seq := seq) (b := b) (by have := cutL_length life era seq b; omega)
  intro i hi
  by_cases hk : ∃ k : Nat, k < nparts b.length ∧ D.keeps k = true ∧ i = at_ + k
  · obtain ⟨k, q1, q2, rfl⟩ := hk
    have := ht.new hc q1 q2
    have e : (decF ((D.wrote (at_ : Int) (cutL life era seq b)).sector ((at_ : Int) + (k : Int)))) = cutAt life era seq b k := this
    rw [e]
    exact hl
  · have := ht.2 i fun k q1 q2 e => hk ⟨k, q1, q2, e⟩
    have e : (D.wrote (at_ : Int) (cutL life era seq b)).sector i = D.sector i := this
    rw [e] at hi ⊢
    exact h i hi
theorem Low.append {D : Dv} {S : Sc} {L : Int} {b : List UInt8} (h : Low D L) (hl : S.life ≤ L) (h0 : 0 ≤ S.at_) : Low (S.append D b).2.2 L ∧ (S.append D b).2.1.life = S.life := by
  obtain ⟨a, ha⟩ := Int.eq_ofNat_of_zero_le h0
  unfold Sc.append
  split
  · exact ⟨h, rfl⟩
  split
  · exact ⟨h, rfl⟩
  rename_i hc
  have hc' : cutE S.life S.era (S.all.length + 1) b = 0 := by simpa using hc
  split
  · exact ⟨h, rfl⟩
  have hw := Low.write (era := S.era) (seq := S.all.length + 1) (b := b) h hl a hc'
  rw [← ha] at hw
  split
  · exact ⟨hw, rfl⟩
  · exact ⟨hw, rfl⟩
theorem write_len (D : Dv) (at_ : Int) (ls : List (List UInt8)) : (D.write at_ ls).2.C.length = D.C.length := by
  unfold Dv.write
  split
  · rfl
  split
  · rfl
  split
  · rfl
  · exact landed_length ..
theorem append_len (S : Sc) (D : Dv) (b : List UInt8) : (S.append D b).2.2.C.length = D.C.length := by
  unfold Sc.append
  split
  · rfl
  split
  · rfl
  split
  · rfl
  split
  · exact write_len ..
  · exact write_len ..
theorem Low.fuse {D : Dv} {L : Int} (h : Low D L) (n : Int) (ks : List Int) : Low (D.fuse n ks).2 L ∧ (D.fuse n ks).2.C.length = D.C.length := by
  unfold Dv.fuse
  split
  · exact ⟨h, rfl⟩
  · exact ⟨h, rfl⟩
end Go.Proofs.Ytlhnpicmjjddeaa
namespace Go.Proofs.Ytlhnpicmjjddeaa
open Go.RowKit

/-- a drive, a vault; the reference's drive, the reference's vault; objects A that lie aside -/
structure MidW (A : Nat → Obj → Prop) (w0 w : World) (p s px sx : Value) (D : Dv) (V : Vt) (D2 : Dv) (V2 : Vt) : Prop where
  parts : ∃ FD FS FX FY N, MidD w0 w p px FD FX D D2 ∧ IsVt w s p FS V ∧ IsRv w sx px FY N V2 ∧ Dj FD FS ∧ Dj FD FY ∧ Dj FS FX ∧ Dj FS FY ∧ Dj FX FY ∧ Bnd FS w0.heap.size w.heap.size ∧ Bnd FY w0.heap.size w.heap.size ∧
    (∀ g, N g → ¬ FD g ∧ ¬ FS g ∧ ¬ FX g ∧ g < w.heap.size) ∧ (∀ g o, A g o → w.heap[g]? = some o ∧ ¬ FD g ∧ ¬ FS g ∧ ¬ FX g ∧ ¬ FY g)
section
variable {w0 w w' : World} {p s px sx : Value} {D D2 : Dv} {V V2 : Vt} {FD FX : Nat → Prop} {A : Nat → Obj → Prop}
theorem MidW.same (h : MidW A w0 w p s px sx D V D2 V2) (Z : Same w w') : MidW A w0 w' p s px sx D V D2 V2 :=
  let ⟨FD, FS, FX, FY, N, h1, h2, h3, h4, h5, h6, h7, h8, h9, h10, h11, h12⟩ := h.parts
  ⟨FD, FS, FX, FY, N, h1.same Z, h2.same Z, h3.same Z, h4, h5, h6, h7, h8, h9.mono Z.size, h10.mono Z.size, (fun g hg => let ⟨a, b, c, d⟩ := h11 g hg; ⟨a, b, c, Nat.lt_of_lt_of_le d Z.size⟩), fun g o hg => let ⟨a, b⟩ := h12 g o hg; ⟨(Z.block g (Array.getElem?_eq_some_iff.1 a).1 fun x => x).trans a, b⟩⟩
theorem MidW.put (h : MidW A w0 w p s px sx D V D2 V2) (o : Obj) : MidW (fun g x => A g x ∨ (g = w.heap.size ∧ x = o)) w0 (w.alloc o) p s px sx D V D2 V2 := by
  obtain ⟨FD, FS, FX, FY, N, h1, h2, h3, h4, h5, h6, h7, h8, h9, h10, h11, h12⟩ := (h.same ((Same.refl w).alloc o)).parts
  obtain ⟨FD', FS', FX', FY', N', k1, k2, k3, k4, k5, k6, k7, k8, k9, k10, k11, k12⟩ := h.parts
  have T : Same w (w.alloc o) := (Same.refl w).alloc o
  refine ⟨FD', FS', FX', FY', N', k1.same T, k2.same T, k3.same T, k4, k5, k6, k7, k8, k9.mono T.size, k10.mono T.size, (fun g hg => let ⟨a, b, c, d⟩ := k11 g hg; ⟨a, b, c, Nat.lt_of_lt_of_le d T.size⟩), fun g x hx => ?_⟩
  rcases hx with hx | ⟨rfl, rfl⟩
  · obtain ⟨a, b⟩ := k12 g x hx
    exact ⟨(T.block g (Array.getElem?_eq_some_iff.1 a).1 fun x => x).trans a, b⟩
  · refine ⟨heap_alloc_new' w x, fun hf => ?_, fun hf => ?_, fun hf => ?_, fun hf => ?_⟩
    · have := (k1.bd _ hf).2; omega
    · have := (k9 _ hf).2; omega
    · have := (k1.bx _ hf).2; omega
    · have := (k10 _ hf).2; omega
theorem MidW.bare (h : MidW A w0 w p s px sx D V D2 V2) : MidW NoA w0 w p s px sx D V D2 V2 :=
  let ⟨FD, FS, FX, FY, N, h1, h2, h3, h4, h5, h6, h7, h8, h9, h10, h11, h12⟩ := h.parts
  ⟨FD, FS, FX, FY, N, h1, h2, h3, h4, h5, h6, h7, h8, h9, h10, h11, fun _ _ x => x.elim⟩
theorem MidW.aside (h : MidW A w0 w p s px sx D V D2 V2) {g : Nat} {o : Obj} (ha : A g o) : w.heap[g]? = some o :=
  let ⟨_, _, _, _, _, _, _, _, _, _, _, _, _, _, _, _, h12⟩ := h.parts; (h12 g o ha).1
theorem MidW.old (h : MidW A w0 w p s px sx D V D2 V2) : Same w0 w := let ⟨_, _, _, _, _, h1, _⟩ := h.parts; h1.old
theorem MidW.ok (h : MidW A w0 w p s px sx D V D2 V2) : V.Ok := let ⟨_, _, _, _, _, _, h2, _⟩ := h.parts; h2.ok
theorem MidW.dok (h : MidW A w0 w p s px sx D V D2 V2) : D.Ok := let ⟨_, _, _, _, _, h1, _⟩ := h.parts; h1.dv.ok
theorem MidW.ptrs (h : MidW A w0 w p s px sx D V D2 V2) : (∃ b, p = .pointer (some ⟨b, 0, none⟩)) ∧ (∃ b, s = .pointer (some ⟨b, 0, none⟩)) ∧ (∃ b, px = .pointer (some ⟨b, 0, none⟩)) ∧ (∃ b, sx = .pointer (some ⟨b, 0, none⟩)) :=
  let ⟨_, _, _, _, _, h1, h2, h3, _⟩ := h.parts; ⟨h1.dv.ptr, h2.ptr, h1.rd.ptr, h3.ptr⟩
theorem MidW.append (h : MidW A w0 w p s px sx D V D2 V2) (v : Value) (e : TypeId) (b : List UInt8) (hb : Bytes w0 e v b) (hl : b.length ≤ 400) :
    Calls Try.prog 74 #[s, v] w fun en w' => en = .returned (.int .i64 (V.append D b).1) ∧ MidW A w0 w' p s px sx (V.append D b).2.2 (V.append D b).2.1 D2 V2 := by
  obtain ⟨FD, FS, FX, FY, N, h1, h2, h3, h4, h5, h6, h7, h8, h9, h10, h11, h12⟩ := id h.parts
  have hc := vAppend w s p v FD FS D V b e h1.dv h2 h4 (fun k hk => (h1.bd k hk).2) (fun k hk => (h9 k hk).2) (hb.same h1.old) (by omega) (bytes_low hb h1.bd)
  refine hc.mono fun en w' hr => ?_
  obtain ⟨FS', rfl, K, I, J, G⟩ := hr
  have hz := K.size
  have Z : Same w0 w' := h1.old.keepOwn K fun k hk => by
    rcases hk with hk | hk
    · exact (h1.bd k hk).1
    · exact (h9 k hk).1
  refine ⟨rfl, FD, FS', FX, FY, N, ⟨I, h1.rd.keep K fun i hi hn => ?_, h1.dx, h1.bd.mono hz, h1.bx.mono hz, Z⟩, J, h3.keep K (fun i hi hn => ?_) (fun i hi hn => ?_), h4.growR G (fun k hk => (h1.bd k hk).2), h5, h6.growL G (fun k hk => (h1.bx k hk).2), h7.growL G (fun k hk => (h10 k hk).2), h8, h9.grow G hz h1.old.size, h10.mono hz, fun g hg => ?_, fun g o ho => ?_⟩
  · rcases hn with hn | hn
    · exact h1.dx i hn hi
    · exact h6 i hn hi
  · rcases hn with hn | hn
    · exact h5 i hn hi
    · exact h7 i hn hi
  · rcases hn with hn | hn
    · exact (h11 i hi).1 hn
    · exact (h11 i hi).2.1 hn
  · obtain ⟨a, b, c, d⟩ := h11 g hg
    refine ⟨a, fun hf => ?_, c, by omega⟩
    rcases G g hf with x | x
    · exact b x
    · omega
  · obtain ⟨q, a, b, c, d⟩ := h12 g o ho
    have hl := (Array.getElem?_eq_some_iff.1 q).1
    refine ⟨(K.block g hl fun x => x.elim a b).trans q, a, fun hf => ?_, c, d⟩
    rcases G g hf with x | x
    · exact b x
    · omega
theorem MidW.compact (h : MidW A w0 w p s px sx D V D2 V2) (v : Value) (e : TypeId) (b : List UInt8) (hb : Bytes w0 e v b) (hl : b.length ≤ 400)
    (hE : V.ready D = 0 → V.life < 16777214 → (D.save 0 V.each V.life (V.era + 1) b).1 = 0 → V.era + 1 ≤ 16777215 ∧ (D.save 0 V.each V.life (V.era + 1) b).2.openE (2 * V.each) (D.save 0 V.each V.life (V.era + 1) b).2.C.length (V.life + 1) (V.era + 1) = 0) :
    Calls Try.prog 75 #[s, v] w fun en w' => en = .returned (.int .i64 (V.compact D b).1) ∧ MidW A w0 w' p s px sx (V.compact D b).2.2 (V.compact D b).2.1 D2 V2 := by
  obtain ⟨FD, FS, FX, FY, N, h1, h2, h3, h4, h5, h6, h7, h8, h9, h10, h11, h12⟩ := id h.parts
  have hc := vCompact w s p v FD FS D V b e h1.dv h2 h4 (fun k hk => (h1.bd k hk).2) (fun k hk => (h9 k hk).2) (hb.same h1.old) (by omega) (bytes_low hb h1.bd) hE
  refine hc.mono fun en w' hr => ?_
  obtain ⟨FS', rfl, K, I, J, G⟩ := hr
  have hz := K.size
  have Z : Same w0 w' := h1.old.keepOwn K fun k hk => by
    rcases hk with hk | hk
    · exact (h1.bd k hk).1
    · exact (h9 k hk).1
  refine ⟨rfl, FD, FS', FX, FY, N, ⟨I, h1.rd.keep K fun i hi hn => ?_, h1.dx, h1.bd.mono hz, h1.bx.mono hz, Z⟩, J, h3.keep K (fun i hi hn => ?_) (fun i hi hn => ?_), h4.growR G (fun k hk => (h1.bd k hk).2), h5, h6.growL G (fun k hk => (h1.bx k hk).2), h7.growL G (fun k hk => (h10 k hk).2), h8, h9.grow G hz h1.old.size, h10.mono hz, fun g hg => ?_, fun g o ho => ?_⟩
  · rcases hn with hn | hn
    · exact h1.dx i hn hi
    · exact h6 i hn hi
  · rcases hn with hn | hn
    · exact h5 i hn hi
    · exact h7 i hn hi
  · rcases hn with hn | hn
    · exact (h11 i hi).1 hn
    · exact (h11 i hi).2.1 hn
  · obtain ⟨a, b, c, d⟩ := h11 g hg
    refine ⟨a, fun hf => ?_, c, by omega⟩
    rcases G g hf with x | x
    · exact b x
    · omega
  · obtain ⟨q, a, b, c, d⟩ := h12 g o ho
    have hl := (Array.getElem?_eq_some_iff.1 q).1
    refine ⟨(K.block g hl fun x => x.elim a b).trans q, a, fun hf => ?_, c, d⟩
    rcases G g hf with x | x
    · exact b x
    · omega
theorem MidW.rappend (h : MidW A w0 w p s px sx D V D2 V2) (hok : V2.S.Ok) (v : Value) (e : TypeId) (b : List UInt8) (hb : Bytes w0 e v b) (hl : b.length ≤ 400) :
    Calls Try.prog 81 #[sx, v] w fun en w' => en = .returned (.int .i64 (V2.append D2 b).1) ∧ MidW A w0 w' p s px sx D V (V2.append D2 b).2.2 (V2.append D2 b).2.1 := by
  obtain ⟨FD, FS, FX, FY, N, h1, h2, h3, h4, h5, h6, h7, h8, h9, h10, h11, h12⟩ := id h.parts
  have hm0 : ∀ g, homeOf v = some g → g < w0.heap.size := fun g hg => Sl.home_lt hb hg
  have hc := rvAppend w sx px v FX FY N D2 V2 b e h1.rd h3 hok h8 (fun k hk => (h1.bx k hk).2) (fun k hk => (h10 k hk).2) (fun g hg => ⟨(h11 g hg).2.2.1, (h11 g hg).2.2.2⟩) (hb.same h1.old) hl (fun g hg => ⟨bytes_low hb h1.bx g hg, bytes_low hb h10 g hg⟩)
  refine hc.mono fun en w' hr => ?_
  obtain ⟨FX', FY', N', rfl, K, I, J, GX, GY, hXY, hNX, hN⟩ := hr
  have hz := K.size
  have Z : Same w0 w' := h1.old.keepOwn K fun k hk => by
    rcases hk with hk | hk
    · exact (h1.bx k hk).1
    · exact (h10 k hk).1
  refine ⟨rfl, FD, FS, FX', FY', N', ⟨h1.dv.keep K fun i hi hn => ?_, I, h1.dx.growR GX (fun k hk => (h1.bd k hk).2), h1.bd.mono hz, h1.bx.grow GX hz h1.old.size, Z⟩, h2.keep K (fun i hi hn => ?_), J, h4, h5.growR GY (fun k hk => (h1.bd k hk).2), h6.growR GX (fun k hk => (h9 k hk).2), h7.growR GY (fun k hk => (h9 k hk).2), hXY, h9.mono hz, h10.grow GY hz h1.old.size, fun g hg => ?_, fun g o ho => ?_⟩
  · rcases hn with hn | hn
    · exact h1.dx i hi hn
    · exact h5 i hi hn
  · rcases hn with hn | hn
    · exact h6 i hi hn
    · exact h7 i hi hn
  · rcases hN g hg with x | x | x
    · obtain ⟨a, b, c, d⟩ := h11 g x
      exact ⟨a, b, hNX g hg, by omega⟩
    · have hl2 := hm0 g x
      have hz0 := h1.old.size
      exact ⟨fun hf => by have := (h1.bd g hf).1; omega, fun hf => by have := (h9 g hf).1; omega, hNX g hg, by omega⟩
    · exact ⟨fun hf => by have := (h1.bd g hf).2; omega, fun hf => by have := (h9 g hf).2; omega, hNX g hg, x.2⟩
  · obtain ⟨q, a, b, c, d⟩ := h12 g o ho
    have hl := (Array.getElem?_eq_some_iff.1 q).1
    refine ⟨(K.block g hl fun x => x.elim c d).trans q, a, b, fun hf => ?_, fun hf => ?_⟩
    · rcases GX g hf with x | x
      · exact c x
      · omega
    · rcases GY g hf with x | x
      · exact d x
      · omega
theorem MidW.rcompact (h : MidW A w0 w p s px sx D V D2 V2) (hok : V2.Ok) (v : Value) (e : TypeId) (b : List UInt8) (hb : Bytes w0 e v b) (hl : b.length ≤ 400)
    (hE : V2.ready D2 = 0 → V2.life < 16777214 → (D2.save 0 V2.each V2.life (V2.era + 1) b).1 = 0 → (D2.save 0 V2.each V2.life (V2.era + 1) b).2.openE (2 * V2.each) (D2.save 0 V2.each V2.life (V2.era + 1) b).2.C.length (V2.life + 1) (V2.era + 1) = 0) :
    Calls Try.prog 82 #[sx, v] w fun en w' => en = .returned (.int .i64 (V2.compact D2 b).1) ∧ MidW A w0 w' p s px sx D V (V2.compact D2 b).2.2 (V2.compact D2 b).2.1 := by
  obtain ⟨FD, FS, FX, FY, N, h1, h2, h3, h4, h5, h6, h7, h8, h9, h10, h11, h12⟩ := id h.parts
  have hm0 : ∀ g, homeOf v = some g → g < w0.heap.size := fun g hg => Sl.home_lt hb hg
  have hc := rvCompact w sx px v FX FY N D2 V2 b e h1.rd h3 hok h8 (fun k hk => (h1.bx k hk).2) (fun k hk => (h10 k hk).2) (fun g hg => ⟨(h11 g hg).2.2.1, (h11 g hg).2.2.2⟩) (hb.same h1.old) hl (fun g hg => ⟨bytes_low hb h1.bx g hg, bytes_low hb h10 g hg⟩) hE
  refine hc.mono fun en w' hr => ?_
  obtain ⟨FX', FY', N', rfl, K, I, J, GX, GY, hXY, hNX, hN⟩ := hr
  have hz := K.size
  have Z : Same w0 w' := h1.old.keepOwn K fun k hk => by
    rcases hk with hk | hk
    · exact (h1.bx k hk).1
    · exact (h10 k hk).1
  refine ⟨rfl, FD, FS, FX', FY', N', ⟨h1.dv.keep K fun i hi hn => ?_, I, h1.dx.growR GX (fun k hk => (h1.bd k hk).2), h1.bd.mono hz, h1.bx.grow GX hz h1.old.size, Z⟩, h2.keep K (fun i hi hn => ?_), J, h4, h5.growR GY (fun k hk => (h1.bd k hk).2), h6.growR GX (fun k hk => (h9 k hk).2), h7.growR GY (fun k hk => (h9 k hk).2), hXY, h9.mono hz, h10.grow GY hz h1.old.size, fun g hg => ?_, fun g o ho => ?_⟩
  · rcases hn with hn | hn
    · exact h1.dx i hi hn
    · exact h5 i hi hn
  · rcases hn with hn | hn
    · exact h6 i hi hn
    · exact h7 i hi hn
  · rcases hN g hg with x | x | x
    · obtain ⟨a, b, c, d⟩ := h11 g x
      exact ⟨a, b, hNX g hg, by omega⟩
    · have hl2 := hm0 g x
      have hz0 := h1.old.size
      exact ⟨fun hf => by have := (h1.bd g hf).1; omega, fun hf => by have := (h9 g hf).1; omega, hNX g hg, by omega⟩
    · exact ⟨fun hf => by have := (h1.bd g hf).2; omega, fun hf => by have := (h9 g hf).2; omega, hNX g hg, x.2⟩
  · obtain ⟨q, a, b, c, d⟩ := h12 g o ho
    have hl := (Array.getElem?_eq_some_iff.1 q).1
    refine ⟨(K.block g hl fun x => x.elim c d).trans q, a, b, fun hf => ?_, fun hf => ?_⟩
    · rcases GX g hf with x | x
      · exact c x
      · omega
    · rcases GY g hf with x | x
      · exact d x
      · omega
theorem MidW.fuse (h : MidW A w0 w p s px sx D V D2 V2) (v : Value) (e : TypeId) (m : Int) (ks : List Int) (hk : Ints w0 e v ks) (hl : ks.length ≤ 1000) (hm : -9223372036854775808 ≤ m ∧ m ≤ 9223372036854775807) :
    Calls Try.prog 35 #[p, .int .i64 m, v] w fun en w' => en = .returned (.int .i64 (D.fuse m ks).1) ∧ MidW A w0 w' p s px sx (D.fuse m ks).2 V D2 V2 := by
  obtain ⟨FD, FS, FX, FY, N, h1, h2, h3, h4, h5, h6, h7, h8, h9, h10, h11, h12⟩ := h.parts
  refine (dFuseD w p v FD D m ks e h1.dv (hk.same h1.old) hl hm).mono ?_
  rintro en w' ⟨FD', rfl, K, I, G⟩
  have hz := K.size
  have Z : Same w0 w' := h1.old.keepOwn K fun k hk => (h1.bd k hk).1
  refine ⟨rfl, FD', FS, FX, FY, N, ⟨I, h1.rd.keep K (fun i hi hn => h1.dx i hn hi), h1.dx.growL G (fun k hk => (h1.bx k hk).2), h1.bd.grow G hz h1.old.size, h1.bx.mono hz, Z⟩, h2.keep K (fun i hi hn => h4 i hn hi), h3.keep K (fun i hi hn => h5 i hn hi) (fun i hi => (h11 i hi).1), h4.growL G (fun k hk => (h9 k hk).2), h5.growL G (fun k hk => (h10 k hk).2), h6, h7, h8, h9.mono hz, h10.mono hz, fun g hg => ?_, fun g o ho => ?_⟩
  · obtain ⟨a, b, c, d⟩ := h11 g hg
    refine ⟨fun hf => ?_, b, c, by omega⟩
    rcases G g hf with x | x
    · exact a x
    · omega
  · obtain ⟨q, a, b, c, d⟩ := h12 g o ho
    have hl := (Array.getElem?_eq_some_iff.1 q).1
    refine ⟨(K.block g hl a).trans q, fun hf => ?_, b, c, d⟩
    rcases G g hf with x | x
    · exact a x
    · omega
theorem MidW.rfuse (h : MidW A w0 w p s px sx D V D2 V2) (v : Value) (e : TypeId) (m : Int) (ks : List Int) (hk : Ints w0 e v ks) (hl : ks.length ≤ 1000) (hm : -9223372036854775808 ≤ m ∧ m ≤ 9223372036854775807) :
    Calls Try.prog 71 #[px, .int .i64 m, v] w fun en w' => en = .returned (.int .i64 (D2.fuse m ks).1) ∧ MidW A w0 w' p s px sx D V (D2.fuse m ks).2 V2 := by
  obtain ⟨FD, FS, FX, FY, N, h1, h2, h3, h4, h5, h6, h7, h8, h9, h10, h11, h12⟩ := h.parts
  refine (rFused w px v FX D2 m ks e h1.rd (hk.same h1.old) (ints_low hk h1.bx) hl hm).mono ?_
  rintro en w' ⟨FX', rfl, K, I, G⟩
  have hz := K.size
  have Z : Same w0 w' := h1.old.keepOwn K fun k hk => (h1.bx k hk).1
  refine ⟨rfl, FD, FS, FX', FY, N, ⟨h1.dv.keep K (fun i hi hn => h1.dx i hi hn), I, h1.dx.growR G (fun k hk => (h1.bd k hk).2), h1.bd.mono hz, h1.bx.grow G hz h1.old.size, Z⟩, h2.keep K (fun i hi hn => h6 i hi hn), h3.keep K (fun i hi hn => h8 i hn hi) (fun i hi => (h11 i hi).2.2.1), h4, h5, h6.growR G (fun k hk => (h9 k hk).2), h7, h8.growL G (fun k hk => (h10 k hk).2), h9.mono hz, h10.mono hz, fun g hg => ?_, fun g o ho => ?_⟩
  · obtain ⟨a, b, c, d⟩ := h11 g hg
    refine ⟨a, b, fun hf => ?_, by omega⟩
    rcases G g hf with x | x
    · exact c x
    · omega
  · obtain ⟨q, a, b, c, d⟩ := h12 g o ho
    have hl := (Array.getElem?_eq_some_iff.1 q).1
    refine ⟨(K.block g hl c).trans q, a, b, fun hf => ?_, d⟩
    rcases G g hf with x | x
    · exact c x
    · omega
theorem MidW.start (h : MidW A w0 w p s px sx D V D2 V2) : Calls Try.prog 41 #[p] w fun en w' => en = .returned (.int .i64 0) ∧ MidW A w0 w' p s px sx D.start V D2 V2 := by
  obtain ⟨FD, FS, FX, FY, N, h1, h2, h3, h4, h5, h6, h7, h8, h9, h10, h11, h12⟩ := h.parts
  refine (dStartD w p FD D h1.dv).mono ?_
  rintro en w' ⟨rfl, K, I⟩
  have hz := K.size
  have Z : Same w0 w' := h1.old.keepOwn K fun k hk => (h1.bd k hk).1
  exact ⟨rfl, FD, FS, FX, FY, N, ⟨I, h1.rd.keep K (fun i hi hn => h1.dx i hn hi), h1.dx, h1.bd.mono hz, h1.bx.mono hz, Z⟩, h2.keep K (fun i hi hn => h4 i hn hi), h3.keep K (fun i hi hn => h5 i hn hi) (fun i hi => (h11 i hi).1), h4, h5, h6, h7, h8, h9.mono hz, h10.mono hz, (fun g hg => let ⟨a, b, c, d⟩ := h11 g hg; ⟨a, b, c, by omega⟩), fun g o ho => let ⟨q, a, b⟩ := h12 g o ho; ⟨(K.block g (Array.getElem?_eq_some_iff.1 q).1 a).trans q, a, b⟩⟩
theorem MidW.rstart {b : Nat} (h : MidW A w0 w p s (.pointer (some ⟨b, 0, none⟩)) sx D V D2 V2) :
    (∃ v1 v2, w.cell? ⟨b, 1, none⟩ = some v1 ∧ w.cell? ⟨b, 2, none⟩ = some v2 ∧ w.frozen? ⟨b, 1, none⟩ = false ∧ w.frozen? ⟨b, 2, none⟩ = false) ∧
    MidW A w0 ((w.setCell ⟨b, 1, none⟩ (.bool false)).setCell ⟨b, 2, none⟩ (.int .i64 (-1))) p s (.pointer (some ⟨b, 0, none⟩)) sx D V D2.start V2 := by
  obtain ⟨FD, FS, FX, FY, N, h1, h2, h3, h4, h5, h6, h7, h8, h9, h10, h11, h12⟩ := h.parts
  obtain ⟨hF, hc, I⟩ := h1.rd.start
  have K : Keep FX w ((w.setCell ⟨b, 1, none⟩ (.bool false)).setCell ⟨b, 2, none⟩ (.int .i64 (-1))) := ((Keep.refl FX w).setCell (p := ⟨b, 1, none⟩) (.inl hF) _).setCell (p := ⟨b, 2, none⟩) (.inl hF) _
  have hz := K.size
  have Z := h1.old.keepOwn K fun k hk => (h1.bx k hk).1
  exact ⟨hc, FD, FS, FX, FY, N, ⟨h1.dv.keep K (fun i hi hn => h1.dx i hi hn), I, h1.dx, h1.bd.mono hz, h1.bx.mono hz, Z⟩, h2.keep K (fun i hi hn => h6 i hi hn), h3.keep K (fun i hi hn => h8 i hn hi) (fun i hi => (h11 i hi).2.2.1), h4, h5, h6, h7, h8, h9.mono hz, h10.mono hz, (fun g hg => let ⟨a, b, c, d⟩ := h11 g hg; ⟨a, b, c, by omega⟩), fun g o ho => let ⟨q, a, b, c, d⟩ := h12 g o ho; ⟨(K.block g (Array.getElem?_eq_some_iff.1 q).1 c).trans q, a, b, c, d⟩⟩
end
end Go.Proofs.Ytlhnpicmjjddeaa
namespace Go.Proofs.Ytlhnpicmjjddeaa
open Go.RowKit

set_option maxHeartbeats 3200000 in
set_option maxRecDepth 100000 in
theorem vLeft (w : World) (v p : Value) (F FD : Nat → Prop) (V : Vt) (D : Dv) (hV : IsVt w v p F V) (hD : IsDv w p FD D) : Calls Try.prog 78 #[v] w (RetSame (.int .i64 ((D.C.length : Int) - 2 * V.each - (V.S.at_ - V.S.from_))) w) := by
  have HOk := hid (vOk w v p F V hV)
  have HSz := hid (fun w' (Z : Same w w') => dSizeD w' p FD D (hD.same Z))
  have hl := hD.ok.1
  have hptr := hD.ptr
  obtain ⟨b, sp, sv, FS, rfl, hB, hS, _, _, _, _, _, h9⟩ := hV
  have HUs := hid (fun w' (Z : Same w w') => cUsed w' sp p FS V.S (hS.same Z) hptr)
  have hok := hS.ok.fit
  have he := h9.each
  obtain ⟨sb, rfl⟩ := hS.ptr
  obtain ⟨pb, rfl⟩ := hptr
  have HB := hid hB
  clear hB hS h9 hD
  go_enter Try.func78, Try.ntmps78
  go_wp2_with fail
  refine HOk.out.mono ?_
  rintro en w1 ⟨rfl, S1⟩
  have S1 := hid S1
  obtain ⟨c0, c1, c2, c3, c4, c5, c6⟩ := Box7.cells (HB.out.same S1.out)
  have HSk := hid (HSz.out w1.drew S1.out.drew)
  have hw1 : IntKind.i64.wrap (2 * V.each) = 2 * V.each := by rw [IntKind.wrap_i64]; omega
  have hw2 : IntKind.i64.wrap ((D.C.length : Int) - 2 * V.each) = (D.C.length : Int) - 2 * V.each := by rw [IntKind.wrap_i64]; omega
  have hw3 : IntKind.i64.wrap ((D.C.length : Int) - 2 * V.each - (V.S.at_ - V.S.from_)) = (D.C.length : Int) - 2 * V.each - (V.S.at_ - V.S.from_) := by rw [IntKind.wrap_i64]; omega
  clear c3 c4 c5 c6
  go_wp2_with fail
  go_region_held3 (fun w' => w'.cell? ⟨b, 0, none⟩ = some (.pointer (some ⟨sb, 0, none⟩)) ∧ w'.cell? ⟨b, 1, none⟩ = some (.pointer (some ⟨pb, 0, none⟩)) ∧ w'.cell? ⟨b, 2, none⟩ = some (.int .i64 V.each))
    (first | with_reducible exact ⟨by assumption, by assumption, by assumption⟩ | go_keep)
    (first
      | (go_at_call 42; (with_reducible refine HSk.out.mono ?_); rintro en w2 ⟨rfl, S2⟩; have S2 := hid (S1.out.drew.trans S2); obtain ⟨m0, m1, m2, m3, m4, m5, m6⟩ := Box7.cells (HB.out.same S2.out); have HUk := hid (HUs.out w2 S2.out))
      | (go_at_call 66; (with_reducible refine HUk.out.mono ?_); rintro en w3 ⟨rfl, S3⟩; have S3 := hid (S2.out.trans S3); obtain ⟨n0, n1, n2, n3, n4, n5, n6⟩ := Box7.cells (HB.out.same S3.out)))
  clear c0 c1 c2 m0 m1 m2 m3 m4 m5 m6 n0 n1 n2 n3 n4 n5 n6
  go_wp2_with fail
  go_ret
  exact ⟨rfl, S3.out⟩
/-- a drive, a vault; the reference's drive -/
structure MidT (w0 w : World) (p v px : Value) (D : Dv) (V : Vt) (D2 : Dv) : Prop where
  parts : ∃ FD FV FX, MidD w0 w p px FD FX D D2 ∧ IsVt w v p FV V ∧ Dj FD FV ∧ Dj FV FX ∧ Bnd FV w0.heap.size w.heap.size
section
variable {w0 w w' : World} {p v px y : Value} {D D2 : Dv} {V V2 : Vt} {A : Nat → Obj → Prop}
theorem MidW.forget (h : MidW A w0 w p v px y D V D2 V2) : MidE w0 w p px D D2 := let ⟨FD, _, FX, _, _, h1, _⟩ := h.parts; ⟨FD, FX, h1⟩
theorem MidT.same (h : MidT w0 w p v px D V D2) (Z : Same w w') : MidT w0 w' p v px D V D2 :=
  let ⟨FD, FS, FX, h1, h2, h3, h4, h5⟩ := h.parts; ⟨FD, FS, FX, h1.same Z, h2.same Z, h3, h4, h5.mono Z.size⟩
theorem MidT.vptr (h : MidT w0 w p v px D V D2) : ∃ b, v = .pointer (some ⟨b, 0, none⟩) := let ⟨_, _, _, _, h2, _⟩ := h.parts; h2.ptr
theorem MidW.vok (h : MidW A w0 w p v px y D V D2 V2) : V.Ok ∧ V.S.Ok := let ⟨_, _, _, _, _, _, h2, _⟩ := h.parts; ⟨h2.ok, let ⟨_, _, _, _, _, _, h3, _⟩ := h2; h3.ok⟩
theorem MidE.vopen (h : MidE w0 w p px D D2) (each : Int) (he : -9223372036854775808 ≤ each ∧ each ≤ 9223372036854775807) (hE : D.vopenE each = 0) :
    Calls Try.prog 73 #[p, .int .i64 each] w fun en w' => ∃ v', en = .returned (.tuple #[v', .int .i64 0]) ∧ MidT w0 w' p v' px D (D.vopened each) D2 := by
  obtain ⟨FD, FX, h1⟩ := h
  refine (vOpen w p FD D each h1.dv (fun k hk => (h1.bd k hk).2) he).mono ?_
  rintro en w' hr
  obtain ⟨v', FV, rfl, I, Z, B⟩ := hr.good hE
  have hz := h1.old.size
  exact ⟨v', rfl, FD, FV, FX, h1.same Z, I, fun i hi hn => by have := (h1.bd i hi).2; have := (B i hn).1; omega, fun i hi hn => by have := (h1.bx i hn).2; have := (B i hi).1; omega, fun k hk => ⟨by have := (B k hk).1; omega, (B k hk).2⟩⟩
theorem MidE.vopenNo (h : MidE w0 w p px D D2) (each : Int) (he : -9223372036854775808 ≤ each ∧ each ≤ 9223372036854775807) (hE : D.vopenE each ≠ 0) :
    Calls Try.prog 73 #[p, .int .i64 each] w (RetSame (.tuple #[.pointer none, .int .i64 (D.vopenE each)]) w) := by
  obtain ⟨FD, FX, h1⟩ := h
  refine (vOpen w p FD D each h1.dv (fun k hk => (h1.bd k hk).2) he).mono ?_
  rintro en w' (⟨_, rfl, Z⟩ | ⟨e, _⟩)
  · exact ⟨rfl, Z⟩
  · exact absurd e hE
theorem MidE.rvopenNo (h : MidE w0 w p px D D2) (each : Int) (he : -9223372036854775808 ≤ each ∧ each ≤ 9223372036854775807) (hE : D2.vopenE each ≠ 0) :
    Calls Try.prog 80 #[px, .int .i64 each] w (RetSame (.tuple #[.pointer none, .int .i64 (D2.vopenE each)]) w) := by
  obtain ⟨FD, FX, h1⟩ := h
  refine (rvOpen w px FX D2 each h1.rd he).mono ?_
  rintro en w' (⟨_, rfl, Z⟩ | ⟨e, _⟩)
  · exact ⟨rfl, Z⟩
  · exact absurd e hE
theorem MidT.rvopen (h : MidT w0 w p v px D V D2) (each : Int) (he : -9223372036854775808 ≤ each ∧ each ≤ 9223372036854775807) (hE : D2.vopenE each = 0) :
    Calls Try.prog 80 #[px, .int .i64 each] w fun en w' => ∃ y, en = .returned (.tuple #[y, .int .i64 0]) ∧ MidW NoA w0 w' p v px y D V D2 (D2.vopened each) := by
  obtain ⟨FD, FS, FX, h1, h2, h3, h4, h5⟩ := h.parts
  refine (rvOpen w px FX D2 each h1.rd he).mono ?_
  rintro en w' (⟨e, _⟩ | ⟨_, y, F, N, rfl, I, Z, B, BN⟩)
  · exact absurd hE e
  have hz := h1.old.size
  refine ⟨y, rfl, FD, FS, FX, F, N, h1.same Z, h2.same Z, I, h3, fun i hi hn => ?_, h4, fun i hi hn => ?_, fun i hi hn => ?_, h5.mono Z.size, fun k hk => ⟨by have := (B k hk).1; omega, (B k hk).2⟩, fun g hg => ⟨fun hf => ?_, fun hf => ?_, fun hf => ?_, (BN g hg).2⟩, fun _ _ x => x.elim⟩
  · have := (h1.bd i hi).2; have := (B i hn).1; omega
  · have := (h5 i hi).2; have := (B i hn).1; omega
  · have := (h1.bx i hi).2; have := (B i hn).1; omega
  · have := (h1.bd g hf).2; have := (BN g hg).1; omega
  · have := (h5 g hf).2; have := (BN g hg).1; omega
  · have := (h1.bx g hf).2; have := (BN g hg).1; omega
theorem MidW.state (h : MidW A w0 w p v px y D V D2 V2) : Calls Try.prog 72 #[v] w fun en w' => ∃ u, en = .returned (.tuple #[u, .bool (decide (0 < V.era))]) ∧ Bytes w' 5 u V.state ∧ Same w w' := by
  obtain ⟨FD, FS, FX, FY, N, h1, h2, _⟩ := h.parts
  exact (vState w v p FS V h2).mono fun en w' ⟨u, e, O, Z⟩ => ⟨u, e, O.bytes, Z⟩
theorem MidW.era (h : MidW A w0 w p v px y D V D2 V2) : Calls Try.prog 77 #[v] w (RetSame (.int .i64 V.era) w) := by
  obtain ⟨FD, FS, FX, FY, N, h1, h2, _⟩ := h.parts
  exact vEra w v p FS V h2
theorem MidW.records (h : MidW A w0 w p v px y D V D2 V2) : Calls Try.prog 76 #[v] w (RetRows V.S.all w) := by
  obtain ⟨FD, FS, FX, FY, N, h1, h2, _⟩ := h.parts
  exact vRecords w v p FS V h2 h1.dv.ptr
theorem MidW.left (h : MidW A w0 w p v px y D V D2 V2) : Calls Try.prog 78 #[v] w (RetSame (.int .i64 ((D.C.length : Int) - 2 * V.each - (V.S.at_ - V.S.from_))) w) := by
  obtain ⟨FD, FS, FX, FY, N, h1, h2, _⟩ := h.parts
  exact vLeft w v p FS FD V D h2 h1.dv
/-- the reference's vault, seen -/
theorem MidW.seen (h : MidW A w0 w p v px y D V D2 V2) : ∃ b xb sb sv e a c l cl, y = .pointer (some ⟨b, 0, none⟩) ∧ px = .pointer (some ⟨xb, 0, none⟩) ∧ w.cell? ⟨b, 0, none⟩ = some (.pointer (some ⟨xb, 0, none⟩)) ∧ w.cell? ⟨b, 1, none⟩ = some (.int .i64 V2.each) ∧ w.cell? ⟨b, 3, none⟩ = some (.int .i64 V2.era) ∧
    w.cell? ⟨b, 4, none⟩ = some sv ∧ w.cell? ⟨b, 5, none⟩ = some (.pointer (some ⟨sb, 0, none⟩)) ∧ w.cell? ⟨sb, 5, none⟩ = some (.slice l V2.S.all.length cl) ∧ w.cell? ⟨sb, 6, none⟩ = some (.int .i64 (V2.S.at_ - V2.S.from_)) ∧ w.cell? ⟨xb, 0, none⟩ = some (.slice a D2.C.length c) ∧
    Bytes w e sv V2.state ∧ Rows2 w 23 (.slice l V2.S.all.length cl) V2.S.all := by
  obtain ⟨FD, FS, FX, FY, N, h1, h2, ⟨b, sp, sv, FQ, e, rfl, hB, hS, _, _, _, hY, _⟩, _⟩ := h.parts
  obtain ⟨sb, lv, rfl, hB8, _, hQ, _⟩ := hS
  obtain ⟨xb, rv, fz, kv, ks, n, rfl, hB5, _, hR, _⟩ := h1.rd
  obtain ⟨a, c, rfl, _, _⟩ := hR.rows.form
  obtain ⟨l, cl, rfl, _, _⟩ := hQ.rows.form
  obtain ⟨c0, c1, c2, c3, c4, c5, c6⟩ := hB.cells
  obtain ⟨d0, d1, d2, d3, d4, d5, d6, d7⟩ := hB8.cells
  exact ⟨b, xb, sb, sv, e, a, c, l, cl, rfl, rfl, c0, c1, c3, c4, c5, d5, d6, hB5.cells.1, hY, hQ.rows⟩
end
theorem r01SameEq (w : World) (e1 e2 : TypeId) (v1 v2 : Value) (l : List UInt8) (h1 : Bytes w e1 v1 l) (h2 : Bytes w e2 v2 l) : Calls Try.prog 29 #[v1, v2] w (RetSame (.bool true) w) := by
  have := r01SameS w e1 e2 v1 v2 l l h1 h2
  rwa [decide_eq_true (rfl : l = l)] at this
theorem rRowsEq (w : World) (e1 e2 : TypeId) (v1 v2 : Value) (l : List (List UInt8)) (h1 : Rows2 w e1 v1 l) (h2 : Rows2 w e2 v2 l) : Calls Try.prog 64 #[v1, v2] w (RetSame (.bool true) w) := by
  have := rSame2 w e1 e2 v1 v2 l l h1 h2
  rwa [decide_eq_true (rfl : l = l)] at this
end Go.Proofs.Ytlhnpicmjjddeaa
namespace Go.Proofs.Ytlhnpicmjjddeaa
open Go.RowKit

set_option maxHeartbeats 6400000 in
set_option maxRecDepth 100000 in
theorem vSame83 {w0 w : World} {p v px y : Value} {D : Dv} {V : Vt} {A : Nat → Obj → Prop} (h : MidW A w0 w p v px y D V D V) : Calls Try.prog 83 #[v, y] w (RetSame (.bool true) w) := by
  have H := hid h
  have hl := h.dok.1
  have hok := h.vok.2.fit
  have he := h.vok.1.each
  obtain ⟨b, xb, sb, sv, e, a, c, l, cl, rfl, rfl, c0, c1, c3, c4, c5, d5, d6, x0, hY, hR⟩ := h.seen
  obtain ⟨⟨pb, rfl⟩, ⟨vb, rfl⟩, _⟩ := h.ptrs
  obtain ⟨sa, sc, rfl, _, _⟩ := hY.form
  have hC : ∀ wz : World, Same w wz → wz.cell? ⟨b, 0, none⟩ = some (.pointer (some ⟨xb, 0, none⟩)) ∧ wz.cell? ⟨b, 1, none⟩ = some (.int .i64 V.each) ∧ wz.cell? ⟨b, 3, none⟩ = some (.int .i64 V.era) ∧
      wz.cell? ⟨b, 4, none⟩ = some (.slice sa V.state.length sc) ∧ wz.cell? ⟨b, 5, none⟩ = some (.pointer (some ⟨sb, 0, none⟩)) ∧ wz.cell? ⟨sb, 5, none⟩ = some (.slice l V.S.all.length cl) ∧ wz.cell? ⟨sb, 6, none⟩ = some (.int .i64 (V.S.at_ - V.S.from_)) ∧ wz.cell? ⟨xb, 0, none⟩ = some (.slice a D.C.length c) := fun wz Z =>
    ⟨(Z.cell (p := ⟨b, 0, none⟩) (World.block_lt_of_cell? w _ c0)).trans c0, (Z.cell (p := ⟨b, 1, none⟩) (World.block_lt_of_cell? w _ c1)).trans c1, (Z.cell (p := ⟨b, 3, none⟩) (World.block_lt_of_cell? w _ c3)).trans c3,
      (Z.cell (p := ⟨b, 4, none⟩) (World.block_lt_of_cell? w _ c4)).trans c4, (Z.cell (p := ⟨b, 5, none⟩) (World.block_lt_of_cell? w _ c5)).trans c5, (Z.cell (p := ⟨sb, 5, none⟩) (World.block_lt_of_cell? w _ d5)).trans d5, (Z.cell (p := ⟨sb, 6, none⟩) (World.block_lt_of_cell? w _ d6)).trans d6,
      (Z.cell (p := ⟨xb, 0, none⟩) (World.block_lt_of_cell? w _ x0)).trans x0⟩
  have HC := hid hC
  have HSt := hid h.state
  have HEr := hid (fun (wz : World) (Z : Same w wz) => (h.same Z).era)
  have HRc := hid (fun (wz : World) (Z : Same w wz) => (h.same Z).records)
  have HLf := hid (fun (wz : World) (Z : Same w wz) => (h.same Z).left)
  have HBe := hid (fun (wz : World) (Z : Same w wz) (u : Value) (hu : Bytes wz 5 u V.state) => r01SameEq wz 5 e u _ V.state hu (hY.same Z))
  have HRe := hid (fun (wz : World) (Z : Same w wz) (u : Value) (hu : Rows2 wz 23 u V.S.all) => rRowsEq wz 23 23 u _ V.S.all hu (hR.same Z))
  clear h hY hR hC c0 c1 c3 c4 c5 d5 d6 x0
  go_enter Try.func83, Try.ntmps83
  go_wp2_with fail
  refine HSt.out.mono ?_
  rintro en w1 ⟨u, rfl, Y1, S1⟩
  obtain ⟨ua, uc, rfl, _, _⟩ := Y1.form
  have S1 := hid S1
  have HB1 := hid (HBe.out w1.drew S1.out.drew _ (Y1.same (Same.refl w1).drew))
  obtain ⟨c0, c1, c3, c4, c5, d5, d6, x0⟩ := HC.out _ S1.out
  have hw1 : IntKind.i64.wrap (2 * V.each) = 2 * V.each := by rw [IntKind.wrap_i64]; omega
  have hw2 : IntKind.i64.wrap ((D.C.length : Int) - 2 * V.each) = (D.C.length : Int) - 2 * V.each := by rw [IntKind.wrap_i64]; omega
  have hw3 : IntKind.i64.wrap ((D.C.length : Int) - 2 * V.each - (V.S.at_ - V.S.from_)) = (D.C.length : Int) - 2 * V.each - (V.S.at_ - V.S.from_) := by rw [IntKind.wrap_i64]; omega
  clear Y1
  go_wp2_with fail
  go_region_held3 (fun w' => w'.cell? ⟨b, 0, none⟩ = some (.pointer (some ⟨xb, 0, none⟩)) ∧ w'.cell? ⟨b, 1, none⟩ = some (.int .i64 V.each) ∧ w'.cell? ⟨b, 3, none⟩ = some (.int .i64 V.era) ∧
      w'.cell? ⟨b, 4, none⟩ = some (.slice sa V.state.length sc) ∧ w'.cell? ⟨b, 5, none⟩ = some (.pointer (some ⟨sb, 0, none⟩)) ∧ w'.cell? ⟨sb, 5, none⟩ = some (.slice l V.S.all.length cl) ∧ w'.cell? ⟨sb, 6, none⟩ = some (.int .i64 (V.S.at_ - V.S.from_)) ∧ w'.cell? ⟨xb, 0, none⟩ = some (.slice a D.C.length c))
    (first | with_reducible exact ⟨by assumption, by assumption, by assumption, by assumption, by assumption, by assumption, by assumption, by assumption⟩ | go_keep)
    (first
      | (go_at_call 29; (with_reducible refine HB1.out.mono ?_); rintro en w2 ⟨rfl, Z2⟩; have Z2 := hid (S1.out.drew.trans Z2); obtain ⟨g0, g1, g3, g4, g5, k5, k6, gx⟩ := HC.out _ Z2.out)
      | (go_at_call 77; (with_reducible refine (HEr.out w2 Z2.out).mono ?_); rintro en w3 ⟨rfl, Z3⟩; have Z3 := hid (Z2.out.trans Z3); obtain ⟨g0', g1', g3', g4', g5', k5', k6', gx'⟩ := HC.out _ Z3.out)
      | (go_at_call 76; (with_reducible refine (HRc.out w3 Z3.out).mono ?_); rintro en w4 ⟨v4, rfl, O4, Z4⟩; obtain ⟨a4, q4, rfl, _, _⟩ := O4.rows.form; have Z4 := hid (Z3.out.trans Z4); have R4 := hid O4.rows; obtain ⟨n0, n1, n3, n4, n5, o5, o6, nx⟩ := HC.out _ Z4.out; clear O4)
      | (go_at_call 64; (with_reducible refine (HRe.out w4 Z4.out _ R4.out).mono ?_); rintro en w5 ⟨rfl, Z5⟩; have Z5 := hid (Z4.out.trans Z5); obtain ⟨n0', n1', n3', n4', n5', o5', o6', nx'⟩ := HC.out _ Z5.out)
      | (go_at_call 78; (with_reducible refine (HLf.out w5 Z5.out).mono ?_); rintro en w6 ⟨rfl, Z6⟩; have Z6 := hid (Z5.out.trans Z6); obtain ⟨r0, r1, r3, r4, r5, s5, s6, rx⟩ := HC.out _ Z6.out))
  go_wp2_with fail
  go_ret
  exact ⟨rfl, Z6.out⟩
end Go.Proofs.Ytlhnpicmjjddeaa
namespace Go.Proofs.Ytlhnpicmjjddeaa
open Go.RowKit Go.ChangeShapes Go.WideShapes Go.Deep

structure KDo where
  (kind n : Int)
  (b : List UInt8)
  (keep : List Int)
def KDoAt (w : World) (g o : Nat) (d : KDo) : Prop :=
  ∃ ab cb eb ak ck ek, w.cell? ⟨g, o, none⟩ = some (.int .i64 d.kind) ∧ w.cell? ⟨g, o + 1, none⟩ = some (.int .i64 d.n) ∧ w.cell? ⟨g, o + 2, none⟩ = some (.slice ab d.b.length cb) ∧ Bytes w eb (.slice ab d.b.length cb) d.b ∧
    w.cell? ⟨g, o + 3, none⟩ = some (.slice ak d.keep.length ck) ∧ Ints w ek (.slice ak d.keep.length ck) d.keep ∧ -9223372036854775808 ≤ d.n ∧ d.n ≤ 9223372036854775807
def KDos (w : World) (v : Value) (n : Nat) : Prop := ∃ ao cap, v = .slice ao n cap ∧ n ≤ cap ∧ cap ≤ maxLen ∧ (n = 0 ∨ ∃ g o, ao = some ⟨g, o, none⟩ ∧ ∀ i, i < n → ∃ d, KDoAt w g (o + i * 4) d)
section
variable {H : Type} {enc : TypeId × Value → H} {w : World} {base : Nat} {held : Bool}
theorem int_cell_wf {n : Nat} {v : Value} {y : DataW H × List MemPlace} {spare : Nat → Bool} (h : DataW.trod enc Try.prog w base spare held n 3 [v] = some y) : ∃ i, v = .int .i64 i ∧ -9223372036854775808 ≤ i ∧ i ≤ 9223372036854775807 := by
  obtain ⟨i, hi, _, hw⟩ := DataW.trod_int Try.underlying3 h
  cases hi
  exact ⟨i, rfl, i64_of_wf hw⟩
theorem open_kdos {t e : TypeId} {fuel : Nat} {a1 : Option Addr} {len1 cap1 : Nat} {x : DataW H × List MemPlace} (ht : Try.prog.underlying t = some (.slice e)) (hs : Try.prog.underlying e = some (.struct (Try.prog.fieldsOf e)))
    (hone : oneCellFields Try.prog (Try.prog.fieldsOf e) = true) (hz : (Try.prog.fieldsOf e).size = 4) (hty : ((Try.prog.fieldsOf e).toList.map (·.type)) = [3, 3, 23, 37]) (hC : Try.prog.cellsOf e = 4)
    (h : DataW.trod enc Try.prog w base (fun _ => true) held fuel t (Value.cells (.slice a1 len1 cap1)).toList = some x) : KDos w (.slice a1 len1 cap1) len1 := by
  obtain ⟨h1, h2, _, h3⟩ := open_structs ht hs hone hz hC (by omega) h
  refine ⟨a1, cap1, rfl, h1, h2, ?_⟩
  rcases h3 with h3 | ⟨g, o, rfl, h3⟩
  · exact .inl h3
  refine .inr ⟨g, o, rfl, fun i hi => ?_⟩
  obtain ⟨n, hn⟩ := h3 i hi
  have key : ∀ j (hj : j < 4), ∃ v y, w.cell? ⟨g, o + i * 4 + j, none⟩ = some v ∧ DataW.trod enc Try.prog w base (fun _ => true) held n ([3, 3, 23, 37][j]'hj) [v] = some y := by
    intro j hj
    obtain ⟨f, hf, ht⟩ := type_at hty j hj
    obtain ⟨v, y, h1, h2⟩ := hn j f hf
    rw [ht] at h2
    exact ⟨v, y, h1, h2⟩
  obtain ⟨v0, y0, e0, t0⟩ := key 0 (by omega)
  obtain ⟨v1, y1, e1, t1⟩ := key 1 (by omega)
  obtain ⟨v2, y2, e2, t2⟩ := key 2 (by omega)
  obtain ⟨v3, y3, e3, t3⟩ := key 3 (by omega)
  obtain ⟨i0, rfl, _⟩ := int_cell_wf t0
  obtain ⟨i1, rfl, w1⟩ := int_cell_wf t1
  obtain ⟨eb, b, hb⟩ := bytes_cell t2
  obtain ⟨ek, ks, hk, hk2⟩ := ints_cell t3
  obtain ⟨ab, cb, rfl, _, _⟩ := hb.form
  obtain ⟨ak, ck, rfl, _, _⟩ := hk.form
  exact ⟨⟨i0, i1, b, ks⟩, ab, cb, eb, ak, ck, ek, e0, e1, e2, hb, e3, hk, w1⟩
theorem open_kdos111 {fuel : Nat} {a1 : Option Addr} {len1 cap1 : Nat} {x : DataW H × List MemPlace} (h : DataW.trod enc Try.prog w base (fun _ => true) held fuel 111 (Value.cells (.slice a1 len1 cap1)).toList = some x) : KDos w (.slice a1 len1 cap1) len1 :=
  open_kdos (t := 111) (e := 113) (by kernel_rfl) (by kernel_rfl) (by kernel_rfl) (by kernel_rfl) (by kernel_rfl) (by kernel_rfl) h
theorem open_kdos127 {fuel : Nat} {a1 : Option Addr} {len1 cap1 : Nat} {x : DataW H × List MemPlace} (h : DataW.trod enc Try.prog w base (fun _ => true) held fuel 127 (Value.cells (.slice a1 len1 cap1)).toList = some x) : KDos w (.slice a1 len1 cap1) len1 :=
  open_kdos (t := 127) (e := 128) (by kernel_rfl) (by kernel_rfl) (by kernel_rfl) (by kernel_rfl) (by kernel_rfl) (by kernel_rfl) h
end
end Go.Proofs.Ytlhnpicmjjddeaa
namespace Go.Proofs.Ytlhnpicmjjddeaa
open Go.RowKit

theorem lFew0 (w0 w : World) (e : TypeId) (v : Value) (l : List Int) (h : Ints w0 e v l) : Calls Try.prog 58 #[v] w fun en w' => ∃ v', en = .returned v' ∧ Ints w0 e v' (l.take 20) ∧ w = w' := by
  obtain ⟨ao, cap, rfl, h1, h2⟩ := h.form
  unfold maxLen at h2
  by_cases hl : 20 < l.length
  · have H := hid (h.head 20 (by omega))
    go_enter Try.func58, Try.ntmps58
    go_wp2_with fail
    go_ret
    exact ⟨_, rfl, H.out, rfl⟩
  · have H := hid h
    have ht : Hid (l.take 20 = l) := List.take_of_length_le (by omega)
    go_enter Try.func58, Try.ntmps58
    go_wp2_with fail
    go_ret
    exact ⟨_, rfl, by rw [ht.out]; exact H.out, rfl⟩
end Go.Proofs.Ytlhnpicmjjddeaa
