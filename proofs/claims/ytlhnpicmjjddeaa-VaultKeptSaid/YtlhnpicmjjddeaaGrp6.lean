/- SCROLL, plainly: what ScrollKept says. No program in sight. SCROLL's statements: Few. What comes in, opened: rows of structs whose fields lie in one cell each. No further condition. STILL: the walk of StillKept. SCROLL: a drive and a scroll of the walk's own. VAULT: a drive and a vault of the walk's own. VAULT, plainly: what VaultKept says. No program in sight. VAULT: lives of layer 10; the walk of VaultNobody. What comes in, opened: rows of steps of layers 8 and 10. No further condition. -/
import Derived.Test.YtlhnpicmjjddeaaGrp5
import Derived.Test.YtlhnpicmjjddeaaGrp1
import Derived.Test.YtlhnpicmjjddeaaGrp3
set_option linter.unusedVariables false
set_option linter.unusedSimpArgs false
namespace Go.Proofs.Ytlhnpicmjjddeaa

structure Kt (D : Dv) (S : Sc) (L : Int) (was mb : List (List UInt8)) : Prop where
  len : D.C.length = 30
  from_ : S.from_ = 2
  till : S.till = 30
  life : S.life = L
  era : S.era = 7
  low : ∀ i : Int, (decF (D.sector i)).right = true → (decF (D.sector i)).life ≤ L
  state : (KsA D S ∧ S.all = was) ∨ (D.off = true ∧ ((D.read 30 7 2 1 0).1 = was ∨ (D.read 30 7 2 1 0).1 = mb))
theorem cutE_250 {b : List UInt8} (h : b.length ≤ 250) {life era seq : Int} (h1 : 1 ≤ life ∧ life ≤ 16777215) (h2 : 0 ≤ era ∧ era ≤ 16777215) (h3 : 1 ≤ seq ∧ seq ≤ 4294967295) : cutE life era seq b = 0 := by
  refine cutE_zero.2 ⟨by unfold nparts; omega, stampOk_iff.2 ⟨h1.1, h1.2, h2.1, h2.2, h3.1, h3.2⟩⟩
theorem read_new (n : Nat) (till era a : Int) (he : 0 ≤ era) : (Dv.new n).read till era a 1 0 = ([], a, 0) := by
  apply read_no
  cases e : (Dv.new n).recAt till era a 1 0
  · rfl
  · obtain ⟨_, ⟨_, h, _⟩, _⟩ := recAt_iff.1 e
    rw [decF_new] at h
    cases h
theorem new_low (n : Nat) (L : Int) : ∀ i : Int, (decF ((Dv.new n).sector i)).right = true → (decF ((Dv.new n).sector i)).life < L := fun i h => by rw [decF_new] at h; cases h
theorem Kt.new : (Dv.new 30).openE 2 30 1 7 = 0 ∧ Kt (Dv.new 30) ((Dv.new 30).opened 2 30 1 7) 1 [] [] := by
  have hl : (Dv.new 30).C.length = 30 := by simp [Dv.new]
  have hf : (0 : Int) ≤ 2 ∧ (2 : Int) ≤ 30 ∧ (30 : Int) ≤ (Dv.new 30).C.length := by rw [hl]; omega
  refine ⟨open_zero hf (by omega) (by omega) (new_low 30 1), hl, rfl, rfl, rfl, rfl, fun i h => Int.le_of_lt (new_low 30 1 i h), .inl ⟨KsA.opened rfl hf (by omega) (new_low 30 1), ?_⟩⟩
  show ((Dv.new 30).read 30 7 2 1 0).1 = []
  rw [read_new _ _ _ _ (by omega)]
theorem Kt.append {D : Dv} {S : Sc} {L : Int} {was mb b : List (List UInt8)} {x : List UInt8} (h : Kt D S L was mb) (hx : x.length ≤ 250) (hL : 1 ≤ L ∧ L ≤ 100) (hn : S.all.length ≤ 2048) :
    (D.off = true ∧ S.append D x = (9, S, D)) ∨ (D.off = false ∧ S.append D x = (10, S, D)) ∨
    (D.off = false ∧ (S.append D x).1 = 0 ∧ Kt (S.append D x).2.2 (S.append D x).2.1 L (was ++ [x]) (was ++ [x])) ∨
    (D.off = false ∧ (S.append D x).1 = 9 ∧ Kt (S.append D x).2.2 (S.append D x).2.1 L was (was ++ [x])) := by
  rcases h.state with ⟨hA, hall⟩ | ⟨ho, _⟩
  · right
    have hc : cutE S.life S.era (S.all.length + 1) x = 0 := cutE_250 hx (by rw [h.life]; omega) (by rw [h.era]; omega) (by omega)
    rcases hA.append hc with e | ⟨e1, e2, ⟨a, e3⟩, e4, _⟩ | ⟨e1, e2, e3, e4⟩
    · exact .inl ⟨hA.on, e⟩
    · right; left
      refine ⟨hA.on, e1, e4.trans h.len, ?_, ?_, ?_, ?_, ?_, .inl ⟨e2, ?_⟩⟩
      · rw [e3]; exact h.from_
      · rw [e3]; exact h.till
      · rw [e3]; exact h.life
      · rw [e3]; exact h.era
      · have := e2.low
        rw [e3] at this
        rw [← h.life]; exact this
      · rw [e3, ← hall]
    · right; right
      refine ⟨hA.on, e1, e3.len.trans h.len, ?_, ?_, ?_, ?_, ?_, .inr ⟨e2, ?_⟩⟩
      · rw [e4]; exact h.from_
      · rw [e4]; exact h.till
      · rw [e4]; exact h.life
      · rw [e4]; exact h.era
      · rw [← h.life]; exact e3.low
      · have := e3.reads
        rw [h.till, h.era, h.from_, hall] at this
        exact this
  · exact .inl ⟨ho, Sc.append_dead (.inr ho)⟩
theorem Kt.fuse {D D' : Dv} {S : Sc} {L : Int} {was mb : List (List UInt8)} (h : Kt D S L was mb) (hC : D'.C = D.C) (ho : D'.off = D.off) : Kt D' S L was mb := by
  have hs := sector_C hC
  refine ⟨by rw [hC]; exact h.len, h.from_, h.till, h.life, h.era, fun i hr => ?_, ?_⟩
  · rw [hs] at hr ⊢; exact h.low i hr
  · rcases h.state with ⟨hA, hall⟩ | ⟨h1, h2⟩
    · exact .inl ⟨hA.of_C hC (ho.trans hA.on), hall⟩
    · refine .inr ⟨ho.trans h1, ?_⟩
      have : D'.read 30 7 2 1 0 = D.read 30 7 2 1 0 := by
        have := read_prefix (D := D) (D' := D') 30 7 28 2 1 0 (by omega) (fun i _ _ => hs i)
        rw [this, read_no (D := D')]
        · simp only [List.append_nil]
        · have := read_stop D 30 7 2 1 0
          rwa [(recAt_congr (hs _) (fun i _ => hs _)).1]
      rw [this]; exact h2
theorem fuse_C (D : Dv) (m : Int) (ks : List Int) : (D.fuse m ks).2.C = D.C ∧ (D.fuse m ks).2.off = D.off := by
  unfold Dv.fuse
  split <;> exact ⟨rfl, rfl⟩
theorem Kt.start {D : Dv} {S : Sc} {L : Int} {was mb : List (List UInt8)} (h : Kt D S L was mb) (hL : 1 ≤ L ∧ L ≤ 100) :
    D.start.openE 2 30 (L + 1) 7 = 0 ∧ Kt D.start (D.start.opened 2 30 (L + 1) 7) (L + 1) (D.start.opened 2 30 (L + 1) 7).all (D.start.opened 2 30 (L + 1) 7).all ∧
      ((D.start.opened 2 30 (L + 1) 7).all = was ∨ (D.start.opened 2 30 (L + 1) 7).all = mb) := by
  have hs : ∀ i, D.start.sector i = D.sector i := fun i => rfl
  have hl : D.start.C.length = 30 := h.len
  have hf : (0 : Int) ≤ 2 ∧ (2 : Int) ≤ 30 ∧ (30 : Int) ≤ D.start.C.length := by rw [hl]; omega
  have hlow : ∀ i : Int, (decF (D.start.sector i)).right = true → (decF (D.start.sector i)).life < L + 1 := fun i hr => by have := h.low i hr; rw [hs]; omega
  refine ⟨open_zero hf (by omega) (by omega) hlow, ⟨hl, rfl, rfl, rfl, rfl, fun i hr => Int.le_of_lt (hlow i hr), .inl ⟨KsA.opened rfl hf (by omega) hlow, rfl⟩⟩, ?_⟩
  have hrd : D.start.read 30 7 2 1 0 = D.read 30 7 2 1 0 := by
    have := read_prefix (D := D) (D' := D.start) 30 7 28 2 1 0 (by omega) (fun i _ _ => hs i)
    rw [this, read_no (D := D.start)]
    · simp only [List.append_nil]
    · have := read_stop D 30 7 2 1 0
      rwa [(recAt_congr (D' := D.start) (hs _) (fun i _ => hs _)).1]
  show (D.start.read 30 7 2 1 0).1 = was ∨ (D.start.read 30 7 2 1 0).1 = mb
  rw [hrd]
  rcases h.state with ⟨hA, hall⟩ | ⟨_, h2⟩
  · left
    have := hA.reads
    rw [h.till, h.era, h.from_] at this
    rw [this]; exact hall
  · exact h2
end Go.Proofs.Ytlhnpicmjjddeaa
namespace Go.Proofs.Ytlhnpicmjjddeaa
open Go.RowKit

theorem lFew (w : World) (e : TypeId) (v : Value) (l : List Int) (h : Ints w e v l) : Calls Try.prog 58 #[v] w (RetI (l.take 20) e w) := by
  obtain ⟨ao, cap, rfl, h1, h2⟩ := h.form
  unfold maxLen at h2
  by_cases hl : 20 < l.length
  · have H := hid (h.head 20 (by omega))
    go_enter Try.func58, Try.ntmps58
    go_wp2_with fail
    go_ret
    exact ⟨_, rfl, H.out, rfl⟩
  · have H := hid h
    have ht : Hid (l.take 20 = l) := List.take_of_length_le (by omega)
    go_enter Try.func58, Try.ntmps58
    go_wp2_with fail
    go_ret
    exact ⟨_, rfl, by rw [ht.out]; exact H.out, rfl⟩
end Go.Proofs.Ytlhnpicmjjddeaa
namespace Go.Proofs.Ytlhnpicmjjddeaa
open Go.RowKit Go.ChangeShapes Go.WideShapes Go.Deep

section
variable {H : Type} {enc : TypeId × Value → H} {w : World} {base : Nat} {held : Bool}
theorem addr_add_add' (a : Addr) (m n : Nat) : (a.add m).add n = a.add (m + n) := by
  unfold Addr.add
  by_cases hm : m = 0
  · subst hm; simp
  · by_cases hn : n = 0
    · subst hn; simp [hm]
    · simp [hm, hn, Nat.add_assoc]
/-- a row of structs: each cell reads by its field's type -/
theorem open_structs {spare : Nat → Bool} {t e : TypeId} {fs : Array Field} {size : Nat} {fuel : Nat} {a1 : Option Addr} {len1 cap1 : Nat} {x : DataW H × List MemPlace} (ht : Try.prog.underlying t = some (.slice e)) (hs : Try.prog.underlying e = some (.struct fs))
    (hone : oneCellFields Try.prog fs = true) (hz : fs.size = size) (hC : Try.prog.cellsOf e = size) (hpos : 0 < size)
    (h : DataW.trod enc Try.prog w base spare held fuel t (Value.cells (.slice a1 len1 cap1)).toList = some x) :
    len1 ≤ cap1 ∧ cap1 ≤ maxLen ∧ (a1 = none → cap1 = 0) ∧ (len1 = 0 ∨ ∃ g o, a1 = some ⟨g, o, none⟩ ∧ ∀ i, i < len1 → ∃ n, ∀ (j : Nat) (f : Field), fs[j]? = some f → ∃ v y, w.cell? ⟨g, o + i * size + j, none⟩ = some v ∧ DataW.trod enc Try.prog w base spare held n f.type [v] = some y) := by
  rcases open_slice ht h with ⟨hcs, _⟩ | ⟨a, len, cap, m, n, D, Pl, hcs, hb, hl, hm, hmm, _, hel⟩
  · simp [Value.cells] at hcs
    obtain ⟨rfl, rfl, rfl⟩ := hcs
    exact ⟨Nat.le_refl _, Nat.zero_le _, fun _ => rfl, .inl rfl⟩
  · simp [Value.cells] at hcs
    obtain ⟨rfl, rfl, rfl⟩ := hcs
    have hlm : len1 ≤ m := by rw [hmm]; split <;> omega
    refine ⟨hl, hm, (fun x => nomatch x), ?_⟩
    rcases Nat.eq_zero_or_pos len1 with h0 | h0
    · exact .inl h0
    right
    have each : ∀ i, i < len1 → ∃ n, ∀ (j : Nat) (f : Field), fs[j]? = some f → ∃ v y, w.cell? (a.add (i * size + j)) = some v ∧ DataW.trod enc Try.prog w base spare held n f.type [v] = some y := by
      intro i hi
      obtain ⟨cs', hc, hr⟩ := hel i (by omega)
      rw [hC] at hc
      obtain ⟨_, hlen, hcell⟩ := World.cells?_some hc
      obtain ⟨n', hn'⟩ := struct_cells hs hone hr (by rw [hz]; exact hlen)
      refine ⟨n', fun j f hj => ?_⟩
      obtain ⟨v, y, h1, h2⟩ := hn' j f hj
      have hj' : j < size := by rw [← hz]; exact (Array.getElem?_eq_some_iff.1 hj).1
      refine ⟨v, y, ?_, h2⟩
      have hcj := hcell j hj'
      rw [addr_add_add'] at hcj
      rw [hcj, ← h1]
    obtain ⟨n0, hn0⟩ := each 0 h0
    obtain ⟨v0, y0, hc0, _⟩ := hn0 0 fs[0] (Array.getElem?_eq_getElem (by omega))
    have ha : a.add (0 * size + 0) = a := by simp [Addr.add]
    rw [ha] at hc0
    obtain ⟨cur, e', fr, hbk, hsp, _⟩ := block_of_cell hc0
    obtain ⟨b, o, sp⟩ := a
    simp only at hsp hbk
    subst hsp
    refine ⟨b, o, rfl, fun i hi => ?_⟩
    obtain ⟨n', hn'⟩ := each i hi
    refine ⟨n', fun j f hj => ?_⟩
    obtain ⟨v, y, h1, h2⟩ := hn' j f hj
    have hadd : (⟨b, o, none⟩ : Addr).add (i * size + j) = ⟨b, o + i * size + j, none⟩ := by unfold Addr.add; split <;> simp_all <;> omega
    rw [hadd] at h1
    exact ⟨v, y, h1, h2⟩
theorem ints_cell {n : Nat} {v : Value} {y : DataW H × List MemPlace} {spare : Nat → Bool} (h : DataW.trod enc Try.prog w base spare held n 37 [v] = some y) : ∃ e l, Ints w e v l ∧ ∀ k ∈ l, -9223372036854775808 ≤ k ∧ k ≤ 9223372036854775807 := by
  have hv : ∃ ao len cap, v = .slice ao len cap := by
    rcases open_slice (show Try.prog.underlying 37 = some (.slice 3) by kernel_rfl) h with ⟨hcs, _⟩ | ⟨a, len, cap, m, n, D, Pl, hcs, _⟩
    · cases hcs; exact ⟨_, _, _, rfl⟩
    · cases hcs; exact ⟨_, _, _, rfl⟩
  obtain ⟨ao, len, cap, rfl⟩ := hv
  obtain ⟨e, l, h1, h2⟩ := open_intl (t := 37) (by kernel_rfl) (show DataW.trod enc Try.prog w base spare held n 37 (Value.cells (.slice ao len cap)).toList = some y from h)
  exact ⟨e, l, h1, h2⟩

/-! a row of still's steps -/
structure SDo where
  (kind n at_ each life era : Int)
  (b : List UInt8)
  (keep : List Int)
def SDoAt (w : World) (g o : Nat) (d : SDo) : Prop :=
  ∃ ab cb eb ak ck ek, w.cell? ⟨g, o, none⟩ = some (.int .i64 d.kind) ∧ w.cell? ⟨g, o + 1, none⟩ = some (.int .i64 d.n) ∧ w.cell? ⟨g, o + 2, none⟩ = some (.int .i64 d.at_) ∧ w.cell? ⟨g, o + 3, none⟩ = some (.int .i64 d.each) ∧
    w.cell? ⟨g, o + 4, none⟩ = some (.int .i64 d.life) ∧ w.cell? ⟨g, o + 5, none⟩ = some (.int .i64 d.era) ∧ w.cell? ⟨g, o + 6, none⟩ = some (.slice ab d.b.length cb) ∧ Bytes w eb (.slice ab d.b.length cb) d.b ∧
    w.cell? ⟨g, o + 7, none⟩ = some (.slice ak d.keep.length ck) ∧ Ints w ek (.slice ak d.keep.length ck) d.keep ∧ ∀ k ∈ d.keep, -9223372036854775808 ≤ k ∧ k ≤ 9223372036854775807
def SDos (w : World) (v : Value) (n : Nat) : Prop := ∃ ao cap, v = .slice ao n cap ∧ n ≤ cap ∧ cap ≤ maxLen ∧ (n = 0 ∨ ∃ g o, ao = some ⟨g, o, none⟩ ∧ ∀ i, i < n → ∃ d, SDoAt w g (o + i * 8) d)
theorem fields86 : Try.prog.underlying 86 = some (.struct (Try.prog.fieldsOf 86)) := by kernel_rfl
theorem one86 : oneCellFields Try.prog (Try.prog.fieldsOf 86) = true := by kernel_rfl
theorem size86 : (Try.prog.fieldsOf 86).size = 8 := by kernel_rfl
theorem types86 : ((Try.prog.fieldsOf 86).toList.map (·.type)) = [3, 3, 3, 3, 3, 3, 23, 37] := by kernel_rfl
theorem cells86 : Try.prog.cellsOf 86 = 8 := by kernel_rfl
theorem slice84 : Try.prog.underlying 84 = some (.slice 86) := by kernel_rfl
theorem Ints.form' {w : World} {e : TypeId} {v : Value} {l : List Int} (h : Ints w e v l) : ∃ ao cap, v = .slice ao l.length cap := by obtain ⟨ao, cap, rfl, _⟩ := h.form; exact ⟨ao, cap, rfl⟩
theorem open_sdos {fuel : Nat} {a1 : Option Addr} {len1 cap1 : Nat} {x : DataW H × List MemPlace}
    (h : DataW.trod enc Try.prog w base (fun _ => true) held fuel 84 (Value.cells (.slice a1 len1 cap1)).toList = some x) : SDos w (.slice a1 len1 cap1) len1 := by
  obtain ⟨h1, h2, _, h3⟩ := open_structs slice84 fields86 one86 size86 cells86 (by omega) h
  refine ⟨a1, cap1, rfl, h1, h2, ?_⟩
  rcases h3 with h3 | ⟨g, o, rfl, h3⟩
  · exact .inl h3
  refine .inr ⟨g, o, rfl, fun i hi => ?_⟩
  obtain ⟨n, hn⟩ := h3 i hi
  have key : ∀ j (hj : j < 8), ∃ v y, w.cell? ⟨g, o + i * 8 + j, none⟩ = some v ∧ DataW.trod enc Try.prog w base (fun _ => true) held n ([3, 3, 3, 3, 3, 3, 23, 37][j]'hj) [v] = some y := by
    intro j hj
    obtain ⟨f, hf, ht⟩ := type_at types86 j hj
    obtain ⟨v, y, h1, h2⟩ := hn j f hf
    rw [ht] at h2
    exact ⟨v, y, h1, h2⟩
  obtain ⟨v0, y0, e0, t0⟩ := key 0 (by omega)
  obtain ⟨v1, y1, e1, t1⟩ := key 1 (by omega)
  obtain ⟨v2, y2, e2, t2⟩ := key 2 (by omega)
  obtain ⟨v3, y3, e3, t3⟩ := key 3 (by omega)
  obtain ⟨v4, y4, e4, t4⟩ := key 4 (by omega)
  obtain ⟨v5, y5, e5, t5⟩ := key 5 (by omega)
  obtain ⟨v6, y6, e6, t6⟩ := key 6 (by omega)
  obtain ⟨v7, y7, e7, t7⟩ := key 7 (by omega)
  obtain ⟨i0, rfl⟩ := int_cell t0
  obtain ⟨i1, rfl⟩ := int_cell t1
  obtain ⟨i2, rfl⟩ := int_cell t2
  obtain ⟨i3, rfl⟩ := int_cell t3
  obtain ⟨i4, rfl⟩ := int_cell t4
  obtain ⟨i5, rfl⟩ := int_cell t5
  obtain ⟨eb, b, hb⟩ := bytes_cell t6
  obtain ⟨ek, ks, hk, hk2⟩ := ints_cell t7
  obtain ⟨ab, cb, rfl, _, _⟩ := hb.form
  obtain ⟨ak, ck, rfl, _, _⟩ := hk.form
  exact ⟨⟨i0, i1, i2, i3, i4, i5, b, ks⟩, ab, cb, eb, ak, ck, ek, e0, e1, e2, e3, e4, e5, e6, hb, e7, hk, hk2⟩
end
end Go.Proofs.Ytlhnpicmjjddeaa
namespace Go.Proofs.Ytlhnpicmjjddeaa
open Go.RowKit

/-- bytes that lie apart from the drive -/
def Apart (F : Nat → Prop) (w : World) (v : Value) (l : List UInt8) : Prop := ∃ e, Bytes w e v l ∧ ∀ g, homeOf v = some g → ¬ F g
theorem Apart.keep {F : Nat → Prop} {w w' : World} {v : Value} {l : List UInt8} (h : Apart F w v l) (k : Keep F w w') : Apart F w' v l := let ⟨e, h1, h2⟩ := h; ⟨e, h1.keep k h2, h2⟩
theorem Apart.same {F : Nat → Prop} {w w' : World} {v : Value} {l : List UInt8} (h : Apart F w v l) (k : Same w w') : Apart F w' v l := let ⟨e, h1, h2⟩ := h; ⟨e, h1.same k, h2⟩
theorem Apart.grow {F F' : Nat → Prop} {w w' : World} {v : Value} {l : List UInt8} (h : Apart F w v l) (k : Keep F w w') (g : Grow F F' w w') : Apart F' w' v l :=
  let ⟨e, h1, h2⟩ := h; ⟨e, h1.keep k h2, fun b hb hm => by
    rcases g b hm with x | x
    · exact h2 b hb x
    · have := Sl.home_lt h1 hb; omega⟩
theorem Apart.low {F : Nat → Prop} {w w' : World} {e : TypeId} {v : Value} {l : List UInt8} (h : Bytes w e v l) (S : Same w w') {c : Nat} (B : Bnd F w.heap.size c) : Apart F w' v l :=
  ⟨e, h.same S, fun g hg hm => by have := Sl.home_lt h hg; have := (B g hm).1; omega⟩
theorem Apart.fresh {F : Nat → Prop} {w : World} {b : Nat} {v : Value} {l : List UInt8} (h : OwnB w b v l) {a : Nat} (B : Bnd F a b) : Apart F w v l :=
  ⟨_, h.bytes, fun g hg hm => by have := h.fresh g hg; have := (B g hm).2; omega⟩
/-- a drive of the walk's own -/
structure Mid (w0 w : World) (p : Value) (F : Nat → Prop) (D : Dv) : Prop where
  dv : IsDv w p F D
  bnd : Bnd F w0.heap.size w.heap.size
  old : Same w0 w
theorem Mid.same {w0 w w' : World} {p : Value} {F : Nat → Prop} {D : Dv} (h : Mid w0 w p F D) (S : Same w w') : Mid w0 w' p F D := ⟨h.dv.same S, h.bnd.mono S.size, h.old.trans S⟩
theorem Mid.fuse {w0 w : World} {p : Value} {F : Nat → Prop} {D : Dv} (h : Mid w0 w p F D) (ho : D.off = false) (v : Value) (e : TypeId) (m : Int) (ks : List Int) (hk : Ints w e v ks) (hl : ks.length ≤ 1000) (hm : -9223372036854775808 ≤ m ∧ m ≤ 9223372036854775807) :
    Calls Try.prog 35 #[p, .int .i64 m, v] w fun en w' => ∃ F' D', en = .returned (.int .i64 0) ∧ Keep F w w' ∧ Grow F F' w w' ∧ Mid w0 w' p F' D' ∧ D'.C = D.C ∧ D'.off = false := by
  have hf : D.fuse m ks = (0, { D with fused := decide (0 ≤ m), left := m, keep := ks }) := by unfold Dv.fuse; rw [ho]; rfl
  refine (dFuseD w p v F D m ks e h.dv hk hl hm).mono ?_
  rintro en w' ⟨F', rfl, K, I, G⟩
  rw [hf] at I ⊢
  exact ⟨F', _, rfl, K, G, ⟨I, h.bnd.grow G K.size h.old.size, h.old.keepOwn K (fun k hk => (h.bnd k hk).1)⟩, rfl, ho⟩
theorem Mid.save {w0 w : World} {p : Value} {F : Nat → Prop} {D : Dv} (h : Mid w0 w p F D) {E L : Int} {was : List UInt8} (hK : Kp D E L was) (he : 0 ≤ E ∧ E ≤ 50) (hL : 1 ≤ L ∧ L ≤ 50) (v : Value) (e : TypeId) (b : List UInt8) (hb : Bytes w e v b) (hl : b.length ≤ 700) :
    Calls Try.prog 56 #[p, .int .i64 2, .int .i64 9, .int .i64 L, .int .i64 (E + 1), v] w fun en w' => ∃ r D', en = .returned (.int .i64 r) ∧ Keep F w w' ∧ Mid w0 w' p F D' ∧
      ((r = 0 ∧ Kp D'.start (E + 1) (L + 1) b) ∨ (r = 9 ∧ (Kp D'.start E (L + 1) was ∨ Kp D'.start (E + 1) (L + 1) b))) := by
  refine (sSave w p v F D 2 9 L (E + 1) b e h.dv (fun k hk => (h.bnd k hk).2) hb (by omega) (by omega) (by omega)).mono ?_
  rintro en w' ⟨rfl, K, I⟩
  exact ⟨_, _, rfl, K, ⟨I, h.bnd.mono K.size, h.old.keepOwn K (fun k hk => (h.bnd k hk).1)⟩, hK.save he hL hl⟩
theorem Mid.start {w0 w : World} {p : Value} {F : Nat → Prop} {D : Dv} (h : Mid w0 w p F D) :
    Calls Try.prog 41 #[p] w fun en w' => en = .returned (.int .i64 0) ∧ Keep F w w' ∧ Mid w0 w' p F D.start := by
  refine (dStartD w p F D h.dv).mono ?_
  rintro en w' ⟨rfl, K, I⟩
  exact ⟨rfl, K, ⟨I, h.bnd.mono K.size, h.old.keepOwn K (fun k hk => (h.bnd k hk).1)⟩⟩
theorem Kp.load' {D : Dv} {era life : Int} {was : List UInt8} (h : Kp D era life was) (he : 0 ≤ era) : D.loadR 2 9 = (era, was, if era = 0 then 11 else 0) := by
  rw [h.load he]
  by_cases h0 : era = 0
  · rw [if_pos h0, if_pos h0, h.nought h0, h0]
  · rw [if_neg h0, if_neg h0]
theorem Mid.load {w0 w : World} {p : Value} {F : Nat → Prop} {D : Dv} (h : Mid w0 w p F D) {E L : Int} {was : List UInt8} (hK : Kp D E L was) (he : 0 ≤ E) :
    Calls Try.prog 55 #[p, .int .i64 2, .int .i64 9] w fun en w' => ∃ a c, en = .returned (.tuple #[.int .i64 E, .slice a was.length c, .int .i64 (if E = 0 then 11 else 0)]) ∧ Apart F w' (.slice a was.length c) was ∧ Mid w0 w' p F D ∧ Same w w' := by
  refine (sLoad w p F D 2 9 h.dv (by omega)).mono ?_
  rw [hK.load' he]
  rintro en w' ⟨v, rfl, O, S⟩
  obtain ⟨a, c, rfl, _, _⟩ := O.bytes.form
  exact ⟨a, c, rfl, Apart.fresh O h.bnd, h.same S, S⟩
theorem Apart.form {F : Nat → Prop} {w : World} {v : Value} {l : List UInt8} (h : Apart F w v l) : ∃ a c, v = .slice a l.length c := by obtain ⟨e, h1, _⟩ := h; obtain ⟨a, c, rfl, _, _⟩ := h1.form; exact ⟨a, c, rfl⟩
theorem Apart.eqs {F : Nat → Prop} {w : World} {v1 v2 : Value} {l : List UInt8} (h1 : Apart F w v1 l) (h2 : Apart F w v2 l) : Calls Try.prog 29 #[v1, v2] w (RetSame (.bool true) w) := by
  obtain ⟨e1, q1, _⟩ := h1
  obtain ⟨e2, q2, _⟩ := h2
  have := r01SameS w e1 e2 v1 v2 l l q1 q2
  simpa using this

set_option maxHeartbeats 12800000 in
set_option maxRecDepth 100000 in
theorem stillKeptWalk (w : World) (v : Value) (n : Nat) (hv : SDos w v n) : Calls Try.prog 14 #[v] w (RetSame (.bool true) w) := by
  have H9 := hid sLives
  have HCt := hid r01Cut0
  have HFe := hid lFew
  obtain ⟨ao, cap, rfl, hn1, hn2, hrows⟩ := hv
  unfold maxLen at hn2
  have HRows := hid hrows
  clear hrows
  go_enter Try.func14, Try.ntmps14
  go_wp2_with fail
  refine (dNewD w 20 (by omega) (by omega)).mono ?_
  rintro en w1 ⟨p, F, rfl, S1, D1, B1⟩
  have M1 : Hid (Mid w w1 p F (Dv.new 20)) := ⟨D1, B1, S1⟩
  obtain ⟨pb, hp⟩ : ∃ b, p = .pointer (some ⟨b, 0, none⟩) := by obtain ⟨b, _, _, _, e, _⟩ := D1; exact ⟨b, e⟩
  subst hp
  clear D1 B1 S1
  go_wp2_with fail
  go_loopw [5, 6, 7, 8, 9] (fun era life wv mb i wr => ∃ (k E : Nat) (F : Nat → Prop) (D : Dv) (wb : List UInt8), k ≤ 30 ∧ E ≤ k ∧ i = .int .i64 k ∧ era = .int .i64 E ∧ life = .int .i64 ((k : Int) + 1) ∧ Mid w wr (.pointer (some ⟨pb, 0, none⟩)) F D ∧ Kp D E ((k : Int) + 1) wb ∧ Apart F wr wv wb) (fun _ _ _ _ i _ => 30 - (intOf i).toNat)
  case atStart => exact ⟨0, 0, F, _, [], by omega, by omega, rfl, rfl, rfl, M1.out, Kp.new, ⟨23, Bytes.nil _ _, fun g hg => by cases hg⟩⟩
  case round =>
    obtain ⟨k, E, F, D, wb, hk, hE, rfl, rfl, rfl, M, KP, AW⟩ := hrel
    have M := hid M
    have KP := hid KP
    obtain ⟨wa, wc, rfl⟩ := AW.form
    have AW := hid AW
    by_cases hlt : k < n
    case neg =>
      go_wp2_with fail
      refine (H9.out _).mono ?_
      rintro en w3 ⟨rfl, S3⟩
      go_wp2_with fail
      go_ret
      exact ⟨rfl, M.out.old.trans S3⟩
    by_cases hlt2 : k < 30
    case neg =>
      go_wp2_with fail
      refine (H9.out _).mono ?_
      rintro en w3 ⟨rfl, S3⟩
      go_wp2_with fail
      go_ret
      exact ⟨rfl, M.out.old.trans S3⟩
    obtain ⟨g, o, hao, hall⟩ : ∃ g o, ao = some ⟨g, o, none⟩ ∧ ∀ i, i < n → ∃ d, SDoAt w g (o + i * 8) d := by
      rcases HRows.out with h0 | h0
      · omega
      · exact h0
    subst hao
    obtain ⟨d, ab, cb, eb, ak, ck, ek, c0, _, _, _, _, _, c6, hb, c7, hks, hks2⟩ := hall k hlt
    have hg0 := World.block_lt_of_cell? w _ c0
    have C0 := hid (fun (wz : World) (S : Same w wz) => (S.cell (p := ⟨g, o + k * 8, none⟩) hg0).trans c0)
    have C7 := hid (fun (wz : World) (S : Same w wz) => (S.cell (p := ⟨g, o + k * 8 + 7, none⟩) hg0).trans c7)
    have c6' : wr.cell? ⟨g, o + k * 8 + 6, none⟩ = _ := (M.out.old.cell (p := ⟨g, o + k * 8 + 6, none⟩) hg0).trans c6
    have HB := hid hb
    have HK := hid hks
    have hgr : g < wr.heap.size := Nat.lt_of_lt_of_le hg0 M.out.old.size
    clear hall c0 c6 c7 hb hks hks2
    go_wp2_with fail
    refine (show Calls Try.prog 22 #[_, .int .i64 700] wr _ from HCt.out w wr eb _ d.b 700 HB.out).mono ?_
    rintro en w1' ⟨v1, rfl, B1, rfl⟩
    have hle : (d.b.take 700).length ≤ 700 := by rw [List.length_take]; omega
    have B1 := hid B1
    clear c6' HB
    generalize d.b.take 700 = b at *
    obtain ⟨a1, c1, rfl, _, _⟩ := B1.out.form
    have hoff := KP.out.on
    go_wp2_with fail
    refine (M.out.fuse hoff _ 3 (-1) [] (Ints.nil _ _) (by simp) (by omega)).mono ?_
    rintro en w2 ⟨F2, D2, rfl, K2, G2, M2, hC2, ho2⟩
    have M2 := hid M2
    have KP2 := hid (KP.out.of_C hC2 ho2)
    have AW2 := hid (AW.out.grow K2 G2)
    clear M KP AW K2 G2 hC2 hoff
    have c0 := C0.out w2 M2.out.old
    have hgr : g < w2.heap.size := Nat.lt_of_lt_of_le hg0 M2.out.old.size
    by_cases hk1 : d.kind = 1
    case pos =>
      rw [hk1] at c0
      have c7 := C7.out w2 M2.out.old
      clear C0 C7 hk1
      go_wp2_with fail
      refine (HFe.out w2 ek _ d.keep (HK.out.same M2.out.old)).mono ?_
      rintro en w2' ⟨kv, rfl, HKI, rfl⟩
      have hlk : (d.keep.take 20).length ≤ 1000 := by rw [List.length_take]; omega
      generalize d.keep.take 20 = ks at *
      obtain ⟨ka, kc, rfl, _, _⟩ := HKI.form
      have HKI := hid HKI
      go_wp2_with fail
      refine (M2.out.fuse ho2 _ ek 0 ks HKI.out hlk (by omega)).mono ?_
      rintro en w3 ⟨F3, D3, rfl, K3, G3, M3, hC3, ho3⟩
      have M3 := hid M3
      have KP3 := hid (KP2.out.of_C hC3 ho3)
      have AW3 := hid (AW2.out.grow K3 G3)
      clear M2 KP2 AW2 K3 G3 hC3 ho2 ho3 c0 c7 HK HKI
      go_wp2_with fail
      have AB := hid (Apart.low B1.out M3.out.old M3.out.bnd)
      refine (M3.out.save KP3.out (by omega) (by omega) _ _ b (B1.out.same M3.out.old) hle).mono ?_
      rintro en w4 ⟨r, D4, rfl, K4, M4, hR⟩
      have M4 := hid M4
      have AW4 := hid (AW3.out.keep K4)
      have AB4 := hid (AB.out.keep K4)
      clear M3 KP3 AW3 AB K4
      rcases hR with ⟨rfl, hK⟩ | ⟨rfl, hK | hK⟩
      · have KP4 := hid hK
        clear hK
        go_wp2_with fail
        refine M4.out.start.mono ?_
        rintro en w5 ⟨rfl, K5, M5⟩
        have M5 := hid M5
        have AW5 := hid (AW4.out.keep K5)
        have AB5 := hid (AB4.out.keep K5)
        clear M4 AW4 AB4 K5
        go_wp2_with fail
        refine (M5.out.load KP4.out (by omega)).mono ?_
        rintro en w6 ⟨la, lc, rfl, AL6, M6, S6⟩
        have M6 := hid M6
        have AL6 := hid AL6
        have AW6 := hid (AW5.out.same S6)
        have AB6 := hid (AB5.out.same S6)
        clear M5 AW5 AB5 S6
        rw [if_neg (by omega : ¬ (E : Int) + 1 = 0)]
        have x1 : ((E : Int) + 1 == (E : Int) + 1 + 1) = false := by rw [beq_eq_false_iff_ne]; omega
        have x2 : decide ((0 : Int) < (E : Int) + 1) = true := by rw [decide_eq_true_eq]; omega
        go_wp2_with fail
        refine (AL6.out.eqs AB6.out).mono ?_
        rintro en w7 ⟨rfl, S7⟩
        go_wp2_with fail
        go_roundw
        case rel => exact ⟨k + 1, E + 1, _, _, b, by omega, by omega, by go_num, by go_num, by go_num, M6.out.same S7, KP4.out, AB6.out.same S7⟩
        case measure => simp [intOf]; omega
      · have KP4 := hid hK
        clear hK
        go_wp2_with fail
        refine M4.out.start.mono ?_
        rintro en w5 ⟨rfl, K5, M5⟩
        have M5 := hid M5
        have AW5 := hid (AW4.out.keep K5)
        have AB5 := hid (AB4.out.keep K5)
        clear M4 AW4 AB4 K5
        go_wp2_with fail
        refine (M5.out.load KP4.out (by omega)).mono ?_
        rintro en w6 ⟨la, lc, rfl, AL6, M6, S6⟩
        have M6 := hid M6
        have AL6 := hid AL6
        have AW6 := hid (AW5.out.same S6)
        have AB6 := hid (AB5.out.same S6)
        clear M5 AW5 AB5 S6
        have x1 : ((E : Int) == (E : Int) + 1) = false := by rw [beq_eq_false_iff_ne]; omega
        by_cases hE0 : (E : Int) = 0
        case pos =>
          rw [if_pos hE0]
          obtain rfl : E = 0 := by omega
          clear x1 hE0
          go_wp2_with fail
          refine (AL6.out.eqs AW6.out).mono ?_
          rintro en w7 ⟨rfl, S7⟩
          go_wp2_with fail
          go_roundw
          case rel => exact ⟨k + 1, 0, _, _, wb, by omega, by omega, by go_num, rfl, by go_num, M6.out.same S7, KP4.out, AW6.out.same S7⟩
          case measure => simp [intOf]; omega
        case neg =>
          rw [if_neg hE0]
          have x2 : decide ((0 : Int) < (E : Int)) = true := by rw [decide_eq_true_eq]; omega
          have x3 : decide (0 < E) = true := by rw [decide_eq_true_eq]; omega
          have x4 : 0 < E := by omega
          go_wp2_with fail
          refine (AL6.out.eqs AW6.out).mono ?_
          rintro en w7 ⟨rfl, S7⟩
          go_wp2_with fail
          go_roundw
          case rel => exact ⟨k + 1, E, _, _, wb, by omega, by omega, by go_num, rfl, by go_num, M6.out.same S7, KP4.out, AW6.out.same S7⟩
          case measure => simp [intOf]; omega
      · have KP4 := hid hK
        clear hK
        go_wp2_with fail
        refine M4.out.start.mono ?_
        rintro en w5 ⟨rfl, K5, M5⟩
        have M5 := hid M5
        have AW5 := hid (AW4.out.keep K5)
        have AB5 := hid (AB4.out.keep K5)
        clear M4 AW4 AB4 K5
        go_wp2_with fail
        refine (M5.out.load KP4.out (by omega)).mono ?_
        rintro en w6 ⟨la, lc, rfl, AL6, M6, S6⟩
        have M6 := hid M6
        have AL6 := hid AL6
        have AW6 := hid (AW5.out.same S6)
        have AB6 := hid (AB5.out.same S6)
        clear M5 AW5 AB5 S6
        rw [if_neg (by omega : ¬ (E : Int) + 1 = 0)]
        have y1 : ((E : Int) + 1 == (E : Int) + 1 + 1) = false := by rw [beq_eq_false_iff_ne]; omega
        have x2 : decide ((0 : Int) < (E : Int) + 1) = true := by rw [decide_eq_true_eq]; omega
        go_wp2_with fail
        refine (AL6.out.eqs AB6.out).mono ?_
        rintro en w7 ⟨rfl, S7⟩
        have M7 := hid (M6.out.same S7)
        have AL7 := hid (AL6.out.same S7)
        clear M6 AL6 AW6 AB6 S7
        go_wp2_with fail
        refine (AL7.out.eqs AL7.out).mono ?_
        rintro en w8 ⟨rfl, S8⟩
        go_wp2_with fail
        go_roundw
        case rel => exact ⟨k + 1, E + 1, _, _, b, by omega, by omega, by go_num, by go_num, by go_num, M7.out.same S8, KP4.out, AL7.out.same S8⟩
        case measure => simp [intOf]; omega
    case neg =>
      have hk2 : (d.kind == 1) = false := by rw [beq_eq_false_iff_ne]; exact hk1
      clear C0 C7 hk1 HK
      go_wp2_with fail
      have AB := hid (Apart.low B1.out M2.out.old M2.out.bnd)
      refine (M2.out.save KP2.out (by omega) (by omega) _ _ b (B1.out.same M2.out.old) hle).mono ?_
      rintro en w4 ⟨r, D4, rfl, K4, M4, hR⟩
      have M4 := hid M4
      have AW4 := hid (AW2.out.keep K4)
      have AB4 := hid (AB.out.keep K4)
      clear M2 KP2 AW2 AB K4
      rcases hR with ⟨rfl, hK⟩ | ⟨rfl, hK | hK⟩
      · have KP4 := hid hK
        clear hK
        go_wp2_with fail
        refine M4.out.start.mono ?_
        rintro en w5 ⟨rfl, K5, M5⟩
        have M5 := hid M5
        have AW5 := hid (AW4.out.keep K5)
        have AB5 := hid (AB4.out.keep K5)
        clear M4 AW4 AB4 K5
        go_wp2_with fail
        refine (M5.out.load KP4.out (by omega)).mono ?_
        rintro en w6 ⟨la, lc, rfl, AL6, M6, S6⟩
        have M6 := hid M6
        have AL6 := hid AL6
        have AW6 := hid (AW5.out.same S6)
        have AB6 := hid (AB5.out.same S6)
        clear M5 AW5 AB5 S6
        rw [if_neg (by omega : ¬ (E : Int) + 1 = 0)]
        have x1 : ((E : Int) + 1 == (E : Int) + 1 + 1) = false := by rw [beq_eq_false_iff_ne]; omega
        have x2 : decide ((0 : Int) < (E : Int) + 1) = true := by rw [decide_eq_true_eq]; omega
        go_wp2_with fail
        refine (AL6.out.eqs AB6.out).mono ?_
        rintro en w7 ⟨rfl, S7⟩
        go_wp2_with fail
        go_roundw
        case rel => exact ⟨k + 1, E + 1, _, _, b, by omega, by omega, by go_num, by go_num, by go_num, M6.out.same S7, KP4.out, AB6.out.same S7⟩
        case measure => simp [intOf]; omega
      · have KP4 := hid hK
        clear hK
        go_wp2_with fail
        refine M4.out.start.mono ?_
        rintro en w5 ⟨rfl, K5, M5⟩
        have M5 := hid M5
        have AW5 := hid (AW4.out.keep K5)
        have AB5 := hid (AB4.out.keep K5)
        clear M4 AW4 AB4 K5
        go_wp2_with fail
        refine (M5.out.load KP4.out (by omega)).mono ?_
        rintro en w6 ⟨la, lc, rfl, AL6, M6, S6⟩
        have M6 := hid M6
        have AL6 := hid AL6
        have AW6 := hid (AW5.out.same S6)
        have AB6 := hid (AB5.out.same S6)
        clear M5 AW5 AB5 S6
        have x1 : ((E : Int) == (E : Int) + 1) = false := by rw [beq_eq_false_iff_ne]; omega
        by_cases hE0 : (E : Int) = 0
        case pos =>
          rw [if_pos hE0]
          obtain rfl : E = 0 := by omega
          clear x1 hE0
          go_wp2_with fail
          refine (AL6.out.eqs AW6.out).mono ?_
          rintro en w7 ⟨rfl, S7⟩
          go_wp2_with fail
          go_roundw
          case rel => exact ⟨k + 1, 0, _, _, wb, by omega, by omega, by go_num, rfl, by go_num, M6.out.same S7, KP4.out, AW6.out.same S7⟩
          case measure => simp [intOf]; omega
        case neg =>
          rw [if_neg hE0]
          have x2 : decide ((0 : Int) < (E : Int)) = true := by rw [decide_eq_true_eq]; omega
          have x3 : decide (0 < E) = true := by rw [decide_eq_true_eq]; omega
          have x4 : 0 < E := by omega
          go_wp2_with fail
          refine (AL6.out.eqs AW6.out).mono ?_
          rintro en w7 ⟨rfl, S7⟩
          go_wp2_with fail
          go_roundw
          case rel => exact ⟨k + 1, E, _, _, wb, by omega, by omega, by go_num, rfl, by go_num, M6.out.same S7, KP4.out, AW6.out.same S7⟩
          case measure => simp [intOf]; omega
      · have KP4 := hid hK
        clear hK
        go_wp2_with fail
        refine M4.out.start.mono ?_
        rintro en w5 ⟨rfl, K5, M5⟩
        have M5 := hid M5
        have AW5 := hid (AW4.out.keep K5)
        have AB5 := hid (AB4.out.keep K5)
        clear M4 AW4 AB4 K5
        go_wp2_with fail
        refine (M5.out.load KP4.out (by omega)).mono ?_
        rintro en w6 ⟨la, lc, rfl, AL6, M6, S6⟩
        have M6 := hid M6
        have AL6 := hid AL6
        have AW6 := hid (AW5.out.same S6)
        have AB6 := hid (AB5.out.same S6)
        clear M5 AW5 AB5 S6
        rw [if_neg (by omega : ¬ (E : Int) + 1 = 0)]
        have y1 : ((E : Int) + 1 == (E : Int) + 1 + 1) = false := by rw [beq_eq_false_iff_ne]; omega
        have x2 : decide ((0 : Int) < (E : Int) + 1) = true := by rw [decide_eq_true_eq]; omega
        go_wp2_with fail
        refine (AL6.out.eqs AB6.out).mono ?_
        rintro en w7 ⟨rfl, S7⟩
        have M7 := hid (M6.out.same S7)
        have AL7 := hid (AL6.out.same S7)
        clear M6 AL6 AW6 AB6 S7
        go_wp2_with fail
        refine (AL7.out.eqs AL7.out).mono ?_
        rintro en w8 ⟨rfl, S8⟩
        go_wp2_with fail
        go_roundw
        case rel => exact ⟨k + 1, E + 1, _, _, b, by omega, by omega, by go_num, by go_num, by go_num, M7.out.same S8, KP4.out, AL7.out.same S8⟩
        case measure => simp [intOf]; omega
end Go.Proofs.Ytlhnpicmjjddeaa
namespace Go.Proofs.Ytlhnpicmjjddeaa
open Go.RowKit

/-- a row of rows of the call's own; its rows lie anywhere but in M, and in no new block -/
def OwnN (w : World) (M : Nat → Prop) (base : Nat) (v : Value) (ls : List (List UInt8)) : Prop :=
  ∃ us, w.ownsRow base 23 1 v ls.length us ∧ ∀ i (h : i < ls.length) u, us[i]? = some u → (∃ e', Bytes w e' u ls[i]) ∧ ∀ g, homeOf u = some g → ¬ M g ∧ g < base
theorem OwnN.nil (w : World) (M : Nat → Prop) (base : Nat) : OwnN w M base (.slice none 0 0) [] := ⟨[], World.ownsRow_nil w base 23 1, fun _ h => absurd h (Nat.not_lt_zero _)⟩
theorem OwnN.same {w w' : World} {M : Nat → Prop} {base : Nat} {v : Value} {ls : List (List UInt8)} (h : OwnN w M base v ls) (S : Same w w') : OwnN w' M base v ls :=
  let ⟨us, h1, h2⟩ := h; ⟨us, owns_keep h1 S fun _ _ x => x, fun i hi u hu => let ⟨⟨e', hb⟩, hn⟩ := h2 i hi u hu; ⟨⟨e', hb.same S⟩, hn⟩⟩
theorem OwnN.lt {w : World} {M : Nat → Prop} {base : Nat} {v : Value} {ls : List (List UInt8)} (h : OwnN w M base v ls) : ∀ k, v.ownBlock = some k → base ≤ k ∧ k < w.heap.size := fun k e => let ⟨_, h1, _⟩ := h; World.ownsRow.lt h1 k e
theorem OwnN.rows2N {w : World} {M : Nat → Prop} {base : Nat} {v : Value} {ls : List (List UInt8)} (h : OwnN w M base v ls) (hM : ∀ k, M k → k < base) : Rows2N M w 23 v ls := by
  obtain ⟨us, h1, h2⟩ := h
  refine ⟨us, by have := h1.1; omega, Sl.of_owns h1, fun g hg hm => ?_, fun i hi u hu => ⟨(h2 i hi u hu).1, fun g hg => ((h2 i hi u hu).2 g hg).1⟩⟩
  have := (World.ownsRow.lt h1 g (home_own hg)).1
  have := hM g hm
  omega
theorem wpList_append_n {P : Program} {w : World} {ops : Array Oper} {rest : List Oper} {o : Oper} {a : Act} {Q : Exit → Act → World → Prop} (hgd : o.guard = none) (s x : Operand)
    (t : TypeId) (T : RowTy P t 23 1 24 (.slice none 0 0)) (ho : o.op = .call { callee := .builtin .append, args := #[s, x], argTypes := #[t, t] })
    {M : Nat → Prop} {base : Nat} {v : Value} {ls : List (List UInt8)} (hown : OwnN w M base v ls) {e' : TypeId} {y : Value} {us : List Value} {rs : List (List UInt8)} (hy : Sl w e' 1 y rs.length us)
    (hr : ∀ i (h : i < rs.length) u, us[i]? = some u → (∃ e2, Bytes w e2 u rs[i]) ∧ ∀ g, homeOf u = some g → ¬ M g ∧ g < base) (hs : a.eval s = v) (hx : a.eval x = y)
    (hb : ls.length + rs.length ≤ 1000000) (hbase : base ≤ w.heap.size)
    (h : ∀ v' w', OwnN w' M base v' (ls ++ rs) → Keep (fun k => v.ownBlock = some k) w w' → wpList P ops Q rest (a.put o.dst v') w') : wpList P ops Q (o :: rest) a w := by
  obtain ⟨us0, h1, h2⟩ := id hown
  have hul : us.length = rs.length := by have := hy.1; omega
  refine wpList_append_sl hgd s x T ho h1 hy hs hx ?_ (by unfold maxLen; omega) (by omega) hbase ?_
  · intro u hu
    obtain ⟨i, hi, rfl⟩ := List.mem_iff_getElem.1 hu
    obtain ⟨⟨e2, hb2⟩, _⟩ := hr i (by omega) _ (List.getElem?_eq_getElem hi)
    exact hb2.one
  · intro v' w' h3 h4
    have K : Keep (fun k => v.ownBlock = some k) w w' := (Keep.refl _ w).grown h4 fun k e => .inl e
    refine h v' w' ⟨us0 ++ us, by rw [List.length_append]; exact h3, ?_⟩ K
    have h0 : us0.length = ls.length := by have := h1.1; omega
    intro i hi u hu
    rw [List.length_append] at hi
    rcases Nat.lt_or_ge i ls.length with hl | hl
    · rw [List.getElem?_append_left (by omega)] at hu
      rw [List.getElem_append_left hl]
      obtain ⟨⟨e2, q1⟩, q2⟩ := h2 i hl u hu
      exact ⟨⟨e2, q1.keep K fun g hg hm => by have := (q2 g hg).2; have := (hown.lt g hm).1; omega⟩, q2⟩
    · rw [List.getElem?_append_right (by omega), h0] at hu
      rw [List.getElem_append_right hl]
      obtain ⟨⟨e2, q1⟩, q2⟩ := hr (i - ls.length) (by omega) u hu
      exact ⟨⟨e2, q1.keep K fun g hg hm => by have := (q2 g hg).2; have := (hown.lt g hm).1; omega⟩, q2⟩
/-- rows that lie apart, as a source of an append -/
theorem Rows2N.src {w : World} {M : Nat → Prop} {e : TypeId} {v : Value} {rs : List (List UInt8)} (h : Rows2N M w e v rs) {base : Nat} (hb : w.heap.size ≤ base) :
    ∃ us, Sl w e 1 v rs.length us ∧ ∀ i (h : i < rs.length) u, us[i]? = some u → (∃ e2, Bytes w e2 u rs[i]) ∧ ∀ g, homeOf u = some g → ¬ M g ∧ g < base :=
  let ⟨us, _, h2, _, h4⟩ := h
  ⟨us, h2, fun i hi u hu => ⟨(h4 i hi u hu).1, fun g hg => ⟨(h4 i hi u hu).2 g hg, by obtain ⟨e2, hb2⟩ := (h4 i hi u hu).1; have := Sl.home_lt hb2 hg; omega⟩⟩⟩
theorem Rows2N.same {M : Nat → Prop} {w w' : World} {e : TypeId} {v : Value} {ls : List (List UInt8)} (h : Rows2N M w e v ls) (S : Same w w') : Rows2N M w' e v ls := h.keep (S.keep M)
theorem Rows2N.nil (M : Nat → Prop) (w : World) (e : TypeId) : Rows2N M w e (.slice none 0 0) [] := ⟨[], rfl, Sl.nil w e 1, (fun g h => by simp [homeOf] at h), fun i h => absurd h (Nat.not_lt_zero i)⟩

/-- a drive and a scroll of the walk's own -/
structure MidS (w0 w : World) (p s : Value) (F : Nat → Prop) (D : Dv) (S : Sc) : Prop where
  parts : ∃ FD FS, IsDv w p FD D ∧ IsSc w s p FS S ∧ (∀ i, FD i → ¬ FS i) ∧ (∀ i, F i ↔ (FD i ∨ FS i))
  bnd : Bnd F w0.heap.size w.heap.size
  old : Same w0 w
theorem MidS.same {w0 w w' : World} {p s : Value} {F : Nat → Prop} {D : Dv} {S : Sc} (h : MidS w0 w p s F D S) (Z : Same w w') : MidS w0 w' p s F D S :=
  let ⟨FD, FS, h1, h2, h3, h4⟩ := h.parts; ⟨⟨FD, FS, h1.same Z, h2.same Z, h3, h4⟩, h.bnd.mono Z.size, h.old.trans Z⟩
theorem MidS.ok {w0 w : World} {p s : Value} {F : Nat → Prop} {D : Dv} {S : Sc} (h : MidS w0 w p s F D S) : S.Ok := let ⟨_, _, _, h2, _⟩ := h.parts; h2.ok
theorem MidS.dok {w0 w : World} {p s : Value} {F : Nat → Prop} {D : Dv} {S : Sc} (h : MidS w0 w p s F D S) : D.Ok := let ⟨_, _, h1, _⟩ := h.parts; h1.ok
theorem MidS.sptr {w0 w : World} {p s : Value} {F : Nat → Prop} {D : Dv} {S : Sc} (h : MidS w0 w p s F D S) : ∃ b, s = .pointer (some ⟨b, 0, none⟩) := let ⟨_, _, _, h2, _⟩ := h.parts; h2.ptr
theorem MidS.append {w0 w : World} {p s : Value} {F : Nat → Prop} {D : Dv} {S : Sc} (h : MidS w0 w p s F D S) (v : Value) (e : TypeId) (b : List UInt8) (hb : Bytes w e v b) (hl : b.length ≤ 20000) (hnb : ∀ g, homeOf v = some g → ¬ F g) :
    Calls Try.prog 69 #[s, v] w fun en w' => ∃ F', en = .returned (.int .i64 (S.append D b).1) ∧ Keep F w w' ∧ Grow F F' w w' ∧ MidS w0 w' p s F' (S.append D b).2.2 (S.append D b).2.1 := by
  obtain ⟨FD, FS, h1, h2, h3, h4⟩ := h.parts
  refine (cAppend w s p v FD FS D S b e h1 h2 h3 (fun k hk => (h.bnd k ((h4 k).2 (.inl hk))).2) hb hl (fun g hg hn => hnb g hg ((h4 g).2 (.inl hn)))).mono ?_
  rintro en w' ⟨FS', rfl, K, I, J, G⟩
  have K' : Keep F w w' := K.weak' fun i hi => (h4 i).2 hi
  have G' : Grow F (fun i => FD i ∨ FS' i) w w' := fun i hi => by
    rcases hi with hi | hi
    · exact .inl ((h4 i).2 (.inl hi))
    · exact (G i hi).imp (fun x => (h4 i).2 (.inr x)) id
  refine ⟨fun i => FD i ∨ FS' i, rfl, K', G', ⟨FD, FS', I, J, fun i hi hn => ?_, fun i => Iff.rfl⟩, h.bnd.grow G' K.size h.old.size, h.old.keepOwn K' fun k hk => (h.bnd k hk).1⟩
  rcases G i hn with x | x
  · exact h3 i hi x
  · have := (h.bnd i ((h4 i).2 (.inl hi))).2; omega
theorem MidS.fuse {w0 w : World} {p s : Value} {F : Nat → Prop} {D : Dv} {S : Sc} (h : MidS w0 w p s F D S) (v : Value) (e : TypeId) (m : Int) (ks : List Int) (hk : Ints w e v ks) (hl : ks.length ≤ 1000) (hm : -9223372036854775808 ≤ m ∧ m ≤ 9223372036854775807) :
    Calls Try.prog 35 #[p, .int .i64 m, v] w fun en w' => ∃ F', en = .returned (.int .i64 (D.fuse m ks).1) ∧ Keep F w w' ∧ Grow F F' w w' ∧ MidS w0 w' p s F' (D.fuse m ks).2 S := by
  obtain ⟨FD, FS, h1, h2, h3, h4⟩ := h.parts
  refine (dFuseD w p v FD D m ks e h1 hk hl hm).mono ?_
  rintro en w' ⟨FD', rfl, K, I, G⟩
  have K' : Keep F w w' := K.weak' fun i hi => (h4 i).2 (.inl hi)
  have G' : Grow F (fun i => FD' i ∨ FS i) w w' := fun i hi => by
    rcases hi with hi | hi
    · exact (G i hi).imp (fun x => (h4 i).2 (.inl x)) id
    · exact .inl ((h4 i).2 (.inr hi))
  refine ⟨fun i => FD' i ∨ FS i, rfl, K', G', ⟨FD', FS, I, h2.keep K (fun i hi hn => h3 i hn hi), fun i hi hn => ?_, fun i => Iff.rfl⟩, h.bnd.grow G' K.size h.old.size, h.old.keepOwn K' fun k hk => (h.bnd k hk).1⟩
  rcases G i hi with x | x
  · exact h3 i x hn
  · have := (h.bnd i ((h4 i).2 (.inr hn))).2; omega
theorem MidS.start {w0 w : World} {p s : Value} {F : Nat → Prop} {D : Dv} {S : Sc} (h : MidS w0 w p s F D S) :
    Calls Try.prog 41 #[p] w fun en w' => en = .returned (.int .i64 0) ∧ Keep F w w' ∧ MidS w0 w' p s F D.start S := by
  obtain ⟨FD, FS, h1, h2, h3, h4⟩ := h.parts
  refine (dStartD w p FD D h1).mono ?_
  rintro en w' ⟨rfl, K, I⟩
  have K' : Keep F w w' := K.weak' fun i hi => (h4 i).2 (.inl hi)
  exact ⟨rfl, K', ⟨FD, FS, I, h2.keep K (fun i hi hn => h3 i hn hi), h3, h4⟩, h.bnd.mono K.size, h.old.keepOwn K' fun k hk => (h.bnd k hk).1⟩
theorem MidS.open {w0 w : World} {p s : Value} {F : Nat → Prop} {D : Dv} {S : Sc} (h : MidS w0 w p s F D S) (a b life era : Int) (hE : D.openE a b life era = 0) :
    Calls Try.prog 61 #[p, .int .i64 a, .int .i64 b, .int .i64 life, .int .i64 era] w fun en w' => ∃ s' F', en = .returned (.tuple #[s', .int .i64 0]) ∧ Same w w' ∧ Grow F F' w w' ∧ MidS w0 w' p s' F' D (D.opened a b life era) := by
  obtain ⟨FD, FS, h1, h2, h3, h4⟩ := h.parts
  refine (cOpen w p FD D a b life era h1 (fun k hk => (h.bnd k ((h4 k).2 (.inl hk))).2)).mono ?_
  rintro en w' hr
  obtain ⟨s', FS', rfl, I, Z, B⟩ := hr.good hE
  have G' : Grow F (fun i => FD i ∨ FS' i) w w' := fun i hi => by
    rcases hi with hi | hi
    · exact .inl ((h4 i).2 (.inl hi))
    · exact .inr (B i hi)
  exact ⟨s', fun i => FD i ∨ FS' i, rfl, Z, G', ⟨FD, FS', h1.same Z, I, fun i hi hn => by have h5 := (h.bnd i ((h4 i).2 (.inl hi))).2; have h6 := (B i hn).1; omega, fun i => Iff.rfl⟩, h.bnd.grow G' Z.size h.old.size, h.old.trans Z⟩
theorem MidS.first {w0 w : World} {p : Value} {F : Nat → Prop} {D : Dv} (h : Mid w0 w p F D) (a b life era : Int) (hE : D.openE a b life era = 0) :
    Calls Try.prog 61 #[p, .int .i64 a, .int .i64 b, .int .i64 life, .int .i64 era] w fun en w' => ∃ s' F', en = .returned (.tuple #[s', .int .i64 0]) ∧ Same w w' ∧ MidS w0 w' p s' F' D (D.opened a b life era) := by
  refine (cOpen w p F D a b life era h.dv (fun k hk => (h.bnd k hk).2)).mono ?_
  rintro en w' hr
  obtain ⟨s', FS', rfl, I, Z, B⟩ := hr.good hE
  have G' : Grow F (fun i => F i ∨ FS' i) w w' := fun i hi => hi.imp id (B i)
  exact ⟨s', fun i => F i ∨ FS' i, rfl, Z, ⟨F, FS', h.dv.same Z, I, fun i hi hn => by have h5 := (h.bnd i hi).2; have h6 := (B i hn).1; omega, fun i => Iff.rfl⟩, h.bnd.grow G' Z.size h.old.size, h.old.trans Z⟩
theorem MidS.records {w0 w : World} {p s : Value} {F : Nat → Prop} {D : Dv} {S : Sc} (h : MidS w0 w p s F D S) :
    Calls Try.prog 65 #[s] w fun en w' => ∃ a c, en = .returned (.slice a S.all.length c) ∧ Rows2N F w' 23 (.slice a S.all.length c) S.all ∧ Same w w' := by
  obtain ⟨FD, FS, h1, h2, h3, h4⟩ := h.parts
  refine (cRecords w s p FS S h2 h1.ptr).mono ?_
  rintro en w' ⟨v, rfl, O, Z⟩
  obtain ⟨a, c, rfl, _, _⟩ := O.rows.form
  exact ⟨a, c, rfl, O.rows2N fun k hk => (h.bnd k hk).2, Z⟩
theorem MidS.live {w0 w : World} {p s : Value} {F : Nat → Prop} {D : Dv} {S : Sc} (h : MidS w0 w p s F D S) : Calls Try.prog 37 #[p] w (RetSame (.bool !D.off) w) := by
  obtain ⟨FD, FS, h1, _⟩ := h.parts
  exact dLiveD w p FD D h1
theorem Rows2N.sames {M M' : Nat → Prop} {w : World} {e e' : TypeId} {v v' : Value} {ls ls' : List (List UInt8)} (h : Rows2N M w e v ls) (h' : Rows2N M' w e' v' ls') : Calls Try.prog 64 #[v, v'] w (RetSame (.bool (decide (ls = ls'))) w) :=
  rSame2 w e e' v v' ls ls' h.rows h'.rows
theorem Rows2N.form {M : Nat → Prop} {w : World} {e : TypeId} {v : Value} {ls : List (List UInt8)} (h : Rows2N M w e v ls) : ∃ a c, v = .slice a ls.length c := let ⟨a, c, h1, _⟩ := h.rows.form; ⟨a, c, h1⟩
end Go.Proofs.Ytlhnpicmjjddeaa
namespace Go.Proofs.Ytlhnpicmjjddeaa
open Go.RowKit

/-- a drive and a vault of the walk's own -/
structure MidV (w0 w : World) (p v : Value) (F : Nat → Prop) (D : Dv) (V : Vt) : Prop where
  parts : ∃ FD FV, IsDv w p FD D ∧ IsVt w v p FV V ∧ (∀ i, FD i → ¬ FV i) ∧ (∀ i, F i ↔ (FD i ∨ FV i))
  bnd : Bnd F w0.heap.size w.heap.size
  old : Same w0 w
section
variable {w0 w : World} {p v : Value} {F : Nat → Prop} {D : Dv} {V : Vt}
theorem MidV.same {w' : World} (h : MidV w0 w p v F D V) (Z : Same w w') : MidV w0 w' p v F D V :=
  let ⟨FD, FV, h1, h2, h3, h4⟩ := h.parts; ⟨⟨FD, FV, h1.same Z, h2.same Z, h3, h4⟩, h.bnd.mono Z.size, h.old.trans Z⟩
theorem MidV.ok (h : MidV w0 w p v F D V) : V.Ok := let ⟨_, _, _, h2, _⟩ := h.parts; h2.ok
theorem MidV.vptr (h : MidV w0 w p v F D V) : ∃ b, v = .pointer (some ⟨b, 0, none⟩) := let ⟨_, _, _, h2, _⟩ := h.parts; h2.ptr
theorem MidV.sok (h : MidV w0 w p v F D V) : V.S.Ok := let ⟨_, _, _, h2, _⟩ := h.parts; let ⟨_, _, _, _, _, _, h3, _⟩ := h2; h3.ok
theorem MidV.of_retV {w' : World} {en : Ending} {r : Int × Vt × Dv} {FD FV : Nat → Prop} (h : MidV w0 w p v F D V) (h3 : ∀ i, FD i → ¬ FV i) (h4 : ∀ i, F i ↔ (FD i ∨ FV i)) (hr : RetV r v p FD FV w en w') :
    ∃ F', en = .returned (.int .i64 r.1) ∧ Keep F w w' ∧ Grow F F' w w' ∧ MidV w0 w' p v F' r.2.2 r.2.1 := by
  obtain ⟨FV', rfl, K, I, J, G⟩ := hr
  have K' : Keep F w w' := K.weak' fun i hi => (h4 i).2 hi
  have G' : Grow F (fun i => FD i ∨ FV' i) w w' := fun i hi => by
    rcases hi with hi | hi
    · exact .inl ((h4 i).2 (.inl hi))
    · exact (G i hi).imp (fun x => (h4 i).2 (.inr x)) id
  refine ⟨fun i => FD i ∨ FV' i, rfl, K', G', ⟨FD, FV', I, J, fun i hi hn => ?_, fun i => Iff.rfl⟩, h.bnd.grow G' K.size h.old.size, h.old.keepOwn K' fun k hk => (h.bnd k hk).1⟩
  rcases G i hn with x | x
  · exact h3 i hi x
  · have := (h.bnd i ((h4 i).2 (.inl hi))).2; omega
theorem MidV.append (h : MidV w0 w p v F D V) (u : Value) (e : TypeId) (b : List UInt8) (hb : Bytes w e u b) (hl : b.length ≤ 20000) (hnb : ∀ g, homeOf u = some g → ¬ F g) :
    Calls Try.prog 74 #[v, u] w fun en w' => ∃ F', en = .returned (.int .i64 (V.append D b).1) ∧ Keep F w w' ∧ Grow F F' w w' ∧ MidV w0 w' p v F' (V.append D b).2.2 (V.append D b).2.1 := by
  obtain ⟨FD, FV, h1, h2, h3, h4⟩ := h.parts
  exact (vAppend w v p u FD FV D V b e h1 h2 h3 (fun k hk => (h.bnd k ((h4 k).2 (.inl hk))).2) (fun k hk => (h.bnd k ((h4 k).2 (.inr hk))).2) hb hl (fun g hg hn => hnb g hg ((h4 g).2 (.inl hn)))).mono fun en w' hr => h.of_retV h3 h4 hr
theorem MidV.compact (h : MidV w0 w p v F D V) (u : Value) (e : TypeId) (b : List UInt8) (hb : Bytes w e u b) (hl : b.length ≤ 20000) (hnb : ∀ g, homeOf u = some g → ¬ F g)
    (hE : V.ready D = 0 → V.life < 16777214 → (D.save 0 V.each V.life (V.era + 1) b).1 = 0 → V.era + 1 ≤ 16777215 ∧ (D.save 0 V.each V.life (V.era + 1) b).2.openE (2 * V.each) (D.save 0 V.each V.life (V.era + 1) b).2.C.length (V.life + 1) (V.era + 1) = 0) :
    Calls Try.prog 75 #[v, u] w fun en w' => ∃ F', en = .returned (.int .i64 (V.compact D b).1) ∧ Keep F w w' ∧ Grow F F' w w' ∧ MidV w0 w' p v F' (V.compact D b).2.2 (V.compact D b).2.1 := by
  obtain ⟨FD, FV, h1, h2, h3, h4⟩ := h.parts
  exact (vCompact w v p u FD FV D V b e h1 h2 h3 (fun k hk => (h.bnd k ((h4 k).2 (.inl hk))).2) (fun k hk => (h.bnd k ((h4 k).2 (.inr hk))).2) hb hl (fun g hg hn => hnb g hg ((h4 g).2 (.inl hn))) hE).mono fun en w' hr => h.of_retV h3 h4 hr
theorem MidV.fuse (h : MidV w0 w p v F D V) (u : Value) (e : TypeId) (m : Int) (ks : List Int) (hk : Ints w e u ks) (hl : ks.length ≤ 1000) (hm : -9223372036854775808 ≤ m ∧ m ≤ 9223372036854775807) :
    Calls Try.prog 35 #[p, .int .i64 m, u] w fun en w' => ∃ F', en = .returned (.int .i64 (D.fuse m ks).1) ∧ Keep F w w' ∧ Grow F F' w w' ∧ MidV w0 w' p v F' (D.fuse m ks).2 V := by
  obtain ⟨FD, FV, h1, h2, h3, h4⟩ := h.parts
  refine (dFuseD w p u FD D m ks e h1 hk hl hm).mono ?_
  rintro en w' ⟨FD', rfl, K, I, G⟩
  have K' : Keep F w w' := K.weak' fun i hi => (h4 i).2 (.inl hi)
  have G' : Grow F (fun i => FD' i ∨ FV i) w w' := fun i hi => by
    rcases hi with hi | hi
    · exact (G i hi).imp (fun x => (h4 i).2 (.inl x)) id
    · exact .inl ((h4 i).2 (.inr hi))
  refine ⟨fun i => FD' i ∨ FV i, rfl, K', G', ⟨FD', FV, I, h2.keep K (fun i hi hn => h3 i hn hi), fun i hi hn => ?_, fun i => Iff.rfl⟩, h.bnd.grow G' K.size h.old.size, h.old.keepOwn K' fun k hk => (h.bnd k hk).1⟩
  rcases G i hi with x | x
  · exact h3 i x hn
  · have := (h.bnd i ((h4 i).2 (.inr hn))).2; omega
theorem MidV.start (h : MidV w0 w p v F D V) :
    Calls Try.prog 41 #[p] w fun en w' => en = .returned (.int .i64 0) ∧ Keep F w w' ∧ MidV w0 w' p v F D.start V := by
  obtain ⟨FD, FV, h1, h2, h3, h4⟩ := h.parts
  refine (dStartD w p FD D h1).mono ?_
  rintro en w' ⟨rfl, K, I⟩
  have K' : Keep F w w' := K.weak' fun i hi => (h4 i).2 (.inl hi)
  exact ⟨rfl, K', ⟨FD, FV, I, h2.keep K (fun i hi hn => h3 i hn hi), h3, h4⟩, h.bnd.mono K.size, h.old.keepOwn K' fun k hk => (h.bnd k hk).1⟩
theorem RetVOpen.good {each : Int} {en : Ending} {w' : World} (h : RetVOpen D p each w en w') (he : D.vopenE each = 0) :
    ∃ v F, en = .returned (.tuple #[v, .int .i64 0]) ∧ IsVt w' v p F (D.vopened each) ∧ Same w w' ∧ Bnd F w.heap.size w'.heap.size := by
  rcases h with ⟨h, _⟩ | ⟨_, h⟩
  · exact absurd he h
  · exact h
theorem MidV.open (h : MidV w0 w p v F D V) (each : Int) (hE : D.vopenE each = 0) (he : -9223372036854775808 ≤ each ∧ each ≤ 9223372036854775807) :
    Calls Try.prog 73 #[p, .int .i64 each] w fun en w' => ∃ v' F', en = .returned (.tuple #[v', .int .i64 0]) ∧ Same w w' ∧ Grow F F' w w' ∧ MidV w0 w' p v' F' D (D.vopened each) := by
  obtain ⟨FD, FV, h1, h2, h3, h4⟩ := h.parts
  refine (vOpen w p FD D each h1 (fun k hk => (h.bnd k ((h4 k).2 (.inl hk))).2) he).mono ?_
  rintro en w' hr
  obtain ⟨v', FV', rfl, I, Z, B⟩ := hr.good hE
  have G' : Grow F (fun i => FD i ∨ FV' i) w w' := fun i hi => by
    rcases hi with hi | hi
    · exact .inl ((h4 i).2 (.inl hi))
    · exact .inr (B i hi)
  exact ⟨v', fun i => FD i ∨ FV' i, rfl, Z, G', ⟨FD, FV', h1.same Z, I, fun i hi hn => by have h5 := (h.bnd i ((h4 i).2 (.inl hi))).2; have h6 := (B i hn).1; omega, fun i => Iff.rfl⟩, h.bnd.grow G' Z.size h.old.size, h.old.trans Z⟩
theorem MidV.first (h : Mid w0 w p F D) (each : Int) (hE : D.vopenE each = 0) (he : -9223372036854775808 ≤ each ∧ each ≤ 9223372036854775807) :
    Calls Try.prog 73 #[p, .int .i64 each] w fun en w' => ∃ v' F', en = .returned (.tuple #[v', .int .i64 0]) ∧ Same w w' ∧ MidV w0 w' p v' F' D (D.vopened each) := by
  refine (vOpen w p F D each h.dv (fun k hk => (h.bnd k hk).2) he).mono ?_
  rintro en w' hr
  obtain ⟨v', FV', rfl, I, Z, B⟩ := hr.good hE
  have G' : Grow F (fun i => F i ∨ FV' i) w w' := fun i hi => hi.imp id (B i)
  exact ⟨v', fun i => F i ∨ FV' i, rfl, Z, ⟨F, FV', h.dv.same Z, I, fun i hi hn => by have h5 := (h.bnd i hi).2; have h6 := (B i hn).1; omega, fun i => Iff.rfl⟩, h.bnd.grow G' Z.size h.old.size, h.old.trans Z⟩
theorem MidV.records (h : MidV w0 w p v F D V) :
    Calls Try.prog 76 #[v] w fun en w' => ∃ a c, en = .returned (.slice a V.S.all.length c) ∧ Rows2N F w' 23 (.slice a V.S.all.length c) V.S.all ∧ Same w w' := by
  obtain ⟨FD, FV, h1, h2, h3, h4⟩ := h.parts
  refine (vRecords w v p FV V h2 h1.ptr).mono ?_
  rintro en w' ⟨u, rfl, O, Z⟩
  obtain ⟨a, c, rfl, _, _⟩ := O.rows.form
  exact ⟨a, c, rfl, O.rows2N fun k hk => (h.bnd k hk).2, Z⟩
theorem MidV.state (h : MidV w0 w p v F D V) :
    Calls Try.prog 72 #[v] w fun en w' => ∃ a c, en = .returned (.tuple #[.slice a V.state.length c, .bool (decide (0 < V.era))]) ∧ Apart F w' (.slice a V.state.length c) V.state ∧ Bytes w' 5 (.slice a V.state.length c) V.state ∧ Same w w' := by
  obtain ⟨FD, FV, h1, h2, h3, h4⟩ := h.parts
  refine (vState w v p FV V h2).mono ?_
  rintro en w' ⟨u, rfl, O, Z⟩
  obtain ⟨a, c, rfl, _, _⟩ := O.bytes.form
  exact ⟨a, c, rfl, Apart.fresh O h.bnd, O.bytes, Z⟩
theorem MidV.era (h : MidV w0 w p v F D V) : Calls Try.prog 77 #[v] w (RetSame (.int .i64 V.era) w) := by
  obtain ⟨FD, FV, h1, h2, _⟩ := h.parts
  exact vEra w v p FV V h2
theorem MidV.live (h : MidV w0 w p v F D V) : Calls Try.prog 37 #[p] w (RetSame (.bool !D.off) w) := by
  obtain ⟨FD, FV, h1, _⟩ := h.parts
  exact dLiveD w p FD D h1
end
theorem b1_apart {w0 w : World} {F : Nat → Prop} (B : Bnd F w0.heap.size w.heap.size) : ∀ g, homeOf (.slice (some ⟨w.heap.size, 0, none⟩) 1 1) = some g → ¬ F g := fun g hg hn => by
  simp [homeOf] at hg
  have := (B g hn).2
  omega
theorem Bnd.alloc {F : Nat → Prop} {a : Nat} {w : World} (B : Bnd F a w.heap.size) (o : Obj) : Bnd F a (w.alloc o).heap.size := B.mono (by simp)
end Go.Proofs.Ytlhnpicmjjddeaa
namespace Go.Proofs.Ytlhnpicmjjddeaa

/-- which sectors a write leaves: the elder ones, or those that were written -/
theorem write_sector (D : Dv) (at_ : Int) (ls : List (List UInt8)) (i : Int) : ((D.write at_ ls).2).sector i = D.sector i ∨ ∃ c ∈ ls, ((D.write at_ ls).2).sector i = c := by
  unfold Dv.write
  split
  · exact .inl rfl
  split
  · exact .inl rfl
  split
  · exact .inl rfl
  show (D.wrote at_ ls).sector i = D.sector i ∨ ∃ c ∈ ls, (D.wrote at_ ls).sector i = c
  unfold Dv.sector
  by_cases h0 : 0 ≤ i
  · rw [if_pos h0, if_pos h0]
    have hC : (D.wrote at_ ls).C = landed D.C at_.toNat ls D.keeps ls.length := rfl
    rw [hC, List.getD_eq_getElem?_getD, List.getD_eq_getElem?_getD, landed_at]
    split
    · rename_i h
      right
      obtain ⟨h1, h2, h3, h4⟩ := h
      have hl : i.toNat - at_.toNat < ls.length := by omega
      exact ⟨ls[i.toNat - at_.toNat], List.getElem_mem hl, by rw [List.getElem?_eq_getElem hl]; rfl⟩
    · exact .inl rfl
  · rw [if_neg h0, if_neg h0]; exact .inl rfl
theorem cutL_mem {life era seq : Int} {b c : List UInt8} (hc : cutE life era seq b = 0) (h : c ∈ cutL life era seq b) : (decF c).life = life ∧ (decF c).era = era := by
  unfold cutL cutFr at h
  obtain ⟨f, hf, rfl⟩ := List.mem_map.1 h
  obtain ⟨i, hi, rfl⟩ := List.mem_map.1 hf
  rw [decF_enc (cutAt_right hc (List.mem_range.1 hi))]
  exact ⟨rfl, rfl⟩
theorem append_sector {S : Sc} {D : Dv} {b : List UInt8} (hc : cutE S.life S.era (S.all.length + 1) b = 0) (i : Int) :
    ((S.append D b).2.2).sector i = D.sector i ∨ ((decF (((S.append D b).2.2).sector i)).life = S.life ∧ (decF (((S.append D b).2.2).sector i)).era = S.era) := by
  have hw := write_sector D S.at_ (cutL S.life S.era (S.all.length + 1) b) i
  have key : ((D.write S.at_ (cutL S.life S.era (S.all.length + 1) b)).2).sector i = D.sector i ∨ ((decF (((D.write S.at_ (cutL S.life S.era (S.all.length + 1) b)).2).sector i)).life = S.life ∧ (decF (((D.write S.at_ (cutL S.life S.era (S.all.length + 1) b)).2).sector i)).era = S.era) := by
    rcases hw with h | ⟨c, hm, h⟩
    · exact .inl h
    · right; rw [h]; exact cutL_mem hc hm
  unfold Sc.append
  split
  · exact .inl rfl
  split
  · exact .inl rfl
  split
  · exact .inl rfl
  split
  · exact key
  · exact key

theorem place_new5 {D' : Dv} {at_ life era each : Int} {b : List UInt8} (hc : cutE life era 1 b = 0) (hn : (nparts b.length : Int) ≤ each)
    (h : ∀ i : Nat, i < nparts b.length → decF (D'.sector (at_ + i)) = cutAt life era 1 b i) : D'.place at_ each (era % 2) = (era, b) := by
  have h0 : decF (D'.sector at_) = cutAt life era 1 b 0 := by simpa using h 0 (nparts_pos _)
  have hf : D'.frs at_ (nparts b.length) = cutFr life era 1 b := by
    unfold Dv.frs cutFr
    refine List.map_congr_left fun i hi => ?_
    rw [List.mem_range] at hi
    exact h i hi
  unfold Dv.place Dv.holds
  rw [h0]
  have e1 : (cutAt life era 1 b 0).parts = (nparts b.length : Int) := rfl
  have e2 : (cutAt life era 1 b 0).seq = 1 := rfl
  have e3 : (cutAt life era 1 b 0).era = era := rfl
  rw [e1, e2, e3, Int.toNat_natCast, hf, joinsB_iff.2 (joins_cut hc), joined_cut, decide_eq_true hn]
  simp
theorem place_torn5 {D D' : Dv} {at_ life era each : Int} {b : List UInt8} {is : Nat → Bool} (hc : cutE life era 1 b = 0) (hn : (nparts b.length : Int) ≤ each) (ht : Torn D D' at_ life era b is)
    (hl : ∀ i : Nat, (i : Int) < each → (decF (D.sector (at_ + i))).right = true → (decF (D.sector (at_ + i))).life < life) :
    D'.place at_ each (era % 2) = (era, b) ∨ D'.place at_ each (era % 2) = D.place at_ each (era % 2) ∨ D'.place at_ each (era % 2) = (0, []) := by
  by_cases hh : D'.holds at_ each (era % 2) = true
  case neg => right; right; unfold Dv.place; rw [if_neg hh]
  have hh0 := hh
  unfold Dv.holds at hh
  simp only [Bool.and_eq_true, decide_eq_true_eq] at hh
  obtain ⟨q1, q2, q3, q4⟩ := hh
  obtain ⟨f, hf, hlen, hall⟩ := joinsB_iff.1 q2
  obtain ⟨r1, r2, r3⟩ := joins_frs q2
  have hlife : ∀ i : Nat, i < (decF (D'.sector at_)).parts.toNat → (decF (D'.sector (at_ + i))).life = (decF (D'.sector at_)).life := by
    intro i hi
    have a := (Fr.fits_iff.1 (hall i _ (D'.frs_at at_ _ i hi))).1.1
    have c := (Fr.fits_iff.1 (hall 0 _ (D'.frs_at at_ _ 0 (by omega)))).1.1
    rw [a, ← c]
    simp
  have hnew : ∀ i : Nat, i < nparts b.length → is i = true → decF (D'.sector (at_ + i)) = cutAt life era 1 b i := fun i hi h => by
    rw [ht.1 i hi h, decF_enc (cutAt_right hc hi)]
  have hold : ∀ i : Nat, ¬ (i < nparts b.length ∧ is i = true) → D'.sector (at_ + i) = D.sector (at_ + i) := fun i h =>
    ht.2 _ fun k hk hs e => h ((show k = i by omega) ▸ ⟨hk, hs⟩)
  have hat : at_ + ((0 : Nat) : Int) = at_ := by simp
  by_cases h0 : is 0 = true
  · have e0 := hnew 0 (nparts_pos _) h0
    rw [hat] at e0
    have em : (decF (D'.sector at_)).parts.toNat = nparts b.length := by rw [e0]; exact Int.toNat_natCast _
    left
    refine place_new5 hc hn fun i hi => ?_
    by_cases hs : is i = true
    · exact hnew i hi hs
    · exfalso
      have a := hlife i (by omega)
      rw [e0] at a
      have c := hl i (by omega) (by rw [← hold i (fun x => hs x.2)]; exact (r3 i (by omega)).1)
      rw [← hold i (fun x => hs x.2), a] at c
      exact absurd c (Int.lt_irrefl _)
  · right; left
    have e0 : D'.sector at_ = D.sector at_ := by have := hold 0 (fun x => h0 x.2); rwa [hat] at this
    have hpos : 1 ≤ (decF (D'.sector at_)).parts.toNat := r1
    have hlow : (decF (D'.sector at_)).life < life := by
      have h1 := (r3 0 (by omega)).1
      have h2 := hl 0 (by omega)
      rw [hat] at h1 h2
      rw [e0] at h1 ⊢
      exact h2 h1
    have hs : ∀ i : Nat, i < (decF (D'.sector at_)).parts.toNat → D'.sector (at_ + i) = D.sector (at_ + i) := by
      intro i hi
      by_cases hx : i < nparts b.length ∧ is i = true
      · exfalso
        have a := hlife i hi
        rw [hnew i hx.1 hx.2] at a
        have : (cutAt life era 1 b i).life = life := rfl
        omega
      · exact hold i hx
    have hfr : D'.frs at_ (decF (D'.sector at_)).parts.toNat = D.frs at_ (decF (D'.sector at_)).parts.toNat := frs_congr hs
    unfold Dv.place Dv.holds
    rw [hfr, e0]

/-- the state's places say this era and this state; no record is of a later era -/
structure Vs (D : Dv) (era : Int) (st : List UInt8) : Prop where
  pos : 0 ≤ era ∧ era ≤ 100
  mine : D.place (era % 2 * 5) 5 (era % 2) = (era, st)
  other : (D.place ((era + 1) % 2 * 5) 5 ((era + 1) % 2)).1 < era ∨ (D.place ((era + 1) % 2 * 5) 5 ((era + 1) % 2)).1 = 0
  nought : era = 0 → st = []
  eras : ∀ i : Int, 10 ≤ i → (decF (D.sector i)).right = true → (decF (D.sector i)).era ≤ era
theorem Vs.load {D : Dv} {era : Int} {st : List UInt8} (h : Vs D era st) (hC : D.C.length = 40) : (D.loadR 0 5).1 = era ∧ (D.loadR 0 5).2.1 = st ∧ D.loadE 0 5 = 0 := by
  have hE : D.loadE 0 5 = 0 := by unfold Dv.loadE; rw [hC]; rfl
  have hp := h.pos
  have hL : D.load 0 5 = (era, st) := by
    have h1 := h.mine
    have h2 := h.other
    unfold Dv.load
    rcases Int.emod_two_eq era with p | p
    · have p' : (era + 1) % 2 = 1 := by omega
      rw [p] at h1
      rw [p'] at h2
      have h1' : D.place 0 5 0 = (era, st) := h1
      have h2' : (D.place (0 + 5) 5 1).1 < era ∨ (D.place (0 + 5) 5 1).1 = 0 := h2
      rw [h1']
      rw [if_neg (by show ¬ era < _; omega)]
    · have p' : (era + 1) % 2 = 0 := by omega
      rw [p] at h1
      rw [p'] at h2
      have h1' : D.place (0 + 5) 5 1 = (era, st) := h1
      have h2' : (D.place 0 5 0).1 < era ∨ (D.place 0 5 0).1 = 0 := h2
      rw [h1']
      rw [if_pos (by show _ < era; omega)]
  refine ⟨?_, ?_, hE⟩
  · unfold Dv.loadR
    rw [if_pos hE, hL]
    by_cases h0 : era = 0
    · rw [if_pos h0, h0]
    · rw [if_neg h0]
  · unfold Dv.loadR
    rw [if_pos hE, hL]
    by_cases h0 : era = 0
    · rw [if_pos h0, h.nought h0]
    · rw [if_neg h0]
theorem Vs.congr {D D' : Dv} {era : Int} {st : List UInt8} (h : Vs D era st) (h1 : ∀ i : Int, i < 10 → D'.sector i = D.sector i) (h2 : ∀ i : Int, 10 ≤ i → D'.sector i = D.sector i ∨ (decF (D'.sector i)).era = era) : Vs D' era st := by
  have hp := h.pos
  refine ⟨hp, ?_, ?_, h.nought, fun i hi hr => ?_⟩
  · rw [place_congr (fun i hi => h1 _ (by omega)) (by omega)]; exact h.mine
  · rw [place_congr (fun i hi => h1 _ (by omega)) (by omega)]; exact h.other
  · rcases h2 i hi with e | e
    · rw [e] at hr ⊢; exact h.eras i hi hr
    · omega
theorem Vs.new : Vs (Dv.new 40) 0 [] :=
  ⟨by omega, place_new _ _ _ _, by rw [place_new]; exact .inr rfl, fun _ => rfl, fun i _ h => by rw [decF_new] at h; cases h⟩
/-- records of an era that no sector bears -/
theorem read_none {D : Dv} {era a : Int} (h : ∀ i : Int, 10 ≤ i → (decF (D.sector i)).right = true → (decF (D.sector i)).era < era) (ha : 10 ≤ a) : (D.read 40 era a 1 0).1 = [] := by
  rw [read_no]
  cases e : D.recAt 40 era a 1 0
  · rfl
  · exfalso
    obtain ⟨_, ⟨h1, _⟩, _⟩ := recAt_iff.1 e
    have hr := (recAt_parts e).2.2.2 0 (by have := (recAt_parts e).1; omega)
    rw [show a + ((0 : Nat) : Int) = a by simp] at hr
    have := h a ha hr
    omega

/-- the vault is what the drive says -/
structure Va (D : Dv) (V : Vt) (n : Int) (st : List UInt8) (was : List (List UInt8)) : Prop where
  on : D.off = false
  alive : V.dead = false
  each : V.each = 5
  life : 1 ≤ V.life ∧ V.life ≤ n + 1
  vs : Vs D V.era st
  state : V.state = st
  ks : KsA D V.S
  from_ : V.S.from_ = 10
  till : V.S.till = 40
  slife : V.S.life = V.life
  sera : V.S.era = V.era
  all : V.S.all = was
  low2 : ∀ i : Int, i < 10 → (decF (D.sector i)).right = true → (decF (D.sector i)).life < V.life
structure Vk (D : Dv) (V : Vt) (n : Int) (st : List UInt8) (was : List (List UInt8)) (stm : List UInt8) (mb : List (List UInt8)) : Prop where
  len : D.C.length = 40
  nb : 0 ≤ n ∧ n ≤ 90
  eb : V.era ≤ n
  low : ∀ i : Int, (decF (D.sector i)).right = true → (decF (D.sector i)).life ≤ n
  alt : Va D V n st was ∨ (D.off = true ∧ ∃ era st' recs, Vs D era st' ∧ era ≤ n ∧ (D.read 40 era 10 1 0).1 = recs ∧ ((st' = st ∧ recs = was) ∨ (st' = stm ∧ recs = mb)))
theorem newest_le {D : Dv} {n : Int} (h : ∀ i : Int, (decF (D.sector i)).right = true → (decF (D.sector i)).life ≤ n) (hn : 0 ≤ n) (a b : Int) : D.newest a b ≤ n := by
  have := newest_lt (D := D) (from_ := a) (till := b) (L := n + 1) (fun i hr => by have := h i hr; omega) (by omega)
  omega
/-- opened anew -/
theorem Vk.opened {D : Dv} {n era : Int} {st : List UInt8} (hlen : D.C.length = 40) (ho : D.off = false) (hn : 0 ≤ n ∧ n ≤ 90) (hlow : ∀ i : Int, (decF (D.sector i)).right = true → (decF (D.sector i)).life ≤ n) (hs : Vs D era st) (he : era ≤ n) :
    D.vopenE 5 = 0 ∧ Vk D (D.vopened 5) n (D.vopened 5).state (D.vopened 5).S.all (D.vopened 5).state (D.vopened 5).S.all ∧ (D.vopened 5).state = st ∧ (D.vopened 5).S.all = (D.read 40 era 10 1 0).1 := by
  obtain ⟨l1, l2, l3⟩ := hs.load hlen
  have hnb := newest_bound D 0 D.C.length
  have hnl := newest_le hlow hn.1 0 D.C.length
  have h0 : D.vopenE 5 = 0 := by
    unfold Dv.vopenE
    rw [if_neg (by rw [hlen]; omega), if_neg (by omega)]
  have hst : (D.vopened 5).state = st := l2
  have her : (D.vopened 5).era = era := l1
  have hS : (D.vopened 5).S = D.opened 10 40 (D.newest 0 D.C.length + 1) era := by
    show D.opened (2 * 5) D.C.length (D.newest 0 D.C.length + 1) (D.loadR 0 5).1 = _
    rw [l1, hlen]; rfl
  have hli : (D.vopened 5).life = D.newest 0 D.C.length + 1 := rfl
  refine ⟨h0, ⟨hlen, hn, by rw [her]; exact he, hlow, .inl ⟨ho, rfl, rfl, by rw [hli]; omega, by rw [her, hst]; exact hs, rfl, ?_, by rw [hS]; rfl, by rw [hS]; rfl, by rw [hS, hli]; rfl, by rw [hS, her]; rfl, rfl, fun i _ hr => ?_⟩⟩, hst, by rw [hS]; rfl⟩
  · rw [hS]
    exact KsA.opened ho ⟨by omega, by omega, by rw [hlen]; omega⟩ (by omega) newest_all
  · rw [hli]; exact newest_all i hr
theorem Vk.new : (Dv.new 40).vopenE 5 = 0 ∧ Vk (Dv.new 40) ((Dv.new 40).vopened 5) 0 [] [] [] [] := by
  have hl : (Dv.new 40).C.length = 40 := by simp [Dv.new]
  obtain ⟨h1, h2, h3, h4⟩ := Vk.opened (n := 0) hl rfl (by omega) (fun i h => Int.le_of_lt (new_low 40 0 i h)) Vs.new (by omega)
  rw [read_new _ _ _ _ (by omega)] at h4
  rw [h3, h4] at h2
  exact ⟨h1, h2⟩
theorem Vk.append {D : Dv} {V : Vt} {n : Int} {st stm x : List UInt8} {was mb : List (List UInt8)} (h : Vk D V n st was stm mb) (hn : n ≤ 80) (hx : x.length ≤ 250) (hw : V.S.all.length ≤ 2048) :
    (D.off = true ∧ V.append D x = (9, V, D)) ∨
    (D.off = false ∧ (V.append D x).1 = 10 ∧ Vk (V.append D x).2.2 (V.append D x).2.1 (n + 1) st was stm mb) ∨
    (D.off = false ∧ (V.append D x).1 = 0 ∧ Vk (V.append D x).2.2 (V.append D x).2.1 (n + 1) st (was ++ [x]) st (was ++ [x])) ∨
    (D.off = false ∧ (V.append D x).1 = 9 ∧ Vk (V.append D x).2.2 (V.append D x).2.1 (n + 1) st was st (was ++ [x])) := by
  rcases h.alt with hA | ⟨ho, _⟩
  · right
    have hr : V.ready D = 0 := by unfold Vt.ready; rw [hA.alive, hA.on]; rfl
    have hv : V.append D x = ((V.S.append D x).1, { V with S := (V.S.append D x).2.1, dead := V.dead || (V.S.append D x).1 == 9 }, (V.S.append D x).2.2) := by
      unfold Vt.append; rw [if_neg (by rw [hr]; exact fun e => e rfl)]
    have hp := hA.vs.pos
    have hl := hA.life
    have hc : cutE V.S.life V.S.era (V.S.all.length + 1) x = 0 := cutE_250 hx (by rw [hA.slife]; omega) (by rw [hA.sera]; omega) (by omega)
    have hsec := append_sector (D := D) hc
    rw [hv]
    have hrd := hA.ks.reads
    rw [hA.till, hA.sera, hA.from_] at hrd
    have hlow' : ∀ D' : Dv, (∀ i, D'.sector i = D.sector i ∨ ((decF (D'.sector i)).life = V.S.life ∧ (decF (D'.sector i)).era = V.S.era)) → ∀ i : Int, (decF (D'.sector i)).right = true → (decF (D'.sector i)).life ≤ n + 1 := fun D' hs i hi => by
      rcases hs i with e | e
      · rw [e] at hi ⊢; have := h.low i hi; omega
      · rw [e.1, hA.slife]; omega
    rcases hA.ks.append hc with e | ⟨e1, e2, ⟨a, e3⟩, e4, e5⟩ | ⟨e1, e2, e3, e4⟩
    · left
      rw [e]
      exact ⟨hA.on, rfl, h.len, by have := h.nb; omega, by have := h.eb; show V.era ≤ n + 1; omega, fun i hi => Int.le_trans (h.low i hi) (by omega),
        .inl ⟨hA.on, by show (V.dead || (10 : Int) == 9) = false; rw [hA.alive]; rfl, hA.each, ⟨hl.1, by show V.life ≤ n + 1 + 1; omega⟩, hA.vs, hA.state, hA.ks, hA.from_, hA.till, hA.slife, hA.sera, hA.all, hA.low2⟩⟩
    · right; left
      rw [e1]
      have h10 : ∀ i : Int, i < 10 → ((V.S.append D x).2.2).sector i = D.sector i := fun i hi => e5 i (by rw [hA.from_]; exact hi)
      refine ⟨hA.on, rfl, e4.trans h.len, by have := h.nb; omega, by have := h.eb; show V.era ≤ n + 1; omega, hlow' _ hsec, .inl ⟨e2.on, by show (V.dead || (0 : Int) == 9) = false; rw [hA.alive]; rfl, hA.each, ⟨hl.1, by show V.life ≤ n + 1 + 1; omega⟩, hA.vs.congr h10 (fun i _ => (hsec i).imp id fun y => by rw [y.2, hA.sera]), hA.state, e2, ?_, ?_, ?_, ?_, ?_, fun i hi hr => ?_⟩⟩
      · show (V.S.append D x).2.1.from_ = 10; rw [e3]; exact hA.from_
      · show (V.S.append D x).2.1.till = 40; rw [e3]; exact hA.till
      · show (V.S.append D x).2.1.life = V.life; rw [e3]; exact hA.slife
      · show (V.S.append D x).2.1.era = V.era; rw [e3]; exact hA.sera
      · show (V.S.append D x).2.1.all = was ++ [x]; rw [e3, ← hA.all]
      · rw [h10 i hi] at hr ⊢; exact hA.low2 i hi hr
    · right; right
      rw [e1]
      have h10 : ∀ i : Int, i < 10 → ((V.S.append D x).2.2).sector i = D.sector i := fun i hi => e3.out i (by rw [hA.from_]; exact hi)
      refine ⟨hA.on, rfl, e3.len.trans h.len, by have := h.nb; omega, by have := h.eb; show V.era ≤ n + 1; omega, hlow' _ hsec, .inr ⟨e2, V.era, st, _, hA.vs.congr h10 (fun i _ => (hsec i).imp id fun y => by rw [y.2, hA.sera]), by have := h.eb; omega, rfl, ?_⟩⟩
      have := e3.reads
      rw [hA.till, hA.sera, hA.from_, hA.all] at this
      exact this.imp (fun y => ⟨rfl, y⟩) (fun y => ⟨rfl, y⟩)
  · left
    exact ⟨ho, by unfold Vt.append Vt.ready; rw [ho]; simp⟩
theorem Vk.compact {D : Dv} {V : Vt} {n : Int} {st stm x : List UInt8} {was mb : List (List UInt8)} (h : Vk D V n st was stm mb) (hn : n ≤ 80) (hx : x.length ≤ 250) :
    (V.ready D = 0 → V.life < 16777214 → (D.save 0 V.each V.life (V.era + 1) x).1 = 0 → V.era + 1 ≤ 16777215 ∧ (D.save 0 V.each V.life (V.era + 1) x).2.openE (2 * V.each) (D.save 0 V.each V.life (V.era + 1) x).2.C.length (V.life + 1) (V.era + 1) = 0) ∧
    ((D.off = true ∧ V.compact D x = (9, V, D)) ∨
    (D.off = false ∧ (V.compact D x).1 = 0 ∧ Vk (V.compact D x).2.2 (V.compact D x).2.1 (n + 1) x [] x []) ∨
    (D.off = false ∧ (V.compact D x).1 = 9 ∧ Vk (V.compact D x).2.2 (V.compact D x).2.1 (n + 1) st was x [])) := by
  rcases h.alt with hA | ⟨ho, _⟩
  case inr =>
    have hr : V.ready D = 9 := by unfold Vt.ready; rw [ho]; simp
    exact ⟨fun e => (by rw [hr] at e; cases e), .inl ⟨ho, by unfold Vt.compact; rw [if_pos (by rw [hr]; decide)]⟩⟩
  have hr : V.ready D = 0 := by unfold Vt.ready; rw [hA.alive, hA.on]; rfl
  have hp := hA.vs.pos
  have hl := hA.life
  have hnn := h.nb
  have heb := h.eb
  have hc : cutE V.life (V.era + 1) 1 x = 0 := cutE_250 hx (by omega) (by omega) (by omega)
  have hnp : nparts x.length ≤ 4 := by unfold nparts; omega
  obtain ⟨l1, l2, l3⟩ := hA.vs.load h.len
  have hlen := cutL_length V.life (V.era + 1) 1 x
  have hpos := nparts_pos x.length
  have hC := h.len
  obtain ⟨A, hA1, hA2⟩ : ∃ A : Nat, (V.era + 1) % 2 * 5 = (A : Int) ∧ A + 5 ≤ 10 := ⟨((V.era + 1) % 2 * 5).toNat, by omega, by omega⟩
  have hbad : D.bad A (cutL V.life (V.era + 1) 1 x) = false := by
    unfold Dv.bad
    rw [cutL_long hc, decide_eq_false (by omega), decide_eq_false (by omega), decide_eq_false (by omega)]
    rfl
  have hS : D.save 0 V.each V.life (V.era + 1) x = (if D.blown then 9 else 0, D.wrote A (cutL V.life (V.era + 1) 1 x)) := by
    unfold Dv.save Dv.write
    rw [hA.each, if_neg (by rw [l3]; decide), if_neg (by rw [l1]; omega), if_neg (by rw [hc]; exact fun x => x rfl), if_neg (by omega), show (0 : Int) + (V.era + 1) % 2 * 5 = (A : Int) by omega, hA.on, hbad, if_neg (by decide), if_neg (by decide), if_neg (by intro e; rw [e] at hlen; simp at hlen; omega)]
  have ht := D.torn (at_ := A) hc (by omega)
  have hl2 : (D.wrote A (cutL V.life (V.era + 1) 1 x)).C.length = 40 := by unfold Dv.wrote; rw [← hC]; exact landed_length _ _ _ _ _
  have hoff : (D.wrote A (cutL V.life (V.era + 1) 1 x)).off = D.blown := rfl
  have hsec : ∀ i : Int, (D.wrote A (cutL V.life (V.era + 1) 1 x)).sector i = D.sector i ∨ (decF ((D.wrote A (cutL V.life (V.era + 1) 1 x)).sector i)).life = V.life := by
    intro i
    by_cases hy : ∃ k : Nat, k < nparts x.length ∧ D.keeps k = true ∧ i = (A : Int) + k
    · obtain ⟨k, hk, hs, rfl⟩ := hy
      right
      rw [ht.1 k hk hs, decF_enc (cutAt_right hc hk)]; rfl
    · exact .inl (ht.2 i fun k hk hs e => hy ⟨k, hk, hs, e⟩)
  have hv : V.compact D x = if D.blown then (9, { V with dead := V.dead || (9 : Int) == 9 }, D.wrote A (cutL V.life (V.era + 1) 1 x)) else (0, (V.saved x).turned (D.wrote A (cutL V.life (V.era + 1) 1 x)), D.wrote A (cutL V.life (V.era + 1) 1 x)) := by
    unfold Vt.compact
    rw [if_neg (by rw [hr]; exact fun e => e rfl), if_neg (by omega), hS]
    cases D.blown
    · rfl
    · rfl
  rw [hv, hS]
  clear hv hS hbad hlen
  have hout : ∀ i : Int, (i < A ∨ (A : Int) + 5 ≤ i) → (D.wrote A (cutL V.life (V.era + 1) 1 x)).sector i = D.sector i := fun i hi => ht.2 i fun k hk _ e => by omega
  generalize D.wrote A (cutL V.life (V.era + 1) 1 x) = D' at *
  have hlow : ∀ i : Int, (decF (D'.sector i)).right = true → (decF (D'.sector i)).life ≤ n + 1 := fun i hi => by
    rcases hsec i with e | e
    · rw [e] at hi ⊢; have := h.low i hi; omega
    · rw [e]; omega
  have hlow2 : ∀ i : Int, (decF (D'.sector i)).right = true → (decF (D'.sector i)).life < V.life + 1 := fun i hi => by
    rcases hsec i with e | e
    · rw [e] at hi ⊢; have := hA.ks.low i hi; rw [hA.slife] at this; omega
    · rw [e]; omega
  have h10 : ∀ i : Int, 10 ≤ i → D'.sector i = D.sector i := fun i hi => hout i (by omega)
  have heras : ∀ i : Int, 10 ≤ i → (decF (D'.sector i)).right = true → (decF (D'.sector i)).era ≤ V.era := fun i hi hr => by rw [h10 i hi] at hr ⊢; exact hA.vs.eras i hi hr
  have hmine : D'.place (V.era % 2 * 5) 5 (V.era % 2) = (V.era, st) := by
    rw [← hA.vs.mine]
    exact place_congr (fun i hi => hout _ (by omega)) (by omega)
  have hpar : (V.era + 1 + 1) % 2 = V.era % 2 := by omega
  have hnewV : D'.place A 5 ((V.era + 1) % 2) = (V.era + 1, x) → Vs D' (V.era + 1) x := fun e => by
    refine ⟨by omega, by rw [hA1]; exact e, ?_, fun e => by omega, fun i hi hr => by have := heras i hi hr; omega⟩
    rw [hpar, hmine]
    exact .inl (by show V.era < V.era + 1; omega)
  have hrnone : (D'.read 40 (V.era + 1) 10 1 0).1 = [] := read_none (fun i hi hr => by have := heras i hi hr; omega) (Int.le_refl _)
  have hE : D'.openE (2 * V.each) D'.C.length (V.life + 1) (V.era + 1) = 0 := by
    rw [hA.each]
    exact open_zero ⟨by omega, by rw [hl2]; omega, Int.le_refl _⟩ (by omega) (by omega) hlow2
  refine ⟨fun _ _ _ => ⟨by omega, hE⟩, .inr ?_⟩
  cases hB : D.blown
  · left
    rw [if_neg (by decide : ¬ (false = true))]
    have hall : (fun _ => true) = D.keeps := by funext i; unfold Dv.keeps; rw [hB]; rfl
    have hnp5 : D'.place A 5 ((V.era + 1) % 2) = (V.era + 1, x) := place_new5 hc (by omega) fun i hi => by rw [ht.1 i hi (by rw [← hall]), decF_enc (cutAt_right hc hi)]
    have hvs := hnewV hnp5
    have hSS : ((V.saved x).turned D').S = D'.opened 10 40 (V.life + 1) (V.era + 1) := by
      show D'.opened (2 * V.each) D'.C.length (V.life + 1) (V.era + 1) = _
      rw [hA.each, hl2]; rfl
    refine ⟨hA.on, rfl, hl2, by omega, by show V.era + 1 ≤ n + 1; omega, hlow, .inl ⟨by rw [hoff, hB], hA.alive, hA.each, ⟨by show 1 ≤ V.life + 1; omega, by show V.life + 1 ≤ n + 1 + 1; omega⟩, hvs, rfl, ?_, by rw [hSS]; rfl, by rw [hSS]; rfl, by rw [hSS]; rfl, by rw [hSS]; rfl, by rw [hSS]; exact hrnone, fun i _ hr => hlow2 i hr⟩⟩
    rw [hSS]
    exact KsA.opened (by rw [hoff, hB]) ⟨by omega, by omega, by rw [hl2]; omega⟩ (by omega) hlow2
  · right
    rw [if_pos rfl]
    have hrd := hA.ks.reads
    rw [hA.till, hA.sera, hA.from_] at hrd
    have hread : D'.read 40 V.era 10 1 0 = D.read 40 V.era 10 1 0 := by
      have := read_prefix (D := D) (D' := D') 40 V.era 30 10 1 0 (by omega) (fun i hi _ => h10 i hi)
      rw [this, read_no (D := D')]
      · simp only [List.append_nil]
      · have h1 := read_stop D 40 V.era 10 1 0
        have h2 := read_from D 40 V.era 10 1 0
        rwa [(recAt_congr (D' := D') (h10 _ (by omega)) (fun i _ => h10 _ (by omega))).1]
    have hold : (D'.place A 5 ((V.era + 1) % 2)).1 < V.era ∨ (D'.place A 5 ((V.era + 1) % 2)).1 = 0 → Vs D' V.era st := fun e => ⟨hp, hmine, by rw [hA1]; exact e, hA.vs.nought, heras⟩
    refine ⟨hA.on, rfl, hl2, by omega, by show V.era ≤ n + 1; omega, hlow, .inr ⟨by rw [hoff, hB], ?_⟩⟩
    rcases place_torn5 hc (by omega : (nparts x.length : Int) ≤ 5) ht (fun i hi hr => hA.low2 _ (by omega) hr) with e | e | e
    · exact ⟨V.era + 1, x, _, hnewV e, by omega, rfl, .inr ⟨rfl, hrnone⟩⟩
    · refine ⟨V.era, st, _, hold ?_, by omega, rfl, .inl ⟨rfl, ?_⟩⟩
      · rw [e, ← hA1]; exact hA.vs.other
      · rw [hread, hrd]; exact hA.all
    · refine ⟨V.era, st, _, hold ?_, by omega, rfl, .inl ⟨rfl, ?_⟩⟩
      · rw [e]; exact .inr rfl
      · rw [hread, hrd]; exact hA.all
theorem read_C {D D' : Dv} (hs : ∀ i, D'.sector i = D.sector i) (era : Int) : D'.read 40 era 10 1 0 = D.read 40 era 10 1 0 := by
  have := read_prefix (D := D) (D' := D') 40 era 30 10 1 0 (by omega) (fun i _ _ => hs i)
  rw [this, read_no (D := D')]
  · simp only [List.append_nil]
  · have := read_stop D 40 era 10 1 0
    rwa [(recAt_congr (D' := D') (hs _) (fun i _ => hs _)).1]
theorem Vk.fuse {D D' : Dv} {V : Vt} {n : Int} {st stm : List UInt8} {was mb : List (List UInt8)} (h : Vk D V n st was stm mb) (hC : D'.C = D.C) (ho : D'.off = D.off) : Vk D' V n st was stm mb := by
  have hs := sector_C hC
  refine ⟨by rw [hC]; exact h.len, h.nb, h.eb, fun i hr => ?_, ?_⟩
  · rw [hs] at hr ⊢; exact h.low i hr
  · rcases h.alt with hA | ⟨h1, era, st', recs, h2, h3, h4, h5⟩
    · exact .inl ⟨ho.trans hA.on, hA.alive, hA.each, hA.life, hA.vs.congr (fun i _ => hs i) (fun i _ => .inl (hs i)), hA.state, hA.ks.of_C hC (ho.trans hA.on), hA.from_, hA.till, hA.slife, hA.sera, hA.all, fun i hi hr => by rw [hs] at hr ⊢; exact hA.low2 i hi hr⟩
    · exact .inr ⟨ho.trans h1, era, st', recs, h2.congr (fun i _ => hs i) (fun i _ => .inl (hs i)), h3, by rw [read_C hs]; exact h4, h5⟩
/-- with power, and opened anew -/
theorem Vk.start {D : Dv} {V : Vt} {n : Int} {st stm : List UInt8} {was mb : List (List UInt8)} (h : Vk D V n st was stm mb) :
    D.start.vopenE 5 = 0 ∧ Vk D.start (D.start.vopened 5) n (D.start.vopened 5).state (D.start.vopened 5).S.all (D.start.vopened 5).state (D.start.vopened 5).S.all ∧
      (((D.start.vopened 5).state = st ∧ (D.start.vopened 5).S.all = was) ∨ ((D.start.vopened 5).state = stm ∧ (D.start.vopened 5).S.all = mb)) := by
  have hs : ∀ i, D.start.sector i = D.sector i := fun i => rfl
  rcases h.alt with hA | ⟨_, era, st', recs, h2, h3, h4, h5⟩
  · obtain ⟨q1, q2, q3, q4⟩ := Vk.opened (D := D.start) h.len rfl h.nb h.low (hA.vs.congr (D' := D.start) (fun i _ => hs i) (fun i _ => .inl (hs i))) h.eb
    refine ⟨q1, q2, .inl ⟨q3, ?_⟩⟩
    have hrd := hA.ks.reads
    rw [hA.till, hA.sera, hA.from_] at hrd
    rw [q4, read_C hs, hrd]; exact hA.all
  · obtain ⟨q1, q2, q3, q4⟩ := Vk.opened (D := D.start) h.len rfl h.nb h.low (h2.congr (D' := D.start) (fun i _ => hs i) (fun i _ => .inl (hs i))) h3
    refine ⟨q1, q2, ?_⟩
    rw [q3, q4, read_C hs, h4]
    exact h5
/-- opened a second time -/
theorem Vk.again {D : Dv} {V : Vt} {n : Int} {st stm : List UInt8} {was mb : List (List UInt8)} (h : Vk D V n st was stm mb) (ho : D.off = false) :
    D.vopenE 5 = 0 ∧ Vk D (D.vopened 5) n (D.vopened 5).state (D.vopened 5).S.all (D.vopened 5).state (D.vopened 5).S.all ∧ (D.vopened 5).state = st ∧ (D.vopened 5).S.all = was := by
  rcases h.alt with hA | ⟨h1, _⟩
  · obtain ⟨q1, q2, q3, q4⟩ := Vk.opened (D := D) h.len ho h.nb h.low hA.vs h.eb
    refine ⟨q1, q2, q3, ?_⟩
    have hrd := hA.ks.reads
    rw [hA.till, hA.sera, hA.from_] at hrd
    rw [q4, hrd]; exact hA.all
  · rw [ho] at h1; cases h1
end Go.Proofs.Ytlhnpicmjjddeaa
namespace Go.Proofs.Ytlhnpicmjjddeaa
open Go.RowKit

def l10a : Vt := (Dv.new 12).vopened 3
def l10b : Int × Vt × Dv := l10a.append (Dv.new 12) [97]
def l10c : Int × Vt × Dv := l10b.2.1.compact l10b.2.2 [115]
def l10d : Int × Vt × Dv := l10c.2.1.append l10c.2.2 [98]
def l10e : Vt := l10d.2.2.vopened 3
theorem l10_1 : (Dv.new 12).vopenE 3 = 0 := by kernel_rfl
theorem l10_2 : l10b.1 = 0 := by kernel_rfl
theorem l10_3 : l10c.1 = 0 := by kernel_rfl
theorem l10_4 : l10d.1 = 0 := by kernel_rfl
theorem l10_5 : l10d.2.2.vopenE 3 = 0 := by kernel_rfl
theorem l10_6 : l10e.state = [115] := by kernel_rfl
theorem l10_7 : l10e.era = 1 := by kernel_rfl
theorem l10_8 : l10e.S.all = [[98]] := by kernel_rfl
theorem l10_9 : l10b.2.1.era = 0 := by kernel_rfl
theorem l10_10 : (l10b.2.2.save 0 l10b.2.1.each l10b.2.1.life (l10b.2.1.era + 1) [115]).2.openE (2 * l10b.2.1.each) (l10b.2.2.save 0 l10b.2.1.each l10b.2.1.life (l10b.2.1.era + 1) [115]).2.C.length (l10b.2.1.life + 1) (l10b.2.1.era + 1) = 0 := by kernel_rfl
set_option maxHeartbeats 6400000 in
set_option maxRecDepth 100000 in
theorem vLives (w : World) : Calls Try.prog 79 #[] w (RetSame (.bool true) w) := by
  have A1 := hid l10_1
  have A2 := hid l10_2
  have A3 := hid l10_3
  have A4 := hid l10_4
  have A5 := hid l10_5
  have A6 := hid l10_6
  have A7 := hid l10_7
  have A8 := hid l10_8
  have A9 := hid l10_9
  have A10 := hid l10_10
  have HS := hid rSame2
  have kcc := fun (w : World) (C : Array Value) (n c : Nat) => Lib.run_convert_bytes_const (P := Try.prog) w 23 5 C n c Try.underlying23 Try.underlying5
  go_enter Try.func79, Try.ntmps79
  go_wp2_with fail
  refine (dNewD w 12 (by omega) (by omega)).mono ?_
  rintro en w1 ⟨p, F, rfl, S1, D1, B1⟩
  have M1 : Hid (Mid w w1 p F (Dv.new 12)) := ⟨D1, B1, S1⟩
  obtain ⟨pb, rfl⟩ := D1.ptr
  clear D1 B1 S1
  go_wp2_with fail
  refine (MidV.first M1.out 3 A1.out (by omega)).mono ?_
  rintro en w2 ⟨v, F2, rfl, _, M2⟩
  obtain ⟨vb, rfl⟩ := M2.vptr
  have M2 : Hid (MidV w w2 (.pointer (some ⟨pb, 0, none⟩)) (.pointer (some ⟨vb, 0, none⟩)) F2 (Dv.new 12) l10a) := M2
  clear M1
  go_wp2_with fail
  have T2 := hid ((Same.refl w2).alloc (.cells #[.int .u8 97] 5 (1, 2)))
  refine ((M2.out.same T2.out).append _ 5 [97] (b1_made' w2 97 (by omega) (1, 2)) (by simp) (b1_apart M2.out.bnd)).mono ?_
  rintro en w3 ⟨F3, rfl, _, _, M3⟩
  have e3 : (l10a.append (Dv.new 12) [97]).1 = 0 := A2.out
  rw [e3]
  have M3 : Hid (MidV w w3 (.pointer (some ⟨pb, 0, none⟩)) (.pointer (some ⟨vb, 0, none⟩)) F3 l10b.2.2 l10b.2.1) := M3
  clear e3 M2 T2
  go_wp2_with fail
  have T3 := hid ((Same.refl w3).alloc (.cells #[.int .u8 115] 5 (1, 2)))
  refine ((M3.out.same T3.out).compact _ 5 [115] (b1_made' w3 115 (by omega) (1, 2)) (by simp) (b1_apart M3.out.bnd) (fun _ _ _ => ⟨by rw [A9.out]; omega, A10.out⟩)).mono ?_
  rintro en w4 ⟨F4, rfl, _, _, M4⟩
  have e4 : (l10b.2.1.compact l10b.2.2 [115]).1 = 0 := A3.out
  rw [e4]
  have M4 : Hid (MidV w w4 (.pointer (some ⟨pb, 0, none⟩)) (.pointer (some ⟨vb, 0, none⟩)) F4 l10c.2.2 l10c.2.1) := M4
  clear e4 M3 T3
  go_wp2_with fail
  have T4 := hid ((Same.refl w4).alloc (.cells #[.int .u8 98] 5 (1, 2)))
  refine ((M4.out.same T4.out).append _ 5 [98] (b1_made' w4 98 (by omega) (1, 2)) (by simp) (b1_apart M4.out.bnd)).mono ?_
  rintro en w5 ⟨F5, rfl, _, _, M5⟩
  have e5 : (l10c.2.1.append l10c.2.2 [98]).1 = 0 := A4.out
  rw [e5]
  have M5 : Hid (MidV w w5 (.pointer (some ⟨pb, 0, none⟩)) (.pointer (some ⟨vb, 0, none⟩)) F5 l10d.2.2 l10d.2.1) := M5
  clear e5 M4 T4
  go_wp2_with fail
  refine (M5.out.open 3 A5.out (by omega)).mono ?_
  rintro en w6 ⟨v6, F6, rfl, _, _, M6⟩
  obtain ⟨vb6, rfl⟩ := M6.vptr
  have M6 : Hid (MidV w w6 (.pointer (some ⟨pb, 0, none⟩)) (.pointer (some ⟨vb6, 0, none⟩)) F6 l10d.2.2 l10e) := M6
  clear M5
  go_wp2_with fail
  refine M6.out.state.mono ?_
  rintro en w7 ⟨a7, c7, rfl, _, Y7, S7⟩
  rw [A7.out]
  rw [A6.out] at Y7 ⊢
  have kc := convertBytes w7 5 a7 c7 [115] Y7
  have M7 := hid (M6.out.same S7)
  simp only [List.length_cons, List.length_nil] at *
  clear M6 Y7 S7
  go_wp2_with fail
  refine M7.out.records.mono ?_
  rintro en w8 ⟨a8, c8, rfl, R8, S8⟩
  rw [A8.out] at R8 ⊢
  have R8 := hid R8
  have M8 := hid (M7.out.same S8)
  simp only [List.length_cons, List.length_nil] at *
  clear M7 S8 kc
  go_wp2_with fail
  have T8 := hid (((Same.refl w8).alloc (.cells #[.int .u8 98] 5 (1, 2))).alloc (.cells #[.slice (some ⟨w8.heap.size, 0, none⟩) 1 1] 23))
  have X8 := hid ((Rows2N.one (F := NoB) (b1_made' w8 98 (by omega) (1, 2)) (fun _ _ x => x) (fun x => x)).rows)
  simp only [World.size_alloc] at X8
  refine (HS.out _ 23 23 _ _ _ _ (R8.out.rows.same T8.out) X8.out).mono ?_
  rintro en w9 ⟨rfl, S9⟩
  have M9 := hid ((M8.out.same T8.out).same S9)
  clear M8
  go_wp2_with fail
  refine M9.out.era.mono ?_
  rintro en w10 ⟨rfl, S10⟩
  rw [A7.out]
  go_wp2_with fail
  go_ret
  exact ⟨rfl, M9.out.old.trans S10⟩
theorem NoVault.boxed (w : World) : NoVault (w.alloc (.cells #[.pointer none, .pointer none, .int .i64 0, .int .i64 0, .int .i64 0, .slice none 0 0, .bool false] 122)) (.pointer (some ⟨w.heap.size, 0, none⟩)) :=
  .inr ⟨_, rfl, (Box7.cells (Box7.new w _ _ _ _ _ _ _)).1⟩
set_option maxHeartbeats 6400000 in
set_option maxRecDepth 100000 in
theorem vaultNobodyWalk (w : World) (v : Value) (e : TypeId) (each : Int) (b : List UInt8) (hb : Bytes w e v b) :
    Calls Try.prog 19 #[v, .int .i64 each] w (RetSame (.bool true) w) := by
  have H1 := hid vState_none
  have H2 := hid vOpen_none
  have H3 := hid (fun w' => show Calls Try.prog 22 #[v, .int .i64 90] w' _ from r01Cut0 w w' e v b 90 hb)
  have H4 := hid vAppend_none
  have H5 := hid vCompact_none
  have H6 := hid vRecords_none
  have H7 := hid vEra_none
  have H8 := hid vLeft_none
  have H9 := hid vLives
  have HB := hid Nobody.boxed
  have HC := hid NoVault.boxed
  obtain ⟨av, cv, rfl, _, _⟩ := hb.form
  clear hb
  go_enter Try.func19, Try.ntmps19
  go_wp2_with fail
  refine (H3.out _).mono ?_
  rintro en w2' ⟨v3, rfl, B3, rfl⟩
  obtain ⟨a3, c3, rfl, _, _⟩ := B3.form
  clear B3 H3
  go_wp2_with fail
  go_loopw [5] (fun i wr => ∃ k : Nat, k ≤ 2 ∧ i = .int .i64 k ∧ Same w wr) (fun i _ => 2 - (intOf i).toNat)
  case atStart => exact ⟨0, by omega, rfl, Same.refl w⟩
  case round =>
    obtain ⟨k, hk, rfl, S⟩ := hrel
    have S := hid S
    match k, hk with
    | 2, _ =>
      go_wp2_with fail
      refine (H9.out _).mono ?_
      rintro en w3 ⟨rfl, S3⟩
      go_wp2_with fail
      go_ret
      exact ⟨rfl, S.out.trans S3⟩
    | 0, _ =>
      have N0 : Hid (Nobody wr (.pointer none)) := .inl rfl
      have N1 : Hid (NoVault wr (.pointer none)) := .inl rfl
      go_wp2_with fail
      refine (H1.out _ _ (N1.out)).mono ?_
      rintro en w1 ⟨rfl, S1⟩
      have T1 := hid S1
      clear S1
      go_wp2_with fail
      refine (H2.out _ _ _ (N0.out.same T1.out)).mono ?_
      rintro en w2 ⟨rfl, S2⟩
      have T2 := hid (T1.out.trans S2)
      clear S2
      go_wp2_with fail
      refine (H4.out _ _ _ (N1.out.same T2.out)).mono ?_
      rintro en w3 ⟨rfl, S3⟩
      have T3 := hid (T2.out.trans S3)
      clear S3
      go_wp2_with fail
      refine (H5.out _ _ _ (N1.out.same T3.out)).mono ?_
      rintro en w4 ⟨rfl, S4⟩
      have T4 := hid (T3.out.trans S4)
      clear S4
      go_wp2_with fail
      refine (H6.out _ _ (N1.out.same T4.out)).mono ?_
      rintro en w5 ⟨rfl, S5⟩
      have T5 := hid (T4.out.trans S5)
      clear S5
      go_wp2_with fail
      refine (H7.out _ _ (N1.out.same T5.out)).mono ?_
      rintro en w6 ⟨rfl, S6⟩
      have T6 := hid (T5.out.trans S6)
      clear S6
      go_wp2_with fail
      refine (H8.out _ _ (N1.out.same T6.out)).mono ?_
      rintro en w7 ⟨rfl, S7⟩
      have T7 := hid (T6.out.trans S7)
      clear S7
      go_wp2_with fail
      go_roundw
      case rel => exact ⟨1, by omega, rfl, S.out.trans T7.out⟩
      case measure => simp [intOf]
    | 1, _ =>
      have N1 := hid ((HC.out wr).same ((Same.refl _).alloc (.cells #[.bool false, .bool false, .int .i64 0, .slice none 0 0, .slice none 0 0, .int .i64 0] 55)))
      have N0 := hid (HB.out (wr.alloc (.cells #[.pointer none, .pointer none, .int .i64 0, .int .i64 0, .int .i64 0, .slice none 0 0, .bool false] 122)))
      have Z0 := hid (((Same.refl wr).alloc (.cells #[.pointer none, .pointer none, .int .i64 0, .int .i64 0, .int .i64 0, .slice none 0 0, .bool false] 122)).alloc (.cells #[.bool false, .bool false, .int .i64 0, .slice none 0 0, .slice none 0 0, .int .i64 0] 55))
      simp only [World.size_alloc] at N0
      go_wp2_with fail
      refine (H1.out _ _ (N1.out)).mono ?_
      rintro en w1 ⟨rfl, S1⟩
      have T1 := hid S1
      clear S1
      go_wp2_with fail
      refine (H2.out _ _ _ (N0.out.same T1.out)).mono ?_
      rintro en w2 ⟨rfl, S2⟩
      have T2 := hid (T1.out.trans S2)
      clear S2
      go_wp2_with fail
      refine (H4.out _ _ _ (N1.out.same T2.out)).mono ?_
      rintro en w3 ⟨rfl, S3⟩
      have T3 := hid (T2.out.trans S3)
      clear S3
      go_wp2_with fail
      refine (H5.out _ _ _ (N1.out.same T3.out)).mono ?_
      rintro en w4 ⟨rfl, S4⟩
      have T4 := hid (T3.out.trans S4)
      clear S4
      go_wp2_with fail
      refine (H6.out _ _ (N1.out.same T4.out)).mono ?_
      rintro en w5 ⟨rfl, S5⟩
      have T5 := hid (T4.out.trans S5)
      clear S5
      go_wp2_with fail
      refine (H7.out _ _ (N1.out.same T5.out)).mono ?_
      rintro en w6 ⟨rfl, S6⟩
      have T6 := hid (T5.out.trans S6)
      clear S6
      go_wp2_with fail
      refine (H8.out _ _ (N1.out.same T6.out)).mono ?_
      rintro en w7 ⟨rfl, S7⟩
      have T7 := hid (T6.out.trans S7)
      clear S7
      go_wp2_with fail
      go_roundw
      case rel => exact ⟨2, by omega, rfl, (S.out.trans Z0.out).trans T7.out⟩
      case measure => simp [intOf]
end Go.Proofs.Ytlhnpicmjjddeaa
namespace Go.Proofs.Ytlhnpicmjjddeaa
open Go.RowKit Go.ChangeShapes Go.WideShapes Go.Deep

structure KDo where
  (kind n : Int)
  (b : List UInt8)
  (keep : List Int)
def KDoAt (w : World) (g o : Nat) (d : KDo) : Prop :=
  ∃ ab cb eb ak ck ek, w.cell? ⟨g, o, none⟩ = some (.int .i64 d.kind) ∧ w.cell? ⟨g, o + 1, none⟩ = some (.int .i64 d.n) ∧ w.cell? ⟨g, o + 2, none⟩ = some (.slice ab d.b.length cb) ∧ Bytes w eb (.slice ab d.b.length cb) d.b ∧
    w.cell? ⟨g, o + 3, none⟩ = some (.slice ak d.keep.length ck) ∧ Ints w ek (.slice ak d.keep.length ck) d.keep ∧ -9223372036854775808 ≤ d.n ∧ d.n ≤ 9223372036854775807
def KDos (w : World) (v : Value) (n : Nat) : Prop := ∃ ao cap, v = .slice ao n cap ∧ n ≤ cap ∧ cap ≤ maxLen ∧ (n = 0 ∨ ∃ g o, ao = some ⟨g, o, none⟩ ∧ ∀ i, i < n → ∃ d, KDoAt w g (o + i * 4) d)
section
variable {H : Type} {enc : TypeId × Value → H} {w : World} {base : Nat} {held : Bool}
theorem int_cell_wf {n : Nat} {v : Value} {y : DataW H × List MemPlace} {spare : Nat → Bool} (h : DataW.trod enc Try.prog w base spare held n 3 [v] = some y) : ∃ i, v = .int .i64 i ∧ -9223372036854775808 ≤ i ∧ i ≤ 9223372036854775807 := by
  obtain ⟨i, hi, _, hw⟩ := DataW.trod_int Try.underlying3 h
  cases hi
  exact ⟨i, rfl, i64_of_wf hw⟩
theorem open_kdos {t e : TypeId} {fuel : Nat} {a1 : Option Addr} {len1 cap1 : Nat} {x : DataW H × List MemPlace} (ht : Try.prog.underlying t = some (.slice e)) (hs : Try.prog.underlying e = some (.struct (Try.prog.fieldsOf e)))
    (hone : oneCellFields Try.prog (Try.prog.fieldsOf e) = true) (hz : (Try.prog.fieldsOf e).size = 4) (hty : ((Try.prog.fieldsOf e).toList.map (·.type)) = [3, 3, 23, 37]) (hC : Try.prog.cellsOf e = 4)
    (h : DataW.trod enc Try.prog w base (fun _ => true) held fuel t (Value.cells (.slice a1 len1 cap1)).toList = some x) : KDos w (.slice a1 len1 cap1) len1 := by
  obtain ⟨h1, h2, _, h3⟩ := open_structs ht hs hone hz hC (by omega) h
  refine ⟨a1, cap1, rfl, h1, h2, ?_⟩
  rcases h3 with h3 | ⟨g, o, rfl, h3⟩
  · exact .inl h3
  refine .inr ⟨g, o, rfl, fun i hi => ?_⟩
  obtain ⟨n, hn⟩ := h3 i hi
  have key : ∀ j (hj : j < 4), ∃ v y, w.cell? ⟨g, o + i * 4 + j, none⟩ = some v ∧ DataW.trod enc Try.prog w base (fun _ => true) held n ([3, 3, 23, 37][j]'hj) [v] = some y := by
    intro j hj
    obtain ⟨f, hf, ht⟩ := type_at hty j hj
    obtain ⟨v, y, h1, h2⟩ := hn j f hf
    rw [ht] at h2
    exact ⟨v, y, h1, h2⟩
  obtain ⟨v0, y0, e0, t0⟩ := key 0 (by omega)
  obtain ⟨v1, y1, e1, t1⟩ := key 1 (by omega)
  obtain ⟨v2, y2, e2, t2⟩ := key 2 (by omega)
  obtain ⟨v3, y3, e3, t3⟩ := key 3 (by omega)
  obtain ⟨i0, rfl, _⟩ := int_cell_wf t0
  obtain ⟨i1, rfl, w1⟩ := int_cell_wf t1
  obtain ⟨eb, b, hb⟩ := bytes_cell t2
  obtain ⟨ek, ks, hk, hk2⟩ := ints_cell t3
  obtain ⟨ab, cb, rfl, _, _⟩ := hb.form
  obtain ⟨ak, ck, rfl, _, _⟩ := hk.form
  exact ⟨⟨i0, i1, b, ks⟩, ab, cb, eb, ak, ck, ek, e0, e1, e2, hb, e3, hk, w1⟩
theorem open_kdos111 {fuel : Nat} {a1 : Option Addr} {len1 cap1 : Nat} {x : DataW H × List MemPlace} (h : DataW.trod enc Try.prog w base (fun _ => true) held fuel 111 (Value.cells (.slice a1 len1 cap1)).toList = some x) : KDos w (.slice a1 len1 cap1) len1 :=
  open_kdos (t := 111) (e := 113) (by kernel_rfl) (by kernel_rfl) (by kernel_rfl) (by kernel_rfl) (by kernel_rfl) (by kernel_rfl) h
theorem open_kdos127 {fuel : Nat} {a1 : Option Addr} {len1 cap1 : Nat} {x : DataW H × List MemPlace} (h : DataW.trod enc Try.prog w base (fun _ => true) held fuel 127 (Value.cells (.slice a1 len1 cap1)).toList = some x) : KDos w (.slice a1 len1 cap1) len1 :=
  open_kdos (t := 127) (e := 128) (by kernel_rfl) (by kernel_rfl) (by kernel_rfl) (by kernel_rfl) (by kernel_rfl) (by kernel_rfl) h
end
end Go.Proofs.Ytlhnpicmjjddeaa
