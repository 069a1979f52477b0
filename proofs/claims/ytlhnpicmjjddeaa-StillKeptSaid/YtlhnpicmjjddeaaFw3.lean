/- FRAME: bytes.Clone; parts of a row of bytes; Decode where no frame can be. -/
import Derived.Test.YtlhnpicmjjddeaaFw2
import Derived.Test.YtlhnpicmjjddeaaCrcLaws2
namespace Go.Proofs.Ytlhnpicmjjddeaa
open Go.RowKit

set_option maxRecDepth 100000 in
theorem bClone (w : World) (e : TypeId) (v : Value) (l : List UInt8) (hb : Bytes w e v l) (hl : Hid (l.length ≤ 1000000)) :
    Calls Try.prog 99 #[v] w (RetOwn l w) := by
  obtain ⟨ao, cap, rfl, h1, h2⟩ := hb.form
  have S0 := Same.refl w
  have kn := fun (w : World) => Lib.run_eql_slice_nil (P := Try.prog) w 23 5 ao l.length cap 0 0 Try.underlying23
  cases ao with
  | none =>
    obtain ⟨_, _, _, hv, _, _, hn, _⟩ := id hb
    simp only [Value.slice.injEq] at hv
    obtain ⟨rfl, _, rfl⟩ := hv
    have hl0 : l = [] := List.eq_nil_of_length_eq_zero (by have := hn rfl; omega)
    subst hl0
    have hcap := hn rfl
    subst hcap
    simp only [Option.isNone_none, List.length_nil] at kn ⊢
    go_enter Try.func99, Try.ntmps99
    go_wp2_with fail
    go_ret
    exact ⟨_, rfl, OwnB.nil _ _, S0⟩
  | some a =>
    simp only [Option.isNone_some] at kn
    have S1 := S0.alloc (.cells #[] 5)
    have hb1 := hb.same S1
    have HO := OwnB.made_none w
    go_enter Try.func99, Try.ntmps99
    go_wp2_with (at_builtin; refine wpList_append_bytes rfl (.tmp 5) (.tmp 6) 23 tyBytes rfl HO hb1 rfl rfl (by have := hl.out; simp; omega) (by simp) ?_; intro x1 w1 ho1 hg1; simp only [List.nil_append] at ho1; have S2 := S1.grown_own HO (Nat.le_refl _) hg1)
    go_ret
    exact ⟨_, rfl, ho1, S2⟩

/-- a part of a row of bytes -/
theorem Bytes.part {w : World} {e : TypeId} {g o : Nat} {n cap : Nat} {l : List UInt8} (h : Bytes w e (.slice (some ⟨g, o, none⟩) n cap) l) (i k c : Nat) (hi : i + k ≤ l.length) (hk : k ≤ c) (hc : c ≤ maxLen) :
    Bytes w e (.slice (some ⟨g, o + i, none⟩) k c) ((l.drop i).take k) := by
  have e1 : ((l.drop i).take k).length = k := by rw [List.length_take, List.length_drop]; omega
  unfold Bytes
  rw [e1]
  refine ⟨by simp; omega, some ⟨g, o + i, none⟩, c, rfl, hk, hc, (fun x => nomatch x), ?_⟩
  cases k with
  | zero => exact .inl rfl
  | succ k =>
    obtain ⟨_, ao, cap', hv, _, _, _, h5⟩ := h
    simp only [Value.slice.injEq] at hv
    obtain ⟨rfl, hn, _⟩ := hv
    rcases h5 with h5 | ⟨g2, o2, cur, fr, hq2, hg, hx⟩
    · omega
    · cases hq2
      refine .inr ⟨g, o + i, cur, fr, rfl, hg, ?_⟩
      obtain ⟨t, ht⟩ := hx
      rw [← List.drop_drop, ← ht, List.drop_append_of_le_length (by simp; omega), ← List.map_drop, List.map_take]
      exact (List.take_prefix _ _).trans (List.prefix_append _ _)

theorem dec_early {b : List UInt8} (h : openOk b = false ∨ (openIn b).length ≠ 93 ∨ 80 < ((openIn b).getD 12 0).toNat) : dec b = none := by
  cases hd : dec b with
  | none => rfl
  | some f =>
    obtain ⟨hr, he⟩ := dec_some.1 hd
    have hlen : f.data.length ≤ 80 := (partOk_iff.1 (Fr.right_iff.1 hr).2).2.2.2.2
    subst he
    have e1 : openIn (enc f) = f.inner := openIn_sealed f.inner
    rcases h with h | h | h
    · rw [show openOk (enc f) = true from openOk_sealed f.inner] at h; cases h
    · rw [e1, f.inner_length hlen] at h; exact absurd rfl h
    · rw [e1] at h
      exfalso
      have e2 : f.inner.getD 12 0 = f.data.length.toUInt8 := by
        have hh := f.head_length
        unfold Fr.inner Fr.more
        rw [List.append_assoc, List.append_assoc, List.getD_eq_getElem?_getD, List.getElem?_append_right (by omega), hh]
        rfl
      rw [e2] at h
      have : f.data.length.toUInt8.toNat = f.data.length % 256 := by simp
      omega
/-- the fields that stand in the bytes without their sum -/
theorem fld_in (b : List UInt8) (hb : b.length = 96) (h12 : ((openIn b).getD 12 0).toNat ≤ 80) : fld (openIn b) = fld b := by
  have t : ∀ k, k ≤ 93 → (b.take 93).take k = b.take k := fun k hk => by rw [List.take_take, Nat.min_eq_left hk]
  have g : ∀ k, k < 93 → (b.take 93).getD k 0 = b.getD k 0 := fun k hk => by rw [List.getD_eq_getElem?_getD, List.getD_eq_getElem?_getD, List.getElem?_take, if_pos hk]
  have d : ∀ i k, i + k ≤ 93 → ((b.take 93).drop i).take k = (b.drop i).take k := fun i k hk => by rw [List.drop_take, List.take_take, Nat.min_eq_left (by omega)]
  unfold openIn at h12 ⊢
  rw [hb] at h12 ⊢
  simp only [Nat.reduceSub] at h12 ⊢
  have h12' := h12
  rw [g 12 (by omega)] at h12'
  unfold fld
  rw [t 3 (by omega), d 3 3 (by omega), d 6 4 (by omega), g 10 (by omega), g 11 (by omega), g 12 (by omega), d 13 _ (by omega)]
/-- what Decode makes of the fields -/
theorem dec_late {b : List UInt8} (h1 : openOk b = true) (h2 : (openIn b).length = 93) (h3 : ((openIn b).getD 12 0).toNat ≤ 80) :
    b.length = 96 ∧ fld (openIn b) = fld b := by
  have hb : b.length = 96 := by
    have : CrcPure.sealed (openIn b) = b := of_decide_eq_true h1
    have := congrArg List.length this
    rw [CrcPure.sealed_length] at this
    omega
  exact ⟨hb, fld_in b hb h3⟩
/-- a frame with a row of its own -/
def FrO (w : World) (base : Nat) (x : Value) (f : Fr) : Prop := ∃ v, x = f.agg v ∧ OwnB w base v f.data
theorem FrO.frv {w : World} {base : Nat} {x : Value} {f : Fr} (h : FrO w base x f) : FrV w x f := let ⟨v, h1, h2⟩ := h; ⟨v, 5, h1, h2.bytes⟩
def RetDec (f : Fr) (n : Int) (w : World) (en : Ending) (w' : World) : Prop := ∃ x, en = .returned (.tuple #[x, .int .i64 n]) ∧ FrO w' w.heap.size x f ∧ Same w w'
theorem decF_none {b : List UInt8} (h : dec b = none) : decF b = Fr.zero ∧ decE b = 3 := by unfold decF decE; rw [h]; exact ⟨rfl, rfl⟩
theorem decF_some {b : List UInt8} {f : Fr} (h : dec b = some f) : decF b = f ∧ decE b = 0 := by unfold decF decE; rw [h]; exact ⟨rfl, rfl⟩

/-- a box of six cells that is known whole -/
def Box6 (w : World) (b : Nat) (c0 c1 c2 c3 c4 c5 : Value) : Prop := w.heap[b]? = some (.cells #[c0, c1, c2, c3, c4, c5] 60 (0, 0))
theorem Box6.lt {w : World} {b : Nat} {c0 c1 c2 c3 c4 c5 : Value} (h : Box6 w b c0 c1 c2 c3 c4 c5) : b < w.heap.size := (Array.getElem?_eq_some_iff.1 h).1
theorem Box6.keep {w w' : World} {M : Nat → Prop} {b : Nat} {c0 c1 c2 c3 c4 c5 : Value} (h : Box6 w b c0 c1 c2 c3 c4 c5) (K : Keep M w w') (hm : ¬ M b) : Box6 w' b c0 c1 c2 c3 c4 c5 := (K.block b h.lt hm).trans h
theorem Box6.same {w w' : World} {b : Nat} {c0 c1 c2 c3 c4 c5 : Value} (h : Box6 w b c0 c1 c2 c3 c4 c5) (S : Same w w') : Box6 w' b c0 c1 c2 c3 c4 c5 := h.keep S fun x => x
theorem Box6.new (w : World) (c0 c1 c2 c3 c4 c5 : Value) : Box6 (w.alloc (.cells #[c0, c1, c2, c3, c4, c5] 60)) w.heap.size c0 c1 c2 c3 c4 c5 := heap_alloc_new w _
theorem Box6.cells {w : World} {b : Nat} {c0 c1 c2 c3 c4 c5 : Value} (h : Box6 w b c0 c1 c2 c3 c4 c5) :
    w.cell? ⟨b, 0, none⟩ = some c0 ∧ w.cell? ⟨b, 1, none⟩ = some c1 ∧ w.cell? ⟨b, 2, none⟩ = some c2 ∧ w.cell? ⟨b, 3, none⟩ = some c3 ∧ w.cell? ⟨b, 4, none⟩ = some c4 ∧ w.cell? ⟨b, 5, none⟩ = some c5 := by
  refine ⟨?_, ?_, ?_, ?_, ?_, ?_⟩
  all_goals (rw [cell_of_row w b _ _ 60 _ h]; rfl)
theorem Box6.free {w : World} {b : Nat} {c0 c1 c2 c3 c4 c5 : Value} (h : Box6 w b c0 c1 c2 c3 c4 c5) (o : Nat) : w.frozen? ⟨b, o, none⟩ = false := by
  unfold World.frozen?
  rw [h]
  by_cases h0 : 0 ≤ o <;> simp
/-- six stores into a box -/
theorem Box6.set {w : World} {b : Nat} {c0 c1 c2 c3 c4 c5 : Value} (h : Box6 w b c0 c1 c2 c3 c4 c5) (u0 u1 u2 u3 u4 u5 : Value) :
    Keep (fun k => k = b) w ((((((w.setCell ⟨b, 0, none⟩ u0).setCell ⟨b, 1, none⟩ u1).setCell ⟨b, 2, none⟩ u2).setCell ⟨b, 3, none⟩ u3).setCell ⟨b, 4, none⟩ u4).setCell ⟨b, 5, none⟩ u5) ∧
    Box6 ((((((w.setCell ⟨b, 0, none⟩ u0).setCell ⟨b, 1, none⟩ u1).setCell ⟨b, 2, none⟩ u2).setCell ⟨b, 3, none⟩ u3).setCell ⟨b, 4, none⟩ u4).setCell ⟨b, 5, none⟩ u5) b u0 u1 u2 u3 u4 u5 := by
  constructor
  · exact ((((((Keep.refl (fun k => k = b) w).setCell (p := ⟨b, 0, none⟩) (.inl rfl) _).setCell (p := ⟨b, 1, none⟩) (.inl rfl) _).setCell (p := ⟨b, 2, none⟩) (.inl rfl) _).setCell (p := ⟨b, 3, none⟩) (.inl rfl) _).setCell (p := ⟨b, 4, none⟩) (.inl rfl) _).setCell (p := ⟨b, 5, none⟩) (.inl rfl) _
  · have h0 := heap_setCell_same w b 0 _ 60 u0 h
    have h1 := heap_setCell_same _ b 1 _ 60 u1 h0
    have h2 := heap_setCell_same _ b 2 _ 60 u2 h1
    have h3 := heap_setCell_same _ b 3 _ 60 u3 h2
    have h4 := heap_setCell_same _ b 4 _ 60 u4 h3
    exact heap_setCell_same _ b 5 _ 60 u5 h4
/-- the end of a call that hands back a frame out of a box -/
theorem Same.box {w w1 : World} (S : Same w w1) {w2 : World} {b : Nat} (K : Keep (fun k => k = b) w1 w2) (hb : w.heap.size ≤ b) : Same w w2 := S.keepOwn K fun k e => by subst e; exact hb
set_option maxHeartbeats 1600000 in
set_option maxRecDepth 100000 in
theorem fDecodeEarly (w : World) (e : TypeId) (v : Value) (b : List UInt8) (hb : Bytes w e v b) (hl : b.length ≤ 900000) (h : openOk b = false ∨ (openIn b).length ≠ 93 ∨ 80 < ((openIn b).getD 12 0).toNat) :
    Calls Try.prog 48 #[v] w (RetDec (decF b) (decE b) w) := by
  have HZ := hid (decF_none (dec_early h))
  rw [HZ.out.1, HZ.out.2]
  have HO := hid (fun w' (S : Same w w') => crcOpen w' e v b (hb.same S) hl)
  have hle : (openIn b).length ≤ 900000 := by unfold openIn; rw [List.length_take]; omega
  clear hb hl
  generalize openIn b = l at *
  generalize openOk b = ok at *
  by_cases h1 : ok = false
  · subst h1
    clear h
    have HBx := hid (Box6.new w (.int .i64 0) (.int .i64 0) (.int .i64 0) (.int .i64 0) (.int .i64 0) (.slice none 0 0))
    go_enter Try.func48, Try.ntmps48
    go_wp2_with fail
    refine (HO.out _ ((Same.refl w).alloc _)).mono ?_
    rintro en w1 ⟨v1, rfl, O1, S1⟩
    have B1 := hid (HBx.out.same S1)
    have S1 := hid (((Same.refl w).alloc _).trans S1)
    obtain ⟨c0, c1, c2, c3, c4, c5⟩ := B1.out.cells
    have z0 := B1.out.free 0
    have z1 := B1.out.free 1
    have z2 := B1.out.free 2
    have z3 := B1.out.free 3
    have z4 := B1.out.free 4
    have z5 := B1.out.free 5
    obtain ⟨a1, q1, rfl, _, _⟩ := O1.bytes.form
    clear O1
    go_wp2_with fail
    obtain ⟨K2, B2⟩ := B1.out.set (.int .i64 0) (.int .i64 0) (.int .i64 0) (.int .i64 0) (.int .i64 0) (.slice none 0 0)
    obtain ⟨d0, d1, d2, d3, d4, d5⟩ := B2.cells
    refine bodyPost_ret (v := .tuple #[Fr.agg Fr.zero (.slice none 0 0), .int .i64 3]) ?_ rfl ⟨_, rfl, ⟨_, rfl, OwnB.nil _ _⟩, S1.out.box K2 (Nat.le_refl _)⟩
    simp [results, Try.results48, go_sem, d0, d1, d2, d3, d4, d5]
    rfl
  · obtain rfl : ok = true := by simpa using h1
    by_cases h2 : l.length = 93
    · have h3 : 80 < (l.getD 12 0).toNat := by
        rcases h with h | h | h
        · cases h
        · exact absurd h2 h
        · exact h
      have e12 : l.getD 12 0 = l[12]'(by omega) := by rw [List.getD_eq_getElem?_getD, List.getElem?_eq_getElem (by omega)]; rfl
      rw [e12] at h3
      have hlt : (l[12]'(by omega)).toNat < 256 := (l[12]'(by omega)).toNat_lt
      clear h h1 e12
      have HBx := hid (Box6.new w (.int .i64 0) (.int .i64 0) (.int .i64 0) (.int .i64 0) (.int .i64 0) (.slice none 0 0))
      go_enter Try.func48, Try.ntmps48
      go_wp2_with fail
      refine (HO.out _ ((Same.refl w).alloc _)).mono ?_
      rintro en w1 ⟨v1, rfl, O1, S1⟩
      have B1 := hid (HBx.out.same S1)
      have S1 := hid (((Same.refl w).alloc _).trans S1)
      obtain ⟨c0, c1, c2, c3, c4, c5⟩ := B1.out.cells
      have z0 := B1.out.free 0
      have z1 := B1.out.free 1
      have z2 := B1.out.free 2
      have z3 := B1.out.free 3
      have z4 := B1.out.free 4
      have z5 := B1.out.free 5
      obtain ⟨a1, q1, rfl, _, _⟩ := O1.bytes.form
      obtain ⟨g, o, rfl, hc⟩ := O1.bytes.cells (by omega)
      have k12 := hc 12 (by omega)
      rw [h2] at *
      clear hc h2
      generalize (l[12]'_).toNat = x at *
      have hx : decide ((80 : Int) < (x : Int)) = true := by simp; omega
      clear O1
      go_wp2_with fail
      obtain ⟨K2, B2⟩ := B1.out.set (.int .i64 0) (.int .i64 0) (.int .i64 0) (.int .i64 0) (.int .i64 0) (.slice none 0 0)
      obtain ⟨d0, d1, d2, d3, d4, d5⟩ := B2.cells
      refine bodyPost_ret (v := .tuple #[Fr.agg Fr.zero (.slice none 0 0), .int .i64 3]) ?_ rfl ⟨_, rfl, ⟨_, rfl, OwnB.nil _ _⟩, S1.out.box K2 (Nat.le_refl _)⟩
      simp [results, Try.results48, go_sem, d0, d1, d2, d3, d4, d5]
      rfl
    · have hn : ((l.length : Int) != 93) = true := by rw [bne_iff_ne]; omega
      clear h h1 h2
      have HBx := hid (Box6.new w (.int .i64 0) (.int .i64 0) (.int .i64 0) (.int .i64 0) (.int .i64 0) (.slice none 0 0))
      go_enter Try.func48, Try.ntmps48
      go_wp2_with fail
      refine (HO.out _ ((Same.refl w).alloc _)).mono ?_
      rintro en w1 ⟨v1, rfl, O1, S1⟩
      have B1 := hid (HBx.out.same S1)
      have S1 := hid (((Same.refl w).alloc _).trans S1)
      obtain ⟨c0, c1, c2, c3, c4, c5⟩ := B1.out.cells
      have z0 := B1.out.free 0
      have z1 := B1.out.free 1
      have z2 := B1.out.free 2
      have z3 := B1.out.free 3
      have z4 := B1.out.free 4
      have z5 := B1.out.free 5
      obtain ⟨a1, q1, rfl, _, _⟩ := O1.bytes.form
      clear O1
      go_wp2_with fail
      obtain ⟨K2, B2⟩ := B1.out.set (.int .i64 0) (.int .i64 0) (.int .i64 0) (.int .i64 0) (.int .i64 0) (.slice none 0 0)
      obtain ⟨d0, d1, d2, d3, d4, d5⟩ := B2.cells
      refine bodyPost_ret (v := .tuple #[Fr.agg Fr.zero (.slice none 0 0), .int .i64 3]) ?_ rfl ⟨_, rfl, ⟨_, rfl, OwnB.nil _ _⟩, S1.out.box K2 (Nat.le_refl _)⟩
      simp [results, Try.results48, go_sem, d0, d1, d2, d3, d4, d5]
      rfl
end Go.Proofs.Ytlhnpicmjjddeaa
