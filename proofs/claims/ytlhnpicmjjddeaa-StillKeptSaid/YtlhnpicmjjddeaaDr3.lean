/- DISK: Start, Fuse on a live drive. -/
import Derived.Test.YtlhnpicmjjddeaaDr2
namespace Go.Proofs.Ytlhnpicmjjddeaa
open Go.RowKit

theorem cell_lt {w : World} {a : Addr} {u : Value} (h : w.cell? a = some u) : a.block < w.heap.size := by
  rcases Nat.lt_or_ge a.block w.heap.size with h' | h'
  · exact h'
  · simp [World.cell?, Array.getElem?_eq_none h'] at h
theorem Dc.same {w w' : World} {b : Nat} {off fused : Bool} {left n : Int} {kv cv : Value} (h : Dc w b off fused left kv cv n) (S : Same w w') : Dc w' b off fused left kv cv n := by
  obtain ⟨c0, c1, c2, c3, c4, c5⟩ := h
  have hb := cell_lt c0
  refine ⟨?_, ?_, ?_, ?_, ?_, ?_⟩
  · rw [S.cell (p := ⟨b, 0, none⟩) hb]; exact c0
  · rw [S.cell (p := ⟨b, 1, none⟩) hb]; exact c1
  · rw [S.cell (p := ⟨b, 2, none⟩) hb]; exact c2
  · rw [S.cell (p := ⟨b, 3, none⟩) hb]; exact c3
  · rw [S.cell (p := ⟨b, 4, none⟩) hb]; exact c4
  · rw [S.cell (p := ⟨b, 5, none⟩) hb]; exact c5
/-- the block may be written -/
def Fz (w : World) (b : Nat) : Prop := b < w.heap.size ∧ ∀ o, w.frozen? ⟨b, o, none⟩ = false
theorem Fz.same {w w' : World} {b : Nat} (h : Fz w b) (S : Same w w') : Fz w' b :=
  ⟨by have := S.size; have := h.1; omega, fun o => (S.below.frozen (p := ⟨b, o, none⟩) h.1).trans (h.2 o)⟩
theorem Fz.keep {w w' : World} {M : Nat → Prop} {b : Nat} (h : Fz w b) (S : Keep M w w') (hm : ¬ M b) : Fz w' b :=
  ⟨by have := S.size; have := h.1; omega, fun o => (World.frozen?_of_block (w := w) (a := ⟨b, o, none⟩) (S.block b h.1 hm)).trans (h.2 o)⟩
theorem Fz.set {w : World} {b : Nat} (h : Fz w b) (a : Addr) (u : Value) : Fz (w.setCell a u) b := ⟨by simpa using h.1, fun o => by rw [World.frozen?_setCell]; exact h.2 o⟩
theorem Dc.set4 {w : World} {b : Nat} {off fused : Bool} {left n : Int} {kv cv : Value} (h : Dc w b off fused left kv cv n) (off' fused' : Bool) (left' : Int) (kv' : Value) :
    Dc ((((w.setCell ⟨b, 0, none⟩ (.bool off')).setCell ⟨b, 1, none⟩ (.bool fused')).setCell ⟨b, 2, none⟩ (.int .i64 left')).setCell ⟨b, 3, none⟩ kv') b off' fused' left' kv' cv n := by
  obtain ⟨c0, c1, c2, c3, c4, c5⟩ := h
  have o : ∀ (i j : Nat) (W : World) (u : Value), i ≠ j → (W.setCell ⟨b, i, none⟩ u).cell? ⟨b, j, none⟩ = W.cell? ⟨b, j, none⟩ := fun i j W u hij => World.cell?_setCell_other _ _ _ _ (by simp [hij])
  refine ⟨?_, ?_, ?_, ?_, ?_, ?_⟩
  · rw [o _ _ _ _ (by decide), o _ _ _ _ (by decide), o _ _ _ _ (by decide)]; exact World.cell?_setCell_same _ _ _ c0
  · rw [o _ _ _ _ (by decide), o _ _ _ _ (by decide)]; exact World.cell?_setCell_same _ _ _ (by rw [o _ _ _ _ (by decide)]; exact c1)
  · rw [o _ _ _ _ (by decide)]; exact World.cell?_setCell_same _ _ _ (by rw [o _ _ _ _ (by decide), o _ _ _ _ (by decide)]; exact c2)
  · exact World.cell?_setCell_same _ _ _ (by rw [o _ _ _ _ (by decide), o _ _ _ _ (by decide), o _ _ _ _ (by decide)]; exact c3)
  · rw [o _ _ _ _ (by decide), o _ _ _ _ (by decide), o _ _ _ _ (by decide), o _ _ _ _ (by decide)]; exact c4
  · rw [o _ _ _ _ (by decide), o _ _ _ _ (by decide), o _ _ _ _ (by decide), o _ _ _ _ (by decide)]; exact c5
theorem keep4 {w w1 : World} {b : Nat} (h : Same w w1) (u0 u1 u2 u3 : Value) : Keep (fun k => k = b) w ((((w1.setCell ⟨b, 0, none⟩ u0).setCell ⟨b, 1, none⟩ u1).setCell ⟨b, 2, none⟩ u2).setCell ⟨b, 3, none⟩ u3) :=
  ((((h.keep (fun k => k = b)).setCell (p := ⟨b, 0, none⟩) (.inl rfl) _).setCell (p := ⟨b, 1, none⟩) (.inl rfl) _).setCell (p := ⟨b, 2, none⟩) (.inl rfl) _).setCell (p := ⟨b, 3, none⟩) (.inl rfl) _
set_option maxRecDepth 100000 in
theorem dStart (w : World) (b : Nat) (off fused : Bool) (left : Int) (kv : Value) (a : Addr) (l c : Nat) (n : Int) (h : Dc w b off fused left kv (.slice (some a) l c) n) (hz : Fz w b) :
    Calls Try.prog 41 #[.pointer (some ⟨b, 0, none⟩)] w fun en w' => en = .returned (.int .i64 0) ∧ Keep (fun k => k = b) w w' ∧ Dc w' b false false 0 (.slice none 0 0) (.slice (some a) l c) n ∧ Fz w' b := by
  have H := hid (dOk · b off fused left kv a l c n)
  have H0 := hid h
  have HZ := hid hz
  clear h hz
  go_enter Try.func41, Try.ntmps41
  go_wp2_with fail
  refine (H.out _ H0.out).mono ?_
  rintro en w1 ⟨rfl, S1⟩
  obtain ⟨c0, c1, c2, c3, c4, c5⟩ := H0.out.same S1
  have hz1 := hid (HZ.out.same S1)
  have z0 := hz1.out.2 0
  have z1 := hz1.out.2 1
  have z2 := hz1.out.2 2
  have z3 := hz1.out.2 3
  go_wp2_with fail
  go_ret
  exact ⟨rfl, keep4 S1 _ _ _ _, (H0.out.same S1).set4 _ _ _ _, (((hz1.out.set _ _).set _ _).set _ _).set _ _⟩
end Go.Proofs.Ytlhnpicmjjddeaa
