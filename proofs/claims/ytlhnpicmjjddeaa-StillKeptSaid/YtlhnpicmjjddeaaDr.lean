/- DISK: the drive's block, and the small functions on it. -/
import Derived.Test.YtlhnpicmjjddeaaSmall
import Derived.WalkSpells
namespace Go.Proofs.Ytlhnpicmjjddeaa
open Go.RowKit

/-- the six cells of a drive -/
def Dc (w : World) (b : Nat) (off fused : Bool) (left : Int) (kv cv : Value) (n : Int) : Prop :=
  w.cell? ⟨b, 0, none⟩ = some (.bool off) ∧ w.cell? ⟨b, 1, none⟩ = some (.bool fused) ∧ w.cell? ⟨b, 2, none⟩ = some (.int .i64 left) ∧
  w.cell? ⟨b, 3, none⟩ = some kv ∧ w.cell? ⟨b, 4, none⟩ = some cv ∧ w.cell? ⟨b, 5, none⟩ = some (.int .i64 n)
/-- a drive that no call made -/
def Nobody (w : World) (p : Value) : Prop :=
  p = .pointer none ∨ ∃ b, p = .pointer (some ⟨b, 0, none⟩) ∧ Dc w b false false 0 (.slice none 0 0) (.slice none 0 0) 0

set_option maxRecDepth 100000 in
theorem dOk_none (w : World) (p : Value) (h : Nobody w p) : Calls Try.prog 93 #[p] w (RetSame (.bool false) w) := by
  rcases h with rfl | ⟨b, rfl, c0, c1, c2, c3, c4, c5⟩
  all_goals
    have kn := fun (w : World) => run_neq_slice_nil_any (P := Try.prog) w 53 _ none 0 0 0 0 Try.underlying53
    go_enter Try.func93, Try.ntmps93
    go_wp2_with fail
    go_ret
    exact ⟨rfl, Same.refl _⟩
set_option maxRecDepth 100000 in
theorem dOk (w : World) (b : Nat) (off fused : Bool) (left : Int) (kv : Value) (a : Addr) (l c : Nat) (n : Int) (h : Dc w b off fused left kv (.slice (some a) l c) n) :
    Calls Try.prog 93 #[.pointer (some ⟨b, 0, none⟩)] w (RetSame (.bool true) w) := by
  obtain ⟨c0, c1, c2, c3, c4, c5⟩ := h
  have kn := fun (w : World) => run_neq_slice_nil_any (P := Try.prog) w 53 _ (some a) l c 0 0 Try.underlying53
  go_enter Try.func93, Try.ntmps93
  go_wp2_with fail
  go_ret
  exact ⟨rfl, Same.refl _⟩
theorem dReady_none (w : World) (p : Value) (h : Nobody w p) : Calls Try.prog 87 #[p] w (RetSame (.int .i64 1) w) := by
  have H := hid dOk_none
  go_enter Try.func87, Try.ntmps87
  go_wp2_with fail
  refine (H.out _ _ h).mono ?_
  rintro en w1 ⟨rfl, S1⟩
  go_wp2_with fail
  go_ret
  exact ⟨rfl, S1⟩
theorem dReady (w : World) (b : Nat) (off fused : Bool) (left : Int) (kv : Value) (a : Addr) (l c : Nat) (n : Int) (h : Dc w b off fused left kv (.slice (some a) l c) n) :
    Calls Try.prog 87 #[.pointer (some ⟨b, 0, none⟩)] w (RetSame (.int .i64 (if off then 9 else 0)) w) := by
  have H := hid (dOk · b off fused left kv a l c n)
  have h' := h
  have H0 := hid h
  clear h
  obtain ⟨c0, c1, c2, c3, c4, c5⟩ := h'
  have hb : b < w.heap.size := by
    rcases Nat.lt_or_ge b w.heap.size with h | h
    · exact h
    · simp [World.cell?, Array.getElem?_eq_none h] at c0
  cases off
  all_goals
    go_enter Try.func87, Try.ntmps87
    go_wp2_with fail
    refine (H.out _ H0.out).mono ?_
    rintro en w1 ⟨rfl, S1⟩
    rw [← S1.cell (p := ⟨b, 0, none⟩) hb] at c0
    go_wp2_with fail
    go_ret
    exact ⟨rfl, S1⟩
theorem dSize_none (w : World) (p : Value) (h : Nobody w p) : Calls Try.prog 42 #[p] w (RetSame (.int .i64 0) w) := by
  have H := hid dOk_none
  go_enter Try.func42, Try.ntmps42
  go_wp2_with fail
  refine (H.out _ _ h).mono ?_
  rintro en w1 ⟨rfl, S1⟩
  go_wp2_with fail
  go_ret
  exact ⟨rfl, S1⟩
theorem dWrites_none (w : World) (p : Value) (h : Nobody w p) : Calls Try.prog 43 #[p] w (RetSame (.int .i64 0) w) := by
  have H := hid dOk_none
  go_enter Try.func43, Try.ntmps43
  go_wp2_with fail
  refine (H.out _ _ h).mono ?_
  rintro en w1 ⟨rfl, S1⟩
  go_wp2_with fail
  go_ret
  exact ⟨rfl, S1⟩
theorem dLive_none (w : World) (p : Value) (h : Nobody w p) : Calls Try.prog 37 #[p] w (RetSame (.bool false) w) := by
  have H := hid dOk_none
  go_enter Try.func37, Try.ntmps37
  go_wp2_with fail
  refine (H.out _ _ h).mono ?_
  rintro en w1 ⟨rfl, S1⟩
  go_wp2_with fail
  go_ret
  exact ⟨rfl, S1⟩
theorem dStart_none (w : World) (p : Value) (h : Nobody w p) : Calls Try.prog 41 #[p] w (RetSame (.int .i64 1) w) := by
  have H := hid dOk_none
  go_enter Try.func41, Try.ntmps41
  go_wp2_with fail
  refine (H.out _ _ h).mono ?_
  rintro en w1 ⟨rfl, S1⟩
  go_wp2_with fail
  go_ret
  exact ⟨rfl, S1⟩
theorem dFuse_none (w : World) (p v : Value) (n : Int) (h : Nobody w p) : Calls Try.prog 35 #[p, .int .i64 n, v] w (RetSame (.int .i64 1) w) := by
  have H := hid dReady_none
  go_enter Try.func35, Try.ntmps35
  go_wp2_with fail
  refine (H.out _ _ h).mono ?_
  rintro en w1 ⟨rfl, S1⟩
  go_wp2_with fail
  go_ret
  exact ⟨rfl, S1⟩
theorem dWrite_none (w : World) (p v : Value) (at_ : Int) (h : Nobody w p) : Calls Try.prog 34 #[p, .int .i64 at_, v] w (RetSame (.int .i64 1) w) := by
  have H := hid dReady_none
  go_enter Try.func34, Try.ntmps34
  go_wp2_with fail
  refine (H.out _ _ h).mono ?_
  rintro en w1 ⟨rfl, S1⟩
  go_wp2_with fail
  go_ret
  exact ⟨rfl, S1⟩
theorem dRead_none (w : World) (p : Value) (at_ : Int) (h : Nobody w p) : Calls Try.prog 39 #[p, .int .i64 at_] w (RetSame (.tuple #[.slice none 0 0, .int .i64 1]) w) := by
  have H := hid dOk_none
  go_enter Try.func39, Try.ntmps39
  go_wp2_with fail
  refine (H.out _ _ h).mono ?_
  rintro en w1 ⟨rfl, S1⟩
  go_wp2_with fail
  go_ret2
  exact ⟨rfl, S1⟩
/-- the drive after blows -/
theorem dBlows (w : World) (b : Nat) (fused : Bool) (left : Int) (kv cv : Value) (n : Int) (h : Dc w b false fused left kv cv n) (hz : ∀ o, w.frozen? ⟨b, o, none⟩ = false) (hl : fused = true → -9223372036854775808 < left ∧ left ≤ 9223372036854775807) :
    Calls Try.prog 90 #[.pointer (some ⟨b, 0, none⟩)] w fun en w' => en = .returned (.bool (fused && decide (left - 1 < 0))) ∧ Keep (fun k => k = b) w w' ∧
      Dc w' b (fused && decide (left - 1 < 0)) fused (if fused then left - 1 else left) kv cv n ∧ ∀ o, w'.frozen? ⟨b, o, none⟩ = false := by
  obtain ⟨c0, c1, c2, c3, c4, c5⟩ := h
  have z0 := hz 0
  have z2 := hz 2
  go_enter Try.func90, Try.ntmps90
  cases fused
  · go_wp2_with fail
    go_ret
    exact ⟨rfl, Keep.refl _ _, ⟨c0, c1, c2, c3, c4, c5⟩, hz⟩
  · have hl := hl rfl
    cases hd : decide (left - 1 < 0)
    all_goals
      go_wp2_with fail
      go_ret
      refine ⟨?_, ((Keep.refl (fun k => k = b) w).setCell (p := ⟨b, 2, none⟩) (.inl rfl) _).setCell (p := ⟨b, 0, none⟩) (.inl rfl) _, ?_, fun o => by rw [World.frozen?_setCell, World.frozen?_setCell]; exact hz o⟩
      · rfl
      · have o : ∀ (i j : Nat) (W : World) (u : Value), i ≠ j → (W.setCell ⟨b, i, none⟩ u).cell? ⟨b, j, none⟩ = W.cell? ⟨b, j, none⟩ := fun i j W u hij => World.cell?_setCell_other _ _ _ _ (by simp [hij])
        refine ⟨World.cell?_setCell_same _ _ _ (u := .bool false) (by rw [o _ _ _ _ (by decide)]; exact c0), ?_, ?_, ?_, ?_, ?_⟩
        · rw [o _ _ _ _ (by decide), o _ _ _ _ (by decide)]; exact c1
        · rw [o _ _ _ _ (by decide)]; exact World.cell?_setCell_same _ _ _ c2
        · rw [o _ _ _ _ (by decide), o _ _ _ _ (by decide)]; exact c3
        · rw [o _ _ _ _ (by decide), o _ _ _ _ (by decide)]; exact c4
        · rw [o _ _ _ _ (by decide), o _ _ _ _ (by decide)]; exact c5
theorem dSize (w : World) (b : Nat) (off fused : Bool) (left : Int) (kv : Value) (a : Addr) (l c : Nat) (n : Int) (h : Dc w b off fused left kv (.slice (some a) l c) n) :
    Calls Try.prog 42 #[.pointer (some ⟨b, 0, none⟩)] w (RetSame (.int .i64 l) w) := by
  have H := hid (dOk · b off fused left kv a l c n)
  have H0 := hid h
  obtain ⟨c0, c1, c2, c3, c4, c5⟩ := h
  have hb : b < w.heap.size := by
    rcases Nat.lt_or_ge b w.heap.size with h | h
    · exact h
    · simp [World.cell?, Array.getElem?_eq_none h] at c0
  go_enter Try.func42, Try.ntmps42
  go_wp2_with fail
  refine (H.out _ H0.out).mono ?_
  rintro en w1 ⟨rfl, S1⟩
  rw [← S1.cell (p := ⟨b, 4, none⟩) hb] at c4
  go_wp2_with fail
  go_ret
  exact ⟨rfl, S1⟩
theorem dWrites (w : World) (b : Nat) (off fused : Bool) (left : Int) (kv : Value) (a : Addr) (l c : Nat) (n : Int) (h : Dc w b off fused left kv (.slice (some a) l c) n) :
    Calls Try.prog 43 #[.pointer (some ⟨b, 0, none⟩)] w (RetSame (.int .i64 n) w) := by
  have H := hid (dOk · b off fused left kv a l c n)
  have H0 := hid h
  obtain ⟨c0, c1, c2, c3, c4, c5⟩ := h
  have hb : b < w.heap.size := by
    rcases Nat.lt_or_ge b w.heap.size with h | h
    · exact h
    · simp [World.cell?, Array.getElem?_eq_none h] at c0
  go_enter Try.func43, Try.ntmps43
  go_wp2_with fail
  refine (H.out _ H0.out).mono ?_
  rintro en w1 ⟨rfl, S1⟩
  rw [← S1.cell (p := ⟨b, 5, none⟩) hb] at c5
  go_wp2_with fail
  go_ret
  exact ⟨rfl, S1⟩
theorem dLive (w : World) (b : Nat) (off fused : Bool) (left : Int) (kv : Value) (a : Addr) (l c : Nat) (n : Int) (h : Dc w b off fused left kv (.slice (some a) l c) n) :
    Calls Try.prog 37 #[.pointer (some ⟨b, 0, none⟩)] w (RetSame (.bool !off) w) := by
  have H := hid (dOk · b off fused left kv a l c n)
  have H0 := hid h
  obtain ⟨c0, c1, c2, c3, c4, c5⟩ := h
  have hb : b < w.heap.size := by
    rcases Nat.lt_or_ge b w.heap.size with h | h
    · exact h
    · simp [World.cell?, Array.getElem?_eq_none h] at c0
  go_enter Try.func37, Try.ntmps37
  go_wp2_with fail
  refine (H.out _ H0.out).mono ?_
  rintro en w1 ⟨rfl, S1⟩
  rw [← S1.cell (p := ⟨b, 0, none⟩) hb] at c0
  go_wp2_with fail
  go_ret
  exact ⟨rfl, S1⟩
/-- long(b) -/
theorem dLong (w : World) (e : TypeId) (v : Value) (l : List UInt8) (h : Bytes w e v l) : Calls Try.prog 89 #[v] w (RetSame (.bool (decide (l.length ≠ 96))) w) := by
  obtain ⟨ao, cap, rfl, h1, h2⟩ := h.form
  unfold maxLen at h2
  go_enter Try.func89, Try.ntmps89
  go_wp2_with fail
  go_ret
  refine ⟨?_, Same.refl _⟩
  by_cases e : l.length = 96 <;> simp [e] <;> omega
end Go.Proofs.Ytlhnpicmjjddeaa
