/- DISK: the drive's calls, told of the whole drive. -/
import Derived.Test.YtlhnpicmjjddeaaRw
namespace Go.Proofs.Ytlhnpicmjjddeaa
open Go.RowKit

/-- the blocks F lie from a on, below b -/
def Bnd (F : Nat → Prop) (a b : Nat) : Prop := ∀ k, F k → a ≤ k ∧ k < b
/-- F' holds no more than F and what is new -/
def Grow (F F' : Nat → Prop) (w w' : World) : Prop := ∀ k, F' k → F k ∨ (w.heap.size ≤ k ∧ k < w'.heap.size)
theorem Bnd.mono {F : Nat → Prop} {a b b' : Nat} (h : Bnd F a b) (hb : b ≤ b') : Bnd F a b' := fun k hk => ⟨(h k hk).1, Nat.lt_of_lt_of_le (h k hk).2 hb⟩
theorem Bnd.grow {F F' : Nat → Prop} {a : Nat} {w w' : World} (h : Bnd F a w.heap.size) (g : Grow F F' w w') (hs : w.heap.size ≤ w'.heap.size) (ha : a ≤ w.heap.size) : Bnd F' a w'.heap.size := fun k hk => by
  rcases g k hk with x | x
  · have := h k x; omega
  · omega
theorem Grow.refl (F : Nat → Prop) (w w' : World) : Grow F F w w' := fun _ h => .inl h
theorem Rows2N.grow {F F' : Nat → Prop} {w w' : World} {e : TypeId} {v : Value} {ls : List (List UInt8)} (h : Rows2N F w e v ls) (k : Keep F w w') (g : Grow F F' w w') : Rows2N F' w' e v ls := by
  obtain ⟨us, h1, h2, h3, h4⟩ := h.keep k
  obtain ⟨us0, q1, q2, q3, q4⟩ := h
  refine ⟨us0, q1, q2.keep k q3, fun b hb hm => ?_, fun i hi u hu => ⟨?_, fun b hb hm => ?_⟩⟩
  · rcases g b hm with x | x
    · exact q3 b hb x
    · have := q2.home_lt hb; omega
  · obtain ⟨⟨e', hb⟩, hn⟩ := q4 i hi u hu
    exact ⟨e', hb.keep k hn⟩
  · obtain ⟨⟨e', hy⟩, hn⟩ := q4 i hi u hu
    rcases g b hm with x | x
    · exact hn b hb x
    · have := Sl.home_lt hy hb; omega
/-- one row of bytes, handed on as rows -/
theorem Rows2N.one {F : Nat → Prop} {w : World} {e : TypeId} {u : Value} {l : List UInt8} (h : Bytes w e u l) (hf : ∀ g, homeOf u = some g → ¬ F g) (hF : ¬ F w.heap.size) :
    Rows2N F (w.alloc (.cells #[u] 23)) 23 (.slice (some ⟨w.heap.size, 0, none⟩) 1 1) [l] := by
  refine ⟨[u], rfl, Sl.made 23 1 w.heap.size 1 1 _ _ (heap_alloc_new w _) (Nat.le_refl _) (by decide) rfl ⟨[], rfl⟩, fun g hg hm => ?_, ?_⟩
  · simp [homeOf] at hg
    subst hg
    exact hF hm
  intro i hi x hx
  match i, hi with
  | 0, _ =>
    simp at hx
    subst hx
    exact ⟨⟨e, h.same ((Same.refl w).alloc _)⟩, hf⟩
theorem mod96 (q : Nat) : q % 96 < (Array.replicate 96 (Value.int IntKind.u8 0)).size := by rw [Array.size_replicate]; omega
theorem zero96_cells (n : Nat) : madeCells zero96.cells (n * 96) = (flat (Dv.new n).C).toArray := by
  have h : (Dv.new n).C.flatten = List.replicate (n * 96) 0 := by
    show (List.replicate n (List.replicate 96 (0 : UInt8))).flatten = _
    rw [List.flatten_replicate_replicate]
  have h96 : zero96.cells = Array.replicate 96 (.int .u8 0) := by kernel_rfl
  unfold flat
  rw [h, h96]
  unfold madeCells
  apply Array.ext
  · simp
  · intro i h1 h2
    simp only [Array.getElem_map, Array.size_replicate]
    have e : ∀ q, (Array.replicate 96 (Value.int IntKind.u8 0))[q % 96]! = .int .u8 0 := fun q => by rw [getElem!_pos (Array.replicate 96 (Value.int IntKind.u8 0)) (q % 96) (mod96 q)]; simp
    rw [e]
    simp [u8]
theorem dNewD (w : World) (n : Nat) (h1 : 1 ≤ n) (h2 : n ≤ 2048) : Calls Try.prog 32 #[.int .i64 n] w fun en w' =>
    ∃ p F, en = .returned (.tuple #[p, .int .i64 0]) ∧ Same w w' ∧ IsDv w' p F (Dv.new n) ∧ Bnd F w.heap.size w'.heap.size := by
  refine (dNew w n h1 h2).mono ?_
  rintro en w1 ⟨rfl, S, D, C, Z⟩
  refine ⟨_, fun k => w.heap.size ≤ k ∧ k < w1.heap.size, rfl, S, ⟨w.heap.size + 1, w.heap.size, .slice none 0 0, 0, rfl, ?_, Z, ?_, by omega, ⟨Nat.le_succ _, Z.1⟩, ⟨Nat.le_refl _, (Array.getElem?_eq_some_iff.1 C).1⟩, Ints.nil _ _, (fun g hg => by simp [homeOf] at hg), ?_⟩, fun k hk => hk⟩
  · have : (Dv.new n).C.length = n := by simp [Dv.new]
    rw [this]
    exact D
  · rw [← zero96_cells]; exact C
  · refine ⟨by simp [Dv.new]; omega, by simp [Dv.new]; omega, ?_, (fun _ x => by cases x), by simp [Dv.new], by simp [Dv.new], by simp [Dv.new]⟩
    intro c hc
    have hc' : c ∈ List.replicate n (List.replicate 96 (0 : UInt8)) := hc
    obtain ⟨_, rfl⟩ := List.mem_replicate.1 hc'
    simp
/-- what a sector reads as; nothing, where there is none -/
def Dv.sector (D : Dv) (at_ : Int) : List UInt8 := if 0 ≤ at_ then D.C.getD at_.toNat [] else []
def Dv.readE (D : Dv) (at_ : Int) : Int := if 0 ≤ at_ ∧ at_ < D.C.length then 0 else 2
def RetRead (l : List UInt8) (r : Int) (w : World) (en : Ending) (w' : World) : Prop := ∃ v e, en = .returned (.tuple #[v, .int .i64 r]) ∧ Bytes w' e v l ∧ Same w w' ∧ ∀ g, homeOf v = some g → w.heap.size ≤ g
set_option maxHeartbeats 800000 in
set_option maxRecDepth 100000 in
theorem dReadD (w : World) (p : Value) (F : Nat → Prop) (D : Dv) (at_ : Int) (hD : IsDv w p F D) : Calls Try.prog 39 #[p, .int .i64 at_] w (RetRead (D.sector at_) (D.readE at_) w) := by
  by_cases h : 0 ≤ at_ ∧ at_ < D.C.length
  · obtain ⟨b, cb, kv, n, rfl, h1, h2, h3, h4, h5, h6, h7, h8, h9⟩ := hD
    obtain ⟨k, rfl⟩ := Int.eq_ofNat_of_zero_le (a := at_) h.1
    have hk : k < D.C.length := by omega
    have e1 : D.sector k = D.C[k] := by unfold Dv.sector; rw [if_pos h.1, Int.toNat_natCast, List.getD_eq_getElem?_getD, List.getElem?_eq_getElem hk]; rfl
    have e2 : D.readE k = 0 := by unfold Dv.readE; rw [if_pos h]
    rw [e1, e2]
    exact dRead w b cb D.off D.fused D.left kv n D.C k hk h9.1 h1 (Cb.whole h3 h9.2.2.1)
  · have e1 : D.sector at_ = [] := by
      unfold Dv.sector
      split
      · rw [List.getD_eq_getElem?_getD, List.getElem?_eq_none (by omega)]; rfl
      · rfl
    have e2 : D.readE at_ = 2 := by unfold Dv.readE; rw [if_neg h]
    rw [e1, e2]
    obtain ⟨b, cb, kv, n, rfl, h1, h2, h3, h4, h5, h6, h7, h8, h9⟩ := hD
    have H := hid (dOk w b _ _ _ _ _ _ _ _ h1)
    have H1 := hid h1
    have hok := h9.1
    clear h1 h2 h3 h4 h5 h6 h7 h8 h9 e1 e2
    by_cases g1 : at_ < 0
    · go_enter Try.func39, Try.ntmps39
      go_wp2_with fail
      refine H.out.mono ?_
      rintro en w1 ⟨rfl, S1⟩
      obtain ⟨c0, c1, c2, c3, c4, c5⟩ := H1.out.same S1
      go_wp2_with fail
      go_ret2
      exact ⟨_, 5, rfl, Bytes.nil _ _, S1, fun g hg => by simp [homeOf] at hg⟩
    · have g2 : (D.C.length : Int) ≤ at_ := by omega
      clear h
      go_enter Try.func39, Try.ntmps39
      go_wp2_with fail
      refine H.out.mono ?_
      rintro en w1 ⟨rfl, S1⟩
      obtain ⟨c0, c1, c2, c3, c4, c5⟩ := H1.out.same S1
      go_wp2_with fail
      go_ret2
      exact ⟨_, 5, rfl, Bytes.nil _ _, S1, fun g hg => by simp [homeOf] at hg⟩
theorem Keep.weak' {M M' : Nat → Prop} {a b : World} (h : Keep M a b) (hm : ∀ k, M k → M' k) : Keep M' a b := h.weak fun k _ => hm k
theorem dFuseD (w : World) (p v : Value) (F : Nat → Prop) (D : Dv) (m : Int) (ks : List Int) (e : TypeId) (hD : IsDv w p F D) (hk : Ints w e v ks) (hl : ks.length ≤ 1000) (hm : -9223372036854775808 ≤ m ∧ m ≤ 9223372036854775807) :
    Calls Try.prog 35 #[p, .int .i64 m, v] w fun en w' => ∃ F', en = .returned (.int .i64 (D.fuse m ks).1) ∧ Keep F w w' ∧ IsDv w' p F' (D.fuse m ks).2 ∧ Grow F F' w w' := by
  have hD0 := hD
  obtain ⟨b, cb, kv, n, rfl, h1, h2, h3, h4, h5, h6, h7, h8, h9⟩ := hD
  cases ho : D.off
  · rw [ho] at h1
    refine (dFuse w b D.fused D.left kv v _ _ _ n m ks e h1 h2 hk (by omega)).mono ?_
    rintro en w1 ⟨rfl, K, Z, kv', D', O⟩
    have e1 : D.fuse m ks = (0, { D with fused := decide (0 ≤ m), left := m, keep := ks }) := by unfold Dv.fuse; rw [ho]; rfl
    rw [e1]
    have hcb : cb < w.heap.size := (Array.getElem?_eq_some_iff.1 h3).1
    have hb : b < w.heap.size := h2.1
    refine ⟨fun k => F k ∨ (w.heap.size ≤ k ∧ k < w1.heap.size), rfl, K.weak' (fun k e => by subst e; exact h5), ⟨b, cb, kv', n, rfl, ?_, Z, ?_, h4, .inl h5, .inl h6, O.ints, fun g hg => ?_, ?_⟩, fun k hk => hk⟩
    · show Dc w1 b D.off _ _ _ _ _; rw [ho]; exact D'
    · rw [K.block cb hcb (fun e => h4 e.symm)]; exact h3
    · have := (O.lt g (home_own hg)).1
      exact ⟨.inr ⟨this, (O.lt g (home_own hg)).2⟩, by omega, by omega⟩
    · obtain ⟨q1, q2, q3, q4, q5, q6, q7⟩ := h9
      refine ⟨q1, q2, q3, fun _ x => by simpa using x, hm.1, hm.2, hl⟩
  · rw [ho] at h1
    refine (dFuse_dead w b D.fused D.left kv v _ _ _ n m h1).mono ?_
    rintro en w1 ⟨rfl, S⟩
    have e1 : D.fuse m ks = (9, D) := by unfold Dv.fuse; rw [ho]; rfl
    rw [e1]
    exact ⟨F, rfl, S.keep _, hD0.same S, Grow.refl _ _ _⟩
theorem dStartD (w : World) (p : Value) (F : Nat → Prop) (D : Dv) (hD : IsDv w p F D) :
    Calls Try.prog 41 #[p] w fun en w' => en = .returned (.int .i64 0) ∧ Keep F w w' ∧ IsDv w' p F D.start := by
  obtain ⟨b, cb, kv, n, rfl, h1, h2, h3, h4, h5, h6, h7, h8, h9⟩ := hD
  refine (dStart w b _ _ _ kv _ _ _ n h1 h2).mono ?_
  rintro en w1 ⟨rfl, K, D', Z⟩
  have hcb : cb < w.heap.size := (Array.getElem?_eq_some_iff.1 h3).1
  refine ⟨rfl, K.weak' fun k e => by subst e; exact h5, b, cb, _, n, rfl, D', Z, ?_, h4, h5, h6, Ints.nil _ _, (fun g hg => by simp [homeOf] at hg), ?_⟩
  · rw [K.block cb hcb (fun e => h4 e.symm)]; exact h3
  · obtain ⟨q1, q2, q3, q4, q5, q6, q7⟩ := h9
    exact ⟨q1, q2, q3, (fun _ x => by cases x), by simp [Dv.start], by simp [Dv.start], by simp [Dv.start]⟩
theorem dLiveD (w : World) (p : Value) (F : Nat → Prop) (D : Dv) (hD : IsDv w p F D) : Calls Try.prog 37 #[p] w (RetSame (.bool !D.off) w) := by
  obtain ⟨b, cb, kv, n, rfl, h1, _⟩ := hD
  exact dLive w b _ _ _ _ _ _ _ _ h1
theorem dSizeD (w : World) (p : Value) (F : Nat → Prop) (D : Dv) (hD : IsDv w p F D) : Calls Try.prog 42 #[p] w (RetSame (.int .i64 D.C.length) w) := by
  obtain ⟨b, cb, kv, n, rfl, h1, _⟩ := hD
  exact dSize w b _ _ _ _ _ _ _ _ h1
end Go.Proofs.Ytlhnpicmjjddeaa
