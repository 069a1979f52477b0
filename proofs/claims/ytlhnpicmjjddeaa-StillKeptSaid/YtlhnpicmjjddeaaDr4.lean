/- DISK: Clone of ints, Fuse on a live drive, keep. -/
import Derived.Test.YtlhnpicmjjddeaaDr3
import Derived.Test.YtlhnpicmjjddeaaLib
namespace Go.Proofs.Ytlhnpicmjjddeaa
open Go.RowKit

theorem tyInts : RowTy Try.prog 37 3 1 8 (.int .i64 0) := ⟨Try.underlying37, by kernel_rfl, rfl, by decide⟩
theorem ints_one (l : List Int) : ∀ u ∈ l.map i64, u.oneCell' = true := by
  intro u hu
  obtain ⟨x, _, rfl⟩ := List.mem_map.1 hu
  rfl
def OwnI (w : World) (base : Nat) (v : Value) (l : List Int) : Prop := w.ownsRow base 3 1 v l.length (l.map i64)
theorem OwnI.nil (w : World) (base : Nat) : OwnI w base (.slice none 0 0) [] := World.ownsRow_nil w base 3 1
theorem OwnI.ints {w : World} {base : Nat} {v : Value} {l : List Int} (h : OwnI w base v l) : Ints w 3 v l := Sl.of_owns h
def RetInts (l : List Int) (w : World) (en : Ending) (w' : World) : Prop := ∃ v, en = .returned v ∧ OwnI w' w.heap.size v l ∧ Same w w'

theorem OwnI.made_none (w : World) : OwnI (w.alloc (.cells #[] 3)) w.heap.size (.slice (some ⟨w.heap.size, 0, none⟩) 0 0) [] :=
  ⟨rfl, .inr ⟨w.heap.size, 0, #[], rfl, Nat.le_refl _, heap_alloc_new w _, Nat.le_refl _, by decide, by simp, by simp⟩⟩

set_option maxRecDepth 100000 in
theorem cloneInts (w : World) (e : TypeId) (v : Value) (l : List Int) (hb : Ints w e v l) (hl : Hid (l.length ≤ 1000000)) :
    Calls Try.prog 92 #[v] w (RetInts l w) := by
  obtain ⟨ao, cap, rfl, h1, h2⟩ := hb.form
  have S0 := Same.refl w
  have kn := fun (w : World) => Lib.run_eql_slice_nil (P := Try.prog) w 37 3 ao l.length cap 0 0 Try.underlying37
  cases ao with
  | none =>
    obtain ⟨_, _, _, hv, _, _, hn, _⟩ := id hb
    simp only [Value.slice.injEq] at hv
    obtain ⟨rfl, _, rfl⟩ := hv
    have hl0 : l = [] := List.eq_nil_of_length_eq_zero (by have := hn rfl; omega)
    subst hl0
    have hcap := hn rfl
    subst hcap
    simp only [Option.isNone_none, List.length_nil] at kn ⊢
    go_enter Try.func92, Try.ntmps92
    go_wp2_with fail
    go_ret
    exact ⟨_, rfl, OwnI.nil _ _, S0⟩
  | some a =>
    simp only [Option.isNone_some] at kn
    have S1 := S0.alloc (.cells #[] 3)
    have hb1 := hb.same S1
    have HO := OwnI.made_none w
    have HN := ints_one l
    go_enter Try.func92, Try.ntmps92
    go_wp2_with (at_builtin; refine wpList_append_sl rfl (.tmp 5) (.tmp 6) tyInts rfl HO hb1 rfl rfl HN (by have := hl.out; simp [maxLen]; omega) (by have := hl.out; simp; omega) (by simp) ?_; intro x1 w1 ho1 hg1; simp only [List.map_nil, List.nil_append, List.length_nil, Nat.zero_add] at ho1; have S2 := S1.grown hg1 (fun k e => by cases e; exact Nat.le_refl _))
    go_ret
    exact ⟨_, rfl, ho1, S2⟩

theorem dFuse_dead (w : World) (b : Nat) (fused : Bool) (left : Int) (kv v : Value) (a : Addr) (l c : Nat) (n m : Int) (h : Dc w b true fused left kv (.slice (some a) l c) n) :
    Calls Try.prog 35 #[.pointer (some ⟨b, 0, none⟩), .int .i64 m, v] w (RetSame (.int .i64 9) w) := by
  have H := hid (dReady w b true fused left kv a l c n h)
  go_enter Try.func35, Try.ntmps35
  go_wp2_with fail
  refine H.out.mono ?_
  rintro en w1 ⟨rfl, S1⟩
  go_wp2_with fail
  go_ret
  exact ⟨rfl, S1⟩
theorem OwnI.keep {w w' : World} {M : Nat → Prop} {base : Nat} {v : Value} {l : List Int} (h : OwnI w base v l) (k : Keep M w w') (hm : ∀ g, v.ownBlock = some g → ¬ M g) : OwnI w' base v l := by
  obtain ⟨h1, h2⟩ := h
  refine ⟨h1, ?_⟩
  rcases h2 with h2 | ⟨g, cap, cur, rfl, b, c, d⟩
  · exact .inl h2
  · exact .inr ⟨g, cap, cur, rfl, b, by rw [k.block g (Array.getElem?_eq_some_iff.1 c).1 (hm g rfl)]; exact c, d⟩
theorem OwnI.lt {w : World} {base : Nat} {v : Value} {l : List Int} (h : OwnI w base v l) : ∀ k, v.ownBlock = some k → base ≤ k ∧ k < w.heap.size := fun k e => World.ownsRow.lt h k e

set_option maxRecDepth 100000 in
theorem dFuse (w : World) (b : Nat) (fused : Bool) (left : Int) (kv v : Value) (a : Addr) (l c : Nat) (n m : Int) (ks : List Int) (e : TypeId) (h : Dc w b false fused left kv (.slice (some a) l c) n) (hz : Fz w b) (hk : Ints w e v ks) (hl : ks.length ≤ 1000000) :
    Calls Try.prog 35 #[.pointer (some ⟨b, 0, none⟩), .int .i64 m, v] w fun en w' => en = .returned (.int .i64 0) ∧ Keep (fun k => k = b) w w' ∧ Fz w' b ∧
      ∃ kv', Dc w' b false (decide (0 ≤ m)) m kv' (.slice (some a) l c) n ∧ OwnI w' w.heap.size kv' ks := by
  have H := hid (dReady w b false fused left kv a l c n h)
  have HC := hid cloneInts
  have H0 := hid h
  have HZ := hid hz
  have hL := hid hl
  clear h hz hl
  go_enter Try.func35, Try.ntmps35
  go_wp2_with fail
  refine H.out.mono ?_
  rintro en w1 ⟨rfl, S1⟩
  go_wp2_with fail
  refine (HC.out _ _ _ _ (hk.same S1) hL).mono ?_
  rintro en w2 ⟨kv2, rfl, hO, S2⟩
  have S := S1.trans S2
  obtain ⟨c0, c1, c2, c3, c4, c5⟩ := H0.out.same S
  have hz1 := hid (HZ.out.same S)
  have z0 := hz1.out.2 0
  have z1 := hz1.out.2 1
  have z2 := hz1.out.2 2
  have z3 := hz1.out.2 3
  have HO := hid hO
  obtain ⟨ak, ck, rfl, _, _⟩ := hO.ints.form
  clear hO
  go_wp2_with fail
  go_ret
  refine ⟨rfl, keep4 S _ _ _ _, (((hz1.out.set _ _).set _ _).set _ _).set _ _, _, (H0.out.same S).set4 _ _ _ _, ?_⟩
  have K := keep4 (Same.refl w2) (b := b) (.bool false) (.bool (decide (0 ≤ m))) (.int .i64 m) (.slice ak ks.length ck)
  have hb : b < w1.heap.size := cell_lt (H0.out.same S1).1
  have O1 := HO.out
  have hsz := S1.size
  refine ⟨O1.1, ?_⟩
  have O2 := (O1.keep K (fun g e => by have := (O1.lt g e).1; omega)).2
  rcases O2 with O2 | ⟨g, cap, cur, e1, e2, r⟩
  · exact .inl O2
  · exact .inr ⟨g, cap, cur, e1, by omega, r⟩
end Go.Proofs.Ytlhnpicmjjddeaa
