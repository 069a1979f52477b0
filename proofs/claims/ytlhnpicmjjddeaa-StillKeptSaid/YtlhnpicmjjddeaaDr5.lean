/- DISK: New. -/
import Derived.Test.YtlhnpicmjjddeaaDr4
namespace Go.Proofs.Ytlhnpicmjjddeaa
open Go.RowKit
def zero96 : Value := .agg (Array.replicate 96 (.int .u8 0))
theorem tyCells : (Try.prog.info? 143).map (fun i => (i.zero, i.size, i.bytes)) = some (some zero96, 96, 96) := by kernel_rfl
theorem runMake (w : World) (n : Nat) (h2 : n ≤ 2048) : (Instr.makeSlice 53 (.int .i64 n) (.int .i64 n)).run Try.prog w =
    .ok (.slice (some ⟨w.heap.size, 0, none⟩) n n) (w.alloc (.cells (madeCells zero96.cells (n * 96)) 143)) := by
  obtain ⟨i, hi, hz, hs, hb⟩ := info_parts tyCells
  have := run_makeSlice (P := Try.prog) w 53 143 i zero96 Try.underlying53 hi hz .i64 .i64 n n (by omega) (Int.le_refl _) (by rw [hs]; simp; omega) (by rw [hb]; omega) (by omega)
  rw [hs] at this
  simpa using this
set_option maxHeartbeats 800000 in
set_option maxRecDepth 100000 in
theorem dNew (w : World) (n : Nat) (h1 : 1 ≤ n) (h2 : n ≤ 2048) : Calls Try.prog 32 #[.int .i64 n] w fun en w' => en = .returned (.tuple #[.pointer (some ⟨w.heap.size + 1, 0, none⟩), .int .i64 0]) ∧ Same w w' ∧
    Dc w' (w.heap.size + 1) false false 0 (.slice none 0 0) (.slice (some ⟨w.heap.size, 0, none⟩) n n) 0 ∧ w'.heap[w.heap.size]? = some (.cells (madeCells zero96.cells (n * 96)) 143 (0, 0)) ∧ Fz w' (w.heap.size + 1) := by
  have hm := runMake w n h2
  generalize madeCells zero96.cells (n * 96) = cs at *
  go_enter Try.func32, Try.ntmps32
  go_wp2_with fail
  go_ret2
  generalize hob : Obj.cells #[Value.bool false, Value.bool false, Value.int IntKind.i64 0, Value.slice none 0 0, Value.slice (some { block := w.heap.size, off := 0 }) n n, Value.int IntKind.i64 0] 55 = ob
  have hs : (w.alloc (Obj.cells cs 143)).heap.size = w.heap.size + 1 := by simp
  have hn : ((w.alloc (Obj.cells cs 143)).alloc ob).heap[w.heap.size + 1]? = some ob := by rw [← hs]; exact heap_alloc_new _ _
  have hc : ∀ j u, (match ob with | .cells c _ _ => c[j]? | _ => none) = some u → ((w.alloc (Obj.cells cs 143)).alloc ob).cell? ⟨w.heap.size + 1, j, none⟩ = some u := by
    intro j u hu
    subst hob
    simp only [World.cell?, hn]
    simpa using hu
  refine ⟨rfl, ((Same.refl w).alloc _).alloc _, ⟨?_, ?_, ?_, ?_, ?_, ?_⟩, ?_, ?_, ?_⟩
  · exact hc 0 _ (by subst hob; rfl)
  · exact hc 1 _ (by subst hob; rfl)
  · exact hc 2 _ (by subst hob; rfl)
  · exact hc 3 _ (by subst hob; rfl)
  · exact hc 4 _ (by subst hob; rfl)
  · exact hc 5 _ (by subst hob; rfl)
  · exact (((Same.refl (w.alloc (Obj.cells cs 143))).alloc ob).block w.heap.size (by rw [hs]; omega) (fun x => x)).trans (heap_alloc_new w _)
  · simp
  · intro o
    subst hob
    unfold World.frozen?
    simp only [hn]
    by_cases h0 : 0 ≤ o <;> simp
end Go.Proofs.Ytlhnpicmjjddeaa
