/- DISK: the statements' own small functions of layer 6: Cells, keep, was. -/
import Derived.Test.YtlhnpicmjjddeaaDw4
namespace Go.Proofs.Ytlhnpicmjjddeaa
open Go.RowKit

def pad96 (l : List UInt8) : List UInt8 := l.take 96 ++ List.replicate (96 - l.length) 0
theorem pad96_length (l : List UInt8) : (pad96 l).length = 96 := by unfold pad96; simp; omega
/-- the first k rows as sectors -/
def cellsTo (ls : List (List UInt8)) (k : Nat) : List (List UInt8) := (ls.take k).map pad96
def cellsOf (ls : List (List UInt8)) : List (List UInt8) := cellsTo ls 40
theorem cellsTo_zero (ls : List (List UInt8)) : cellsTo ls 0 = [] := rfl
theorem cellsTo_succ (ls : List (List UInt8)) (k : Nat) (hk : k < ls.length) : cellsTo ls (k + 1) = cellsTo ls k ++ [pad96 ls[k]] := by
  unfold cellsTo; rw [List.take_succ_eq_append_getElem hk, List.map_append]; rfl
theorem cellsTo_length (ls : List (List UInt8)) (k : Nat) (hk : k ≤ ls.length) : (cellsTo ls k).length = k := by unfold cellsTo; simp; omega
theorem cellsOf_length (ls : List (List UInt8)) : (cellsOf ls).length = min 40 ls.length := by unfold cellsOf cellsTo; simp
theorem cellsOf_96 (ls : List (List UInt8)) : ∀ c ∈ cellsOf ls, c.length = 96 := by
  intro c hc
  obtain ⟨l, _, rfl⟩ := List.mem_map.1 hc
  exact pad96_length l
theorem cellsOf_eq (ls : List (List UInt8)) (k : Nat) (h : k ≤ ls.length) (hk : k ≤ 40) (hk2 : ¬ (k < ls.length ∧ k < 40)) : cellsOf ls = cellsTo ls k := by
  unfold cellsOf cellsTo
  congr 1
  by_cases h2 : k = 40
  · rw [h2]
  · rw [List.take_of_length_le (by omega), List.take_of_length_le (by omega)]
theorem splice_pad (r : List UInt8) : splice ((List.replicate 96 (0 : UInt8)).map u8) 0 ((r.take 96).map u8) = (pad96 r).map u8 := by
  unfold splice pad96
  simp only [List.take_zero, List.nil_append, Nat.zero_add, List.length_map, List.map_append, List.map_replicate, List.drop_replicate, List.length_take]
  rw [show 96 - min 96 r.length = 96 - r.length from by omega]
def RetRows (ls : List (List UInt8)) (w : World) (en : Ending) (w' : World) : Prop := ∃ v, en = .returned v ∧ OwnR w' w.heap.size v ls ∧ Same w w'

/-- one more row in a row of rows: what an append takes -/
theorem one_row {w : World} {base : Nat} {u : Value} {l : List UInt8} (h : Bytes w 5 u l) (hf : ∀ g, homeOf u = some g → base ≤ g) :
    Sl (w.alloc (.cells #[u] 23)) 23 1 (.slice (some ⟨w.heap.size, 0, none⟩) 1 1) 1 [u] ∧
    ∀ i (hi : i < [l].length) x, [u][i]? = some x → Bytes (w.alloc (.cells #[u] 23)) 5 x [l][i] ∧ ∀ g, homeOf x = some g → base ≤ g := by
  refine ⟨Sl.made 23 1 w.heap.size 1 1 _ _ (heap_alloc_new w _) (Nat.le_refl _) (by decide) rfl ⟨[], rfl⟩, ?_⟩
  intro i hi x hx
  match i, hi with
  | 0, _ =>
    simp at hx
    subst hx
    exact ⟨h.same ((Same.refl w).alloc _), hf⟩
theorem zeros_heap (w : World) (n : Nat) : (w.alloc (.cells (zeros n) 5)).heap[w.heap.size]? = some (.cells ((List.replicate n (0 : UInt8)).map u8).toArray 5 (0, 0)) := heap_alloc_new w _

set_option maxHeartbeats 1600000 in
set_option maxRecDepth 100000 in
theorem lCells (w : World) (e : TypeId) (v : Value) (ls : List (List UInt8)) (hR : Rows2 w e v ls) :
    Calls Try.prog 33 #[v] w (RetRows (cellsOf ls) w) := by
  obtain ⟨ao, cap, rfl, h1, h2⟩ := hR.form
  unfold maxLen at h2
  have hm := runMake96
  go_enter Try.func33, Try.ntmps33
  go_wp2_with fail
  go_loopw [3, 4] (fun out i wr => ∃ k : Nat, k ≤ ls.length ∧ k ≤ 40 ∧ i = .int .i64 k ∧ OwnR wr w.heap.size out (cellsTo ls k) ∧ Same w wr) (fun _ i _ => ls.length - (intOf i).toNat)
  case atStart => exact ⟨0, Nat.zero_le _, Nat.zero_le _, rfl, OwnR.nil _ _, Same.refl w⟩
  case round =>
    obtain ⟨k, hk, hk40, rfl, hO, S⟩ := hrel
    have HO := hid hO
    have HS := hid S
    by_cases hlt : k < ls.length ∧ k < 40
    · obtain ⟨hlt, h40⟩ := hlt
      obtain ⟨g, o, a, c, e', rfl, hcell, hby⟩ := (hR.same S).row k hlt
      have hgl := World.block_lt_of_cell? wr _ hcell
      have HB := hid (hby.same ((Same.refl wr).alloc (.cells (zeros 96) 5)))
      have HC := hid (cellsTo_succ ls k hlt)
      have HL := hid (cellsTo_length ls k hk)
      clear hby hO S
      go_wp2_with (first
        | (refine wpList_copy_keep rfl (.tmp 17) (.tmp 21) 23 rfl Try.underlying23 size5 HB.out (g := wr.heap.size) (off := 0) (dLen := 96) (dCap := 96) rfl rfl (zeros_heap wr 96) (by simp) ?_; intro w4 HG4 K4
           have S4 := hid (((Same.refl wr).alloc (.cells (zeros 96) 5)).keepOwn K4 (fun k e => by subst e; exact Nat.le_refl _))
           have O4 : Hid (OwnB w4 w.heap.size (.slice (some ⟨wr.heap.size, 0, none⟩) 96 96) (pad96 ls[k])) := OwnB.made _ _ 96 _ _ HG4.out HS.out.size (by decide) (pad96_length _) (splice_pad _)
           have HO4 := hid (HO.out.same S4.out)
           have S5 := hid ((HS.out.trans S4.out).alloc (.cells #[Value.slice (some ⟨wr.heap.size, 0, none⟩) 96 96] 23))
           clear HG4 K4)
        | (at_builtin; refine wpList_append_rows rfl (.tmp 23) (.tmp 25) 36 tyRows rfl (HO4.out.same ((Same.refl w4).alloc _)) (one_row O4.out.bytes O4.out.fresh).1 (one_row O4.out.bytes O4.out.fresh).2 rfl rfl (by rw [HL.out]; simp; omega) S5.out.size ?_; intro x1 w5 ho5 K6))
      go_roundw
      case rel => exact ⟨k + 1, by omega, by omega, by go_num, by rw [HC.out]; exact ho5, S5.out.keepOwn K6 fun j hj => (HO4.out.lt j hj).1⟩
      case measure => simp [intOf]; omega
    · have HE := hid (cellsOf_eq ls k hk hk40 hlt)
      by_cases hlt2 : k < ls.length
      · have h40 : ¬ k < 40 := fun x => hlt ⟨hlt2, x⟩
        clear hlt
        go_wp2_with fail
        go_ret
        exact ⟨_, rfl, by rw [HE.out]; exact HO.out, HS.out⟩
      · clear hlt
        go_wp2_with fail
        go_ret
        exact ⟨_, rfl, by rw [HE.out]; exact HO.out, HS.out⟩
end Go.Proofs.Ytlhnpicmjjddeaa
