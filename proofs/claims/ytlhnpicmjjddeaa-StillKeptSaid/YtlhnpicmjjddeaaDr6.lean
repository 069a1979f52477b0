/- DISK: Read. -/
import Derived.Test.YtlhnpicmjjddeaaDr5
import Derived.Test.YtlhnpicmjjddeaaArgs
import Derived.Deep.MidRow
namespace Go.Proofs.Ytlhnpicmjjddeaa
open Go.RowKit
/-- block cb holds these sectors -/
def Cb (w : World) (cb : Nat) (C : List (List UInt8)) : Prop := cb < w.heap.size ∧ ∀ i (h : i < C.length), C[i].length = 96 ∧ w.rangeAt cb (i * 96) (C[i].map u8)
theorem Cb.same {w w' : World} {cb : Nat} {C : List (List UInt8)} (h : Cb w cb C) (S : Same w w') : Cb w' cb C :=
  ⟨by have := S.size; have := h.1; omega, fun i hi => ⟨(h.2 i hi).1, fun j v hv => by rw [S.cell (p := ⟨cb, i * 96 + j, none⟩) h.1]; exact (h.2 i hi).2 j v hv⟩⟩
theorem under143 : ∃ d, Try.prog.underlying 143 = some d ∧ d.isRow = true := ⟨_, Try.underlying143, rfl⟩
theorem size143 : (Try.prog.info? 143).map (·.size) = some 96 := by kernel_rfl
theorem Keep.setCells {M : Nat → Prop} {a : World} (b : Nat) (hb : M b ∨ a.heap.size ≤ b) : ∀ (vs : List Value) (o : Nat) (w : World), Keep M a w → Keep M a (w.setCells b o vs)
  | [], _, _, h => h
  | v :: r, o, w, h => Keep.setCells b hb r (o + 1) _ (h.setCell (p := ⟨b, o, none⟩) hb v)
theorem runStore (w : World) (l : List UInt8) (hl : l.length = 96) :
    (storeCells ⟨w.heap.size, 0, none⟩ (l.map u8)).run Try.prog (w.alloc (.cells Try.zeroCells143 143)) = .ok () ((w.alloc (.cells Try.zeroCells143 143)).setCells w.heap.size 0 (l.map u8)) := by
  have hn : (w.alloc (.cells Try.zeroCells143 143)).heap[w.heap.size]? = some (.cells Try.zeroCells143 143) := heap_alloc_new w _
  have hsz : Try.zeroCells143.size = 96 := by kernel_rfl
  have := run_storeCells_cells (P := Try.prog) w.heap.size 0 (l.map u8) 0 (w.alloc (.cells Try.zeroCells143 143)) (fun j hj => by
      simp only [List.length_map] at hj
      have : j < Try.zeroCells143.size := by omega
      simp only [World.cell?, hn]
      simp; omega) (fun j hj => by
      unfold World.frozen?
      simp only [hn]
      by_cases h0 : 0 ≤ 0 + 0 + j <;> simp) (fun v hv => by
      obtain ⟨x, _, rfl⟩ := List.mem_map.1 hv
      rfl)
  exact this
set_option maxRecDepth 100000 in
set_option maxHeartbeats 800000 in
theorem dRead (w : World) (b cb : Nat) (off fused : Bool) (left : Int) (kv : Value) (n : Int) (C : List (List UInt8)) (k : Nat) (hk : k < C.length) (hC : C.length ≤ 2048)
    (h : Dc w b off fused left kv (.slice (some ⟨cb, 0, none⟩) C.length C.length) n) (hB : Cb w cb C) :
    Calls Try.prog 39 #[.pointer (some ⟨b, 0, none⟩), .int .i64 k] w fun en w' => ∃ v e, en = .returned (.tuple #[v, .int .i64 0]) ∧ Bytes w' e v C[k] ∧ Same w w' ∧ ∀ g, homeOf v = some g → w.heap.size ≤ g := by
  have H := hid (dOk w b off fused left kv ⟨cb, 0, none⟩ C.length C.length n h)
  have H0 := hid h
  clear h
  obtain ⟨d, hu, hd⟩ := under143
  have HU := hid hu
  clear hu
  have hs := hid size143
  obtain ⟨hl, hr⟩ := hB.2 k hk
  have HR := hid hr
  clear hr
  go_enter Try.func39, Try.ntmps39
  go_wp2_with fail
  refine H.out.mono ?_
  rintro en w1 ⟨rfl, S1⟩
  obtain ⟨c0, c1, c2, c3, c4, c5⟩ := H0.out.same S1
  have hr1 : w1.rangeAt cb (k * 96) (C[k].map u8) := ((hB.same S1).2 k hk).2
  have hz : (Try.prog.info? 143).map (·.size) = some (C[k].map u8).length := by rw [hs.out]; simp [hl]
  have HZ := hid hz
  clear hz
  go_wp2_with fail
  refine wp_load_mid 143 (.tmp 28) rfl cb (k * 96) rfl (C[k].map u8) d hr1 HU.out hd HZ.out ?_
  have hst := runStore w1 C[k] hl
  have hlen : (C[k].map u8).length = 96 := by simp [hl]
  have S2 : Same w ((w1.alloc (.cells Try.zeroCells143 143)).setCells w1.heap.size 0 (C[k].map u8)) := Keep.setCells _ (.inr S1.size) _ _ _ (S1.alloc _)
  have hth : (w1.alloc (.cells Try.zeroCells143 143)).there w1.heap.size 0 (C[k].map u8).length := by
    have hn : (w1.alloc (.cells Try.zeroCells143 143)).heap[w1.heap.size]? = some (.cells Try.zeroCells143 143) := heap_alloc_new w1 _
    have hsz : Try.zeroCells143.size = 96 := by kernel_rfl
    intro j hj
    constructor
    · simp only [World.cell?, hn]
      simp; omega
    · unfold World.frozen?
      simp only [hn]
      by_cases h0 : 0 ≤ 0 + j <;> simp
  have hrg := World.rangeAt_setCells_same (w1.alloc (.cells Try.zeroCells143 143)) w1.heap.size 0 (C[k].map u8) hth
  have hB2 : ∃ e, Sl ((w1.alloc (.cells Try.zeroCells143 143)).setCells w1.heap.size 0 (C[k].map u8)) e 1 (.slice (some ⟨w1.heap.size, 0, none⟩) 96 96) 96 (C[k].map u8) :=
    Sl.of_cells 1 (by simp [hl]) (by omega) (Nat.le_refl _) (by decide) (fun j u hj => by rw [Addr.add_mid]; exact hrg j u hj)
  obtain ⟨e, hB2⟩ := hB2
  have hB3 : Bytes ((w1.alloc (.cells Try.zeroCells143 143)).setCells w1.heap.size 0 (C[k].map u8)) e (.slice (some ⟨w1.heap.size, 0, none⟩) 96 96) C[k] := by
    unfold Bytes
    rw [hl]
    exact hB2
  clear hB2 hrg hth
  have HB3 := hid hB3
  have HS2 := hid S2
  have HS1 := hid S1.size
  clear hB3 S2
  generalize hcs : C[k].map u8 = cs at *
  go_wp2_with fail
  go_ret2
  exact ⟨_, e, rfl, HB3.out, HS2.out, fun g hg => by simp [homeOf] at hg; subst hg; exact HS1.out⟩
end Go.Proofs.Ytlhnpicmjjddeaa
