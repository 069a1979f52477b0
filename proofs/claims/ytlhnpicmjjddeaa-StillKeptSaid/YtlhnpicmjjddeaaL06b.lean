/- DISK: keep, was, lives of layer 6. -/
import Derived.Test.YtlhnpicmjjddeaaL06
import Derived.Test.YtlhnpicmjjddeaaCrcSeal
namespace Go.Proofs.Ytlhnpicmjjddeaa
open Go.RowKit

theorem Ints.head {w : World} {e : TypeId} {ao : Option Addr} {cap : Nat} {l : List Int} (h : Ints w e (.slice ao l.length cap) l) (m : Nat) (hm : m ≤ l.length) :
    Ints w e (.slice ao m cap) (l.take m) := by
  have := Sl.head h m hm
  have e1 : (l.take m).length = m := by rw [List.length_take]; omega
  unfold Ints
  rw [e1, List.map_take, show m = m * 1 from by omega]
  simpa using this
def RetI (l : List Int) (e : TypeId) (w : World) (en : Ending) (w' : World) : Prop := ∃ v, en = .returned v ∧ Ints w e v l ∧ w = w'
theorem lKeep (w : World) (e : TypeId) (v : Value) (l : List Int) (h : Ints w e v l) : Calls Try.prog 36 #[v] w (RetI (l.take 40) e w) := by
  obtain ⟨ao, cap, rfl, h1, h2⟩ := h.form
  unfold maxLen at h2
  by_cases hl : 40 < l.length
  · have H := hid (h.head 40 (by omega))
    go_enter Try.func36, Try.ntmps36
    go_wp2_with fail
    go_ret
    exact ⟨_, rfl, H.out, rfl⟩
  · have H := hid h
    have ht : Hid (l.take 40 = l) := List.take_of_length_le (by omega)
    go_enter Try.func36, Try.ntmps36
    go_wp2_with fail
    go_ret
    exact ⟨_, rfl, by rw [ht.out]; exact H.out, rfl⟩
def nought : List UInt8 := List.replicate 96 0
theorem nought_length : nought.length = 96 := by unfold nought; simp
theorem lWas (w : World) : Calls Try.prog 40 #[] w (RetOwn nought w) := by
  have hm := runMake96
  have H := hid (OwnB.zeros w 96 (by omega))
  go_enter Try.func40, Try.ntmps40
  go_wp2_with fail
  go_ret
  exact ⟨_, rfl, H.out, (Same.refl w).alloc _⟩

theorem b1_made (w : World) (n : Nat) (hn : n < 256) : Bytes (w.alloc (.cells #[.int .u8 (n : Int)] 5)) 5 (.slice (some ⟨w.heap.size, 0, none⟩) 1 1) [n.toUInt8] :=
  Bytes.made 5 w.heap.size 1 1 _ _ (heap_alloc_new w _) (Nat.le_refl _) (by decide) rfl (by
    have : (n : Int) % 256 = n := by omega
    simp [u8, this])
def lives6 : Int × Dv := (Dv.new 5).write 3 (cellsOf [[1], [2]])
theorem lives6_eq : lives6 = (0, ⟨[List.replicate 96 0, List.replicate 96 0, List.replicate 96 0, pad96 [1], pad96 [2]], false, false, 0, []⟩) := by kernel_rfl
set_option maxHeartbeats 800000 in
set_option maxRecDepth 100000 in
theorem lLives (w : World) : Calls Try.prog 38 #[] w (RetSame (.bool true) w) := by
  have HC := hid lCells
  have HL : Hid ((Dv.new 5).write 3 (cellsOf [[1], [2]]) = (0, ⟨[List.replicate 96 0, List.replicate 96 0, List.replicate 96 0, pad96 [1], pad96 [2]], false, false, 0, []⟩)) := lives6_eq
  go_enter Try.func38, Try.ntmps38
  go_wp2_with fail
  refine (dNewD w 5 (by omega) (by omega)).mono ?_
  rintro en w1 ⟨p, F, rfl, S1, D1, B1⟩
  have hR := Rows2.two ((w1.alloc (.cells #[.int .u8 1] 5)).alloc (.cells #[.int .u8 2] 5)) 5 5 _ _ [1] [2] ((b1_made w1 1 (by omega)).same ((Same.refl _).alloc _)) (b1_made (w1.alloc (.cells #[.int .u8 1] 5)) 2 (by omega))
  simp only [World.size_alloc] at hR
  have HR := hid hR
  have S2 := ((Same.refl w1).alloc (.cells #[.int .u8 1] 5)).alloc (.cells #[.int .u8 2] 5)
  have D1 := hid D1
  have B1 := hid B1
  clear hR
  obtain ⟨b, hp⟩ : ∃ b, p = .pointer (some ⟨b, 0, none⟩) := by obtain ⟨b, _, _, _, e, _⟩ := D1.out; exact ⟨b, e⟩
  subst hp
  go_wp2_with fail
  refine (HC.out _ _ _ _ HR.out).mono ?_
  rintro en w2 ⟨v2, rfl, hO, S3⟩
  have S3' := (S2.alloc _).trans S3
  have hN := hO.rows2N (M := F) (fun k hk => by have := (B1.out k hk).2; simp; omega)
  have hN := hid hN
  have D2 := hid (D1.out.same S3')
  obtain ⟨a2, c2, rfl, f1, f2⟩ := hO.rows.form
  clear hO
  go_wp2_with fail
  refine (dWrite _ _ _ _ 3 _ _ _ D2.out hN.out).mono ?_
  rintro en w3 ⟨rfl, K3, D3⟩
  rw [HL.out] at D3 ⊢
  have D3 := hid D3
  go_wp2_with fail
  refine (dReadD _ _ _ _ 4 D3.out).mono ?_
  rintro en w4 ⟨v4, e4, rfl, h4, S4, _⟩
  have e1 : Dv.sector ⟨[List.replicate 96 0, List.replicate 96 0, List.replicate 96 0, pad96 [1], pad96 [2]], false, false, 0, []⟩ 4 = pad96 [2] := rfl
  have e2 : Dv.readE ⟨[List.replicate 96 0, List.replicate 96 0, List.replicate 96 0, pad96 [1], pad96 [2]], false, false, 0, []⟩ 4 = 0 := rfl
  rw [e1] at h4
  rw [e2]
  have hp : (pad96 [2]).length = 96 := pad96_length _
  obtain ⟨a4, c4, rfl, f3, f4⟩ := h4.form
  obtain ⟨g4, o4, rfl, hc4⟩ := h4.cells (by omega)
  have k4 := hc4 0 (by omega)
  have e3 : ((pad96 [2])[0]'(by omega)).toNat = 2 := rfl
  rw [e3, Nat.add_zero] at k4
  rw [hp] at *
  have D4 := hid (D3.out.same S4)
  have HLv := hid (dLiveD _ _ _ _ D4.out)
  clear hc4 h4 e1 e2 e3 hp
  have HS := hid (((S1.trans S3').keepOwn K3 (fun k hk => (B1.out k hk).1)).trans S4)
  clear S1 S2 S3 S3' S4 K3
  go_wp2_with fail
  refine HLv.out.mono ?_
  rintro en w5 ⟨rfl, S5⟩
  go_wp2_with fail
  go_ret
  exact ⟨rfl, HS.out.trans S5⟩
end Go.Proofs.Ytlhnpicmjjddeaa
