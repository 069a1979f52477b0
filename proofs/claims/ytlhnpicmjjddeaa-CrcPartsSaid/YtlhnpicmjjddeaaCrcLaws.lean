/- The walks of the statements of layer 5. -/
import Derived.Test.YtlhnpicmjjddeaaCrcWalks
import Derived.Test.YtlhnpicmjjddeaaSmall
import Derived.Test.YtlhnpicmjjddeaaTys
namespace Go.Proofs.Ytlhnpicmjjddeaa
open Go.RowKit

set_option maxHeartbeats 800000 in
set_option maxRecDepth 100000 in
theorem crcSumsWalk (c : Nat) (hc : c < 4294967296) (v : Value) (e : TypeId) (l : List UInt8) (w : World) (hb : Bytes w e v l) :
    Calls Try.prog 3 #[.int .u32 c, v] w (RetSame (.bool true) w) := by
  have hlv := crcLives
  have H := hid hlv; clear hlv
  go_enter Try.func3, Try.ntmps3
  go_wp2_with fail
  refine (r01Cut w e v l 300 hb).mono ?_
  rintro en w' ⟨v', rfl, hb', rfl⟩
  go_wp2_with fail
  refine (crcMore _ e v' _ c hc hb').mono ?_
  rintro en w' ⟨rfl, rfl⟩
  go_wp2_with fail
  refine (refMore _ e v' _ c hc hb').mono ?_
  rintro en w' ⟨rfl, rfl⟩
  go_wp2_with fail
  refine (crcOf _ e v' _ hb').mono ?_
  rintro en w' ⟨rfl, rfl⟩
  go_wp2_with fail
  refine (refMore _ e v' _ 11994318 (by omega) hb').mono ?_
  rintro en w' ⟨rfl, rfl⟩
  go_wp2_with fail
  refine (H.out _).mono ?_
  rintro en w' ⟨rfl, hs⟩
  go_wp2_with fail
  go_ret
  exact ⟨rfl, hs⟩
set_option maxHeartbeats 800000 in
set_option maxRecDepth 100000 in
theorem crcPartsWalk (c : Nat) (hc : c < 4294967296) (v1 v2 : Value) (e1 e2 : TypeId) (l1 l2 : List UInt8) (w : World) (hb1 : Bytes w e1 v1 l1) (hb2 : Bytes w e2 v2 l2) :
    Calls Try.prog 4 #[.int .u32 c, v1, v2] w (RetSame (.bool true) w) := by
  have hlv := crcLives
  have H := hid hlv; clear hlv
  go_enter Try.func4, Try.ntmps4
  go_wp2_with fail
  refine (r01Cut w e1 v1 l1 200 hb1).mono ?_
  rintro en w' ⟨va, rfl, ha, rfl⟩
  go_wp2_with fail
  refine (r01Cut w e2 v2 l2 200 hb2).mono ?_
  rintro en w' ⟨vb, rfl, hb, rfl⟩
  have L1 : (l1.take 200).length ≤ 200 := by rw [List.length_take]; omega
  have L2 : (l2.take 200).length ≤ 200 := by rw [List.length_take]; omega
  generalize l1.take 200 = p at *
  generalize l2.take 200 = q at *
  have S0 := Same.refl w
  go_wp2_with (first
    | (at_builtin; refine wpList_append_bytes rfl (.tmp 12) (.tmp 13) 23 tyBytes rfl (OwnB.nil w w.heap.size) ha rfl rfl (by simp; omega) (Nat.le_refl _) ?_; intro x1 w1 ho1 hg1; simp only [List.nil_append] at ho1; have S1 := S0.grown_nil hg1; have hb1 := hb.same S1)
    | (at_builtin; refine wpList_append_bytes rfl (.tmp 15) (.tmp 16) 23 tyBytes rfl ho1 hb1 rfl rfl (by omega) S1.size ?_; intro x2 w2 ho2 hg2; have S2 := S1.grown_own ho1 (Nat.le_refl _) hg2))
  refine (crcMore _ e1 va _ c hc (ha.same S2)).mono ?_
  rintro en w' ⟨rfl, rfl⟩
  have hm : CrcPure.more (c % 16777216) p < 16777216 := CrcPure.more_lt _ (Nat.mod_lt _ (by decide))
  go_wp2_with fail
  refine (crcMore _ e2 vb _ _ (by omega) (hb.same S2)).mono ?_
  rintro en w' ⟨rfl, rfl⟩
  go_wp2_with fail
  refine (crcMore _ 5 _ _ c hc ho2.bytes).mono ?_
  rintro en w' ⟨rfl, rfl⟩
  rw [CrcPure.more_append, Nat.mod_eq_of_lt hm]
  go_wp2_with fail
  refine (H.out _).mono ?_
  rintro en w' ⟨rfl, hs⟩
  go_wp2_with fail
  go_ret
  exact ⟨rfl, S2.trans hs⟩
end Go.Proofs.Ytlhnpicmjjddeaa
