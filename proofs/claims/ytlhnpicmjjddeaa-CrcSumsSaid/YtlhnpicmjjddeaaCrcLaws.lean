/- The walks of the statements of layer 5. -/
import Derived.Test.YtlhnpicmjjddeaaCrcWalks
import Derived.Test.YtlhnpicmjjddeaaSmall
namespace Go.Proofs.Ytlhnpicmjjddeaa
open Go.RowKit

set_option maxHeartbeats 800000 in
set_option maxRecDepth 100000 in
theorem crcSumsWalk (c : Nat) (hc : c < 4294967296) (v : Value) (e : TypeId) (l : List UInt8) (w : World) (hb : Bytes w e v l) :
    Calls Try.prog 3 #[.int .u32 c, v] w (RetSame (.bool true) w) := by
  have hlv := crcLives
  have H := hid hlv; clear hlv
  go_enter Try.func3, Try.ntmps3
  go_wp2_with fail
  refine (r01Cut w e v l 300 hb).mono ?_
  rintro en w' ⟨v', rfl, hb', rfl⟩
  go_wp2_with fail
  refine (crcMore _ e v' _ c hc hb').mono ?_
  rintro en w' ⟨rfl, rfl⟩
  go_wp2_with fail
  refine (refMore _ e v' _ c hc hb').mono ?_
  rintro en w' ⟨rfl, rfl⟩
  go_wp2_with fail
  refine (crcOf _ e v' _ hb').mono ?_
  rintro en w' ⟨rfl, rfl⟩
  go_wp2_with fail
  refine (refMore _ e v' _ 11994318 (by omega) hb').mono ?_
  rintro en w' ⟨rfl, rfl⟩
  go_wp2_with fail
  refine (H.out _).mono ?_
  rintro en w' ⟨rfl, hs⟩
  go_wp2_with fail
  go_ret
  exact ⟨rfl, hs⟩
end Go.Proofs.Ytlhnpicmjjddeaa
