/- SCROLL's statements: Few. -/
import Derived.Test.YtlhnpicmjjddeaaL06b
namespace Go.Proofs.Ytlhnpicmjjddeaa
open Go.RowKit

theorem lFew (w : World) (e : TypeId) (v : Value) (l : List Int) (h : Ints w e v l) : Calls Try.prog 58 #[v] w (RetI (l.take 20) e w) := by
  obtain ⟨ao, cap, rfl, h1, h2⟩ := h.form
  unfold maxLen at h2
  by_cases hl : 20 < l.length
  · have H := hid (h.head 20 (by omega))
    go_enter Try.func58, Try.ntmps58
    go_wp2_with fail
    go_ret
    exact ⟨_, rfl, H.out, rfl⟩
  · have H := hid h
    have ht : Hid (l.take 20 = l) := List.take_of_length_le (by omega)
    go_enter Try.func58, Try.ntmps58
    go_wp2_with fail
    go_ret
    exact ⟨_, rfl, by rw [ht.out]; exact H.out, rfl⟩
end Go.Proofs.Ytlhnpicmjjddeaa
