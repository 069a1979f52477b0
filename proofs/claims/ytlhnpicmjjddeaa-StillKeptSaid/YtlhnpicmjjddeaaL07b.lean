/- FRAME: short, plain, and the reference's Same of two frames that are one. -/
import Derived.Test.YtlhnpicmjjddeaaL07
namespace Go.Proofs.Ytlhnpicmjjddeaa
open Go.RowKit

/-- Cut, told of an elder world -/
theorem r01Cut0 (w0 w : World) (e : TypeId) (v : Value) (l : List UInt8) (n : Nat) (hb : Bytes w0 e v l) :
    Calls Try.prog 22 #[v, .int .i64 n] w fun en w' => ∃ v', en = .returned v' ∧ Bytes w0 e v' (l.take n) ∧ w = w' := by
  obtain ⟨ao, cap, rfl, h1, h2⟩ := hb.form
  unfold maxLen at h2
  by_cases h : n < l.length
  · have hh := hb.head n (by omega)
    have H := hid hh; clear hh
    go_enter Try.func22, Try.ntmps22
    go_wp2
    go_ret
    exact ⟨_, rfl, H.out, rfl⟩
  · have ht : l.take n = l := List.take_of_length_le (by omega)
    rw [ht]; clear ht
    go_enter Try.func22, Try.ntmps22
    go_wp2
    go_ret
    exact ⟨_, rfl, hb, rfl⟩
def RetFr (f : Fr) (w : World) (en : Ending) (w' : World) : Prop := ∃ x, en = .returned x ∧ FrV w' x f ∧ Same w w'
def Fr.cut90 (f : Fr) : Fr := { f with data := f.data.take 90 }
set_option maxHeartbeats 1600000 in
set_option maxRecDepth 100000 in
theorem fShort (w : World) (x : Value) (f : Fr) (hx : FrV w x f) : Calls Try.prog 44 #[x] w (RetFr f.cut90 w) := by
  obtain ⟨v, e, rfl, hb⟩ := hx
  obtain ⟨ao, cap, rfl, h1, h2⟩ := hb.form
  have HC := hid (fun w' => show Calls Try.prog 22 #[.slice ao f.data.length cap, .int .i64 90] w' _ from r01Cut0 w w' e _ f.data 90 hb)
  have HB := hid hb
  clear hb
  unfold Fr.agg
  go_enter Try.func44, Try.ntmps44
  go_wp2_with fail
  refine (HC.out _).mono ?_
  rintro en w1 ⟨v1, rfl, h3, rfl⟩
  obtain ⟨a1, c1, rfl, _, _⟩ := h3.form
  have H3 := hid h3
  clear h3
  go_wp2_with fail
  have hm : (f.data.take 90).length = min 90 f.data.length := List.length_take
  have HM := hid hm
  clear hm
  refine bodyPost_ret (v := .agg #[.int .i64 f.life, .int .i64 f.era, .int .i64 f.seq, .int .i64 f.part, .int .i64 f.parts, .slice a1 (f.data.take 90).length c1]) ?_ rfl ⟨_, rfl, ⟨_, e, rfl, (H3.out.same ((Same.refl w).alloc _)).same ((Same.refl _).alloc _)⟩, ((Same.refl w).alloc _).alloc _⟩
  rw [HM.out]
  simp [results, Try.results44, go_sem]
set_option maxHeartbeats 1600000 in
set_option maxRecDepth 100000 in
theorem fPlain (w : World) (x : Value) (f : Fr) (hx : FrV w x f) : Calls Try.prog 47 #[x] w (RetSame x w) := by
  obtain ⟨v, e, rfl, hb⟩ := hx
  obtain ⟨ao, cap, rfl, h1, h2⟩ := hb.form
  clear hb
  unfold Fr.agg
  go_enter Try.func47, Try.ntmps47
  go_wp2_with fail
  exact bodyPost_ret (v := .agg #[.int .i64 f.life, .int .i64 f.era, .int .i64 f.seq, .int .i64 f.part, .int .i64 f.parts, .slice ao f.data.length cap]) (by simp [results, Try.results47, go_sem]) rfl ⟨rfl, ((Same.refl w).alloc _).alloc _⟩
theorem box59 (w : World) (c0 c1 c2 c3 c4 c5 : Value) : (w.alloc (.cells #[c0, c1, c2, c3, c4, c5] 59)).cell? ⟨w.heap.size, 5, none⟩ = some c5 := by
  rw [cell_of_row _ _ _ _ _ _ (heap_alloc_new w _)]; rfl
set_option maxHeartbeats 1600000 in
set_option maxRecDepth 100000 in
theorem refSameEq (w : World) (x y : Value) (f : Fr) (hx : FrV w x f) (hy : FrV w y f) : Calls Try.prog 50 #[x, y] w (RetSame (.bool true) w) := by
  obtain ⟨v, e, rfl, hb⟩ := hx
  obtain ⟨ao, cap, rfl, h1, h2⟩ := hb.form
  obtain ⟨v', e', rfl, hb'⟩ := hy
  obtain ⟨ao', cap', rfl, h1', h2'⟩ := hb'.form
  unfold maxLen at h2 h2'
  unfold Fr.agg
  have S0 := hid (((Same.refl w).alloc (.cells #[.int .i64 f.life, .int .i64 f.era, .int .i64 f.seq, .int .i64 f.part, .int .i64 f.parts, .slice ao f.data.length cap] 59)).alloc (.cells #[.int .i64 f.life, .int .i64 f.era, .int .i64 f.seq, .int .i64 f.part, .int .i64 f.parts, .slice ao' f.data.length cap'] 59))
  have k1 := After.cell (box59 w (.int .i64 f.life) (.int .i64 f.era) (.int .i64 f.seq) (.int .i64 f.part) (.int .i64 f.parts) (.slice ao f.data.length cap)) ⟨_, (Same.refl _).alloc (.cells #[.int .i64 f.life, .int .i64 f.era, .int .i64 f.seq, .int .i64 f.part, .int .i64 f.parts, .slice ao' f.data.length cap'] 59)⟩
  have k2 := box59 (w.alloc (.cells #[.int .i64 f.life, .int .i64 f.era, .int .i64 f.seq, .int .i64 f.part, .int .i64 f.parts, .slice ao f.data.length cap] 59)) (.int .i64 f.life) (.int .i64 f.era) (.int .i64 f.seq) (.int .i64 f.part) (.int .i64 f.parts) (.slice ao' f.data.length cap')
  rw [World.size_alloc] at k2
  simp only [After.to] at k1
  have K1 := hid k1
  have K2 := hid k2
  clear k1 k2
  have HB := hid hb
  have HB' := hid hb'
  clear hb hb'
  obtain ⟨life, era, seq, part, parts, data⟩ := f
  simp only at *
  go_enter Try.func50, Try.ntmps50
  go_wp2_with fail
  generalize (w.alloc (.cells #[.int .i64 life, .int .i64 era, .int .i64 seq, .int .i64 part, .int .i64 parts, .slice ao data.length cap] 59)).alloc (.cells #[.int .i64 life, .int .i64 era, .int .i64 seq, .int .i64 part, .int .i64 parts, .slice ao' data.length cap'] 59) = W0 at *
  go_loopw [5] (fun i wr => ∃ k : Nat, k ≤ data.length ∧ i = .int .i64 k ∧ Same W0 wr) (fun i _ => data.length - (intOf i).toNat)
  case atStart => exact ⟨0, Nat.zero_le _, rfl, Same.refl _⟩
  case round =>
    obtain ⟨k, hk, rfl, S⟩ := hrel
    have k1 := After.cell K1.out ⟨wr, S⟩
    have k2 := After.cell K2.out ⟨wr, S⟩
    simp only [After.to] at k1 k2
    have HS := hid S
    clear S
    by_cases hlt : k < data.length
    · obtain ⟨g, o, rfl, hc⟩ := (HB.out.same (S0.out.trans HS.out)).cells (by omega)
      obtain ⟨g', o', rfl, hc'⟩ := (HB'.out.same (S0.out.trans HS.out)).cells (by omega)
      have c1 := hc k hlt
      have c2 := hc' k hlt
      clear hc hc'
      generalize data[k].toNat = z at *
      go_wp2_with fail
      go_quiet (fail)
      go_wp2_with fail
      go_roundw
      case rel => exact ⟨k + 1, by omega, by go_num, HS.out.drewN _⟩
      case measure => simp [intOf]; omega
    · obtain rfl : k = data.length := by omega
      go_wp2_with fail
      go_ret
      exact ⟨rfl, S0.out.trans HS.out⟩
end Go.Proofs.Ytlhnpicmjjddeaa
