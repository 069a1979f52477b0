/- FRAME: Cut. -/
import Derived.Test.YtlhnpicmjjddeaaFw4
namespace Go.Proofs.Ytlhnpicmjjddeaa
open Go.RowKit

def cutAll (life era seq : Int) (b : List UInt8) : List (List UInt8) := if cutE life era seq b = 0 then cutL life era seq b else []
/-- a call hands back rows of its own, and a number -/
def RetCut (ls : List (List UInt8)) (n : Int) (w : World) (en : Ending) (w' : World) : Prop := ∃ v, en = .returned (.tuple #[v, .int .i64 n]) ∧ OwnR w' w.heap.size v ls ∧ Same w w'
theorem cutL_succ (life era seq : Int) (b : List UInt8) (k : Nat) (hk : k < nparts b.length) : (cutL life era seq b).take (k + 1) = (cutL life era seq b).take k ++ [enc (cutAt life era seq b k)] := by
  have h : k < (cutL life era seq b).length := by rw [cutL_length]; exact hk
  rw [List.take_succ_eq_append_getElem h, cutL_at hk]

theorem slice_from (W : World) (g o n q l : Nat) (hn : l ≤ n) (hq : l < q) : (Instr.sliceAt 23 (.slice (some ⟨g, o, none⟩) n q) (some (.int .i64 (l : Int))) none none).run Try.prog W = .ok (.slice (some ⟨g, o + l, none⟩) (n - l) (q - l)) W := by
  rw [run_sliceAt_slice W 23 _ _ _ _ elem23, run_slice_l W 23 _ n q elem23 .i64 (l : Int) (by omega) (by omega), size23]
  simp only [Result.andThen, sliced]
  rw [if_neg (by rw [Int.toNat_natCast]; omega)]
  simp [Addr.add_mid]
theorem slice_to (W : World) (a : Option Addr) (n q h : Nat) (hq : h ≤ q) : (Instr.sliceAt 23 (.slice a n q) none (some (.int .i64 (h : Int))) none).run Try.prog W = .ok (.slice a h q) W := by
  rw [run_sliceAt_slice W 23 _ _ _ _ elem23, run_slice_h W 23 _ n q elem23 .i64 (h : Int) (by omega) (by omega), size23]
  simp only [Result.andThen, sliced]
  split
  · simp
  · cases a <;> simp [Addr.add]
theorem cutAt_right_eq (life era seq : Int) (b : List UInt8) (k : Nat) (hk : k < nparts b.length) (hq : nparts b.length ≤ 255) : (cutAt life era seq b k).right = stampOk life era seq := by
  have : (chunk b k).length ≤ 80 := by unfold chunk; rw [List.length_take]; omega
  have h : partOk (k : Int) (nparts b.length : Int) (chunk b k).length = true := partOk_iff.2 ⟨by omega, by omega, by omega, by omega, this⟩
  show (stampOk life era seq && partOk (k : Int) (nparts b.length : Int) (chunk b k).length) = _
  rw [h, Bool.and_true]

set_option maxHeartbeats 3200000 in
set_option maxRecDepth 100000 in
theorem fCutGo (w : World) (e : TypeId) (v : Value) (life era seq : Int) (b : List UInt8) (hb : Bytes w e v b) (hl : b.length ≤ 30000) (h0 : b.length ≠ 0) :
    Calls Try.prog 52 #[.int .i64 life, .int .i64 era, .int .i64 seq, v] w (RetCut (cutAll life era seq b) (cutE life era seq b) w) := by
  have HBy := hid hb
  obtain ⟨ao, cap, rfl, h1, h2⟩ := hb.form
  unfold maxLen at h2
  have HE := hid fEncode
  obtain ⟨g, o, rfl, _⟩ := hb.cells h0
  clear hb
  have hqn : nparts b.length = (b.length + 79) / 80 := by unfold nparts; omega
  obtain ⟨q, hqd⟩ : ∃ q, nparts b.length = q := ⟨_, rfl⟩
  have hq1 : 1 ≤ q := by rw [← hqd]; exact nparts_pos _
  have hqb : q * 80 < b.length + 80 ∧ b.length ≤ q * 80 := by rw [hqd] at hqn; omega
  have hq : ((b.length : Int) + 80 - 1) / 80 = (q : Int) := by rw [hqd] at hqn; omega
  have HQ := hid hqd
  clear hqn hqd h0
  by_cases h255 : q ≤ 255
  · have hd255 : decide (255 < q) = false := by simp; omega
    have hd255' : decide ((255 : Int) < (q : Int)) = false := by simp; omega
    have HSt := hid (fun k (hk : k < nparts b.length) => cutAt_right_eq life era seq b k hk (by rw [HQ.out]; exact h255))
    have HCE : Hid (cutE life era seq b = if stampOk life era seq = true then 0 else 2) := by
      show _ = _
      unfold cutE
      rw [HQ.out, if_pos h255]
    have HLn := hid (cutL_length life era seq b)
    have hmx : (if (1 : Int) < (q : Int) then (q : Int) else 1) = (q : Int) := by split <;> omega
    go_enter Try.func52, Try.ntmps52
    go_wp2_with fail
    clear hmx hq
    go_loopw [11, 25] (fun out i wr => ∃ k : Nat, k ≤ q ∧ (k = 0 ∨ stampOk life era seq = true) ∧ i = .int .i64 k ∧ OwnR wr w.heap.size out ((cutL life era seq b).take k) ∧ Same w wr) (fun _ i _ => q - (intOf i).toNat)
    case atStart => exact ⟨0, Nat.zero_le _, .inl rfl, rfl, OwnR.nil _ _, Same.refl w⟩
    case round =>
      obtain ⟨k, hk, hks, rfl, hO, S⟩ := hrel
      have HO := hid hO
      have HS := hid S
      have Hks := hid hks
      clear hO S hks
      by_cases hlt : k < q
      · have hr1 : k * 80 < b.length := by omega
        obtain ⟨r, hr⟩ : ∃ r, b.length - k * 80 = r := ⟨_, rfl⟩
        obtain ⟨c', hc'⟩ : ∃ c', cap - k * 80 = c' := ⟨_, rfl⟩
        have s1 := fun W => slice_from W g o b.length cap (k * 80) (by omega) (by omega)
        rw [hr, hc'] at s1
        have hcast : ((k * 80 : Nat) : Int) = (k : Int) * 80 := by omega
        rw [hcast] at s1
        obtain ⟨m, hm⟩ : ∃ m, min r 80 = m := ⟨_, rfl⟩
        have hrc : r ≤ c' := by omega
        have s2 := fun W => slice_to W (some ⟨g, o + k * 80, none⟩) r c' m (by omega)
        have hB := (HBy.out.same HS.out).part (k * 80) m c' (by omega) (by omega) (by unfold maxLen; omega)
        have hch : (b.drop (k * 80)).take m = chunk b k := by
          unfold chunk
          rcases Nat.lt_or_ge r 80 with h | h
          · have : m = r := by omega
            rw [this, List.take_of_length_le (by rw [List.length_drop]; omega), List.take_of_length_le (by rw [List.length_drop]; omega)]
          · rw [show m = 80 from by omega]
        rw [hch] at hB
        have hlm : (chunk b k).length = m := by unfold chunk; rw [List.length_take, List.length_drop]; omega
        have FV : FrV wr (.agg #[.int .i64 life, .int .i64 era, .int .i64 seq, .int .i64 k, .int .i64 q, .slice (some ⟨g, o + k * 80, none⟩) m c']) (cutAt life era seq b k) := ⟨_, e, by unfold Fr.agg cutAt; rw [HQ.out], hB⟩
        have HEk := hid (HE.out wr _ _ FV)
        have HSk := hid (HSt.out k (by rw [HQ.out]; exact hlt))
        have HT := hid (cutL_succ life era seq b k (by rw [HQ.out]; exact hlt))
        have HLk : Hid (((cutL life era seq b).take k).length ≤ 400) := by show _ ≤ _; rw [List.length_take]; omega
        clear hB hch hlm FV hcast
        have hmn1 : (if (80 : Int) < (r : Int) then (80 : Int) else (r : Int)) = (m : Int) := by split <;> omega
        have hmn2 : (if (r : Int) < (80 : Int) then (r : Int) else (80 : Int)) = (m : Int) := by split <;> omega
        clear hm hr hc'
        go_wp2_with fail
        clear hmn1 hmn2 s1 s2
        refine HEk.out.mono ?_
        rintro en w2 ⟨v2, rfl, O2, S2⟩
        have O2 := hid O2
        obtain ⟨a2, c2, rfl, _, _⟩ := O2.out.bytes.form
        have S3 := hid (HS.out.trans S2)
        have HO3 := hid (HO.out.same S2)
        have hOf : Hid (∀ g', homeOf (.slice a2 (encOf (cutAt life era seq b k)).length c2) = some g' → w.heap.size ≤ g') := fun g' hg' => Nat.le_trans HS.out.size (O2.out.fresh g' hg')
        have e1 : encE (cutAt life era seq b k) = if stampOk life era seq = true then 0 else 2 := by unfold encE; rw [HSk.out]
        have e2 : stampOk life era seq = true → encOf (cutAt life era seq b k) = enc (cutAt life era seq b k) := fun h => by unfold encOf; rw [HSk.out, h]; rfl
        have E2 := hid e2
        rw [e1]
        clear e1 e2 S2
        generalize encOf (cutAt life era seq b k) = ec at *
        cases hst : stampOk life era seq
        · have HR : Hid (cutAll life era seq b = [] ∧ cutE life era seq b = 2) := by
            have h2 : cutE life era seq b = 2 := by rw [HCE.out, hst]; rfl
            refine ⟨?_, h2⟩
            unfold cutAll
            rw [h2]
            rfl
          rw [if_neg (by simp)]
          clear hst
          go_wp2_with fail
          go_ret2
          rw [HR.out.1, HR.out.2]
          exact ⟨_, rfl, OwnR.nil _ _, S3.out⟩
        · have Hst := hid hst
          have E3 := hid (E2.out hst)
          rw [if_pos rfl]
          clear hst
          go_wp2_with (at_builtin; refine wpList_append_rows rfl (.tmp 50) (.tmp 52) 36 tyRows rfl (HO3.out.same ((Same.refl w2).alloc _)) (one_row O2.out.bytes hOf.out).1 (one_row O2.out.bytes hOf.out).2 rfl rfl (by have := HLk.out; simp only [List.length_singleton]; omega) (by have := S3.out.size; simp; omega) ?_; intro x1 w5 ho5 K6)
          go_roundw
          case rel => exact ⟨k + 1, by omega, .inr Hst.out, by go_num, by rw [HT.out, ← E3.out]; exact ho5, (S3.out.alloc _).keepOwn K6 fun j hj => (HO3.out.lt j hj).1⟩
          case measure => simp [intOf]; omega
      · obtain rfl : k = q := by omega
        have hst : stampOk life era seq = true := by
          rcases Hks.out with h | h
          · omega
          · exact h
        have HR : Hid (cutAll life era seq b = cutL life era seq b ∧ cutE life era seq b = 0) := by
          have h2 : cutE life era seq b = 0 := by rw [HCE.out, hst]; rfl
          refine ⟨?_, h2⟩
          unfold cutAll
          rw [if_pos h2]
        have HT : Hid ((cutL life era seq b).take k = cutL life era seq b) := List.take_of_length_le (by rw [HLn.out, HQ.out]; omega)
        clear hst
        go_wp2_with fail
        go_ret2
        rw [HR.out.1, HR.out.2]
        exact ⟨_, rfl, by rw [← HT.out]; exact HO.out, HS.out⟩
  · have HR : Hid (cutAll life era seq b = [] ∧ cutE life era seq b = 6) := by
      have h2 : cutE life era seq b = 6 := by unfold cutE; rw [HQ.out, if_neg h255]
      refine ⟨?_, h2⟩
      unfold cutAll
      rw [h2]
      rfl
    have hmx : (if (1 : Int) < (q : Int) then (q : Int) else 1) = (q : Int) := by split <;> omega
    have hd255 : decide (255 < q) = true := by simp; omega
    have hd255' : decide ((255 : Int) < (q : Int)) = true := by simp; omega
    go_enter Try.func52, Try.ntmps52
    go_wp2_with fail
    go_ret2
    rw [HR.out.1, HR.out.2]
    exact ⟨_, rfl, OwnR.nil _ _, Same.refl _⟩
theorem slice_all0 (W : World) (a : Option Addr) (q : Nat) : (Instr.sliceAt 23 (.slice a 0 q) (some (.int .i64 0)) none none).run Try.prog W = .ok (.slice a 0 q) W := by
  rw [run_sliceAt_slice W 23 _ _ _ _ elem23, run_slice_l W 23 _ 0 q elem23 .i64 0 (by omega) (by omega), size23]
  simp only [Result.andThen, sliced]
  split
  · simp
  · cases a <;> simp [Addr.add]
theorem slice_to0 (W : World) (a : Option Addr) (q : Nat) : (Instr.sliceAt 23 (.slice a 0 q) none (some (.int .i64 0)) none).run Try.prog W = .ok (.slice a 0 q) W := slice_to W a 0 q 0 (by omega)
set_option maxHeartbeats 3200000 in
set_option maxRecDepth 100000 in
theorem fCutEmpty (w : World) (e : TypeId) (v : Value) (life era seq : Int) (hb : Bytes w e v []) :
    Calls Try.prog 52 #[.int .i64 life, .int .i64 era, .int .i64 seq, v] w (RetCut (cutAll life era seq []) (cutE life era seq []) w) := by
  have HBy := hid hb
  obtain ⟨ao, cap, rfl, h1, h2⟩ := hb.form
  unfold maxLen at h2
  have HE := hid fEncode
  have HSt := hid (cutAt_right_eq life era seq [] 0 (by decide) (by decide))
  have HCE : Hid (cutE life era seq [] = if stampOk life era seq = true then 0 else 2) := by
    show _ = _
    unfold cutE
    rw [if_pos (by decide)]
  have HLn : Hid (cutL life era seq [] = [enc (cutAt life era seq [] 0)]) := rfl
  have s1 := fun W => slice_all0 W ao cap
  have s2 := fun W => slice_to0 W ao cap
  simp only [List.length_nil] at *
  clear hb
  go_enter Try.func52, Try.ntmps52
  go_wp2_with fail
  go_loopw [11, 25] (fun out i wr => ∃ k : Nat, k ≤ 1 ∧ (k = 0 ∨ stampOk life era seq = true) ∧ i = .int .i64 k ∧ OwnR wr w.heap.size out ((cutL life era seq []).take k) ∧ Same w wr) (fun _ i _ => 1 - (intOf i).toNat)
  case atStart => exact ⟨0, by omega, .inl rfl, rfl, OwnR.nil _ _, Same.refl w⟩
  case round =>
    obtain ⟨k, hk, hks, rfl, hO, S⟩ := hrel
    have HO := hid hO
    have HS := hid S
    have Hks := hid hks
    clear hO S hks
    match k, hk with
    | 0, _ =>
      have FV : FrV wr (.agg #[.int .i64 life, .int .i64 era, .int .i64 seq, .int .i64 0, .int .i64 1, .slice ao 0 cap]) (cutAt life era seq [] 0) := ⟨_, e, rfl, HBy.out.same HS.out⟩
      have HEk := hid (HE.out wr _ _ FV)
      clear FV
      go_wp2_with fail
      refine HEk.out.mono ?_
      rintro en w2 ⟨v2, rfl, O2, S2⟩
      have O2 := hid O2
      obtain ⟨a2, c2, rfl, _, _⟩ := O2.out.bytes.form
      have S3 := hid (HS.out.trans S2)
      have HO3 := hid (HO.out.same S2)
      have hOf : Hid (∀ g', homeOf (.slice a2 (encOf (cutAt life era seq [] 0)).length c2) = some g' → w.heap.size ≤ g') := fun g' hg' => Nat.le_trans HS.out.size (O2.out.fresh g' hg')
      have e1 : encE (cutAt life era seq [] 0) = if stampOk life era seq = true then 0 else 2 := by unfold encE; rw [HSt.out]
      have e2 : stampOk life era seq = true → encOf (cutAt life era seq [] 0) = enc (cutAt life era seq [] 0) := fun h => by unfold encOf; rw [HSt.out, h]; rfl
      have E2 := hid e2
      rw [e1]
      clear e1 e2 S2
      generalize encOf (cutAt life era seq [] 0) = ec at *
      cases hst : stampOk life era seq
      · have HR : Hid (cutAll life era seq [] = [] ∧ cutE life era seq [] = 2) := by
          have h2 : cutE life era seq [] = 2 := by rw [HCE.out, hst]; rfl
          refine ⟨?_, h2⟩
          unfold cutAll
          rw [h2]
          rfl
        rw [if_neg (by simp)]
        clear hst
        go_wp2_with fail
        go_ret2
        rw [HR.out.1, HR.out.2]
        exact ⟨_, rfl, OwnR.nil _ _, S3.out⟩
      · have Hst := hid hst
        have E3 := hid (E2.out hst)
        rw [if_pos rfl]
        clear hst
        go_wp2_with (at_builtin; refine wpList_append_rows rfl (.tmp 50) (.tmp 52) 36 tyRows rfl (HO3.out.same ((Same.refl w2).alloc _)) (one_row O2.out.bytes hOf.out).1 (one_row O2.out.bytes hOf.out).2 rfl rfl (by simp) (by have := S3.out.size; simp; omega) ?_; intro x1 w5 ho5 K6)
        go_roundw
        case rel => exact ⟨1, by omega, .inr Hst.out, rfl, by rw [HLn.out, ← E3.out]; exact ho5, (S3.out.alloc _).keepOwn K6 fun j hj => (HO3.out.lt j hj).1⟩
        case measure => simp [intOf]
    | 1, _ =>
      have hst : stampOk life era seq = true := by
        rcases Hks.out with h | h
        · omega
        · exact h
      have HR : Hid (cutAll life era seq [] = cutL life era seq [] ∧ cutE life era seq [] = 0) := by
        have h2 : cutE life era seq [] = 0 := by rw [HCE.out, hst]; rfl
        refine ⟨?_, h2⟩
        unfold cutAll
        rw [if_pos h2]
      clear hst
      go_wp2_with fail
      go_ret2
      rw [HR.out.1, HR.out.2]
      exact ⟨_, rfl, HO.out, HS.out⟩
/-- Cut -/
theorem fCut (w : World) (e : TypeId) (v : Value) (life era seq : Int) (b : List UInt8) (hb : Bytes w e v b) (hl : b.length ≤ 30000) :
    Calls Try.prog 52 #[.int .i64 life, .int .i64 era, .int .i64 seq, v] w (RetCut (cutAll life era seq b) (cutE life era seq b) w) := by
  by_cases h0 : b.length = 0
  · obtain rfl := List.eq_nil_of_length_eq_zero h0
    exact fCutEmpty w e v life era seq hb
  · exact fCutGo w e v life era seq b hb hl h0
end Go.Proofs.Ytlhnpicmjjddeaa
