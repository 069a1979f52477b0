/- FRAME's reference: Join. Printed by mkrf07i.py. STILL: place, check, Load. STILL: Load, Save. DISK: the walk of DriveNobody. STILL: a drive that no call made; lives of layer 9; the walk of StillNobody. What comes in, opened: rows of bytes, rows of rows, rows of ints. No further condition. What comes in, opened: a frame by value. No further condition. STILL: the walk of StillNobody. STILL, plainly: what StillKept says of a drive. No program in sight. SCROLL, plainly: which records stand in a part of a drive; what is appended. No program in sight. -/
import Derived.Test.YtlhnpicmjjddeaaGrp3
import Derived.Test.YtlhnpicmjjddeaaGrp2
import Derived.Test.YtlhnpicmjjddeaaGrp1
import Derived.Test.YtlhnpicmjjddeaaGrp0
import Derived.Deep.Matrix
import Derived.Deep.Fields
import Derived.Lib.SmallJoins
set_option linter.unusedVariables false
set_option linter.unusedSimpArgs false
namespace Go.Proofs.Ytlhnpicmjjddeaa
open Go.RowKit

/-- what the reference asks of each frame -/
def okAt (n : Nat) (f d : Fr) (i : Nat) : Prop := f.right = true ∧ f.life = d.life ∧ f.era = d.era ∧ f.seq = d.seq ∧ f.parts = n ∧ f.part = i ∧ ((i : Int) < (n : Int) - 1 → 80 ≤ f.data.length)
theorem joins_ok {L : List Fr} (h0 : 0 < L.length) : joinsB L = true ↔ ∀ j (hj : j < L.length), okAt L.length L[j] (L[0]'h0) j := by
  rw [joinsB_iff]
  constructor
  · rintro ⟨d, hd, h1, h2⟩ j hj
    rw [List.getElem?_eq_getElem h0] at hd
    obtain rfl := Option.some.inj hd
    obtain ⟨⟨a, b, c, e⟩, p, r, q⟩ := Fr.fits_iff.1 (h2 j _ (List.getElem?_eq_getElem hj))
    refine ⟨r, a, b, c, by omega, p, fun hlt => ?_⟩
    rcases q with q | q
    · omega
    · omega
  · intro h
    refine ⟨L[0]'h0, List.getElem?_eq_getElem h0, (h 0 h0).2.2.2.2.1.symm, fun i g hg => ?_⟩
    obtain ⟨hi, rfl⟩ := List.getElem?_eq_some_iff.1 hg
    obtain ⟨r, a, b, c, p, q, s⟩ := h i hi
    refine Fr.fits_iff.2 ⟨⟨a, b, c, by rw [p, (h 0 h0).2.2.2.2.1]⟩, q, r, ?_⟩
    by_cases hlt : (i : Int) < (L.length : Int) - 1
    · have := s hlt
      have := (right_parts r).2.2
      exact .inr (by omega)
    · exact .inl (by omega)
theorem joins_no {L : List Fr} {k : Nat} (hk : k < L.length) (h : ¬ okAt L.length L[k] (L[0]'(by omega)) k) : joinsB L = false ∧ joinOf L = [] := by
  have : joinsB L = false := by
    cases e : joinsB L
    · rfl
    · exact absurd ((joins_ok (by omega)).1 e k hk) h
  exact ⟨this, by unfold joinOf; rw [this]; rfl⟩
def upTo (L : List Fr) (k : Nat) : List UInt8 := joined (L.take k)
theorem upTo_succ (L : List Fr) (k : Nat) (hk : k < L.length) : upTo L (k + 1) = upTo L k ++ L[k].data := by
  unfold upTo joined; rw [List.take_succ_eq_append_getElem hk, List.map_append, List.flatten_append]; simp
theorem upTo_length {L : List Fr} (h : Small L) (k : Nat) (hk : k ≤ L.length) : (upTo L k).length ≤ k * 80 := by
  unfold upTo
  have := joined_length (L.take k) fun f hf => (h f (List.mem_of_mem_take hf)).2.2
  rw [List.length_take] at this
  have h2 : min k L.length = k := by omega
  rw [h2] at this
  exact this
theorem upTo_all (L : List Fr) : upTo L L.length = joined L := by unfold upTo; rw [List.take_length]
theorem rIsAfter (W : World) (x : After W) (v : Value) (e : TypeId) (f : Fr) (h : Bytes W e v f.data) : Calls Try.prog 96 #[f.agg v] x.to fun en w'' => en = .returned (.bool f.right) ∧ ∃ y : After W, w'' = y.to :=
  Calls.after (rIs x.to _ f ⟨v, e, rfl, h.same x.same⟩)
set_option maxHeartbeats 12800000 in
set_option maxRecDepth 100000 in
theorem rJoin (w : World) (e : TypeId) (v : Value) (L : List Fr) (hL : Frs w e v L) (hs : Small L) (hn : L.length ≤ 5000) : Calls Try.prog 123 #[v] w (RetOpen (joinOf L) (joinsB L) w) := by
  obtain ⟨ao, cap, rfl, h1, h2⟩ := hL.form
  unfold maxLen at h2
  have HL := hid hL
  have Hs := hid hs
  have HI := hid rIsAfter
  have HU := hid (upTo_succ L)
  have HUl := hid (@upTo_length L hs)
  have hlen : L.length ≤ 9223372036854775807 := by omega
  clear hL hs h1 h2
  go_enter Try.func123, Try.ntmps123
  go_wp2_with fail
  go_loopw [4, 5] (fun out i wr => ∃ k : Nat, k ≤ L.length ∧ i = .int .i64 k ∧ OwnB wr w.heap.size out (upTo L k) ∧ Same w wr ∧ ∀ j (hj : j < L.length), j < k → okAt L.length L[j] (L[0]'(by omega)) j) (fun _ i _ => L.length - (intOf i).toNat)
  case atStart => exact ⟨0, Nat.zero_le _, rfl, OwnB.nil _ _, Same.refl w, fun j _ hj => absurd hj (Nat.not_lt_zero j)⟩
  case round =>
    obtain ⟨k, hk, rfl, hO, S, hf⟩ := hrel
    obtain ⟨oa, oc, rfl, _, _⟩ := hO.bytes.form
    have HO := hid hO
    have HS := hid S
    have Hf := hid hf
    clear hO S hf
    by_cases hlt : k < L.length
    case neg =>
      obtain rfl : k = L.length := by omega
      by_cases h0 : L.length = 0
      case pos =>
        have hz : Hid (joinsB L = false ∧ joinOf L = upTo L L.length) := by
          obtain rfl := List.eq_nil_of_length_eq_zero h0
          exact ⟨rfl, rfl⟩
        have hd : decide (0 < L.length) = false := decide_eq_false (by omega)
        clear h0 hlt
        go_wp2_with fail
        go_ret2
        rw [hz.out.1, hz.out.2]
        exact ⟨_, rfl, HO.out, HS.out⟩
      case neg =>
        have hj : joinsB L = true := (joins_ok (by omega)).2 fun j hj => Hf.out j hj hj
        have hz : Hid (joinsB L = true ∧ joinOf L = upTo L L.length) := ⟨hj, by unfold joinOf; rw [hj, upTo_all]; rfl⟩
        have hd : decide (0 < L.length) = true := decide_eq_true (by omega)
        clear hj h0 hlt
        go_wp2_with fail
        go_ret2
        rw [hz.out.1, hz.out.2]
        exact ⟨_, rfl, HO.out, HS.out⟩
    have hpos : 0 < L.length := by omega
    obtain ⟨g, o, rfl, hrow⟩ := (HL.out.same HS.out).rows (by omega)
    obtain ⟨a0, c0, e0, hc0, hb0⟩ := hrow 0 hpos
    rw [Nat.zero_mul, Nat.add_zero] at hc0
    obtain ⟨a, c, e', hck, hbk⟩ := hrow k hlt
    have HBk := hid hbk
    have HNo := hid (@joins_no L k hlt)
    have HYes : Hid (okAt L.length L[k] (L[0]'hpos) k → ∀ j (hj : j < L.length), j < k + 1 → okAt L.length L[j] (L[0]'hpos) j) := fun h j hj hjk => by
      by_cases e : j = k
      · subst e; exact h
      · exact Hf.out j hj (by omega)
    have HUk := hid (HU.out k hlt)
    have hulk := HUl.out k hk
    have hdk := (Hs.out _ (List.getElem_mem hlt)).2.2
    have hg0 := World.block_lt_of_cell? wr _ hck.1
    have hX := BoxR.new wr (.int .i64 L[k].life) (.int .i64 L[k].era) (.int .i64 L[k].seq) (.int .i64 L[k].part) (.int .i64 L[k].parts) (.slice a L[k].data.length c)
    obtain ⟨b0, b1, b2, b3, b4, b5⟩ := hX.cells
    obtain ⟨d0, d1, d2, d3, d4, d5⟩ := hc0.same ((Same.refl wr).alloc (.cells #[.int .i64 L[k].life, .int .i64 L[k].era, .int .i64 L[k].seq, .int .i64 L[k].part, .int .i64 L[k].parts, .slice a L[k].data.length c] 59))
    have HIk := hid (fun (x : After (wr.alloc (.cells #[.int .i64 L[k].life, .int .i64 L[k].era, .int .i64 L[k].seq, .int .i64 L[k].part, .int .i64 L[k].parts, .slice a L[k].data.length c] 59))) => HI.out _ x _ e' L[k] (hbk.same ((Same.refl wr).alloc _)))
    have S1 := hid (HS.out.alloc (.cells #[.int .i64 L[k].life, .int .i64 L[k].era, .int .i64 L[k].seq, .int .i64 L[k].part, .int .i64 L[k].parts, .slice a L[k].data.length c] 59))
    have T1 := hid ((Same.refl wr).alloc (.cells #[.int .i64 L[k].life, .int .i64 L[k].era, .int .i64 L[k].seq, .int .i64 L[k].part, .int .i64 L[k].parts, .slice a L[k].data.length c] 59))
    have hw : IntKind.i64.wrap ((L.length : Int) - 1) = (L.length : Int) - 1 := by rw [IntKind.wrap_i64]; omega
    unfold Fr.agg at HIk
    have hall : L[k].right = false ∨ (L[k].right = true ∧ L[k].life ≠ (L[0]'hpos).life) ∨ (L[k].right = true ∧ L[k].life = (L[0]'hpos).life ∧ L[k].era ≠ (L[0]'hpos).era) ∨ (L[k].right = true ∧ L[k].life = (L[0]'hpos).life ∧ L[k].era = (L[0]'hpos).era ∧ L[k].seq ≠ (L[0]'hpos).seq) ∨
        (L[k].right = true ∧ L[k].life = (L[0]'hpos).life ∧ L[k].era = (L[0]'hpos).era ∧ L[k].seq = (L[0]'hpos).seq ∧ L[k].parts ≠ L.length) ∨
        (L[k].right = true ∧ L[k].life = (L[0]'hpos).life ∧ L[k].era = (L[0]'hpos).era ∧ L[k].seq = (L[0]'hpos).seq ∧ L[k].parts = L.length ∧ L[k].part ≠ k) ∨
        (L[k].right = true ∧ L[k].life = (L[0]'hpos).life ∧ L[k].era = (L[0]'hpos).era ∧ L[k].seq = (L[0]'hpos).seq ∧ L[k].parts = L.length ∧ L[k].part = k ∧ (k : Int) < (L.length : Int) - 1 ∧ L[k].data.length < 80) ∨
        (L[k].right = true ∧ L[k].life = (L[0]'hpos).life ∧ L[k].era = (L[0]'hpos).era ∧ L[k].seq = (L[0]'hpos).seq ∧ L[k].parts = L.length ∧ L[k].part = k ∧ (k : Int) < (L.length : Int) - 1 ∧ ¬ L[k].data.length < 80) ∨
        (L[k].right = true ∧ L[k].life = (L[0]'hpos).life ∧ L[k].era = (L[0]'hpos).era ∧ L[k].seq = (L[0]'hpos).seq ∧ L[k].parts = L.length ∧ L[k].part = k ∧ ¬ (k : Int) < (L.length : Int) - 1) := by
      cases hr : L[k].right
      · exact .inl rfl
      refine .inr ?_
      by_cases q1 : L[k].life = (L[0]'hpos).life
      case neg => exact .inl ⟨rfl, q1⟩
      refine .inr ?_
      by_cases q2 : L[k].era = (L[0]'hpos).era
      case neg => exact .inl ⟨rfl, q1, q2⟩
      refine .inr ?_
      by_cases q3 : L[k].seq = (L[0]'hpos).seq
      case neg => exact .inl ⟨rfl, q1, q2, q3⟩
      refine .inr ?_
      by_cases q4 : L[k].parts = L.length
      case neg => exact .inl ⟨rfl, q1, q2, q3, q4⟩
      refine .inr ?_
      by_cases q5 : L[k].part = k
      case neg => exact .inl ⟨rfl, q1, q2, q3, q4, q5⟩
      refine .inr ?_
      by_cases q6 : (k : Int) < (L.length : Int) - 1
      case neg => exact .inr (.inr ⟨rfl, q1, q2, q3, q4, q5, q6⟩)
      by_cases q7 : L[k].data.length < 80
      · exact .inl ⟨rfl, q1, q2, q3, q4, q5, q6, q7⟩
      · exact .inr (.inl ⟨rfl, q1, q2, q3, q4, q5, q6, q7⟩)
    have hki : (0 : Int) ≤ (k : Int) := by omega
    have KC := hid hck
    clear hck hbk hrow hX hb0 hc0 Hf
    unfold okAt at HNo HYes
    rcases hall with hr | ⟨hr, q1⟩ | ⟨hr, q1, q2⟩ | ⟨hr, q1, q2, q3⟩ | ⟨hr, q1, q2, q3, q4⟩ | ⟨hr, q1, q2, q3, q4, q5⟩ | ⟨hr, q1, q2, q3, q4, q5, q6, q7⟩ | ⟨hr, q1, q2, q3, q4, q5, q6, q7⟩ | ⟨hr, q1, q2, q3, q4, q5, q6⟩
    · have HZ := hid (HNo.out (fun h => by rw [hr] at h; cases h.1))
      obtain ⟨k0, k1, k2, k3, k4, k5⟩ := KC.out
      clear KC HNo HYes 
      rw [hr] at HIk
      clear hr
      go_upto_region 6 with fail
      have xb0 := fun x => After.cell b0 x
      have xb1 := fun x => After.cell b1 x
      have xb2 := fun x => After.cell b2 x
      have xb3 := fun x => After.cell b3 x
      have xb4 := fun x => After.cell b4 x
      have xb5 := fun x => After.cell b5 x
      have xd0 := fun x => After.cell d0 x
      have xd1 := fun x => After.cell d1 x
      have xd2 := fun x => After.cell d2 x
      clear b0 b1 b2 b3 b4 b5 d0 d1 d2 d3 d4 d5 k0 k1 k2 k3 k4 k5
      refine wp_region_after (by kernel_rfl) (by kernel_rfl) ?_
      repeat (go_big_quiet_step (first | (go_at_call 96; with_reducible exact HIk.out _)))
      refine wpQuiet_nil ?_
      intro _ hw'
      obtain ⟨x5, hw''⟩ := hw'
      subst hw''
      have B5 := xb5 x5
      have S5 := hid (S1.out.trans x5.same)
      have T5 := hid (T1.out.trans x5.same)
      clear xb0 xb1 xb2 xb3 xb4 xb5 xd0 xd1 xd2 HIk S1 T1
      generalize x5.to = w5 at *
      go_wp2_with fail
      go_ret2
      rw [HZ.out.1, HZ.out.2]
      exact ⟨_, rfl, OwnB.nil _ _, S5.out⟩
    · have HZ := hid (HNo.out (fun h => q1 h.2.1))
      have p1 : (L[k].life != (L[0]'hpos).life) = true := by rw [bne_iff_ne]; exact q1
      obtain ⟨k0, k1, k2, k3, k4, k5⟩ := KC.out
      clear KC HNo HYes q1
      rw [hr] at HIk
      clear hr
      go_upto_region 6 with fail
      have xb0 := fun x => After.cell b0 x
      have xb1 := fun x => After.cell b1 x
      have xb2 := fun x => After.cell b2 x
      have xb3 := fun x => After.cell b3 x
      have xb4 := fun x => After.cell b4 x
      have xb5 := fun x => After.cell b5 x
      have xd0 := fun x => After.cell d0 x
      have xd1 := fun x => After.cell d1 x
      have xd2 := fun x => After.cell d2 x
      clear b0 b1 b2 b3 b4 b5 d0 d1 d2 d3 d4 d5 k0 k1 k2 k3 k4 k5
      refine wp_region_after (by kernel_rfl) (by kernel_rfl) ?_
      repeat (go_big_quiet_step (first | (go_at_call 96; with_reducible exact HIk.out _)))
      refine wpQuiet_nil ?_
      intro _ hw'
      obtain ⟨x5, hw''⟩ := hw'
      subst hw''
      have B5 := xb5 x5
      have S5 := hid (S1.out.trans x5.same)
      have T5 := hid (T1.out.trans x5.same)
      clear xb0 xb1 xb2 xb3 xb4 xb5 xd0 xd1 xd2 HIk S1 T1
      generalize x5.to = w5 at *
      go_wp2_with fail
      go_ret2
      rw [HZ.out.1, HZ.out.2]
      exact ⟨_, rfl, OwnB.nil _ _, S5.out⟩
    · have HZ := hid (HNo.out (fun h => q2 h.2.2.1))
      have p1 : (L[k].life != (L[0]'hpos).life) = false := by rw [bne_eq_false_iff_eq]; exact q1
      have p2 : (L[k].era != (L[0]'hpos).era) = true := by rw [bne_iff_ne]; exact q2
      obtain ⟨k0, k1, k2, k3, k4, k5⟩ := KC.out
      clear KC HNo HYes q1 q2
      rw [hr] at HIk
      clear hr
      go_upto_region 6 with fail
      have xb0 := fun x => After.cell b0 x
      have xb1 := fun x => After.cell b1 x
      have xb2 := fun x => After.cell b2 x
      have xb3 := fun x => After.cell b3 x
      have xb4 := fun x => After.cell b4 x
      have xb5 := fun x => After.cell b5 x
      have xd0 := fun x => After.cell d0 x
      have xd1 := fun x => After.cell d1 x
      have xd2 := fun x => After.cell d2 x
      clear b0 b1 b2 b3 b4 b5 d0 d1 d2 d3 d4 d5 k0 k1 k2 k3 k4 k5
      refine wp_region_after (by kernel_rfl) (by kernel_rfl) ?_
      repeat (go_big_quiet_step (first | (go_at_call 96; with_reducible exact HIk.out _)))
      refine wpQuiet_nil ?_
      intro _ hw'
      obtain ⟨x5, hw''⟩ := hw'
      subst hw''
      have B5 := xb5 x5
      have S5 := hid (S1.out.trans x5.same)
      have T5 := hid (T1.out.trans x5.same)
      clear xb0 xb1 xb2 xb3 xb4 xb5 xd0 xd1 xd2 HIk S1 T1
      generalize x5.to = w5 at *
      go_wp2_with fail
      go_ret2
      rw [HZ.out.1, HZ.out.2]
      exact ⟨_, rfl, OwnB.nil _ _, S5.out⟩
    · have HZ := hid (HNo.out (fun h => q3 h.2.2.2.1))
      have p1 : (L[k].life != (L[0]'hpos).life) = false := by rw [bne_eq_false_iff_eq]; exact q1
      have p2 : (L[k].era != (L[0]'hpos).era) = false := by rw [bne_eq_false_iff_eq]; exact q2
      have p3 : (L[k].seq != (L[0]'hpos).seq) = true := by rw [bne_iff_ne]; exact q3
      obtain ⟨k0, k1, k2, k3, k4, k5⟩ := KC.out
      clear KC HNo HYes q1 q2 q3
      rw [hr] at HIk
      clear hr
      go_upto_region 6 with fail
      have xb0 := fun x => After.cell b0 x
      have xb1 := fun x => After.cell b1 x
      have xb2 := fun x => After.cell b2 x
      have xb3 := fun x => After.cell b3 x
      have xb4 := fun x => After.cell b4 x
      have xb5 := fun x => After.cell b5 x
      have xd0 := fun x => After.cell d0 x
      have xd1 := fun x => After.cell d1 x
      have xd2 := fun x => After.cell d2 x
      clear b0 b1 b2 b3 b4 b5 d0 d1 d2 d3 d4 d5 k0 k1 k2 k3 k4 k5
      refine wp_region_after (by kernel_rfl) (by kernel_rfl) ?_
      repeat (go_big_quiet_step (first | (go_at_call 96; with_reducible exact HIk.out _)))
      refine wpQuiet_nil ?_
      intro _ hw'
      obtain ⟨x5, hw''⟩ := hw'
      subst hw''
      have B5 := xb5 x5
      have S5 := hid (S1.out.trans x5.same)
      have T5 := hid (T1.out.trans x5.same)
      clear xb0 xb1 xb2 xb3 xb4 xb5 xd0 xd1 xd2 HIk S1 T1
      generalize x5.to = w5 at *
      go_wp2_with fail
      go_ret2
      rw [HZ.out.1, HZ.out.2]
      exact ⟨_, rfl, OwnB.nil _ _, S5.out⟩
    · have HZ := hid (HNo.out (fun h => q4 h.2.2.2.2.1))
      have p1 : (L[k].life != (L[0]'hpos).life) = false := by rw [bne_eq_false_iff_eq]; exact q1
      have p2 : (L[k].era != (L[0]'hpos).era) = false := by rw [bne_eq_false_iff_eq]; exact q2
      have p3 : (L[k].seq != (L[0]'hpos).seq) = false := by rw [bne_eq_false_iff_eq]; exact q3
      have p4 : (L[k].parts != (L.length : Int)) = true := by rw [bne_iff_ne]; exact q4
      obtain ⟨k0, k1, k2, k3, k4, k5⟩ := KC.out
      clear KC HNo HYes q1 q2 q3 q4
      rw [hr] at HIk
      clear hr
      go_upto_region 6 with fail
      have xb0 := fun x => After.cell b0 x
      have xb1 := fun x => After.cell b1 x
      have xb2 := fun x => After.cell b2 x
      have xb3 := fun x => After.cell b3 x
      have xb4 := fun x => After.cell b4 x
      have xb5 := fun x => After.cell b5 x
      have xd0 := fun x => After.cell d0 x
      have xd1 := fun x => After.cell d1 x
      have xd2 := fun x => After.cell d2 x
      clear b0 b1 b2 b3 b4 b5 d0 d1 d2 d3 d4 d5 k0 k1 k2 k3 k4 k5
      refine wp_region_after (by kernel_rfl) (by kernel_rfl) ?_
      repeat (go_big_quiet_step (first | (go_at_call 96; with_reducible exact HIk.out _)))
      refine wpQuiet_nil ?_
      intro _ hw'
      obtain ⟨x5, hw''⟩ := hw'
      subst hw''
      have B5 := xb5 x5
      have S5 := hid (S1.out.trans x5.same)
      have T5 := hid (T1.out.trans x5.same)
      clear xb0 xb1 xb2 xb3 xb4 xb5 xd0 xd1 xd2 HIk S1 T1
      generalize x5.to = w5 at *
      go_wp2_with fail
      go_ret2
      rw [HZ.out.1, HZ.out.2]
      exact ⟨_, rfl, OwnB.nil _ _, S5.out⟩
    · have HZ := hid (HNo.out (fun h => q5 h.2.2.2.2.2.1))
      have p1 : (L[k].life != (L[0]'hpos).life) = false := by rw [bne_eq_false_iff_eq]; exact q1
      have p2 : (L[k].era != (L[0]'hpos).era) = false := by rw [bne_eq_false_iff_eq]; exact q2
      have p3 : (L[k].seq != (L[0]'hpos).seq) = false := by rw [bne_eq_false_iff_eq]; exact q3
      have p4 : (L[k].parts != (L.length : Int)) = false := by rw [bne_eq_false_iff_eq]; exact q4
      have p5 : (L[k].part != (k : Int)) = true := by rw [bne_iff_ne]; exact q5
      obtain ⟨k0, k1, k2, k3, k4, k5⟩ := KC.out
      clear KC HNo HYes q1 q2 q3 q4 q5
      rw [hr] at HIk
      clear hr
      go_upto_region 6 with fail
      have xb0 := fun x => After.cell b0 x
      have xb1 := fun x => After.cell b1 x
      have xb2 := fun x => After.cell b2 x
      have xb3 := fun x => After.cell b3 x
      have xb4 := fun x => After.cell b4 x
      have xb5 := fun x => After.cell b5 x
      have xd0 := fun x => After.cell d0 x
      have xd1 := fun x => After.cell d1 x
      have xd2 := fun x => After.cell d2 x
      clear b0 b1 b2 b3 b4 b5 d0 d1 d2 d3 d4 d5 k0 k1 k2 k3 k4 k5
      refine wp_region_after (by kernel_rfl) (by kernel_rfl) ?_
      repeat (go_big_quiet_step (first | (go_at_call 96; with_reducible exact HIk.out _)))
      refine wpQuiet_nil ?_
      intro _ hw'
      obtain ⟨x5, hw''⟩ := hw'
      subst hw''
      have B5 := xb5 x5
      have S5 := hid (S1.out.trans x5.same)
      have T5 := hid (T1.out.trans x5.same)
      clear xb0 xb1 xb2 xb3 xb4 xb5 xd0 xd1 xd2 HIk S1 T1
      generalize x5.to = w5 at *
      go_wp2_with fail
      go_ret2
      rw [HZ.out.1, HZ.out.2]
      exact ⟨_, rfl, OwnB.nil _ _, S5.out⟩
    · have HZ := hid (HNo.out (fun h => by have := h.2.2.2.2.2.2 q6; omega))
      have p1 : (L[k].life != (L[0]'hpos).life) = false := by rw [bne_eq_false_iff_eq]; exact q1
      have p2 : (L[k].era != (L[0]'hpos).era) = false := by rw [bne_eq_false_iff_eq]; exact q2
      have p3 : (L[k].seq != (L[0]'hpos).seq) = false := by rw [bne_eq_false_iff_eq]; exact q3
      have p4 : (L[k].parts != (L.length : Int)) = false := by rw [bne_eq_false_iff_eq]; exact q4
      have p5 : (L[k].part != (k : Int)) = false := by rw [bne_eq_false_iff_eq]; exact q5
      have p6 : decide ((k : Int) < (L.length : Int) - 1) = true := decide_eq_true q6
      have p7 : decide (L[k].data.length < 80) = true := decide_eq_true q7
      have p7b : decide ((L[k].data.length : Int) < 80) = true := decide_eq_true (by omega)
      obtain ⟨k0, k1, k2, k3, k4, k5⟩ := KC.out
      clear KC HNo HYes q1 q2 q3 q4 q5 q6 q7
      rw [hr] at HIk
      clear hr
      go_upto_region 6 with fail
      have xb0 := fun x => After.cell b0 x
      have xb1 := fun x => After.cell b1 x
      have xb2 := fun x => After.cell b2 x
      have xb3 := fun x => After.cell b3 x
      have xb4 := fun x => After.cell b4 x
      have xb5 := fun x => After.cell b5 x
      have xd0 := fun x => After.cell d0 x
      have xd1 := fun x => After.cell d1 x
      have xd2 := fun x => After.cell d2 x
      clear b0 b1 b2 b3 b4 b5 d0 d1 d2 d3 d4 d5 k0 k1 k2 k3 k4 k5
      refine wp_region_after (by kernel_rfl) (by kernel_rfl) ?_
      repeat (go_big_quiet_step (first | (go_at_call 96; with_reducible exact HIk.out _)))
      refine wpQuiet_nil ?_
      intro _ hw'
      obtain ⟨x5, hw''⟩ := hw'
      subst hw''
      have B5 := xb5 x5
      have S5 := hid (S1.out.trans x5.same)
      have T5 := hid (T1.out.trans x5.same)
      clear xb0 xb1 xb2 xb3 xb4 xb5 xd0 xd1 xd2 HIk S1 T1
      generalize x5.to = w5 at *
      go_wp2_with fail
      go_ret2
      rw [HZ.out.1, HZ.out.2]
      exact ⟨_, rfl, OwnB.nil _ _, S5.out⟩
    · have HY := hid (HYes.out ⟨hr, q1, q2, q3, q4, q5, fun _ => by omega⟩)
      have p1 : (L[k].life != (L[0]'hpos).life) = false := by rw [bne_eq_false_iff_eq]; exact q1
      have p2 : (L[k].era != (L[0]'hpos).era) = false := by rw [bne_eq_false_iff_eq]; exact q2
      have p3 : (L[k].seq != (L[0]'hpos).seq) = false := by rw [bne_eq_false_iff_eq]; exact q3
      have p4 : (L[k].parts != (L.length : Int)) = false := by rw [bne_eq_false_iff_eq]; exact q4
      have p5 : (L[k].part != (k : Int)) = false := by rw [bne_eq_false_iff_eq]; exact q5
      have p6 : decide ((k : Int) < (L.length : Int) - 1) = true := decide_eq_true q6
      have p7 : decide (L[k].data.length < 80) = false := decide_eq_false q7
      have p7b : decide ((L[k].data.length : Int) < 80) = false := decide_eq_false (by omega)
      obtain ⟨k0, k1, k2, k3, k4, k5⟩ := KC.out
      clear KC HNo HYes q1 q2 q3 q4 q5 q6 q7
      rw [hr] at HIk
      clear hr
      go_upto_region 6 with fail
      have xb0 := fun x => After.cell b0 x
      have xb1 := fun x => After.cell b1 x
      have xb2 := fun x => After.cell b2 x
      have xb3 := fun x => After.cell b3 x
      have xb4 := fun x => After.cell b4 x
      have xb5 := fun x => After.cell b5 x
      have xd0 := fun x => After.cell d0 x
      have xd1 := fun x => After.cell d1 x
      have xd2 := fun x => After.cell d2 x
      clear b0 b1 b2 b3 b4 b5 d0 d1 d2 d3 d4 d5 k0 k1 k2 k3 k4 k5
      refine wp_region_after (by kernel_rfl) (by kernel_rfl) ?_
      repeat (go_big_quiet_step (first | (go_at_call 96; with_reducible exact HIk.out _)))
      refine wpQuiet_nil ?_
      intro _ hw'
      obtain ⟨x5, hw''⟩ := hw'
      subst hw''
      have B5 := xb5 x5
      have S5 := hid (S1.out.trans x5.same)
      have T5 := hid (T1.out.trans x5.same)
      clear xb0 xb1 xb2 xb3 xb4 xb5 xd0 xd1 xd2 HIk S1 T1
      generalize x5.to = w5 at *
      have O5 := hid (HO.out.keep T5.out fun _ _ x => x)
      have HB5 := hid (HBk.out.same T5.out)
      go_wp2_with (at_builtin; refine wpList_append_bytes rfl (.tmp 73) (.tmp 75) 23 tyBytes rfl O5.out HB5.out rfl rfl (by omega) (by have := S5.out.size; omega) ?_; intro x6 w6 ho6 hg6; have ho6 := hid ho6; have S6 := hid (S5.out.grown_own O5.out (Nat.le_refl _) hg6); clear hg6)
      go_roundw
      case rel => exact ⟨k + 1, by omega, by go_num, by rw [HUk.out]; exact ho6.out, S6.out, HY.out⟩
      case measure => simp [intOf]; omega
    · have HY := hid (HYes.out ⟨hr, q1, q2, q3, q4, q5, fun h => absurd h q6⟩)
      have p1 : (L[k].life != (L[0]'hpos).life) = false := by rw [bne_eq_false_iff_eq]; exact q1
      have p2 : (L[k].era != (L[0]'hpos).era) = false := by rw [bne_eq_false_iff_eq]; exact q2
      have p3 : (L[k].seq != (L[0]'hpos).seq) = false := by rw [bne_eq_false_iff_eq]; exact q3
      have p4 : (L[k].parts != (L.length : Int)) = false := by rw [bne_eq_false_iff_eq]; exact q4
      have p5 : (L[k].part != (k : Int)) = false := by rw [bne_eq_false_iff_eq]; exact q5
      have p6 : decide ((k : Int) < (L.length : Int) - 1) = false := decide_eq_false q6
      obtain ⟨k0, k1, k2, k3, k4, k5⟩ := KC.out
      clear KC HNo HYes q1 q2 q3 q4 q5 q6
      rw [hr] at HIk
      clear hr
      go_upto_region 6 with fail
      have xb0 := fun x => After.cell b0 x
      have xb1 := fun x => After.cell b1 x
      have xb2 := fun x => After.cell b2 x
      have xb3 := fun x => After.cell b3 x
      have xb4 := fun x => After.cell b4 x
      have xb5 := fun x => After.cell b5 x
      have xd0 := fun x => After.cell d0 x
      have xd1 := fun x => After.cell d1 x
      have xd2 := fun x => After.cell d2 x
      clear b0 b1 b2 b3 b4 b5 d0 d1 d2 d3 d4 d5 k0 k1 k2 k3 k4 k5
      refine wp_region_after (by kernel_rfl) (by kernel_rfl) ?_
      repeat (go_big_quiet_step (first | (go_at_call 96; with_reducible exact HIk.out _)))
      refine wpQuiet_nil ?_
      intro _ hw'
      obtain ⟨x5, hw''⟩ := hw'
      subst hw''
      have B5 := xb5 x5
      have S5 := hid (S1.out.trans x5.same)
      have T5 := hid (T1.out.trans x5.same)
      clear xb0 xb1 xb2 xb3 xb4 xb5 xd0 xd1 xd2 HIk S1 T1
      generalize x5.to = w5 at *
      have O5 := hid (HO.out.keep T5.out fun _ _ x => x)
      have HB5 := hid (HBk.out.same T5.out)
      go_wp2_with (at_builtin; refine wpList_append_bytes rfl (.tmp 73) (.tmp 75) 23 tyBytes rfl O5.out HB5.out rfl rfl (by omega) (by have := S5.out.size; omega) ?_; intro x6 w6 ho6 hg6; have ho6 := hid ho6; have S6 := hid (S5.out.grown_own O5.out (Nat.le_refl _) hg6); clear hg6)
      go_roundw
      case rel => exact ⟨k + 1, by omega, by go_num, by rw [HUk.out]; exact ho6.out, S6.out, HY.out⟩
      case measure => simp [intOf]; omega
end Go.Proofs.Ytlhnpicmjjddeaa
namespace Go.Proofs.Ytlhnpicmjjddeaa
open Go.RowKit

def RetPl (n : Int) (l : List UInt8) (w : World) (en : Ending) (w' : World) : Prop := ∃ v, en = .returned (.tuple #[.int .i64 n, v]) ∧ OwnB w' w.heap.size v l ∧ Same w w'
theorem small_read {D : Dv} {at_ most : Int} {n : Nat} (h : Read D at_ most n) : Small (D.frs at_ n) := by
  intro f hf
  unfold Dv.frs at hf
  obtain ⟨i, hi, rfl⟩ := List.mem_map.1 hf
  obtain ⟨q1, q2, q3⟩ := right_parts (h.1 i (List.mem_range.1 hi)).1
  exact ⟨by omega, q2, q3⟩
theorem right_era {f : Fr} (h : f.right = true) : 1 ≤ f.life ∧ f.life ≤ 16777215 ∧ 0 ≤ f.era ∧ f.era ≤ 16777215 ∧ 1 ≤ f.seq ∧ f.seq ≤ 4294967295 := stampOk_iff.1 (Fr.right_iff.1 h).1
set_option maxHeartbeats 6400000 in
set_option maxRecDepth 100000 in
theorem sPlace (w : World) (p : Value) (F : Nat → Prop) (D : Dv) (at_ each odd : Int) (hD : IsDv w p F D) (ha : 0 ≤ at_ ∧ at_ ≤ 10000) :
    Calls Try.prog 103 #[p, .int .i64 at_, .int .i64 each, .int .i64 odd] w (RetPl (D.place at_ each odd).1 (D.place at_ each odd).2 w) := by
  have HFr := hid (sFrames w p F D at_ each hD ha)
  have HJo := hid fJoin
  obtain ⟨b, hp⟩ : ∃ b, p = .pointer (some ⟨b, 0, none⟩) := by obtain ⟨b, _, _, _, e, _⟩ := hD; exact ⟨b, e⟩
  subst hp
  clear hD
  go_enter Try.func103, Try.ntmps103
  go_wp2_with fail
  refine HFr.out.mono ?_
  rintro en w1 ⟨v1, n, rfl, O1, S1, R, hn⟩
  have HPl := hid (place_of_read (odd := odd) R)
  have HSm := hid (small_read R)
  have hfl : (D.frs at_ n).length = n := D.frs_length at_ n
  obtain ⟨a1, c1, rfl, f1, f2⟩ := O1.frs.form
  have HJ := hid (HJo.out w1 _ _ _ O1.frs HSm.out (by rw [hfl]; omega))
  rw [hfl] at O1 HJ f1 ⊢
  have S1 := hid S1
  by_cases hj : joinsB (D.frs at_ n) = true
  · obtain ⟨j1, j2, j3⟩ := joins_frs hj
    have hr0 := (j3 0 (by omega)).1
    rw [show at_ + ((0 : Nat) : Int) = at_ from by simp] at hr0
    obtain ⟨_, _, q3, q4, _, _⟩ := right_era hr0
    have hjo : joinOf (D.frs at_ n) = joined (D.frs at_ n) := by unfold joinOf; rw [hj]; rfl
    rw [hj, hjo] at HJ
    rw [hj, Bool.true_and] at HPl
    have hrow : ∃ g o a c, a1 = some ⟨g, o, none⟩ ∧ Cells6 w1 g o (decF (D.sector at_)) (.slice a (decF (D.sector at_)).data.length c) := by
      have O1' := O1
      rw [show (Value.slice a1 n c1) = .slice a1 (D.frs at_ n).length c1 from by rw [hfl]] at O1'
      obtain ⟨g, o, ha1, hk⟩ := O1'.frs.rows (by rw [hfl]; omega)
      obtain ⟨a, c, e', hc, _⟩ := hk 0 (by rw [hfl]; omega)
      have e0 : (D.frs at_ n)[0]'(by rw [hfl]; omega) = decF (D.sector at_) := by
        have h1 := D.frs_at at_ n 0 (by omega)
        rw [List.getElem?_eq_getElem (by rw [hfl]; omega)] at h1
        have := Option.some.inj h1
        rw [this]
        congr 2
        simp
      rw [e0, Nat.zero_mul, Nat.add_zero] at hc
      exact ⟨g, o, a, c, ha1, hc⟩
    obtain ⟨g, o, a, c, rfl, hc6⟩ := hrow
    have HC6 := hid hc6
    have hn1 : 0 < n := by omega
    clear hj hjo j1 j2 j3 hr0 O1 hfl HSm R hc6
    generalize joined (D.frs at_ n) = jl at *
    generalize decF (D.sector at_) = f at *
    go_wp2_with fail
    refine HJ.out.mono ?_
    rintro en w2 ⟨v2, rfl, O2, S2⟩
    obtain ⟨c0, d1, d2, d3, d4, d5⟩ := HC6.out.same S2
    obtain ⟨a2, c2, rfl, _, _⟩ := O2.bytes.form
    have O2 := hid (O2.mono (Nat.le_refl _))
    have S2 := hid (S1.out.trans S2)
    by_cases hs : f.seq = 1
    · have hsb : (f.seq != 1) = false := by rw [hs]; rfl
      by_cases ho : f.era % 2 = odd
      · have hob : (f.era % 2 != odd) = false := by rw [ho]; simp
        have hz : D.place at_ each odd = (f.era, jl) := by rw [HPl.out, decide_eq_true hs, decide_eq_true ho]; rfl
        have HZ := hid hz
        clear hs ho hz
        go_wp2_with fail
        go_ret2
        rw [HZ.out]
        exact ⟨_, rfl, O2.out.mono S1.out.size, S2.out⟩
      · have hob : (f.era % 2 != odd) = true := by rw [bne_iff_ne]; exact ho
        have hz : D.place at_ each odd = (0, []) := by rw [HPl.out, decide_eq_false ho, Bool.and_false]; rfl
        have HZ := hid hz
        clear hs ho hz
        go_wp2_with fail
        go_ret2
        rw [HZ.out]
        exact ⟨_, rfl, OwnB.nil _ _, S2.out⟩
    · have hsb : (f.seq != 1) = true := by rw [bne_iff_ne]; exact hs
      have hz : D.place at_ each odd = (0, []) := by rw [HPl.out, decide_eq_false hs, Bool.false_and]; rfl
      have HZ := hid hz
      clear hs hz
      go_wp2_with fail
      go_ret2
      rw [HZ.out]
      exact ⟨_, rfl, OwnB.nil _ _, S2.out⟩
  · have hj' : joinsB (D.frs at_ n) = false := by simpa using hj
    have hz : D.place at_ each odd = (0, []) := by rw [HPl.out, hj', Bool.false_and]; rfl
    have HZ := hid hz
    rw [hj'] at HJ
    clear hj hj' hz O1
    go_wp2_with fail
    refine HJ.out.mono ?_
    rintro en w2 ⟨v2, rfl, O2, S2⟩
    obtain ⟨a2, c2, rfl, _, _⟩ := O2.bytes.form
    have S2 := hid (S1.out.trans S2)
    clear O2
    go_wp2_with fail
    go_ret2
    rw [HZ.out]
    exact ⟨_, rfl, OwnB.nil _ _, S2.out⟩

set_option maxHeartbeats 1600000 in
set_option maxRecDepth 100000 in
theorem sCheck (w : World) (p : Value) (F : Nat → Prop) (D : Dv) (at_ each : Int) (hD : IsDv w p F D) (hb : -9223372036854775808 ≤ each ∧ each ≤ 9223372036854775807) :
    Calls Try.prog 102 #[p, .int .i64 at_, .int .i64 each] w (RetSame (.int .i64 (D.loadE at_ each)) w) := by
  have HS := hid (fun w' (S : Same w w') => dSizeD w' p F D (hD.same S))
  have hl := hD.ok.1
  have hl1 := hD.ok.2.1
  have HE : Hid (D.loadE at_ each = if at_ < 0 ∨ each < 1 ∨ (D.C.length : Int) < each ∨ (D.C.length : Int) - 2 * each < at_ then 2 else 0) := rfl
  obtain ⟨b, hp⟩ : ∃ b, p = .pointer (some ⟨b, 0, none⟩) := by obtain ⟨b, _, _, _, e, _⟩ := hD; exact ⟨b, e⟩
  subst hp
  clear hD
  generalize D.C.length = n at *
  have h0 : ((n : Int) == 0) = false := by rw [beq_eq_false_iff_ne]; omega
  by_cases h1 : at_ < 0
  · have HZ := hid (HE.out.trans (if_pos (.inl h1)))
    rw [HZ.out]
    clear HE
    go_enter Try.func102, Try.ntmps102
    go_wp2_with fail
    refine (HS.out _ (Same.refl _)).mono ?_
    rintro en w1 ⟨rfl, S1⟩
    go_wp2_with fail
    go_ret
    exact ⟨rfl, S1⟩
  · have d1 : decide (at_ < 0) = false := by simpa using h1
    by_cases h2 : each < 1
    · have HZ := hid (HE.out.trans (if_pos (.inr (.inl h2))))
      rw [HZ.out]
      clear HE h1
      go_enter Try.func102, Try.ntmps102
      go_wp2_with fail
      refine (HS.out _ (Same.refl _)).mono ?_
      rintro en w1 ⟨rfl, S1⟩
      go_wp2_with fail
      go_ret
      exact ⟨rfl, S1⟩
    · have d2 : decide (each < 1) = false := by simpa using h2
      by_cases h3 : (n : Int) < each
      · have HZ := hid (HE.out.trans (if_pos (.inr (.inr (.inl h3)))))
        rw [HZ.out]
        have d3 : decide ((n : Int) < each) = true := by simpa using h3
        clear HE h1 h2 h3
        go_enter Try.func102, Try.ntmps102
        go_wp2_with fail
        refine (HS.out _ (Same.refl _)).mono ?_
        rintro en w1 ⟨rfl, S1⟩
        go_wp2_with fail
        refine (HS.out _ S1).mono ?_
        rintro en w2 ⟨rfl, S2⟩
        go_wp2_with fail
        go_ret
        exact ⟨rfl, S1.trans S2⟩
      · have d3 : decide ((n : Int) < each) = false := by simpa using h3
        have b1 : 1 ≤ each := by omega
        have b2 : each ≤ 2048 := by omega
        by_cases h4 : (n : Int) - 2 * each < at_
        · have HZ := hid (HE.out.trans (if_pos (.inr (.inr (.inr h4)))))
          rw [HZ.out]
          have d4 : decide ((n : Int) - 2 * each < at_) = true := by simpa using h4
          clear HE h1 h2 h3 h4
          go_enter Try.func102, Try.ntmps102
          go_wp2_with fail
          refine (HS.out _ (Same.refl _)).mono ?_
          rintro en w1 ⟨rfl, S1⟩
          go_wp2_with fail
          refine (HS.out _ S1).mono ?_
          rintro en w2 ⟨rfl, S2⟩
          go_wp2_with fail
          refine (HS.out _ (S1.trans S2)).mono ?_
          rintro en w3 ⟨rfl, S3⟩
          go_wp2_with fail
          go_ret
          exact ⟨rfl, (S1.trans S2).trans S3⟩
        · have HZ := hid (HE.out.trans (if_neg (by omega)))
          rw [HZ.out]
          have d4 : decide ((n : Int) - 2 * each < at_) = false := by simpa using h4
          clear HE h1 h2 h3 h4
          go_enter Try.func102, Try.ntmps102
          go_wp2_with fail
          refine (HS.out _ (Same.refl _)).mono ?_
          rintro en w1 ⟨rfl, S1⟩
          go_wp2_with fail
          refine (HS.out _ S1).mono ?_
          rintro en w2 ⟨rfl, S2⟩
          go_wp2_with fail
          refine (HS.out _ (S1.trans S2)).mono ?_
          rintro en w3 ⟨rfl, S3⟩
          go_wp2_with fail
          go_ret
          exact ⟨rfl, (S1.trans S2).trans S3⟩
end Go.Proofs.Ytlhnpicmjjddeaa
namespace Go.Proofs.Ytlhnpicmjjddeaa
open Go.RowKit

/-- what Load answers -/
def Dv.loadR (D : Dv) (at_ each : Int) : Int × List UInt8 × Int :=
  if D.loadE at_ each = 0 then (if (D.load at_ each).1 = 0 then (0, [], 11) else ((D.load at_ each).1, (D.load at_ each).2, 0)) else (0, [], 2)
def RetLoad (r : Int × List UInt8 × Int) (w : World) (en : Ending) (w' : World) : Prop := ∃ v, en = .returned (.tuple #[.int .i64 r.1, v, .int .i64 r.2.2]) ∧ OwnB w' w.heap.size v r.2.1 ∧ Same w w'
theorem loadE_cases (D : Dv) (at_ each : Int) : D.loadE at_ each = 0 ∨ D.loadE at_ each = 2 := by unfold Dv.loadE; split <;> simp
set_option maxHeartbeats 6400000 in
set_option maxRecDepth 100000 in
theorem sLoad (w : World) (p : Value) (F : Nat → Prop) (D : Dv) (at_ each : Int) (hD : IsDv w p F D) (hb : -9223372036854775808 ≤ each ∧ each ≤ 9223372036854775807) :
    Calls Try.prog 55 #[p, .int .i64 at_, .int .i64 each] w (RetLoad (D.loadR at_ each) w) := by
  have HC := hid (sCheck w p F D at_ each hD hb)
  have hl := hD.ok.1
  by_cases hE : D.loadE at_ each = 0
  · have hR : D.loadR at_ each = (if (D.load at_ each).1 = 0 then (0, [], 11) else ((D.load at_ each).1, (D.load at_ each).2, 0)) := by unfold Dv.loadR; rw [if_pos hE]
    have hbd : 0 ≤ at_ ∧ 1 ≤ each ∧ each ≤ 2048 ∧ at_ + each ≤ 2048 := by
      unfold Dv.loadE at hE
      split at hE
      · cases hE
      · omega
    have HA := hid (fun w' (S : Same w w') => sPlace w' p F D at_ each 0 (hD.same S) (by omega))
    have HB := hid (fun w' (S : Same w w') => sPlace w' p F D (at_ + each) each 1 (hD.same S) (by omega))
    rw [hE] at HC
    have hLd : Hid (D.load at_ each = if (D.place at_ each 0).1 < (D.place (at_ + each) each 1).1 then D.place (at_ + each) each 1 else D.place at_ each 0) := rfl
    obtain ⟨b, hp⟩ : ∃ b, p = .pointer (some ⟨b, 0, none⟩) := by obtain ⟨b, _, _, _, e, _⟩ := hD; exact ⟨b, e⟩
    subst hp
    have HR := hid hR
    clear hR hD hE hl
    generalize D.loadR at_ each = R at *
    generalize D.load at_ each = L at *
    generalize D.place at_ each 0 = A at *
    generalize D.place (at_ + each) each 1 = B at *
    obtain ⟨a, la⟩ := A
    obtain ⟨c, lb⟩ := B
    simp only at *
    go_enter Try.func55, Try.ntmps55
    go_wp2_with fail
    refine HC.out.mono ?_
    rintro en w1 ⟨rfl, S1⟩
    go_wp2_with fail
    refine (HA.out _ S1).mono ?_
    rintro en w2 ⟨v2, rfl, O2, S2⟩
    have O2 := hid O2
    have T2 := hid (S1.trans S2)
    clear S2
    go_wp2_with fail
    refine (HB.out _ T2.out).mono ?_
    rintro en w3 ⟨v3, rfl, O3, S3⟩
    have O2 := hid ((O2.out.keep S3 (fun _ _ x => x)).mono S1.size)
    have O3 := hid (O3.mono T2.out.size)
    have T3 := hid (T2.out.trans S3)
    obtain ⟨a2, c2, rfl, _, _⟩ := O2.out.bytes.form
    obtain ⟨a3, c3, rfl, _, _⟩ := O3.out.bytes.form
    clear S3 S1
    by_cases hlt : a < c
    · rw [if_pos hlt] at hLd
      have hz := hLd.out
      rw [hz] at HR
      clear hLd hz
      simp only at HR
      by_cases hc0 : c = 0
      · have hcb : (c == 0) = true := by rw [beq_iff_eq]; exact hc0
        rw [if_pos hc0] at HR
        have h2 : decide (a < c) = true := by simpa using hlt
        clear hc0 hlt
        go_wp2_with fail
        go_ret3
        rw [HR.out]
        exact ⟨_, rfl, OwnB.nil _ _, T3.out⟩
      · have hcb : (c == 0) = false := by rw [beq_eq_false_iff_ne]; exact hc0
        rw [if_neg hc0] at HR
        have h2 : decide (a < c) = true := by simpa using hlt
        clear hc0 hlt
        go_wp2_with fail
        go_ret3
        rw [HR.out]
        exact ⟨_, rfl, O3.out, T3.out⟩
    · rw [if_neg hlt] at hLd
      have hz := hLd.out
      rw [hz] at HR
      clear hLd hz
      simp only at HR
      by_cases hc0 : a = 0
      · have hcb : (a == 0) = true := by rw [beq_iff_eq]; exact hc0
        rw [if_pos hc0] at HR
        have h2 : decide (a < c) = false := by simpa using hlt
        clear hc0 hlt
        go_wp2_with fail
        go_ret3
        rw [HR.out]
        exact ⟨_, rfl, OwnB.nil _ _, T3.out⟩
      · have hcb : (a == 0) = false := by rw [beq_eq_false_iff_ne]; exact hc0
        rw [if_neg hc0] at HR
        have h2 : decide (a < c) = false := by simpa using hlt
        clear hc0 hlt
        go_wp2_with fail
        go_ret3
        rw [HR.out]
        exact ⟨_, rfl, O2.out, T3.out⟩
  · have hR : D.loadR at_ each = (0, [], 2) := by unfold Dv.loadR; rw [if_neg hE]
    have h2 : D.loadE at_ each = 2 := by
      rcases loadE_cases D at_ each with h | h
      · exact absurd h hE
      · exact h
    rw [hR]
    rw [h2] at HC
    obtain ⟨b, hp⟩ : ∃ b, p = .pointer (some ⟨b, 0, none⟩) := by obtain ⟨b, _, _, _, e, _⟩ := hD; exact ⟨b, e⟩
    subst hp
    clear hR h2 hE hD
    go_enter Try.func55, Try.ntmps55
    go_wp2_with fail
    refine HC.out.mono ?_
    rintro en w1 ⟨rfl, S1⟩
    go_wp2_with fail
    go_ret3
    exact ⟨_, rfl, OwnB.nil _ _, S1⟩

/-- Save -/
def Dv.save (D : Dv) (at_ each life era : Int) (b : List UInt8) : Int × Dv :=
  if D.loadE at_ each = 2 then (2, D)
  else if era < 1 ∨ era ≤ (D.loadR at_ each).1 then (2, D)
  else if cutE life era 1 b ≠ 0 then (cutE life era 1 b, D)
  else if each < (cutL life era 1 b).length then (10, D)
  else D.write (at_ + era % 2 * each) (cutL life era 1 b)
theorem loadR_err (D : Dv) (at_ each : Int) : (D.loadR at_ each).2.2 = 2 ↔ D.loadE at_ each = 2 := by
  unfold Dv.loadR
  rcases loadE_cases D at_ each with h | h
  · rw [h, if_pos rfl]; split <;> simp
  · rw [h]; simp
theorem loadR_errs (D : Dv) (at_ each : Int) : (D.loadR at_ each).2.2 = 2 ∨ (D.loadR at_ each).2.2 = 0 ∨ (D.loadR at_ each).2.2 = 11 := by
  unfold Dv.loadR
  split
  · split <;> simp
  · simp
set_option maxHeartbeats 6400000 in
set_option maxRecDepth 100000 in
theorem sSave (w : World) (p v : Value) (F : Nat → Prop) (D : Dv) (at_ each life era : Int) (b : List UInt8) (e : TypeId) (hD : IsDv w p F D) (hF : ∀ k, F k → k < w.heap.size) (hb : Bytes w e v b) (hl : b.length ≤ 30000)
    (hea : -9223372036854775808 ≤ each ∧ each ≤ 9223372036854775807) (her : era ≤ 9223372036854775807) :
    Calls Try.prog 56 #[p, .int .i64 at_, .int .i64 each, .int .i64 life, .int .i64 era, v] w (RetDv (D.save at_ each life era b) p F w) := by
  have HL := hid (sLoad w p F D at_ each hD hea)
  have HC := hid (fun w' (S : Same w w') => fCut w' e v life era 1 b (hb.same S) hl)
  have HD := hid hD
  have HF := hid hF
  have hlen := hD.ok.1
  obtain ⟨pb, hp⟩ : ∃ b, p = .pointer (some ⟨b, 0, none⟩) := by obtain ⟨b, _, _, _, e, _⟩ := hD; exact ⟨b, e⟩
  subst hp
  obtain ⟨av, cv, rfl, _, _⟩ := hb.form
  have HS : Hid (D.save at_ each life era b = if D.loadE at_ each = 2 then (2, D)
    else if era < 1 ∨ era ≤ (D.loadR at_ each).1 then (2, D)
    else if cutE life era 1 b ≠ 0 then (cutE life era 1 b, D)
    else if each < (cutL life era 1 b).length then (10, D)
    else D.write (at_ + era % 2 * each) (cutL life era 1 b)) := rfl
  have hbd : D.loadE at_ each ≠ 2 → 0 ≤ at_ ∧ 1 ≤ each ∧ each ≤ 2048 ∧ at_ + each ≤ 2048 := by
    intro h
    unfold Dv.loadE at h
    split at h
    · exact absurd rfl h
    · omega
  have HBd := hid hbd
  have HRe := hid (loadR_err D at_ each)
  have HRs := hid (loadR_errs D at_ each)
  clear hD hb hF hl hbd
  generalize hR : D.loadR at_ each = R at *
  clear hR
  obtain ⟨last, lb, le⟩ := R
  simp only at *
  go_enter Try.func56, Try.ntmps56
  go_wp2_with fail
  refine HL.out.mono ?_
  rintro en w1 ⟨v1, rfl, O1, S1⟩
  obtain ⟨a1, c1, rfl, _, _⟩ := O1.bytes.form
  have S1 := hid S1
  clear O1
  simp only
  by_cases h2 : D.loadE at_ each = 2
  · have hle : le = 2 := HRe.out.2 h2
    have hz := hid (HS.out.trans (if_pos h2))
    subst hle
    clear h2
    go_wp2_with fail
    go_ret
    rw [hz.out]
    exact ⟨rfl, S1.out.keep _, HD.out.same S1.out⟩
  · have hz1 := hid (HS.out.trans (if_neg h2))
    obtain ⟨b1, b2, b3, b4⟩ := HBd.out h2
    have hle : le = 0 ∨ le = 11 := by
      rcases HRs.out with h | h
      · exact absurd (HRe.out.1 h) h2
      · exact h
    have hok : ∀ q : Int, (q = 0 ∨ q = 11) → ((q != 0) && (q != 11)) = false := by
      intro q hq; rcases hq with rfl | rfl <;> rfl
    clear h2 HS
    by_cases h3 : era < 1 ∨ era ≤ last
    · have hz := hid (hz1.out.trans (if_pos h3))
      by_cases h3a : era < 1
      · have d3 : decide (era < 1) = true := by simpa using h3a
        clear h3 h3a
        rcases hle with rfl | rfl
        all_goals
          go_wp2_with fail
          go_ret
          rw [hz.out]
          exact ⟨rfl, S1.out.keep _, HD.out.same S1.out⟩
      · have d3 : decide (era < 1) = false := by simpa using h3a
        have d4 : decide (era ≤ last) = true := by
          rcases h3 with h | h
          · exact absurd h h3a
          · simpa using h
        clear h3 h3a
        rcases hle with rfl | rfl
        all_goals
          go_wp2_with fail
          go_ret
          rw [hz.out]
          exact ⟨rfl, S1.out.keep _, HD.out.same S1.out⟩
    · have hz2 := hid (hz1.out.trans (if_neg h3))
      have he1 : 1 ≤ era := by omega
      have d3 : decide (era < 1) = false := by simp; omega
      have d4 : decide (era ≤ last) = false := by simp; omega
      clear h3 hz1
      rcases hle with rfl | rfl
      all_goals
        go_wp2_with fail
        refine (HC.out _ S1.out).mono ?_
        rintro en w2 ⟨v2, rfl, O2, S2⟩
        obtain ⟨a2, c2, rfl, _, _⟩ := O2.rows.form
        have T2 := hid (S1.out.trans S2)
        have N2 := hid (O2.rows2N (M := F) (fun k hk => Nat.lt_of_lt_of_le (HF.out k hk) S1.out.size))
        clear O2 S2
        by_cases hce : cutE life era 1 b = 0
        · have hz3 := hid (hz2.out.trans (if_neg (by simp [hce])))
          have hca : cutAll life era 1 b = cutL life era 1 b := by unfold cutAll; rw [if_pos hce]
          rw [hca] at N2 ⊢
          rw [hce]
          clear hca hce hz2
          generalize hls : cutL life era 1 b = ls at *
          clear hls
          by_cases h5 : each < ls.length
          · have hz := hid (hz3.out.trans (if_pos h5))
            have d5 : decide (each < (ls.length : Int)) = true := by simpa using h5
            clear h5 hz3
            go_wp2_with fail
            go_ret
            rw [hz.out]
            exact ⟨rfl, T2.out.keep _, HD.out.same T2.out⟩
          · have hz := hid (hz3.out.trans (if_neg h5))
            have d5 : decide (each < (ls.length : Int)) = false := by simpa using h5
            have hm2 : 0 ≤ era % 2 ∧ era % 2 ≤ 1 := by omega
            have hmul : 0 ≤ era % 2 * each ∧ era % 2 * each ≤ 2048 := by
              have : era % 2 = 0 ∨ era % 2 = 1 := by omega
              rcases this with h | h <;> rw [h] <;> omega
            have HW := hid (dWrite w2 _ F D (at_ + era % 2 * each) _ _ ls (HD.out.same T2.out) N2.out)
            clear h5 hz3
            go_wp2_with fail
            refine HW.out.mono ?_
            rintro en w3 ⟨rfl, K3, D3⟩
            go_wp2_with fail
            go_ret
            rw [hz.out]
            exact ⟨rfl, (T2.out.keep F).trans K3, D3⟩
        · have hz := hid (hz2.out.trans (if_pos hce))
          have hnz : (cutE life era 1 b != 0) = true := by rw [bne_iff_ne]; exact hce
          clear hce hz2
          generalize cutE life era 1 b = ce at *
          go_wp2_with fail
          go_ret
          rw [hz.out]
          exact ⟨rfl, T2.out.keep _, HD.out.same T2.out⟩
end Go.Proofs.Ytlhnpicmjjddeaa
namespace Go.Proofs.Ytlhnpicmjjddeaa
open Go.RowKit

theorem Nobody.same {w w' : World} {p : Value} (h : Nobody w p) (S : Same w w') : Nobody w' p := by
  rcases h with h | ⟨b, h, d⟩
  · exact .inl h
  · exact .inr ⟨b, h, d.same S⟩
theorem Nobody.boxed (w : World) : Nobody (w.alloc (.cells #[.bool false, .bool false, .int .i64 0, .slice none 0 0, .slice none 0 0, .int .i64 0] 55)) (.pointer (some ⟨w.heap.size, 0, none⟩)) := by
  have hn := heap_alloc_new w (.cells #[.bool false, .bool false, .int .i64 0, .slice none 0 0, .slice none 0 0, .int .i64 0] 55)
  refine .inr ⟨_, rfl, ?_, ?_, ?_, ?_, ?_, ?_⟩
  all_goals (rw [cell_of_row _ _ _ _ _ _ hn]; rfl)

set_option maxHeartbeats 1600000 in
set_option maxRecDepth 100000 in
theorem driveNobodyWalk (w : World) (at_ n : Int) : Calls Try.prog 9 #[.int .i64 at_, .int .i64 n] w (RetSame (.bool true) w) := by
  have H1 := hid dRead_none
  have H2 := hid lWas
  have H3 := hid dWrite_none
  have H4 := hid dFuse_none
  have H5 := hid dStart_none
  have H6 := hid dLive_none
  have H7 := hid dSize_none
  have H8 := hid dWrites_none
  have H9 := hid lLives
  have HB := hid Nobody.boxed
  go_enter Try.func9, Try.ntmps9
  go_wp2_with fail
  go_loopw [5] (fun i wr => ∃ k : Nat, k ≤ 2 ∧ i = .int .i64 k ∧ Same w wr) (fun i _ => 2 - (intOf i).toNat)
  case atStart => exact ⟨0, by omega, rfl, Same.refl w⟩
  case round =>
    obtain ⟨k, hk, rfl, S⟩ := hrel
    have S := hid S
    match k, hk with
    | 2, _ =>
      go_wp2_with fail
      refine (H9.out _).mono ?_
      rintro en w1 ⟨rfl, S1⟩
      go_wp2_with fail
      go_ret
      exact ⟨rfl, S.out.trans S1⟩
    | 0, _ =>
      have N0 : Hid (Nobody wr (.pointer none)) := .inl rfl
      go_wp2_with fail
      refine (H1.out _ _ _ N0.out).mono ?_
      rintro en w1 ⟨rfl, S1⟩
      go_wp2_with fail
      refine (H2.out _).mono ?_
      rintro en w2 ⟨v2, rfl, O2, S2⟩
      obtain ⟨a2, c2, rfl, _, _⟩ := O2.bytes.form
      clear O2
      have T2 := hid ((S1.trans S2).alloc (.cells #[.slice a2 nought.length c2] 23))
      clear S1 S2
      go_wp2_with fail
      refine (H3.out _ _ _ _ (N0.out.same T2.out)).mono ?_
      rintro en w3 ⟨rfl, S3⟩
      have T3 := hid (T2.out.trans S3)
      clear T2 S3
      go_wp2_with fail
      refine (H4.out _ _ _ _ (N0.out.same T3.out)).mono ?_
      rintro en w4 ⟨rfl, S4⟩
      have T4 := hid (T3.out.trans S4)
      clear T3 S4
      go_wp2_with fail
      refine (H5.out _ _ (N0.out.same T4.out)).mono ?_
      rintro en w5 ⟨rfl, S5⟩
      have T5 := hid (T4.out.trans S5)
      clear T4 S5
      go_wp2_with fail
      refine (H6.out _ _ (N0.out.same T5.out)).mono ?_
      rintro en w6 ⟨rfl, S6⟩
      have T6 := hid (T5.out.trans S6)
      clear T5 S6
      go_wp2_with fail
      refine (H7.out _ _ (N0.out.same T6.out)).mono ?_
      rintro en w7 ⟨rfl, S7⟩
      have T7 := hid (T6.out.trans S7)
      clear T6 S7
      go_wp2_with fail
      refine (H8.out _ _ (N0.out.same T7.out)).mono ?_
      rintro en w8 ⟨rfl, S8⟩
      have T8 := hid (T7.out.trans S8)
      clear T7 S8
      go_wp2_with fail
      go_roundw
      case rel => exact ⟨1, by omega, rfl, S.out.trans T8.out⟩
      case measure => simp [intOf]
    | 1, _ =>
      have N0 := hid (HB.out wr)
      go_wp2_with fail
      refine (H1.out _ _ _ N0.out).mono ?_
      rintro en w1 ⟨rfl, S1⟩
      go_wp2_with fail
      refine (H2.out _).mono ?_
      rintro en w2 ⟨v2, rfl, O2, S2⟩
      obtain ⟨a2, c2, rfl, _, _⟩ := O2.bytes.form
      clear O2
      have T2 := hid ((S1.trans S2).alloc (.cells #[.slice a2 nought.length c2] 23))
      clear S1 S2
      go_wp2_with fail
      refine (H3.out _ _ _ _ (N0.out.same T2.out)).mono ?_
      rintro en w3 ⟨rfl, S3⟩
      have T3 := hid (T2.out.trans S3)
      clear T2 S3
      go_wp2_with fail
      refine (H4.out _ _ _ _ (N0.out.same T3.out)).mono ?_
      rintro en w4 ⟨rfl, S4⟩
      have T4 := hid (T3.out.trans S4)
      clear T3 S4
      go_wp2_with fail
      refine (H5.out _ _ (N0.out.same T4.out)).mono ?_
      rintro en w5 ⟨rfl, S5⟩
      have T5 := hid (T4.out.trans S5)
      clear T4 S5
      go_wp2_with fail
      refine (H6.out _ _ (N0.out.same T5.out)).mono ?_
      rintro en w6 ⟨rfl, S6⟩
      have T6 := hid (T5.out.trans S6)
      clear T5 S6
      go_wp2_with fail
      refine (H7.out _ _ (N0.out.same T6.out)).mono ?_
      rintro en w7 ⟨rfl, S7⟩
      have T7 := hid (T6.out.trans S7)
      clear T6 S7
      go_wp2_with fail
      refine (H8.out _ _ (N0.out.same T7.out)).mono ?_
      rintro en w8 ⟨rfl, S8⟩
      have T8 := hid (T7.out.trans S8)
      clear T7 S8
      go_wp2_with fail
      go_roundw
      case rel => exact ⟨2, by omega, rfl, (S.out.alloc _).trans T8.out⟩
      case measure => simp [intOf]
end Go.Proofs.Ytlhnpicmjjddeaa
namespace Go.Proofs.Ytlhnpicmjjddeaa
open Go.RowKit

theorem sCheck_none (w : World) (p : Value) (at_ each : Int) (h : Nobody w p) : Calls Try.prog 102 #[p, .int .i64 at_, .int .i64 each] w (RetSame (.int .i64 1) w) := by
  have H := hid dSize_none
  go_enter Try.func102, Try.ntmps102
  go_wp2_with fail
  refine (H.out _ _ h).mono ?_
  rintro en w1 ⟨rfl, S1⟩
  go_wp2_with fail
  go_ret
  exact ⟨rfl, S1⟩
theorem sLoad_none (w : World) (p : Value) (at_ each : Int) (h : Nobody w p) : Calls Try.prog 55 #[p, .int .i64 at_, .int .i64 each] w (RetSame (.tuple #[.int .i64 0, .slice none 0 0, .int .i64 1]) w) := by
  have H := hid sCheck_none
  go_enter Try.func55, Try.ntmps55
  go_wp2_with fail
  refine (H.out _ _ _ _ h).mono ?_
  rintro en w1 ⟨rfl, S1⟩
  go_wp2_with fail
  go_ret3
  exact ⟨rfl, S1⟩
set_option maxRecDepth 100000 in
theorem sSave_none (w : World) (p v : Value) (at_ each life era : Int) (h : Nobody w p) : Calls Try.prog 56 #[p, .int .i64 at_, .int .i64 each, .int .i64 life, .int .i64 era, v] w (RetSame (.int .i64 1) w) := by
  have H := hid sLoad_none
  go_enter Try.func56, Try.ntmps56
  go_wp2_with fail
  refine (H.out _ _ _ _ h).mono ?_
  rintro en w1 ⟨rfl, S1⟩
  go_wp2_with fail
  go_ret
  exact ⟨rfl, S1⟩

theorem b1_made' (w : World) (n : Nat) (hn : n < 256) (fr : Nat × Nat) : Bytes (w.alloc (.cells #[.int .u8 (n : Int)] 5 fr)) 5 (.slice (some ⟨w.heap.size, 0, none⟩) 1 1) [n.toUInt8] :=
  Bytes.made 5 w.heap.size 1 1 _ _ (heap_alloc_new w _) (Nat.le_refl _) (by decide) rfl (by
    have : (n : Int) % 256 = n := by omega
    simp [u8, this])
def live9a : Int × Dv := (Dv.new 8).save 0 4 1 1 [97]
def live9b : Int × Dv := live9a.2.save 0 4 1 2 [98]
theorem live9a_ok : live9a.1 = 0 := by kernel_rfl
theorem live9b_ok : live9b.1 = 0 := by kernel_rfl
theorem live9c_ok : live9b.2.loadR 0 4 = (2, [98], 0) := by kernel_rfl
set_option maxHeartbeats 1600000 in
set_option maxRecDepth 100000 in
theorem sLives (w : World) : Calls Try.prog 57 #[] w (RetSame (.bool true) w) := by
  have HS := hid sSave
  have A1 := hid live9a_ok
  have A2 := hid live9b_ok
  have A3 := hid live9c_ok
  have HL := hid sLoad
  have kcc := fun (w : World) (C : Array Value) (n c : Nat) => Lib.run_convert_bytes_const (P := Try.prog) w 23 5 C n c Try.underlying23 Try.underlying5
  go_enter Try.func57, Try.ntmps57
  go_wp2_with fail
  refine (dNewD w 8 (by omega) (by omega)).mono ?_
  rintro en w1 ⟨p, F, rfl, S1, D1, B1⟩
  have D1 := hid D1
  have B1 := hid B1
  have S1 := hid S1
  obtain ⟨b, hp⟩ : ∃ b, p = .pointer (some ⟨b, 0, none⟩) := by obtain ⟨b, _, _, _, e, _⟩ := D1.out; exact ⟨b, e⟩
  subst hp
  go_wp2_with fail
  have T1 := hid ((Same.refl w1).alloc (.cells #[.int .u8 97] 5 (1, 2)))
  refine (HS.out _ _ _ F (Dv.new 8) 0 4 1 1 [97] 5 (D1.out.same T1.out) (fun k hk => Nat.lt_of_lt_of_le (B1.out k hk).2 T1.out.size) (b1_made' w1 97 (by omega) (1, 2)) (by simp) (by omega) (by omega)).mono ?_
  rintro en w2 ⟨rfl, K2, D2⟩
  have e1 : ((Dv.new 8).save 0 4 1 1 [97]).1 = 0 := A1.out
  rw [e1]
  have D2 : IsDv w2 (.pointer (some ⟨b, 0, none⟩)) F live9a.2 := D2
  have D2 := hid D2
  have B2 := hid (B1.out.mono (Nat.le_trans T1.out.size K2.size))
  have S2 := hid ((S1.out.trans T1.out).keepOwn K2 (fun k hk => (B1.out k hk).1))
  clear K2 e1
  go_wp2_with fail
  have T2 := hid ((Same.refl w2).alloc (.cells #[.int .u8 98] 5 (1, 2)))
  refine (HS.out _ _ _ F live9a.2 0 4 1 2 [98] 5 (D2.out.same T2.out) (fun k hk => Nat.lt_of_lt_of_le (B2.out k hk).2 T2.out.size) (b1_made' w2 98 (by omega) (1, 2)) (by simp) (by omega) (by omega)).mono ?_
  rintro en w3 ⟨rfl, K3, D3⟩
  have e2 : (live9a.2.save 0 4 1 2 [98]).1 = 0 := A2.out
  rw [e2]
  have D3 : IsDv w3 (.pointer (some ⟨b, 0, none⟩)) F live9b.2 := D3
  have D3 := hid D3
  have S3 := hid ((S2.out.trans T2.out).keepOwn K3 (fun k hk => (B2.out k hk).1))
  clear K3 e2
  go_wp2_with fail
  refine (HL.out _ _ _ _ 0 4 D3.out (by omega)).mono ?_
  rintro en w4 ⟨v4, rfl, O4, S4⟩
  rw [A3.out] at O4 ⊢
  obtain ⟨a4, c4, rfl, _, _⟩ := O4.bytes.form
  have kc := convertBytes w4 5 a4 c4 [98] O4.bytes
  simp only [List.length_cons, List.length_nil] at *
  clear O4
  go_wp2_with fail
  go_ret
  exact ⟨rfl, S3.out.trans S4⟩
end Go.Proofs.Ytlhnpicmjjddeaa
namespace Go.Proofs.Ytlhnpicmjjddeaa
open Go.RowKit Go.ChangeShapes Go.WideShapes

theorem list_of_lt {α : Type} (n : Nat) (R : Nat → α → Prop) (h : ∀ i, i < n → ∃ x, R i x) : ∃ L : List α, L.length = n ∧ ∀ i (hi : i < L.length), R i L[i] := by
  induction n with
  | zero => exact ⟨[], rfl, fun i hi => absurd hi (Nat.not_lt_zero i)⟩
  | succ n ih =>
    obtain ⟨L, hL, hR⟩ := ih fun i hi => h i (by omega)
    obtain ⟨x, hx⟩ := h n (by omega)
    refine ⟨L ++ [x], by simp [hL], fun i hi => ?_⟩
    rw [List.length_append] at hi
    simp only [List.length_singleton] at hi
    rcases Nat.lt_or_ge i L.length with h1 | h1
    · rw [List.getElem_append_left h1]; exact hR i h1
    · obtain rfl : i = L.length := by omega
      rw [List.getElem_append_right (Nat.le_refl _)]
      simpa [hL] using hx
theorem Sl.of_cells0 {w : World} (size : Nat) {a : Addr} {n cap : Nat} {xs : List Value} (hx : xs.length = n * size) (hs : 0 < size) (hn : n ≤ cap) (hm : cap ≤ maxLen)
    (hc : ∀ j u, xs[j]? = some u → w.cell? (a.add j) = some u) : ∃ e, Sl w e size (.slice (some a) n cap) n xs := Sl.of_cells size hx hs hn hm hc

section
variable {H : Type} {enc : TypeId × Value → H} {w : World} {base : Nat} {held : Bool}
theorem open_bytes {fuel : Nat} {a1 : Option Addr} {len1 cap1 : Nat} {x : DataW H × List MemPlace} {t : TypeId} (ht : Try.prog.underlying t = some (.slice 5))
    (h : DataW.trod enc Try.prog w base (fun _ => true) held fuel t (Value.cells (.slice a1 len1 cap1)).toList = some x) : ∃ e l, Bytes w e (.slice a1 len1 cap1) l := by
  rcases open_ints ht Try.underlying5 (by kernel_rfl) h with ⟨hcs, _⟩ | ⟨a, len, cap, zs, hcs, hb, hl, hm, hz, _, hel, hw⟩
  · simp [Value.cells] at hcs
    obtain ⟨rfl, rfl, rfl⟩ := hcs
    exact ⟨0, [], Bytes.nil w 0⟩
  · simp [Value.cells] at hcs
    obtain ⟨rfl, rfl, rfl⟩ := hcs
    simp only [if_true] at hz
    exact Bytes.of_row (.inr ⟨a, rfl, hl, hm, hz, hel, hw⟩)
theorem open_intl {spare : Nat → Bool} {fuel : Nat} {a1 : Option Addr} {len1 cap1 : Nat} {x : DataW H × List MemPlace} {t : TypeId} (ht : Try.prog.underlying t = some (.slice 3))
    (h : DataW.trod enc Try.prog w base spare held fuel t (Value.cells (.slice a1 len1 cap1)).toList = some x) : ∃ e l, Ints w e (.slice a1 len1 cap1) l ∧ ∀ n ∈ l, -9223372036854775808 ≤ n ∧ n ≤ 9223372036854775807 := by
  rcases open_ints ht Try.underlying3 (by kernel_rfl) h with ⟨hcs, _⟩ | ⟨a, len, cap, zs, hcs, hb, hl, hm, hz, _, hel, hw⟩
  · simp [Value.cells] at hcs
    obtain ⟨rfl, rfl, rfl⟩ := hcs
    exact ⟨0, [], Ints.nil w 0, by simp⟩
  · simp [Value.cells] at hcs
    obtain ⟨rfl, rfl, rfl⟩ := hcs
    have hl1 : len1 ≤ zs.length := by rw [hz]; split <;> omega
    have hll : (zs.take len1).length = len1 := by simp; omega
    obtain ⟨e, he⟩ := Sl.of_cells (w := w) 1 (a := a) (n := len1) (cap := cap1) (xs := (zs.take len1).map i64) (by rw [List.length_map, hll]; omega) (by omega) hl hm fun j u hu => by
      have hj : j < len1 := by
        have := (List.getElem?_eq_some_iff.1 hu).1
        rw [List.length_map, hll] at this
        exact this
      have hz' : j < zs.length := by omega
      rw [hel j hz']
      simp [hz', hj] at hu
      subst hu
      simp only [i64, List.getD_eq_getElem?_getD, List.getElem?_eq_getElem hz', Option.getD_some]
    refine ⟨e, zs.take len1, ?_, fun n hn => i64_of_wf (hw n (List.mem_of_mem_take hn))⟩
    unfold Ints
    rw [hll]
    exact he
theorem open_rows {fuel : Nat} {a1 : Option Addr} {len1 cap1 : Nat} {x : DataW H × List MemPlace}
    (h : DataW.trod enc Try.prog w base (fun _ => true) held fuel 36 (Value.cells (.slice a1 len1 cap1)).toList = some x) : ∃ e ls, Rows2 w e (.slice a1 len1 cap1) ls := by
  rcases Deep.open_int_rows Try.underlying36 Try.underlying23 Try.underlying5 (by kernel_rfl) (by kernel_rfl) h with ⟨hcs, _⟩ | ⟨a, len, cap, A, L, C, Z, hcs, hb, hl, hm, _, hel⟩
  · simp [Value.cells] at hcs
    obtain ⟨rfl, rfl, rfl⟩ := hcs
    exact ⟨0, [], Rows2.nil w 0⟩
  · simp [Value.cells] at hcs
    obtain ⟨rfl, rfl, rfl⟩ := hcs
    obtain ⟨Q, hQ, hR⟩ := list_of_lt len1 (fun i (q : Value × List UInt8) => w.cell? (a.add i) = some q.1 ∧ q.1.oneCell' = true ∧ ∃ e', Bytes w e' q.1 q.2) fun i hi => by
      obtain ⟨c1, c2, c3, c4, c5, c6, c7⟩ := hel i (by omega)
      have hrow : IsRow .u8 w (A i) (L i) (C i) (Z i) := by
        cases hA : A i with
        | none => have := c6 hA; exact .inl ⟨rfl, by omega, this, List.eq_nil_of_length_eq_zero (by omega)⟩
        | some a' => exact .inr ⟨a', rfl, c2, c3, c4, fun j hj => (c7 a' hA).2 j (by omega), c5⟩
      obtain ⟨e', l, hb⟩ := Bytes.of_row hrow
      exact ⟨(.slice (A i) (L i) (C i), l), c1, rfl, e', hb⟩
    have hq : (Q.map Prod.snd).length = len1 := by rw [List.length_map, hQ]
    obtain ⟨e, he⟩ := Sl.of_cells (w := w) 1 (a := a) (n := len1) (cap := cap1) (xs := Q.map Prod.fst) (by rw [List.length_map, hQ]; omega) (by omega) hl hm fun j u hu => by
      rw [List.getElem?_map] at hu
      have hj : j < Q.length := by
        rcases Nat.lt_or_ge j Q.length with h | h
        · exact h
        · rw [List.getElem?_eq_none h] at hu; cases hu
      rw [List.getElem?_eq_getElem hj] at hu
      simp only [Option.map_some, Option.some.injEq] at hu
      subst hu
      exact (hR j hj).1
    refine ⟨e, Q.map Prod.snd, Q.map Prod.fst, by simp, by rw [hq]; exact he, fun i hi u hu => ?_⟩
    have hi' : i < Q.length := by simpa using hi
    rw [List.getElem?_map, List.getElem?_eq_getElem hi'] at hu
    simp only [Option.map_some, Option.some.injEq] at hu
    subst hu
    rw [List.getElem_map]
    exact (hR i hi').2.2
end
end Go.Proofs.Ytlhnpicmjjddeaa
namespace Go.Proofs.Ytlhnpicmjjddeaa
open Go.RowKit Go.ChangeShapes Go.WideShapes Go.Deep

section
variable {H : Type} {enc : TypeId × Value → H} {w : World} {base : Nat} {held : Bool}
/-- the fields of a struct whose fields lie in one cell each -/
theorem struct_cells {spare : Nat → Bool} {t : TypeId} {fs : Array Field} {fuel : Nat} {cs : List Value} {x : DataW H × List MemPlace} (hs : Try.prog.underlying t = some (.struct fs)) (hone : oneCellFields Try.prog fs = true)
    (h : DataW.trod enc Try.prog w base spare held fuel t cs = some x) (hl : cs.length = fs.size) :
    ∃ n, ∀ (j : Nat) (f : Field), fs[j]? = some f → ∃ v y, cs[j]? = some v ∧ DataW.trod enc Try.prog w base spare held n f.type [v] = some y := by
  obtain ⟨xs, n, _, hx, _, hlen, hg⟩ := DataW.trod_struct hs h
  refine ⟨n, fun j f hj => ?_⟩
  obtain ⟨o, k⟩ := hone_of hone j f hj
  have hj' : j < fs.size := (Array.getElem?_eq_some_iff.1 hj).1
  have h1 := hg j f hj
  rw [o, k] at h1
  have e1 : (cs.drop j).take 1 = [cs[j]'(by omega)] := by
    rw [List.drop_eq_getElem_cons (by omega)]; rfl
  rw [e1] at h1
  rw [List.getElem?_eq_getElem (by omega : j < xs.length)] at h1
  exact ⟨_, _, List.getElem?_eq_getElem (by omega), h1⟩
theorem bytes_cell {n : Nat} {v : Value} {y : DataW H × List MemPlace} (h : DataW.trod enc Try.prog w base (fun _ => true) held n 23 [v] = some y) : ∃ e l, Bytes w e v l := by
  rcases open_ints Try.underlying23 Try.underlying5 (by kernel_rfl) h with ⟨hcs, _⟩ | ⟨a, len, cap, zs, hcs, hb, hl, hm, hz, _, hel, hw⟩
  · cases hcs; exact ⟨0, [], Bytes.nil w 0⟩
  · cases hcs
    simp only [if_true] at hz
    exact Bytes.of_row (.inr ⟨a, rfl, hl, hm, hz, hel, hw⟩)
theorem int_cell {n : Nat} {v : Value} {y : DataW H × List MemPlace} {spare : Nat → Bool} (h : DataW.trod enc Try.prog w base spare held n 3 [v] = some y) : ∃ i, v = .int .i64 i := by
  obtain ⟨i, hi, _⟩ := DataW.trod_int Try.underlying3 h
  cases hi
  exact ⟨i, rfl⟩
theorem fields59 : Try.prog.underlying 59 = some (.struct (Try.prog.fieldsOf 59)) := by kernel_rfl
theorem one59 : oneCellFields Try.prog (Try.prog.fieldsOf 59) = true := by kernel_rfl
theorem size59 : (Try.prog.fieldsOf 59).size = 6 := by kernel_rfl
theorem types59 : ((Try.prog.fieldsOf 59).toList.map (·.type)) = [3, 3, 3, 3, 3, 23] := by kernel_rfl
theorem cells59 : Try.prog.cellsOf 59 = 6 := by kernel_rfl
theorem type_at {fs : Array Field} {ts : List TypeId} (h : fs.toList.map (·.type) = ts) (j : Nat) (hj : j < ts.length) : ∃ f, fs[j]? = some f ∧ f.type = ts[j] := by
  subst h
  simp only [List.length_map, Array.length_toList] at hj
  exact ⟨fs[j], Array.getElem?_eq_getElem hj, by simp⟩
/-- six cells that read as a frame -/
theorem frame_cells {fuel : Nat} {cs : List Value} {x : DataW H × List MemPlace} (h : DataW.trod enc Try.prog w base (fun _ => true) held fuel 59 cs = some x) (hl : cs.length = 6) :
    ∃ (f : Fr) (v : Value) (e : TypeId), cs = [.int .i64 f.life, .int .i64 f.era, .int .i64 f.seq, .int .i64 f.part, .int .i64 f.parts, v] ∧ Bytes w e v f.data := by
  obtain ⟨n, hn⟩ := struct_cells fields59 one59 h (by rw [size59]; exact hl)
  match cs, hl with
  | [c0, c1, c2, c3, c4, c5], _ =>
    have key : ∀ j (hj : j < 6), ∃ v y, [c0, c1, c2, c3, c4, c5][j]? = some v ∧ DataW.trod enc Try.prog w base (fun _ => true) held n ([3, 3, 3, 3, 3, 23][j]'hj) [v] = some y := by
      intro j hj
      obtain ⟨f, hf, ht⟩ := type_at types59 j hj
      obtain ⟨v, y, h1, h2⟩ := hn j f hf
      rw [ht] at h2
      exact ⟨v, y, h1, h2⟩
    obtain ⟨v0, y0, e0, t0⟩ := key 0 (by omega)
    obtain ⟨v1, y1, e1, t1⟩ := key 1 (by omega)
    obtain ⟨v2, y2, e2, t2⟩ := key 2 (by omega)
    obtain ⟨v3, y3, e3, t3⟩ := key 3 (by omega)
    obtain ⟨v4, y4, e4, t4⟩ := key 4 (by omega)
    obtain ⟨v5, y5, e5, t5⟩ := key 5 (by omega)
    cases e0; cases e1; cases e2; cases e3; cases e4; cases e5
    obtain ⟨i0, rfl⟩ := int_cell t0
    obtain ⟨i1, rfl⟩ := int_cell t1
    obtain ⟨i2, rfl⟩ := int_cell t2
    obtain ⟨i3, rfl⟩ := int_cell t3
    obtain ⟨i4, rfl⟩ := int_cell t4
    obtain ⟨e, l, hb⟩ := bytes_cell t5
    exact ⟨⟨i0, i1, i2, i3, i4, l⟩, _, e, rfl, hb⟩
set_option maxRecDepth 100000 in
theorem open_frame {r : Reach} {b0 : Nat} {v : Value} {d : DataW H} {p : List MemPlace} (hv : Value.okWide Try.prog w r b0 59 v) (h : DataW.Trod enc Try.prog w base (fun _ => true) held 59 v d p) : ∃ f, FrV w v f := by
  obtain ⟨cs, rfl, hsz⟩ := okWide_struct fields59 hv
  obtain ⟨fuel, hf⟩ := h
  obtain ⟨f, u, e, hc, hb⟩ := frame_cells hf (by show cs.toList.length = 6; rw [Array.length_toList]; exact hsz.trans cells59)
  refine ⟨f, u, e, ?_, hb⟩
  have hc' : cs.toList = [.int .i64 f.life, .int .i64 f.era, .int .i64 f.seq, .int .i64 f.part, .int .i64 f.parts, u] := hc
  have : cs = #[.int .i64 f.life, .int .i64 f.era, .int .i64 f.seq, .int .i64 f.part, .int .i64 f.parts, u] := Array.toList_inj.1 hc'
  rw [this]
  rfl
end
end Go.Proofs.Ytlhnpicmjjddeaa
namespace Go.Proofs.Ytlhnpicmjjddeaa
open Go.RowKit

theorem new_sector (n : Nat) (i : Int) : Dv.sector (Dv.new n) i = nought ∨ Dv.sector (Dv.new n) i = [] := by
  unfold Dv.sector
  split
  · rw [List.getD_eq_getElem?_getD]
    rcases Nat.lt_or_ge i.toNat n with h | h
    · left
      simp [Dv.new, nought, h]
    · right
      rw [List.getElem?_eq_none (by simp [Dv.new]; exact h)]; rfl
  · right; rfl
theorem decF_nought : decF nought = Fr.zero := by kernel_rfl
theorem decF_nil : decF [] = Fr.zero := by kernel_rfl
theorem decF_new (n : Nat) (i : Int) : decF (Dv.sector (Dv.new n) i) = Fr.zero := by
  rcases new_sector n i with h | h <;> rw [h]
  · exact decF_nought
  · exact decF_nil
theorem place_new (n : Nat) (a b c : Int) : Dv.place (Dv.new n) a b c = (0, []) := by
  unfold Dv.place Dv.holds
  rw [decF_new]
  have : joinsB (Dv.frs (Dv.new n) a (Fr.zero.parts.toNat)) = false := rfl
  rw [this]
  simp
theorem load_new {at_ each : Int} (h : 0 ≤ at_ ∧ 1 ≤ each ∧ each ≤ 10 ∧ at_ ≤ 10 - 2 * each) : (Dv.new 10).loadR at_ each = (0, [], 11) := by
  have hl : (Dv.new 10).C.length = 10 := by simp [Dv.new]
  unfold Dv.loadR Dv.load Dv.loadE
  rw [place_new, place_new, hl, if_pos (if_neg (by omega))]
  rfl
theorem load_new' {at_ each : Int} (h : ¬ (0 ≤ at_ ∧ 1 ≤ each ∧ each ≤ 10 ∧ at_ ≤ 10 - 2 * each)) : (Dv.new 10).loadR at_ each = (0, [], 2) := by
  have hl : (Dv.new 10).C.length = 10 := by simp [Dv.new]
  unfold Dv.loadR Dv.loadE
  rw [hl, if_pos (by omega : at_ < 0 ∨ each < 1 ∨ ((10 : Nat) : Int) < each ∨ ((10 : Nat) : Int) - 2 * each < at_), if_neg (by decide)]

set_option maxHeartbeats 6400000 in
set_option maxRecDepth 100000 in
theorem stillNobodyWalk (w : World) (v : Value) (e : TypeId) (at_ each : Int) (b : List UInt8) (hb : Bytes w e v b) (hea : -9223372036854775808 ≤ each ∧ each ≤ 9223372036854775807) :
    Calls Try.prog 13 #[.int .i64 at_, .int .i64 each, v] w (RetSame (.bool true) w) := by
  have H1 := hid sLoad_none
  have H2 := hid sSave_none
  have H3 := hid (fun w' => show Calls Try.prog 22 #[v, .int .i64 90] w' _ from r01Cut0 w w' e v b 90 hb)
  have H9 := hid sLives
  have HB := hid Nobody.boxed
  have HL := hid (fun (w' : World) (p : Value) (F : Nat → Prop) (hD : IsDv w' p F (Dv.new 10)) => sLoad w' p F _ at_ each hD hea)
  obtain ⟨av, cv, rfl, _, _⟩ := hb.form
  have Hea := hid hea
  clear hb hea
  go_enter Try.func13, Try.ntmps13
  go_wp2_with fail
  go_loopw [7] (fun i wr => ∃ k : Nat, k ≤ 2 ∧ i = .int .i64 k ∧ Same w wr) (fun i _ => 2 - (intOf i).toNat)
  case atStart => exact ⟨0, by omega, rfl, Same.refl w⟩
  case round =>
    obtain ⟨k, hk, rfl, S⟩ := hrel
    have S := hid S
    match k, hk with
    | 2, _ =>
      go_wp2_with fail
      refine (dNewD wr 10 (by omega) (by omega)).mono ?_
      rintro en w1 ⟨p, F, rfl, S1, D1, B1⟩
      have D1 := hid D1
      have S1 := hid (S.out.trans S1)
      obtain ⟨bb, hp⟩ : ∃ b, p = .pointer (some ⟨b, 0, none⟩) := by obtain ⟨b, _, _, _, e, _⟩ := D1.out; exact ⟨b, e⟩
      subst hp
      have HLd := hid (HL.out w1 _ F D1.out)
      by_cases g1 : 0 ≤ at_
      case neg =>
        rw [load_new' (by omega)] at HLd
        have dg1 : decide (0 ≤ at_) = false := by simp; omega
        clear g1
        go_wp2_with fail
        refine HLd.out.mono ?_
        rintro en w2 ⟨v2, rfl, O2, S2⟩
        obtain ⟨a2, c2, rfl, _, _⟩ := O2.bytes.form
        clear O2
        go_wp2_with fail
        refine (H9.out _).mono ?_
        rintro en w3 ⟨rfl, S3⟩
        go_wp2_with fail
        go_ret
        exact ⟨rfl, (S1.out.trans S2).trans S3⟩
      by_cases g2 : 1 ≤ each
      case neg =>
        rw [load_new' (by omega)] at HLd
        have dg2 : decide (1 ≤ each) = false := by simp; omega
        clear g2
        go_wp2_with fail
        refine HLd.out.mono ?_
        rintro en w2 ⟨v2, rfl, O2, S2⟩
        obtain ⟨a2, c2, rfl, _, _⟩ := O2.bytes.form
        clear O2
        go_wp2_with fail
        refine (H9.out _).mono ?_
        rintro en w3 ⟨rfl, S3⟩
        go_wp2_with fail
        go_ret
        exact ⟨rfl, (S1.out.trans S2).trans S3⟩
      by_cases g3 : each ≤ 10
      case neg =>
        rw [load_new' (by omega)] at HLd
        have dg3 : decide (each ≤ 10) = false := by simp; omega
        clear g3
        go_wp2_with fail
        refine HLd.out.mono ?_
        rintro en w2 ⟨v2, rfl, O2, S2⟩
        obtain ⟨a2, c2, rfl, _, _⟩ := O2.bytes.form
        clear O2
        go_wp2_with fail
        refine (H9.out _).mono ?_
        rintro en w3 ⟨rfl, S3⟩
        go_wp2_with fail
        go_ret
        exact ⟨rfl, (S1.out.trans S2).trans S3⟩
      by_cases g4 : at_ ≤ 10 - 2 * each
      case neg =>
        rw [load_new' (by omega)] at HLd
        have dg4 : decide (at_ ≤ 10 - 2 * each) = false := by simp; omega
        clear g4
        go_wp2_with fail
        refine HLd.out.mono ?_
        rintro en w2 ⟨v2, rfl, O2, S2⟩
        obtain ⟨a2, c2, rfl, _, _⟩ := O2.bytes.form
        clear O2
        go_wp2_with fail
        refine (H9.out _).mono ?_
        rintro en w3 ⟨rfl, S3⟩
        go_wp2_with fail
        go_ret
        exact ⟨rfl, (S1.out.trans S2).trans S3⟩
      rw [load_new ⟨g1, g2, g3, g4⟩] at HLd
      go_wp2_with fail
      refine HLd.out.mono ?_
      rintro en w2 ⟨v2, rfl, O2, S2⟩
      obtain ⟨a2, c2, rfl, _, _⟩ := O2.bytes.form
      clear O2
      go_wp2_with fail
      refine (H9.out _).mono ?_
      rintro en w3 ⟨rfl, S3⟩
      go_wp2_with fail
      go_ret
      exact ⟨rfl, (S1.out.trans S2).trans S3⟩
    | 0, _ =>
      have N0 : Hid (Nobody wr (.pointer none)) := .inl rfl
      go_wp2_with fail
      refine (H1.out _ _ _ _ N0.out).mono ?_
      rintro en w1 ⟨rfl, S1⟩
      have T1 := hid S1
      clear S1
      go_wp2_with fail
      refine (H3.out _).mono ?_
      rintro en w1' ⟨v3, rfl, B3, rfl⟩
      obtain ⟨a3, c3, rfl, _, _⟩ := B3.form
      clear B3
      go_wp2_with fail
      refine (H2.out _ _ _ _ _ _ _ (N0.out.same T1.out)).mono ?_
      rintro en w2 ⟨rfl, S2⟩
      have T2 := hid (T1.out.trans S2)
      clear S2
      go_wp2_with fail
      go_roundw
      case rel => exact ⟨1, by omega, rfl, S.out.trans T2.out⟩
      case measure => simp [intOf]
    | 1, _ =>
      have N0 := hid (HB.out wr)
      go_wp2_with fail
      refine (H1.out _ _ _ _ N0.out).mono ?_
      rintro en w1 ⟨rfl, S1⟩
      have T1 := hid S1
      clear S1
      go_wp2_with fail
      refine (H3.out _).mono ?_
      rintro en w1' ⟨v3, rfl, B3, rfl⟩
      obtain ⟨a3, c3, rfl, _, _⟩ := B3.form
      clear B3
      go_wp2_with fail
      refine (H2.out _ _ _ _ _ _ _ (N0.out.same T1.out)).mono ?_
      rintro en w2 ⟨rfl, S2⟩
      have T2 := hid (T1.out.trans S2)
      clear S2
      go_wp2_with fail
      go_roundw
      case rel => exact ⟨2, by omega, rfl, (S.out.alloc _).trans T2.out⟩
      case measure => simp [intOf]
end Go.Proofs.Ytlhnpicmjjddeaa
namespace Go.Proofs.Ytlhnpicmjjddeaa

/-- what was saved last stands in its place; every frame on the drive is of an older life -/
structure Kp (D : Dv) (era life : Int) (was : List UInt8) : Prop where
  len : D.C.length = 20
  on : D.off = false
  low : ∀ i : Int, (decF (D.sector i)).right = true → (decF (D.sector i)).life < life
  mine : D.place (2 + era % 2 * 9) 9 (era % 2) = (era, was)
  other : (D.place (2 + (era + 1) % 2 * 9) 9 ((era + 1) % 2)).1 < era ∨ (D.place (2 + (era + 1) % 2 * 9) 9 ((era + 1) % 2)).1 = 0
  nought : era = 0 → was = []

theorem Kp.new : Kp (Dv.new 20) 0 1 [] := by
  refine ⟨by simp [Dv.new], rfl, fun i => ?_, ?_, ?_, fun _ => rfl⟩
  · rw [decF_new]; intro h; cases h
  · exact place_new _ _ _ _
  · rw [place_new]; exact .inr rfl
theorem Kp.load {D : Dv} {era life : Int} {was : List UInt8} (h : Kp D era life was) (he : 0 ≤ era) : D.loadR 2 9 = if era = 0 then (0, [], 11) else (era, was, 0) := by
  have hE : D.loadE 2 9 = 0 := by unfold Dv.loadE; rw [h.len]; rfl
  have hL : D.load 2 9 = (era, was) := by
    have h1 := h.mine
    have h2 := h.other
    unfold Dv.load
    rcases Int.emod_two_eq era with p | p
    · have p' : (era + 1) % 2 = 1 := by omega
      rw [p] at h1
      rw [p'] at h2
      have h1' : D.place 2 9 0 = (era, was) := h1
      have h2' : (D.place (2 + 9) 9 1).1 < era ∨ (D.place (2 + 9) 9 1).1 = 0 := h2
      rw [h1']
      rw [if_neg (by show ¬ era < _; omega)]
    · have p' : (era + 1) % 2 = 0 := by omega
      rw [p] at h1
      rw [p'] at h2
      have h1' : D.place (2 + 9) 9 1 = (era, was) := h1
      have h2' : (D.place 2 9 0).1 < era ∨ (D.place 2 9 0).1 = 0 := h2
      rw [h1']
      rw [if_pos (by show _ < era; omega)]
  unfold Dv.loadR
  rw [if_pos hE, hL]
theorem place_congr {D D' : Dv} {at_ each odd : Int} (h : ∀ i : Nat, (i : Int) < each → D'.sector (at_ + i) = D.sector (at_ + i)) (h1 : 1 ≤ each) : D'.place at_ each odd = D.place at_ each odd := by
  have h0 : D'.sector at_ = D.sector at_ := by have := h 0 (by omega); rwa [show at_ + ((0 : Nat) : Int) = at_ by simp] at this
  have hf : (decF (D.sector at_)).parts ≤ each → D'.frs at_ (decF (D.sector at_)).parts.toNat = D.frs at_ (decF (D.sector at_)).parts.toNat := by
    intro hp
    unfold Dv.frs
    refine List.map_congr_left fun i hi => ?_
    rw [List.mem_range] at hi
    rw [h i (by omega)]
  unfold Dv.place Dv.holds
  rw [h0]
  by_cases hp : (decF (D.sector at_)).parts ≤ each
  · rw [hf hp]
  · rw [decide_eq_false hp]; rfl

/-- each sector of a row that was written, or was under way: the new one or the elder -/
def Torn (D D' : Dv) (at_ life era : Int) (b : List UInt8) (is : Nat → Bool) : Prop :=
  (∀ i : Nat, i < nparts b.length → is i = true → D'.sector (at_ + i) = enc (cutAt life era 1 b i)) ∧
  ∀ i : Int, (∀ k : Nat, k < nparts b.length → is k = true → i ≠ at_ + k) → D'.sector i = D.sector i

theorem decF_enc {f : Fr} (h : f.right = true) : decF (enc f) = f := by unfold decF; rw [dec_enc h]; rfl
theorem place_new' {D' : Dv} {at_ life era : Int} {b : List UInt8} (hc : cutE life era 1 b = 0) (hn : nparts b.length ≤ 9)
    (h : ∀ i : Nat, i < nparts b.length → decF (D'.sector (at_ + i)) = cutAt life era 1 b i) : D'.place at_ 9 (era % 2) = (era, b) := by
  have h0 : decF (D'.sector at_) = cutAt life era 1 b 0 := by simpa using h 0 (nparts_pos _)
  have hf : D'.frs at_ (nparts b.length) = cutFr life era 1 b := by
    unfold Dv.frs cutFr
    refine List.map_congr_left fun i hi => ?_
    rw [List.mem_range] at hi
    exact h i hi
  unfold Dv.place Dv.holds
  rw [h0]
  have e1 : (cutAt life era 1 b 0).parts = (nparts b.length : Int) := rfl
  have e2 : (cutAt life era 1 b 0).seq = 1 := rfl
  have e3 : (cutAt life era 1 b 0).era = era := rfl
  rw [e1, e2, e3, Int.toNat_natCast, hf, joinsB_iff.2 (joins_cut hc), joined_cut, decide_eq_true (by omega : (nparts b.length : Int) ≤ 9)]
  simp

theorem place_torn {D D' : Dv} {at_ life era : Int} {b : List UInt8} {is : Nat → Bool} (hc : cutE life era 1 b = 0) (hn : nparts b.length ≤ 9) (ht : Torn D D' at_ life era b is)
    (hl : ∀ i : Int, (decF (D.sector i)).right = true → (decF (D.sector i)).life < life) :
    D'.place at_ 9 (era % 2) = (era, b) ∨ D'.place at_ 9 (era % 2) = D.place at_ 9 (era % 2) ∨ D'.place at_ 9 (era % 2) = (0, []) := by
  by_cases hh : D'.holds at_ 9 (era % 2) = true
  case neg => right; right; unfold Dv.place; rw [if_neg hh]
  have hh0 := hh
  unfold Dv.holds at hh
  simp only [Bool.and_eq_true, decide_eq_true_eq] at hh
  obtain ⟨q1, q2, q3, q4⟩ := hh
  obtain ⟨f, hf, hlen, hall⟩ := joinsB_iff.1 q2
  obtain ⟨r1, r2, r3⟩ := joins_frs q2
  have hlife : ∀ i : Nat, i < (decF (D'.sector at_)).parts.toNat → (decF (D'.sector (at_ + i))).life = (decF (D'.sector at_)).life := by
    intro i hi
    have a := (Fr.fits_iff.1 (hall i _ (D'.frs_at at_ _ i hi))).1.1
    have c := (Fr.fits_iff.1 (hall 0 _ (D'.frs_at at_ _ 0 (by omega)))).1.1
    rw [a, ← c]
    simp
  have hnew : ∀ i : Nat, i < nparts b.length → is i = true → decF (D'.sector (at_ + i)) = cutAt life era 1 b i := fun i hi h => by
    rw [ht.1 i hi h, decF_enc (cutAt_right hc hi)]
  have hold : ∀ i : Nat, ¬ (i < nparts b.length ∧ is i = true) → D'.sector (at_ + i) = D.sector (at_ + i) := fun i h =>
    ht.2 _ fun k hk hs e => h (by have : k = i := by omega
                                  subst this; exact ⟨hk, hs⟩)
  have hat : at_ + ((0 : Nat) : Int) = at_ := by simp
  by_cases h0 : is 0 = true
  · have e0 := hnew 0 (nparts_pos _) h0
    rw [hat] at e0
    have em : (decF (D'.sector at_)).parts.toNat = nparts b.length := by rw [e0]; exact Int.toNat_natCast _
    left
    refine place_new' hc hn fun i hi => ?_
    by_cases hs : is i = true
    · exact hnew i hi hs
    · exfalso
      have a := hlife i (by omega)
      rw [e0] at a
      have c := hl _ (by rw [← hold i (fun x => hs x.2)]; exact (r3 i (by omega)).1)
      rw [← hold i (fun x => hs x.2), a] at c
      exact absurd c (Int.lt_irrefl _)
  · right; left
    have e0 : D'.sector at_ = D.sector at_ := by have := hold 0 (fun x => h0 x.2); rwa [hat] at this
    have hlow : (decF (D'.sector at_)).life < life := by
      rw [e0]
      refine hl _ ?_
      have := (r3 0 (by omega)).1
      rwa [hat, e0] at this
    have hs : ∀ i : Nat, i < (decF (D'.sector at_)).parts.toNat → D'.sector (at_ + i) = D.sector (at_ + i) := by
      intro i hi
      by_cases hx : i < nparts b.length ∧ is i = true
      · exfalso
        have a := hlife i hi
        rw [hnew i hx.1 hx.2] at a
        have : (cutAt life era 1 b i).life = life := rfl
        omega
      · exact hold i hx
    have hfr : D'.frs at_ (decF (D'.sector at_)).parts.toNat = D.frs at_ (decF (D'.sector at_)).parts.toNat := by
      unfold Dv.frs
      refine List.map_congr_left fun i hi => ?_
      rw [List.mem_range] at hi
      rw [hs i hi]
    unfold Dv.place Dv.holds
    rw [hfr, e0]

theorem nparts_700 {b : List UInt8} (h : b.length ≤ 700) : nparts b.length ≤ 9 := by unfold nparts; omega
theorem cutE_700 {b : List UInt8} (h : b.length ≤ 700) {life era : Int} (h1 : 1 ≤ life ∧ life ≤ 100) (h2 : 0 ≤ era ∧ era ≤ 100) : cutE life era 1 b = 0 := by
  have := nparts_700 h
  exact cutE_zero.2 ⟨by omega, stampOk_iff.2 ⟨by omega, by omega, by omega, by omega, by omega, by omega⟩⟩
theorem cutL_long {life era seq : Int} {b : List UInt8} (h : cutE life era seq b = 0) : (cutL life era seq b).any isLong = false := by
  rw [List.any_eq_false]
  intro x hx
  unfold cutL cutFr at hx
  obtain ⟨f, hf, rfl⟩ := List.mem_map.1 hx
  obtain ⟨i, hi, rfl⟩ := List.mem_map.1 hf
  have := (partOk_iff.1 (Fr.right_iff.1 (cutAt_right h (List.mem_range.1 hi))).2).2.2.2.2
  unfold isLong
  rw [enc_length _ this]
  simp
theorem sector_of' {D : Dv} {a i : Nat} {c : List UInt8} (h : D.C[a + i]? = some c) : D.sector (a + i) = c := by
  unfold Dv.sector
  rw [if_pos (by omega), show ((a : Int) + (i : Int)).toNat = a + i by omega, List.getD_eq_getElem?_getD, h]; rfl
/-- the writing of a record: which sectors it leaves -/
theorem Dv.torn {D : Dv} {at_ : Nat} {life era : Int} {b : List UInt8} (hc : cutE life era 1 b = 0) (hl : at_ + nparts b.length ≤ D.C.length) :
    Torn D (D.wrote at_ (cutL life era 1 b)) at_ life era b D.keeps := by
  have hlen := cutL_length life era 1 b
  have hC : (D.wrote at_ (cutL life era 1 b)).C = landed D.C at_ (cutL life era 1 b) D.keeps (cutL life era 1 b).length := by unfold Dv.wrote; rw [Int.toNat_natCast]
  constructor
  · intro i hi hs
    refine sector_of' ?_
    rw [hC, landed_at, if_pos ⟨by omega, by omega, by rw [Nat.add_sub_cancel_left]; exact hs, by omega⟩, Nat.add_sub_cancel_left, List.getElem?_eq_getElem (by omega), cutL_at hi]
  · intro i hi
    unfold Dv.sector
    split
    · rename_i h0
      rw [List.getD_eq_getElem?_getD, List.getD_eq_getElem?_getD, hC, landed_at, if_neg]
      rintro ⟨a, c, d, _⟩
      rw [hlen] at c
      refine hi (i.toNat - at_) (by omega) d ?_
      omega
    · rfl

theorem sector_C {D D' : Dv} (h : D'.C = D.C) (i : Int) : D'.sector i = D.sector i := by unfold Dv.sector; rw [h]
theorem Kp.of_C {D D' : Dv} {era life : Int} {was : List UInt8} (h : Kp D era life was) (hC : D'.C = D.C) (ho : D'.off = false) : Kp D' era life was := by
  have hs := sector_C hC
  have hp : ∀ a c, D'.place a 9 c = D.place a 9 c := fun a c => place_congr (fun i _ => hs _) (by omega)
  refine ⟨by rw [hC]; exact h.len, ho, fun i hr => ?_, ?_, ?_, h.nought⟩
  · rw [hs] at hr ⊢; exact h.low i hr
  · rw [hp]; exact h.mine
  · rw [hp]; exact h.other
/-- after a write, whole or torn -/
theorem Kp.turn {D D' : Dv} {era life : Int} {was b : List UInt8} {is : Nat → Bool} (h : Kp D era life was) (he : 0 ≤ era) (hc : cutE life (era + 1) 1 b = 0) (hn : nparts b.length ≤ 9)
    (ht : Torn D D' (2 + (era + 1) % 2 * 9) life (era + 1) b is) (hlen : D'.C.length = 20) (ho : D'.off = false) :
    Kp D' era (life + 1) was ∨ Kp D' (era + 1) (life + 1) b := by
  have hlow : ∀ i : Int, (decF (D'.sector i)).right = true → (decF (D'.sector i)).life < life + 1 := by
    intro i hr
    by_cases hx : ∃ k : Nat, k < nparts b.length ∧ is k = true ∧ i = 2 + (era + 1) % 2 * 9 + k
    · obtain ⟨k, hk, hs, rfl⟩ := hx
      rw [ht.1 k hk hs, decF_enc (cutAt_right hc hk)]
      show life < life + 1
      omega
    · have e := ht.2 i fun k hk hs e => hx ⟨k, hk, hs, e⟩
      rw [e] at hr ⊢
      have := h.low i hr
      omega
  have hmine : D'.place (2 + era % 2 * 9) 9 (era % 2) = (era, was) := by
    rw [← h.mine]
    refine place_congr (fun i hi => ht.2 _ fun k hk _ e => ?_) (by omega)
    omega
  rcases place_torn hc hn ht h.low with hp | hp | hp
  · right
    have hpar : (era + 1 + 1) % 2 = era % 2 := by omega
    refine ⟨hlen, ho, hlow, hp, ?_, fun e => by omega⟩
    rw [hpar, hmine]
    exact .inl (by show era < era + 1; omega)
  · left
    refine ⟨hlen, ho, hlow, hmine, ?_, h.nought⟩
    rw [hp]; exact h.other
  · left
    refine ⟨hlen, ho, hlow, hmine, ?_, h.nought⟩
    rw [hp]; exact .inr rfl
/-- after a write as a whole -/
theorem Kp.whole {D D' : Dv} {era life : Int} {was b : List UInt8} (h : Kp D era life was) (he : 0 ≤ era) (hc : cutE life (era + 1) 1 b = 0) (hn : nparts b.length ≤ 9)
    (ht : Torn D D' (2 + (era + 1) % 2 * 9) life (era + 1) b fun _ => true) (hlen : D'.C.length = 20) (ho : D'.off = false) : Kp D' (era + 1) (life + 1) b := by
  have hp : D'.place (2 + (era + 1) % 2 * 9) 9 ((era + 1) % 2) = (era + 1, b) :=
    place_new' hc hn fun i hi => by rw [ht.1 i hi rfl, decF_enc (cutAt_right hc hi)]
  rcases h.turn he hc hn ht hlen ho with k | k
  · have hmine := k.mine
    have hpar : (era + 1 + 1) % 2 = era % 2 := by omega
    refine ⟨hlen, ho, k.low, hp, ?_, fun e => by omega⟩
    rw [hpar, hmine]
    exact .inl (by show era < era + 1; omega)
  · exact k

theorem Kp.save {D : Dv} {era life : Int} {was b : List UInt8} (h : Kp D era life was) (he : 0 ≤ era ∧ era ≤ 50) (hl : 1 ≤ life ∧ life ≤ 50) (hb : b.length ≤ 700) :
    ((D.save 2 9 life (era + 1) b).1 = 0 ∧ Kp (D.save 2 9 life (era + 1) b).2.start (era + 1) (life + 1) b) ∨
    ((D.save 2 9 life (era + 1) b).1 = 9 ∧ (Kp (D.save 2 9 life (era + 1) b).2.start era (life + 1) was ∨ Kp (D.save 2 9 life (era + 1) b).2.start (era + 1) (life + 1) b)) := by
  have hc := cutE_700 hb (life := life) (era := era + 1) (by omega) (by omega)
  have hn := nparts_700 hb
  have hE : D.loadE 2 9 = 0 := by unfold Dv.loadE; rw [h.len]; rfl
  have hR : (D.loadR 2 9).1 = era := by
    rw [h.load he.1]
    split
    · exact .symm ‹_›
    · rfl
  have hlen := cutL_length life (era + 1) 1 b
  have hC := h.len
  obtain ⟨A, hA, hA2⟩ : ∃ A : Nat, 2 + (era + 1) % 2 * 9 = (A : Int) ∧ A + 9 ≤ 20 := ⟨(2 + (era + 1) % 2 * 9).toNat, by omega, by omega⟩
  have hpos := nparts_pos b.length
  have hbad : D.bad A (cutL life (era + 1) 1 b) = false := by
    unfold Dv.bad
    rw [cutL_long hc, decide_eq_false (by omega), decide_eq_false (by omega), decide_eq_false (by omega)]
    rfl
  have hS : D.save 2 9 life (era + 1) b = (if D.blown then 9 else 0, D.wrote A (cutL life (era + 1) 1 b)) := by
    unfold Dv.save Dv.write
    rw [if_neg (by rw [hE]; decide), if_neg (by omega), if_neg (by rw [hc]; exact fun x => x rfl), if_neg (by omega), hA, h.on, hbad, if_neg (by decide), if_neg (by decide), if_neg (by intro e; rw [e] at hlen; simp at hlen; omega)]
  have ht := D.torn (at_ := A) hc (by omega)
  have hl2 : (D.wrote A (cutL life (era + 1) 1 b)).C.length = 20 := by unfold Dv.wrote; rw [← hC]; exact landed_length _ _ _ _ _
  rw [hS]
  have hT : ∀ is, Torn D (D.wrote A (cutL life (era + 1) 1 b)) A life (era + 1) b is → Torn D (D.wrote A (cutL life (era + 1) 1 b)).start (2 + (era + 1) % 2 * 9) life (era + 1) b is := fun is x => by rw [hA]; exact x
  cases hB : D.blown
  · left
    refine ⟨rfl, h.whole he.1 hc hn (hT _ ?_) hl2 rfl⟩
    have : D.keeps = fun _ => true := by funext i; unfold Dv.keeps; rw [hB]; rfl
    rwa [this] at ht
  · right
    exact ⟨rfl, h.turn he.1 hc hn (hT _ ht) hl2 rfl⟩
end Go.Proofs.Ytlhnpicmjjddeaa
namespace Go.Proofs.Ytlhnpicmjjddeaa

/-- whether a record stands there -/
def Dv.recAt (D : Dv) (till era at_ n last : Int) : Bool :=
  decide (at_ < till) && (decide ((decF (D.sector at_)).era = era ∧ (decF (D.sector at_)).seq = n ∧ last ≤ (decF (D.sector at_)).life ∧ (decF (D.sector at_)).parts ≤ till - at_) && joinsB (D.frs at_ (decF (D.sector at_)).parts.toNat))
theorem recAt_iff {D : Dv} {till era at_ n last : Int} : D.recAt till era at_ n last = true ↔ at_ < till ∧ ((decF (D.sector at_)).era = era ∧ (decF (D.sector at_)).seq = n ∧ last ≤ (decF (D.sector at_)).life ∧ (decF (D.sector at_)).parts ≤ till - at_) ∧ joinsB (D.frs at_ (decF (D.sector at_)).parts.toNat) = true := by
  unfold Dv.recAt
  simp only [Bool.and_eq_true, decide_eq_true_eq]
def Dv.parts (D : Dv) (at_ : Int) : Int := (decF (D.sector at_)).parts
def Dv.recd (D : Dv) (at_ : Int) : List UInt8 := joined (D.frs at_ (D.parts at_).toNat)
def Dv.lifeAt (D : Dv) (at_ : Int) : Int := (decF (D.sector at_)).life
theorem recAt_parts {D : Dv} {till era at_ n last : Int} (h : D.recAt till era at_ n last = true) : 1 ≤ D.parts at_ ∧ D.parts at_ ≤ 255 ∧ at_ + D.parts at_ ≤ till ∧ ∀ i : Nat, (i : Int) < D.parts at_ → (decF (D.sector (at_ + i))).right = true := by
  obtain ⟨h1, ⟨h2, h3, h4, h5⟩, h6⟩ := recAt_iff.1 h
  obtain ⟨q1, q2, q3⟩ := joins_frs h6
  have hr := (q3 0 (by omega)).1
  rw [show at_ + ((0 : Nat) : Int) = at_ by simp] at hr
  have := right_parts hr
  unfold Dv.parts
  refine ⟨this.1, this.2.1, by omega, fun i hi => (q3 i (by omega)).1⟩
def Dv.scan (D : Dv) (till era : Int) : Nat → Int → Int → Int → List (List UInt8) × Int × Int
  | 0, at_, _, last => ([], at_, last)
  | fuel + 1, at_, n, last => if D.recAt till era at_ n last = true then
      (D.recd at_ :: (D.scan till era fuel (at_ + D.parts at_) (n + 1) (D.lifeAt at_)).1, (D.scan till era fuel (at_ + D.parts at_) (n + 1) (D.lifeAt at_)).2)
    else ([], at_, last)
/-- all records from a place on, where the next one would stand, the life of the last one -/
def Dv.read (D : Dv) (till era at_ n last : Int) : List (List UInt8) × Int × Int := D.scan till era (till - at_).toNat at_ n last
theorem scan_fuel (D : Dv) (till era : Int) : ∀ (f g : Nat) (at_ n last : Int), till - at_ ≤ f → till - at_ ≤ g → D.scan till era f at_ n last = D.scan till era g at_ n last := by
  intro f
  induction f with
  | zero =>
    intro g at_ n last h1 h2
    cases g with
    | zero => rfl
    | succ g =>
      unfold Dv.scan
      rw [if_neg]
      intro h
      have := (recAt_iff.1 h).1
      omega
  | succ f ih =>
    intro g at_ n last h1 h2
    cases g with
    | zero =>
      unfold Dv.scan
      rw [if_neg]
      intro h
      have := (recAt_iff.1 h).1
      omega
    | succ g =>
      unfold Dv.scan
      split
      · rename_i h
        have := recAt_parts h
        rw [ih g _ _ _ (by omega) (by omega)]
      · rfl
theorem read_yes {D : Dv} {till era at_ n last : Int} (h : D.recAt till era at_ n last = true) :
    D.read till era at_ n last = (D.recd at_ :: (D.read till era (at_ + D.parts at_) (n + 1) (D.lifeAt at_)).1, (D.read till era (at_ + D.parts at_) (n + 1) (D.lifeAt at_)).2) := by
  have hp := recAt_parts h
  unfold Dv.read
  rw [scan_fuel D till era (till - at_).toNat ((till - at_).toNat + 1) _ _ _ (by omega) (by omega)]
  conv => lhs; unfold Dv.scan
  rw [if_pos h, scan_fuel D till era (till - at_).toNat (till - (at_ + D.parts at_)).toNat _ _ _ (by omega) (by omega)]
theorem read_no {D : Dv} {till era at_ n last : Int} (h : D.recAt till era at_ n last = false) : D.read till era at_ n last = ([], at_, last) := by
  unfold Dv.read
  cases (till - at_).toNat with
  | zero => rfl
  | succ f => unfold Dv.scan; rw [if_neg (by rw [h]; exact fun x => by cases x)]
/-- what is read from a place on, told by what was read up till there -/
theorem read_ge (D : Dv) (till era : Int) : ∀ (f : Nat) (a n last : Int), till - a ≤ f → a ≤ (D.read till era a n last).2.1 ∧ (a ≤ till → (D.read till era a n last).2.1 ≤ till) ∧ (D.recAt till era (D.read till era a n last).2.1 (n + (D.read till era a n last).1.length) (D.read till era a n last).2.2 = false) := by
  intro f
  induction f with
  | zero =>
    intro a n last h
    have : D.recAt till era a n last = false := by
      cases e : D.recAt till era a n last
      · rfl
      · have := (recAt_iff.1 e).1
        omega
    rw [read_no this]
    refine ⟨Int.le_refl _, fun h => h, ?_⟩
    simpa using this
  | succ f ih =>
    intro a n last h
    cases e : D.recAt till era a n last
    · rw [read_no e]
      refine ⟨Int.le_refl _, fun h => h, ?_⟩
      simpa using e
    · have hp := recAt_parts e
      rw [read_yes e]
      have := ih (a + D.parts a) (n + 1) (D.lifeAt a) (by omega)
      refine ⟨by show a ≤ (D.read till era (a + D.parts a) (n + 1) (D.lifeAt a)).2.1; omega, fun _ => this.2.1 (by omega), ?_⟩
      have h3 := this.2.2
      simp only [List.length_cons]
      rw [show n + ((((D.read till era (a + D.parts a) (n + 1) (D.lifeAt a)).1.length + 1 : Nat)) : Int) = n + 1 + ((D.read till era (a + D.parts a) (n + 1) (D.lifeAt a)).1.length : Int) by omega]
      exact h3
theorem read_stop (D : Dv) (till era a n last : Int) : D.recAt till era (D.read till era a n last).2.1 (n + (D.read till era a n last).1.length) (D.read till era a n last).2.2 = false := (read_ge D till era (till - a).toNat a n last (by omega)).2.2
theorem read_le (D : Dv) (till era a n last : Int) (h : a ≤ till) : (D.read till era a n last).2.1 ≤ till := (read_ge D till era (till - a).toNat a n last (by omega)).2.1 h
theorem read_from (D : Dv) (till era a n last : Int) : a ≤ (D.read till era a n last).2.1 := (read_ge D till era (till - a).toNat a n last (by omega)).1

theorem frs_congr {D D' : Dv} {a : Int} {n : Nat} (h : ∀ i : Nat, i < n → D'.sector (a + i) = D.sector (a + i)) : D'.frs a n = D.frs a n := by
  unfold Dv.frs
  refine List.map_congr_left fun i hi => ?_
  rw [List.mem_range] at hi
  rw [h i hi]
theorem recAt_congr {D D' : Dv} {till era a n last : Int} (h0 : D'.sector a = D.sector a) (h : ∀ i : Nat, (i : Int) < D.parts a → D'.sector (a + i) = D.sector (a + i)) :
    D'.recAt till era a n last = D.recAt till era a n last ∧ D'.parts a = D.parts a ∧ D'.recd a = D.recd a ∧ D'.lifeAt a = D.lifeAt a := by
  have hp : D'.parts a = D.parts a := by unfold Dv.parts; rw [h0]
  have hf : D'.frs a (D.parts a).toNat = D.frs a (D.parts a).toNat := frs_congr fun i hi => h i (by omega)
  refine ⟨?_, hp, ?_, ?_⟩
  · unfold Dv.recAt
    rw [h0]
    unfold Dv.parts at hf
    rw [hf]
  · unfold Dv.recd; rw [hp, hf]
  · unfold Dv.lifeAt; rw [h0]
/-- what was read stands where it stood: it is read again, and what is behind it -/
theorem read_prefix {D D' : Dv} (till era : Int) : ∀ (f : Nat) (a n last : Int), till - a ≤ f → (∀ i : Int, a ≤ i → i < (D.read till era a n last).2.1 → D'.sector i = D.sector i) →
    D'.read till era a n last = ((D.read till era a n last).1 ++ (D'.read till era (D.read till era a n last).2.1 (n + (D.read till era a n last).1.length) (D.read till era a n last).2.2).1,
      (D'.read till era (D.read till era a n last).2.1 (n + (D.read till era a n last).1.length) (D.read till era a n last).2.2).2) := by
  intro f
  induction f with
  | zero =>
    intro a n last h1 h2
    have : D.recAt till era a n last = false := by
      cases e : D.recAt till era a n last
      · rfl
      · have := (recAt_iff.1 e).1
        omega
    rw [read_no this]
    simp
  | succ f ih =>
    intro a n last h1 h2
    cases e : D.recAt till era a n last
    · rw [read_no e]
      simp
    · have hp := recAt_parts e
      have hg := read_from D till era (a + D.parts a) (n + 1) (D.lifeAt a)
      have hy := read_yes e
      have hat : (D.read till era a n last).2.1 = (D.read till era (a + D.parts a) (n + 1) (D.lifeAt a)).2.1 := by rw [hy]
      rw [hat] at h2
      obtain ⟨c1, c2, c3, c4⟩ := recAt_congr (D := D) (D' := D') (till := till) (era := era) (n := n) (last := last) (h2 a (by omega) (by omega)) (fun i hi => h2 (a + i) (by omega) (by omega))
      have ih2 := ih (a + D.parts a) (n + 1) (D.lifeAt a) (by omega) (fun i hi hj => h2 i (by omega) hj)
      rw [read_yes (D := D') (by rw [c1]; exact e), c2, c3, c4, hy, ih2]
      simp only [List.length_cons]
      rw [show n + ((((D.read till era (a + D.parts a) (n + 1) (D.lifeAt a)).1.length + 1 : Nat)) : Int) = n + 1 + ((D.read till era (a + D.parts a) (n + 1) (D.lifeAt a)).1.length : Int) by omega]
      rfl

/-- each sector of a record that was written, or was under way: the new one or the elder -/
def TornS (D D' : Dv) (at_ life era seq : Int) (b : List UInt8) (is : Nat → Bool) : Prop :=
  (∀ i : Nat, i < nparts b.length → is i = true → D'.sector (at_ + i) = enc (cutAt life era seq b i)) ∧
  ∀ i : Int, (∀ k : Nat, k < nparts b.length → is k = true → i ≠ at_ + k) → D'.sector i = D.sector i
theorem Dv.tornS {D : Dv} {at_ : Nat} {life era seq : Int} {b : List UInt8} (hl : at_ + nparts b.length ≤ D.C.length) :
    TornS D (D.wrote at_ (cutL life era seq b)) at_ life era seq b D.keeps := by
  have hlen := cutL_length life era seq b
  have hC : (D.wrote at_ (cutL life era seq b)).C = landed D.C at_ (cutL life era seq b) D.keeps (cutL life era seq b).length := by unfold Dv.wrote; rw [Int.toNat_natCast]
  constructor
  · intro i hi hs
    refine sector_of' ?_
    rw [hC, landed_at, if_pos ⟨by omega, by omega, by rw [Nat.add_sub_cancel_left]; exact hs, by omega⟩, Nat.add_sub_cancel_left, List.getElem?_eq_getElem (by omega), cutL_at hi]
  · intro i hi
    unfold Dv.sector
    split
    · rename_i h0
      rw [List.getD_eq_getElem?_getD, List.getD_eq_getElem?_getD, hC, landed_at, if_neg]
      rintro ⟨a, c, d, _⟩
      rw [hlen] at c
      refine hi (i.toNat - at_) (by omega) d ?_
      omega
    · rfl
theorem TornS.new {D D' : Dv} {at_ life era seq : Int} {b : List UInt8} {is : Nat → Bool} (h : TornS D D' at_ life era seq b is) (hc : cutE life era seq b = 0) {i : Nat} (hi : i < nparts b.length) (hs : is i = true) :
    decF (D'.sector (at_ + i)) = cutAt life era seq b i := by rw [h.1 i hi hs, decF_enc (cutAt_right hc hi)]
theorem TornS.old {D D' : Dv} {at_ life era seq : Int} {b : List UInt8} {is : Nat → Bool} (h : TornS D D' at_ life era seq b is) {i : Nat} (hi : ¬ (i < nparts b.length ∧ is i = true)) :
    D'.sector (at_ + i) = D.sector (at_ + i) := h.2 _ fun k hk hs e => hi ((show k = i by omega) ▸ ⟨hk, hs⟩)
theorem frs_life {D : Dv} {a : Int} (h : joinsB (D.frs a (D.parts a).toNat) = true) : ∀ i : Nat, (i : Int) < D.parts a → (decF (D.sector (a + i))).life = (decF (D.sector a)).life := by
  obtain ⟨f, hf, hlen, hall⟩ := joinsB_iff.1 h
  intro i hi
  have e1 := (Fr.fits_iff.1 (hall i _ (D.frs_at a _ i (by omega)))).1.1
  have e2 := (Fr.fits_iff.1 (hall 0 _ (D.frs_at a _ 0 (by omega)))).1.1
  rw [e1, ← e2]
  simp
/-- a record as a whole is read, and nothing behind it -/
theorem read_whole {D D' : Dv} {till era at_ n last L : Int} {b : List UInt8} {is : Nat → Bool} (ht : TornS D D' at_ L era n b is) (hc : cutE L era n b = 0) (hfit : (nparts b.length : Int) ≤ till - at_) (hL : last ≤ L)
    (hlow : ∀ i : Int, at_ ≤ i → (decF (D.sector i)).right = true → (decF (D.sector i)).life < L) (hall : ∀ i, i < nparts b.length → is i = true) :
    D'.read till era at_ n last = ([b], at_ + nparts b.length, L) := by
  have hpos := nparts_pos b.length
  have e0 : decF (D'.sector at_) = cutAt L era n b 0 := by have := ht.new hc (i := 0) hpos (hall 0 hpos); simpa using this
  have hp : D'.parts at_ = nparts b.length := by unfold Dv.parts; rw [e0]; rfl
  have hfr : D'.frs at_ (nparts b.length) = cutFr L era n b := by
    unfold Dv.frs cutFr
    refine List.map_congr_left fun i hi => ?_
    rw [List.mem_range] at hi
    exact ht.new hc hi (hall i hi)
  have hr : D'.recAt till era at_ n last = true := by
    rw [recAt_iff, e0]
    refine ⟨by omega, ⟨rfl, rfl, hL, hfit⟩, ?_⟩
    show joinsB (D'.frs at_ ((nparts b.length : Int)).toNat) = true
    rw [Int.toNat_natCast, hfr]
    exact joinsB_iff.2 (joins_cut hc)
  have hrec : D'.recd at_ = b := by unfold Dv.recd; rw [hp, Int.toNat_natCast, hfr, joined_cut]
  have hlife : D'.lifeAt at_ = L := by unfold Dv.lifeAt; rw [e0]; rfl
  rw [read_yes hr, hp, hrec, hlife, read_no]
  cases e : D'.recAt till era (at_ + nparts b.length) (n + 1) L
  · rfl
  · exfalso
    obtain ⟨_, ⟨_, _, h4, _⟩, _⟩ := recAt_iff.1 e
    have hrt := (recAt_parts e).2.2.2 0 (by have := (recAt_parts e).1; omega)
    rw [show at_ + (nparts b.length : Int) + ((0 : Nat) : Int) = at_ + (nparts b.length : Int) by simp] at hrt
    have ho : D'.sector (at_ + (nparts b.length : Int)) = D.sector (at_ + (nparts b.length : Int)) := ht.2 _ fun k hk _ e => by omega
    rw [ho] at hrt h4
    have := hlow _ (by omega) hrt
    omega
/-- a record under way: it is there as a whole, or nothing of it -/
theorem read_torn {D D' : Dv} {till era at_ n last L : Int} {b : List UInt8} {is : Nat → Bool} (ht : TornS D D' at_ L era n b is) (hc : cutE L era n b = 0) (hfit : (nparts b.length : Int) ≤ till - at_) (hL : last ≤ L)
    (hlow : ∀ i : Int, at_ ≤ i → (decF (D.sector i)).right = true → (decF (D.sector i)).life < L) (hstop : D.recAt till era at_ n last = false) :
    D'.read till era at_ n last = ([b], at_ + nparts b.length, L) ∨ D'.read till era at_ n last = ([], at_, last) := by
  by_cases hall : ∀ i, i < nparts b.length → is i = true
  · exact .inl (read_whole ht hc hfit hL hlow hall)
  · right
    apply read_no
    cases e : D'.recAt till era at_ n last
    · rfl
    · exfalso
      have hat : at_ + ((0 : Nat) : Int) = at_ := by simp
      have hj := (recAt_iff.1 e).2.2
      obtain ⟨q1, q2, q3, q4⟩ := recAt_parts e
      have hlife := frs_life hj
      by_cases h0 : is 0 = true
      · have e0 := ht.new hc (i := 0) (nparts_pos _) h0
        rw [hat] at e0
        have hp : D'.parts at_ = nparts b.length := by unfold Dv.parts; rw [e0]; rfl
        apply hall
        intro i hi
        cases hs : is i
        · exfalso
          have a := hlife i (by omega)
          have ho := ht.old (i := i) (fun x => by rw [hs] at x; cases x.2)
          have hr := q4 i (by omega)
          rw [ho] at a hr
          have := hlow _ (by omega) hr
          rw [a, e0] at this
          exact absurd this (Int.lt_irrefl _)
        · rfl
      · have o0 := ht.old (i := 0) (fun x => h0 x.2)
        rw [hat] at o0
        have hr0 := q4 0 (by omega)
        rw [hat, o0] at hr0
        have hl0 := hlow _ (by omega) hr0
        have hs : ∀ i : Nat, (i : Int) < D'.parts at_ → D'.sector (at_ + i) = D.sector (at_ + i) := by
          intro i hi
          by_cases hx : i < nparts b.length ∧ is i = true
          · exfalso
            have a := hlife i hi
            rw [ht.new hc hx.1 hx.2, o0] at a
            have : (cutAt L era n b i).life = L := rfl
            omega
          · exact ht.old hx
        have := (recAt_congr (D := D') (D' := D) (till := till) (era := era) (n := n) (last := last) o0.symm (fun i hi => (hs i hi).symm)).1
        rw [hstop, e] at this
        cases this

/-! ### the newest life -/
def Dv.most (D : Dv) (from_ : Int) : Nat → Int
  | 0 => 0
  | k + 1 => max (D.most from_ k) (decF (D.sector (from_ + k))).life
def Dv.within (D : Dv) (from_ till : Int) : Bool := decide (0 ≤ from_ ∧ from_ ≤ till ∧ till ≤ D.C.length)
def Dv.newest (D : Dv) (from_ till : Int) : Int := if D.within from_ till = true then D.most from_ (till - from_).toNat else 0
theorem decF_wrong {b : List UInt8} (h : ¬ (decF b).right = true) : decF b = Fr.zero := by
  unfold decF at *
  cases e : dec b with
  | none => rfl
  | some f => rw [e] at h; exact absurd (dec_some.1 e).1 h
theorem most_lt {D : Dv} {from_ L : Int} (h : ∀ i : Int, (decF (D.sector i)).right = true → (decF (D.sector i)).life < L) (hL : 1 ≤ L) : ∀ k, D.most from_ k < L := by
  intro k
  induction k with
  | zero => show (0 : Int) < L; omega
  | succ k ih =>
    show max _ _ < L
    by_cases hr : (decF (D.sector (from_ + k))).right = true
    · have := h _ hr; omega
    · rw [decF_wrong hr]
      have : Fr.zero.life = 0 := rfl
      omega
theorem newest_lt {D : Dv} {from_ till L : Int} (h : ∀ i : Int, (decF (D.sector i)).right = true → (decF (D.sector i)).life < L) (hL : 1 ≤ L) : D.newest from_ till < L := by
  unfold Dv.newest
  split
  · exact most_lt h hL _
  · omega
theorem life_bound (b : List UInt8) : 0 ≤ (decF b).life ∧ (decF b).life ≤ 16777215 := by
  by_cases hr : (decF b).right = true
  · have := stampOk_iff.1 (Fr.right_iff.1 hr).1; omega
  · rw [decF_wrong hr]; exact ⟨by decide, by decide⟩
theorem most_bound (D : Dv) (from_ : Int) (k : Nat) : 0 ≤ D.most from_ k ∧ D.most from_ k ≤ 16777215 := by
  induction k with
  | zero => exact ⟨Int.le_refl _, by show (0 : Int) ≤ 16777215; omega⟩
  | succ k ih =>
    have := life_bound (D.sector (from_ + k))
    show 0 ≤ max _ _ ∧ max _ _ ≤ _
    omega
theorem newest_bound (D : Dv) (from_ till : Int) : 0 ≤ D.newest from_ till ∧ D.newest from_ till ≤ 16777215 := by
  unfold Dv.newest
  split
  · exact most_bound D _ _
  · omega

/-- A scroll: where it lies, what it holds. -/
structure Sc where
  from_ : Int
  till : Int
  life : Int
  era : Int
  last : Int
  at_ : Int
  all : List (List UInt8)
  dead : Bool
def Dv.openE (D : Dv) (from_ till life era : Int) : Int :=
  if D.within from_ till = true ∧ 1 ≤ life ∧ life ≤ 16777215 ∧ 0 ≤ era ∧ era ≤ 16777215 ∧ D.newest from_ till < life then 0 else 2
def Dv.opened (D : Dv) (from_ till life era : Int) : Sc :=
  ⟨from_, till, life, era, (D.read till era from_ 1 0).2.2, (D.read till era from_ 1 0).2.1, (D.read till era from_ 1 0).1, false⟩
/-- Append -/
def Sc.append (S : Sc) (D : Dv) (b : List UInt8) : Int × Sc × Dv :=
  if S.dead = true ∨ D.off = true then (9, S, D)
  else if cutE S.life S.era (S.all.length + 1) b ≠ 0 then (cutE S.life S.era (S.all.length + 1) b, S, D)
  else if S.till - S.at_ < (cutL S.life S.era (S.all.length + 1) b).length then (10, S, D)
  else if (D.write S.at_ (cutL S.life S.era (S.all.length + 1) b)).1 ≠ 0 then
    ((D.write S.at_ (cutL S.life S.era (S.all.length + 1) b)).1, { S with dead := true }, (D.write S.at_ (cutL S.life S.era (S.all.length + 1) b)).2)
  else (0, { S with all := S.all ++ [b], at_ := S.at_ + (cutL S.life S.era (S.all.length + 1) b).length, last := S.life }, (D.write S.at_ (cutL S.life S.era (S.all.length + 1) b)).2)
end Go.Proofs.Ytlhnpicmjjddeaa
