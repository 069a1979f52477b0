/- FRAME: stamp, fits. -/
import Derived.Test.YtlhnpicmjjddeaaFw5
import Derived.Laws.StructEq
import Derived.Test.YtlhnpicmjjddeaaAft
import Derived.Laws.Cover2
namespace Go.Proofs.Ytlhnpicmjjddeaa
open Go.RowKit

def stampV (f : Fr) : Value := .agg #[.int .i64 f.life, .int .i64 f.era, .int .i64 f.seq, .int .i64 f.parts]
set_option maxHeartbeats 1600000 in
set_option maxRecDepth 100000 in
theorem fStamp (w : World) (x : Value) (f : Fr) (hx : FrV w x f) : Calls Try.prog 119 #[x] w (RetSame (stampV f) w) := by
  obtain ⟨v, e, rfl, hb⟩ := hx
  obtain ⟨ao, cap, rfl, h1, h2⟩ := hb.form
  unfold Fr.agg
  go_enter Try.func119, Try.ntmps119
  go_wp2_with fail
  exact bodyPost_ret (v := .agg #[.int .i64 f.life, .int .i64 f.era, .int .i64 f.seq, .int .i64 f.parts]) (by simp [results, Try.results119, go_sem]) rfl ⟨rfl, ((Same.refl w).alloc _).alloc _⟩

theorem eq165 (a b c d a' b' c' d' : Int) (w : World) : (Op.equalIn 10000 165 (.agg #[.int .i64 a, .int .i64 b, .int .i64 c, .int .i64 d]) (.agg #[.int .i64 a', .int .i64 b', .int .i64 c', .int .i64 d'])).run Try.prog w = .ok (decide (a = a' ∧ b = b' ∧ c = c' ∧ d = d')) w := by
  have u3 := Try.underlying3
  have a3 := Try.isAgg3
  have z3 := Try.sizeOf3
  rw [show (10000 : Nat) = 9999 + 1 from rfl, Op.equalIn]
  simp only [Sem.run_bind, run_underlying Try.underlying165, Result.andThen_ok]
  simp only [Std.Legacy.Range.forIn_eq_forIn_range', Std.Legacy.Range.size, Nat.sub_zero, Nat.add_sub_cancel, Nat.div_one, List.range'_succ, List.range'_zero, List.forIn_cons, List.forIn_nil]
  go_simp
  by_cases h1 : a = a' <;> by_cases h2 : b = b' <;> by_cases h3 : c = c' <;> by_cases h4 : d = d' <;> simp [h1, h2, h3, h4]
set_option maxHeartbeats 3200000 in
set_option maxRecDepth 100000 in
theorem fFits (w : World) (x y : Value) (f d : Fr) (i : Nat) (hx : FrV w x f) (hy : FrV w y d) (hp : -9223372036854775808 ≤ f.parts - 1 ∧ f.parts ≤ 9223372036854775807) : Calls Try.prog 101 #[x, y, .int .i64 i] w (RetSame (.bool (f.fits d i)) w) := by
  have HS1 := hid (fun w' (S : Same w w') => fStamp w' x f (hx.same S))
  have HS2 := hid (fun w' (S : Same w w') => fStamp w' y d (hy.same S))
  have HR := hid (fun w' (S : Same w w') => fRight w' x f (hx.same S))
  have HT := hid (@Fr.fits_iff f d i)
  obtain ⟨v, e, rfl, hb⟩ := hx
  obtain ⟨ao, cap, rfl, h1, h2⟩ := hb.form
  obtain ⟨v', e', rfl, hb'⟩ := hy
  obtain ⟨ao', cap', rfl, h1', h2'⟩ := hb'.form
  clear hb hb'
  unfold maxLen at h2 h2'
  generalize f.fits d i = r at *
  have S2 := hid (((Same.refl w).alloc (.cells #[.int .i64 f.life, .int .i64 f.era, .int .i64 f.seq, .int .i64 f.part, .int .i64 f.parts, .slice ao f.data.length cap] 60)).alloc (.cells #[.int .i64 d.life, .int .i64 d.era, .int .i64 d.seq, .int .i64 d.part, .int .i64 d.parts, .slice ao' d.data.length cap'] 60))
  have hb1 := (Box6.new w (.int .i64 f.life) (.int .i64 f.era) (.int .i64 f.seq) (.int .i64 f.part) (.int .i64 f.parts) (.slice ao f.data.length cap)).same ((Same.refl _).alloc (.cells #[.int .i64 d.life, .int .i64 d.era, .int .i64 d.seq, .int .i64 d.part, .int .i64 d.parts, .slice ao' d.data.length cap'] 60))
  have hb2 := Box6.new (w.alloc (.cells #[.int .i64 f.life, .int .i64 f.era, .int .i64 f.seq, .int .i64 f.part, .int .i64 f.parts, .slice ao f.data.length cap] 60)) (.int .i64 d.life) (.int .i64 d.era) (.int .i64 d.seq) (.int .i64 d.part) (.int .i64 d.parts) (.slice ao' d.data.length cap')
  rw [World.size_alloc] at hb2
  have HB1 := hid hb1
  have HB2 := hid hb2
  clear hb1 hb2
  unfold stampV Fr.agg at *
  generalize f.right = rt at *
  obtain ⟨life, era, seq, part, parts, data⟩ := f
  obtain ⟨life', era', seq', part', parts', data'⟩ := d
  simp only at *
  generalize data.length = n at *
  generalize data'.length = n' at *
  go_enter Try.func101, Try.ntmps101
  go_wp2_with fail
  generalize (w.alloc (.cells #[.int .i64 life, .int .i64 era, .int .i64 seq, .int .i64 part, .int .i64 parts, .slice ao n cap] 60)).alloc (.cells #[.int .i64 life', .int .i64 era', .int .i64 seq', .int .i64 part', .int .i64 parts', .slice ao' n' cap'] 60) = W0 at *
  have A1 := hid (fun x : After W0 => Calls.after (HS1.out _ (S2.out.trans x.same)))
  have A2 := hid (fun x : After W0 => Calls.after (HS2.out _ (S2.out.trans x.same)))
  have A3 := hid (fun x : After W0 => Calls.after (HR.out _ (S2.out.trans x.same)))
  clear HS1 HS2 HR
  obtain ⟨c0, c1, c2, c3, c4, c5⟩ := HB1.out.cells
  obtain ⟨d0, d1, d2, d3, d4, d5⟩ := HB2.out.cells
  have xc0 := fun x => After.cell c0 x
  have xc1 := fun x => After.cell c1 x
  have xc2 := fun x => After.cell c2 x
  have xc3 := fun x => After.cell c3 x
  have xc4 := fun x => After.cell c4 x
  have xc5 := fun x => After.cell c5 x
  have xd0 := fun x => After.cell d0 x
  have xd1 := fun x => After.cell d1 x
  have xd2 := fun x => After.cell d2 x
  have xd3 := fun x => After.cell d3 x
  have xd4 := fun x => After.cell d4 x
  have xd5 := fun x => After.cell d5 x
  by_cases hA : life = life' ∧ era = era' ∧ seq = seq' ∧ parts = parts'
  · obtain ⟨rfl, rfl, rfl, rfl⟩ := hA
    have hq : ∀ W, (Op.equalIn 10000 165 (.agg #[.int .i64 life, .int .i64 era, .int .i64 seq, .int .i64 parts]) (.agg #[.int .i64 life, .int .i64 era, .int .i64 seq, .int .i64 parts])).run Try.prog W = .ok true W := fun W => by rw [eq165, decide_eq_true ⟨rfl, rfl, rfl, rfl⟩]
    clear c0 c1 c2 c3 c4 c5 d0 d1 d2 d3 d4 d5
    by_cases hP : part = (i : Int)
    · have hPb : (part == (i : Int)) = true := by rw [beq_iff_eq]; exact hP
      cases rt
      · have hr : r = false := by
          cases r
          · rfl
          · exact absurd (HT.out.1 rfl).2.2.1 (by simp)
        subst hr
        clear HT hP
        refine wp_region_after (by kernel_rfl) (by kernel_rfl) ?_
        repeat (go_big_quiet_step (first
          | (go_at_call 119; with_reducible exact A1.out _)
          | (go_at_call 119; with_reducible exact A2.out _)
          | (go_at_call 94; with_reducible exact A3.out _)))
        refine wpQuiet_nil ?_
        intro _ hw'
        obtain ⟨x5, hw''⟩ := hw'
        subst hw''
        have T5 := hid (S2.out.trans x5.same)
        clear S2
        go_wp2_with fail
        go_ret
        exact ⟨rfl, T5.out⟩
      · have hwr : IntKind.i64.wrap (parts - 1) = parts - 1 := by rw [IntKind.wrap_i64]; omega
        by_cases hL : (i : Int) = parts - 1
        · have hr : r = true := HT.out.2 ⟨⟨rfl, rfl, rfl, rfl⟩, hP, rfl, .inl hL⟩
          have hLb : ((i : Int) == parts - 1) = true := by rw [beq_iff_eq]; exact hL
          subst hr
          clear HT hP hL hp
          refine wp_region_after (by kernel_rfl) (by kernel_rfl) ?_
          repeat (go_big_quiet_step (first
            | (go_at_call 119; with_reducible exact A1.out _)
            | (go_at_call 119; with_reducible exact A2.out _)
            | (go_at_call 94; with_reducible exact A3.out _)))
          refine wpQuiet_nil ?_
          intro _ hw'
          obtain ⟨x5, hw''⟩ := hw'
          subst hw''
          have T5 := hid (S2.out.trans x5.same)
          clear S2
          go_wp2_with fail
          go_ret
          exact ⟨rfl, T5.out⟩
        · have hLb : ((i : Int) == parts - 1) = false := by rw [beq_eq_false_iff_ne]; exact hL
          by_cases h80 : n = 80
          · have hr : r = true := HT.out.2 ⟨⟨rfl, rfl, rfl, rfl⟩, hP, rfl, .inr h80⟩
            have h8b : ((n : Int) == 80) = true := by rw [beq_iff_eq]; omega
            subst hr
            clear HT hP hL hp h80
            refine wp_region_after (by kernel_rfl) (by kernel_rfl) ?_
            repeat (go_big_quiet_step (first
              | (go_at_call 119; with_reducible exact A1.out _)
              | (go_at_call 119; with_reducible exact A2.out _)
              | (go_at_call 94; with_reducible exact A3.out _)))
            refine wpQuiet_nil ?_
            intro _ hw'
            obtain ⟨x5, hw''⟩ := hw'
            subst hw''
            have T5 := hid (S2.out.trans x5.same)
            clear S2
            go_wp2_with fail
            go_ret
            exact ⟨rfl, T5.out⟩
          · have hr : r = false := by
              cases r
              · rfl
              · rcases (HT.out.1 rfl).2.2.2 with h | h
                · exact absurd h hL
                · exact absurd h h80
            have h8b : ((n : Int) == 80) = false := by rw [beq_eq_false_iff_ne]; omega
            subst hr
            clear HT hP hL hp h80
            refine wp_region_after (by kernel_rfl) (by kernel_rfl) ?_
            repeat (go_big_quiet_step (first
              | (go_at_call 119; with_reducible exact A1.out _)
              | (go_at_call 119; with_reducible exact A2.out _)
              | (go_at_call 94; with_reducible exact A3.out _)))
            refine wpQuiet_nil ?_
            intro _ hw'
            obtain ⟨x5, hw''⟩ := hw'
            subst hw''
            have T5 := hid (S2.out.trans x5.same)
            clear S2
            go_wp2_with fail
            go_ret
            exact ⟨rfl, T5.out⟩
    · have hPb : (part == (i : Int)) = false := by rw [beq_eq_false_iff_ne]; exact hP
      have hr : r = false := by
        cases r
        · rfl
        · exact absurd (HT.out.1 rfl).2.1 hP
      subst hr
      clear HT hP
      refine wp_region_after (by kernel_rfl) (by kernel_rfl) ?_
      repeat (go_big_quiet_step (first
        | (go_at_call 119; with_reducible exact A1.out _)
        | (go_at_call 119; with_reducible exact A2.out _)
        | (go_at_call 94; with_reducible exact A3.out _)))
      refine wpQuiet_nil ?_
      intro _ hw'
      obtain ⟨x5, hw''⟩ := hw'
      subst hw''
      have T5 := hid (S2.out.trans x5.same)
      clear S2
      go_wp2_with fail
      go_ret
      exact ⟨rfl, T5.out⟩
  · have hr : r = false := by
      cases r
      · rfl
      · exact absurd (HT.out.1 rfl).1 hA
    subst hr
    have hq : ∀ W, (Op.equalIn 10000 165 (.agg #[.int .i64 life, .int .i64 era, .int .i64 seq, .int .i64 parts]) (.agg #[.int .i64 life', .int .i64 era', .int .i64 seq', .int .i64 parts'])).run Try.prog W = .ok false W := fun W => by rw [eq165, decide_eq_false hA]
    clear hA HT
    clear c0 c1 c2 c3 c4 c5 d0 d1 d2 d3 d4 d5
    refine wp_region_after (by kernel_rfl) (by kernel_rfl) ?_
    repeat (go_big_quiet_step (first
      | (go_at_call 119; with_reducible exact A1.out _)
      | (go_at_call 119; with_reducible exact A2.out _)
      | (go_at_call 94; with_reducible exact A3.out _)))
    refine wpQuiet_nil ?_
    intro _ hw'
    obtain ⟨x5, hw''⟩ := hw'
    subst hw''
    have T5 := hid (S2.out.trans x5.same)
    clear S2
    go_wp2_with fail
    go_ret
    exact ⟨rfl, T5.out⟩
end Go.Proofs.Ytlhnpicmjjddeaa
