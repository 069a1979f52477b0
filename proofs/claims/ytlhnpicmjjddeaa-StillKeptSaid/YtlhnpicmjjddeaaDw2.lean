/- DISK: Write on a drive: refused. -/
import Derived.Test.YtlhnpicmjjddeaaDw
namespace Go.Proofs.Ytlhnpicmjjddeaa
open Go.RowKit

def RetDv (r : Int × Dv) (p : Value) (F : Nat → Prop) (w : World) (en : Ending) (w' : World) : Prop := en = .returned (.int .i64 r.1) ∧ Keep F w w' ∧ IsDv w' p F r.2
set_option maxHeartbeats 800000 in
set_option maxRecDepth 100000 in
theorem dWriteOff (w : World) (p : Value) (F : Nat → Prop) (D : Dv) (at_ : Int) (v : Value) (ls : List (List UInt8)) (hD : IsDv w p F D) (ho : D.off = true) :
    Calls Try.prog 34 #[p, .int .i64 at_, v] w (RetDv (D.write at_ ls) p F w) := by
  have HW : Hid (D.write at_ ls = (9, D)) := by show _ = _; unfold Dv.write; rw [if_pos ho]
  have HD := hid hD
  obtain ⟨b, cb, kv, n, rfl, h1, _⟩ := hD
  have HR := hid (dReady w b _ _ _ _ _ _ _ _ h1)
  rw [ho] at HR
  clear ho h1
  go_enter Try.func34, Try.ntmps34
  go_wp2_with fail
  refine HR.out.mono ?_
  rintro en w1 ⟨rfl, S1⟩
  go_wp2_with fail
  go_ret
  rw [HW.out]
  exact ⟨rfl, S1.keep _, HD.out.same S1⟩
set_option maxHeartbeats 800000 in
set_option maxRecDepth 100000 in
theorem dWriteBad (w : World) (p : Value) (F : Nat → Prop) (D : Dv) (at_ : Int) (e : TypeId) (v : Value) (ls : List (List UInt8)) (hD : IsDv w p F D) (hR : Rows2N F w e v ls) (ho : D.off = false) (hb : D.bad at_ ls = true) :
    Calls Try.prog 34 #[p, .int .i64 at_, v] w (RetDv (D.write at_ ls) p F w) := by
  have HW : Hid (D.write at_ ls = (2, D)) := by show _ = _; unfold Dv.write; rw [ho, if_neg (by simp), if_pos hb]
  have HD := hid hD
  have hok := hD.ok.1
  obtain ⟨b, cb, kv, n, rfl, h1, _⟩ := hD
  have HR := hid (dReady w b _ _ _ _ _ _ _ _ h1)
  rw [ho] at HR
  have HC := hid (fun w' (S : Same w w') => dContainsFunc w' e v ls (hR.rows.same S))
  obtain ⟨ao, cap, rfl, f1, f2⟩ := hR.rows.form
  unfold maxLen at f2
  have H1 := hid h1
  clear ho h1
  by_cases g1 : at_ < 0
  · go_enter Try.func34, Try.ntmps34
    go_wp2_with fail
    refine HR.out.mono ?_
    rintro en w1 ⟨rfl, S1⟩
    obtain ⟨c0, c1, c2, c3, c4, c5⟩ := H1.out.same S1
    go_wp2_with fail
    go_ret
    rw [HW.out]
    exact ⟨rfl, S1.keep _, HD.out.same S1⟩
  · obtain ⟨at_, rfl⟩ := Int.eq_ofNat_of_zero_le (a := at_) (by omega)
    have g1' : decide ((at_ : Int) < 0) = false := by simp
    by_cases g2 : D.C.length < at_
    · go_enter Try.func34, Try.ntmps34
      go_wp2_with fail
      refine HR.out.mono ?_
      rintro en w1 ⟨rfl, S1⟩
      obtain ⟨c0, c1, c2, c3, c4, c5⟩ := H1.out.same S1
      go_wp2_with fail
      go_ret
      rw [HW.out]
      exact ⟨rfl, S1.keep _, HD.out.same S1⟩
    · by_cases g3 : (D.C.length : Int) - at_ < ls.length
      · have g2' : decide (D.C.length < at_) = false := by simpa using g2
        have g3' : decide ((D.C.length : Int) - at_ < ls.length) = true := by simpa using g3
        have g4 : at_ ≤ D.C.length := by omega
        clear g2 g3
        go_enter Try.func34, Try.ntmps34
        go_wp2_with fail
        refine HR.out.mono ?_
        rintro en w1 ⟨rfl, S1⟩
        obtain ⟨c0, c1, c2, c3, c4, c5⟩ := H1.out.same S1
        go_wp2_with fail
        go_ret
        rw [HW.out]
        exact ⟨rfl, S1.keep _, HD.out.same S1⟩
      · have ha : ls.any isLong = true := by
          unfold Dv.bad at hb
          have q1 : decide ((at_ : Int) < 0) = false := by simp
          have q2 : decide ((D.C.length : Int) < at_) = false := by simpa using g2
          have q3 : decide ((D.C.length : Int) - at_ < ls.length) = false := by simpa using g3
          rw [q1, q2, q3] at hb
          simpa using hb
        have g2' : decide (D.C.length < at_) = false := by simpa using g2
        have g3' : decide ((D.C.length : Int) - at_ < ls.length) = false := by simpa using g3
        rw [ha] at HC
        have g4 : at_ ≤ D.C.length := by omega
        clear g2 g3 ha hb
        go_enter Try.func34, Try.ntmps34
        go_wp2_with fail
        refine HR.out.mono ?_
        rintro en w1 ⟨rfl, S1⟩
        obtain ⟨c0, c1, c2, c3, c4, c5⟩ := H1.out.same S1
        go_wp2_with fail
        refine (HC.out _ S1).mono ?_
        rintro en w2 ⟨rfl, S2⟩
        go_wp2_with fail
        go_ret
        rw [HW.out]
        exact ⟨rfl, (S1.trans S2).keep _, HD.out.same (S1.trans S2)⟩
set_option maxHeartbeats 800000 in
set_option maxRecDepth 100000 in
theorem dWriteNone (w : World) (p : Value) (F : Nat → Prop) (D : Dv) (at_ : Int) (e : TypeId) (v : Value) (hD : IsDv w p F D) (hR : Rows2N F w e v []) (ho : D.off = false) (hb : D.bad at_ [] = false) :
    Calls Try.prog 34 #[p, .int .i64 at_, v] w (RetDv (D.write at_ []) p F w) := by
  have HW : Hid (D.write at_ [] = (0, D)) := by show _ = _; unfold Dv.write; rw [ho, if_neg (by simp), if_neg (by simp [hb]), if_pos rfl]
  have HD := hid hD
  have hok := hD.ok.1
  obtain ⟨b, cb, kv, n, rfl, h1, _⟩ := hD
  have HR := hid (dReady w b _ _ _ _ _ _ _ _ h1)
  rw [ho] at HR
  have HC := hid (fun w' (S : Same w w') => dContainsFunc w' e v [] (hR.rows.same S))
  obtain ⟨ao, cap, rfl, f1, f2⟩ := hR.rows.form
  unfold maxLen at f2
  have H1 := hid h1
  have g : ¬ at_ < 0 ∧ ¬ (D.C.length : Int) < at_ := by
    unfold Dv.bad at hb
    simp at hb
    omega
  clear ho h1 hb
  obtain ⟨at_, rfl⟩ := Int.eq_ofNat_of_zero_le (a := at_) (by omega)
  have g2' : decide (D.C.length < at_) = false := by simpa using g.2
  have g3 : ¬ ((D.C.length : Int) - at_ < 0) := by omega
  have g4 : ¬ ((D.C.length : Int) < at_) := by omega
  simp only [List.any_nil] at HC
  clear g
  go_enter Try.func34, Try.ntmps34
  go_wp2_with fail
  refine HR.out.mono ?_
  rintro en w1 ⟨rfl, S1⟩
  obtain ⟨c0, c1, c2, c3, c4, c5⟩ := H1.out.same S1
  go_wp2_with fail
  refine (HC.out _ S1).mono ?_
  rintro en w2 ⟨rfl, S2⟩
  go_wp2_with fail
  go_ret
  rw [HW.out]
  exact ⟨rfl, (S1.trans S2).keep _, HD.out.same (S1.trans S2)⟩
end Go.Proofs.Ytlhnpicmjjddeaa
