/- STILL: the walk of StillNobody. -/
import Derived.Test.YtlhnpicmjjddeaaSt4
import Derived.Test.YtlhnpicmjjddeaaOpen2
namespace Go.Proofs.Ytlhnpicmjjddeaa
open Go.RowKit

theorem new_sector (n : Nat) (i : Int) : Dv.sector (Dv.new n) i = nought ∨ Dv.sector (Dv.new n) i = [] := by
  unfold Dv.sector
  split
  · rw [List.getD_eq_getElem?_getD]
    rcases Nat.lt_or_ge i.toNat n with h | h
    · left
      simp [Dv.new, nought, h]
    · right
      rw [List.getElem?_eq_none (by simp [Dv.new]; exact h)]; rfl
  · right; rfl
theorem decF_nought : decF nought = Fr.zero := by kernel_rfl
theorem decF_nil : decF [] = Fr.zero := by kernel_rfl
theorem decF_new (n : Nat) (i : Int) : decF (Dv.sector (Dv.new n) i) = Fr.zero := by
  rcases new_sector n i with h | h <;> rw [h]
  · exact decF_nought
  · exact decF_nil
theorem place_new (n : Nat) (a b c : Int) : Dv.place (Dv.new n) a b c = (0, []) := by
  unfold Dv.place Dv.holds
  rw [decF_new]
  have : joinsB (Dv.frs (Dv.new n) a (Fr.zero.parts.toNat)) = false := rfl
  rw [this]
  simp
theorem load_new {at_ each : Int} (h : 0 ≤ at_ ∧ 1 ≤ each ∧ each ≤ 10 ∧ at_ ≤ 10 - 2 * each) : (Dv.new 10).loadR at_ each = (0, [], 11) := by
  have hl : (Dv.new 10).C.length = 10 := by simp [Dv.new]
  unfold Dv.loadR Dv.load Dv.loadE
  rw [place_new, place_new, hl, if_pos (if_neg (by omega))]
  rfl
theorem load_new' {at_ each : Int} (h : ¬ (0 ≤ at_ ∧ 1 ≤ each ∧ each ≤ 10 ∧ at_ ≤ 10 - 2 * each)) : (Dv.new 10).loadR at_ each = (0, [], 2) := by
  have hl : (Dv.new 10).C.length = 10 := by simp [Dv.new]
  unfold Dv.loadR Dv.loadE
  rw [hl, if_pos (by omega : at_ < 0 ∨ each < 1 ∨ ((10 : Nat) : Int) < each ∨ ((10 : Nat) : Int) - 2 * each < at_), if_neg (by decide)]

set_option maxHeartbeats 6400000 in
set_option maxRecDepth 100000 in
theorem stillNobodyWalk (w : World) (v : Value) (e : TypeId) (at_ each : Int) (b : List UInt8) (hb : Bytes w e v b) (hea : -9223372036854775808 ≤ each ∧ each ≤ 9223372036854775807) :
    Calls Try.prog 13 #[.int .i64 at_, .int .i64 each, v] w (RetSame (.bool true) w) := by
  have H1 := hid sLoad_none
  have H2 := hid sSave_none
  have H3 := hid (fun w' => show Calls Try.prog 22 #[v, .int .i64 90] w' _ from r01Cut0 w w' e v b 90 hb)
  have H9 := hid sLives
  have HB := hid Nobody.boxed
  have HL := hid (fun (w' : World) (p : Value) (F : Nat → Prop) (hD : IsDv w' p F (Dv.new 10)) => sLoad w' p F _ at_ each hD hea)
  obtain ⟨av, cv, rfl, _, _⟩ := hb.form
  have Hea := hid hea
  clear hb hea
  go_enter Try.func13, Try.ntmps13
  go_wp2_with fail
  go_loopw [7] (fun i wr => ∃ k : Nat, k ≤ 2 ∧ i = .int .i64 k ∧ Same w wr) (fun i _ => 2 - (intOf i).toNat)
  case atStart => exact ⟨0, by omega, rfl, Same.refl w⟩
  case round =>
    obtain ⟨k, hk, rfl, S⟩ := hrel
    have S := hid S
    match k, hk with
    | 2, _ =>
      go_wp2_with fail
      refine (dNewD wr 10 (by omega) (by omega)).mono ?_
      rintro en w1 ⟨p, F, rfl, S1, D1, B1⟩
      have D1 := hid D1
      have S1 := hid (S.out.trans S1)
      obtain ⟨bb, hp⟩ : ∃ b, p = .pointer (some ⟨b, 0, none⟩) := by obtain ⟨b, _, _, _, e, _⟩ := D1.out; exact ⟨b, e⟩
      subst hp
      have HLd := hid (HL.out w1 _ F D1.out)
      by_cases g1 : 0 ≤ at_
      case neg =>
        rw [load_new' (by omega)] at HLd
        have dg1 : decide (0 ≤ at_) = false := by simp; omega
        clear g1
        go_wp2_with fail
        refine HLd.out.mono ?_
        rintro en w2 ⟨v2, rfl, O2, S2⟩
        obtain ⟨a2, c2, rfl, _, _⟩ := O2.bytes.form
        clear O2
        go_wp2_with fail
        refine (H9.out _).mono ?_
        rintro en w3 ⟨rfl, S3⟩
        go_wp2_with fail
        go_ret
        exact ⟨rfl, (S1.out.trans S2).trans S3⟩
      by_cases g2 : 1 ≤ each
      case neg =>
        rw [load_new' (by omega)] at HLd
        have dg2 : decide (1 ≤ each) = false := by simp; omega
        clear g2
        go_wp2_with fail
        refine HLd.out.mono ?_
        rintro en w2 ⟨v2, rfl, O2, S2⟩
        obtain ⟨a2, c2, rfl, _, _⟩ := O2.bytes.form
        clear O2
        go_wp2_with fail
        refine (H9.out _).mono ?_
        rintro en w3 ⟨rfl, S3⟩
        go_wp2_with fail
        go_ret
        exact ⟨rfl, (S1.out.trans S2).trans S3⟩
      by_cases g3 : each ≤ 10
      case neg =>
        rw [load_new' (by omega)] at HLd
        have dg3 : decide (each ≤ 10) = false := by simp; omega
        clear g3
        go_wp2_with fail
        refine HLd.out.mono ?_
        rintro en w2 ⟨v2, rfl, O2, S2⟩
        obtain ⟨a2, c2, rfl, _, _⟩ := O2.bytes.form
        clear O2
        go_wp2_with fail
        refine (H9.out _).mono ?_
        rintro en w3 ⟨rfl, S3⟩
        go_wp2_with fail
        go_ret
        exact ⟨rfl, (S1.out.trans S2).trans S3⟩
      by_cases g4 : at_ ≤ 10 - 2 * each
      case neg =>
        rw [load_new' (by omega)] at HLd
        have dg4 : decide (at_ ≤ 10 - 2 * each) = false := by simp; omega
        clear g4
        go_wp2_with fail
        refine HLd.out.mono ?_
        rintro en w2 ⟨v2, rfl, O2, S2⟩
        obtain ⟨a2, c2, rfl, _, _⟩ := O2.bytes.form
        clear O2
        go_wp2_with fail
        refine (H9.out _).mono ?_
        rintro en w3 ⟨rfl, S3⟩
        go_wp2_with fail
        go_ret
        exact ⟨rfl, (S1.out.trans S2).trans S3⟩
      rw [load_new ⟨g1, g2, g3, g4⟩] at HLd
      go_wp2_with fail
      refine HLd.out.mono ?_
      rintro en w2 ⟨v2, rfl, O2, S2⟩
      obtain ⟨a2, c2, rfl, _, _⟩ := O2.bytes.form
      clear O2
      go_wp2_with fail
      refine (H9.out _).mono ?_
      rintro en w3 ⟨rfl, S3⟩
      go_wp2_with fail
      go_ret
      exact ⟨rfl, (S1.out.trans S2).trans S3⟩
    | 0, _ =>
      have N0 : Hid (Nobody wr (.pointer none)) := .inl rfl
      go_wp2_with fail
      refine (H1.out _ _ _ _ N0.out).mono ?_
      rintro en w1 ⟨rfl, S1⟩
      have T1 := hid S1
      clear S1
      go_wp2_with fail
      refine (H3.out _).mono ?_
      rintro en w1' ⟨v3, rfl, B3, rfl⟩
      obtain ⟨a3, c3, rfl, _, _⟩ := B3.form
      clear B3
      go_wp2_with fail
      refine (H2.out _ _ _ _ _ _ _ (N0.out.same T1.out)).mono ?_
      rintro en w2 ⟨rfl, S2⟩
      have T2 := hid (T1.out.trans S2)
      clear S2
      go_wp2_with fail
      go_roundw
      case rel => exact ⟨1, by omega, rfl, S.out.trans T2.out⟩
      case measure => simp [intOf]
    | 1, _ =>
      have N0 := hid (HB.out wr)
      go_wp2_with fail
      refine (H1.out _ _ _ _ N0.out).mono ?_
      rintro en w1 ⟨rfl, S1⟩
      have T1 := hid S1
      clear S1
      go_wp2_with fail
      refine (H3.out _).mono ?_
      rintro en w1' ⟨v3, rfl, B3, rfl⟩
      obtain ⟨a3, c3, rfl, _, _⟩ := B3.form
      clear B3
      go_wp2_with fail
      refine (H2.out _ _ _ _ _ _ _ (N0.out.same T1.out)).mono ?_
      rintro en w2 ⟨rfl, S2⟩
      have T2 := hid (T1.out.trans S2)
      clear S2
      go_wp2_with fail
      go_roundw
      case rel => exact ⟨2, by omega, rfl, (S.out.alloc _).trans T2.out⟩
      case measure => simp [intOf]
end Go.Proofs.Ytlhnpicmjjddeaa
