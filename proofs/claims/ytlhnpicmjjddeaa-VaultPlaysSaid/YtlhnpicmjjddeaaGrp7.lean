/- SCROLL's reference: Open. Printed by mkrf08d.py. SCROLL: Append. FRAME's reference: Cut of no bytes; Cut. SCROLL's reference: Append. STILL's reference: Load, Save. Printed by mkrf09b.py. SCROLL's reference: Same of two rows of records. SCROLL: lives of layer 8; a scroll that no call made; the walk of ScrollNobody. VAULT: the vault in memory; its small functions; a vault that no call made. SCROLL, plainly: what a crash leaves. No program in sight. -/
import Derived.Test.YtlhnpicmjjddeaaGrp6
import Derived.Test.YtlhnpicmjjddeaaGrp5
import Derived.Test.YtlhnpicmjjddeaaGrp3
import Derived.Test.YtlhnpicmjjddeaaGrp4
set_option linter.unusedVariables false
set_option linter.unusedSimpArgs false
namespace Go.Proofs.Ytlhnpicmjjddeaa
open Go.RowKit

theorem openE_no {D : Dv} {a b life era : Int} (h : ¬ (0 ≤ a ∧ a ≤ b ∧ b ≤ D.C.length ∧ 1 ≤ life ∧ life ≤ 16777215 ∧ 0 ≤ era ∧ era ≤ 16777215 ∧ D.most a (b - a).toNat < life)) : D.openE a b life era = 2 := by
  refine openE_two fun g => h ?_
  obtain ⟨g1, g2, g3, g4, g5, g6⟩ := g
  have q : 0 ≤ a ∧ a ≤ b ∧ b ≤ D.C.length := of_decide_eq_true g1
  unfold Dv.newest at g6
  rw [if_pos g1] at g6
  exact ⟨q.1, q.2.1, q.2.2, g2, g3, g4, g5, g6⟩
theorem openE_yes {D : Dv} {a b life era : Int} (h : 0 ≤ a ∧ a ≤ b ∧ b ≤ D.C.length ∧ 1 ≤ life ∧ life ≤ 16777215 ∧ 0 ≤ era ∧ era ≤ 16777215 ∧ D.most a (b - a).toNat < life) : D.openE a b life era = 0 := by
  have g1 : D.within a b = true := decide_eq_true ⟨h.1, h.2.1, h.2.2.1⟩
  refine if_pos ⟨g1, h.2.2.2.1, h.2.2.2.2.1, h.2.2.2.2.2.1, h.2.2.2.2.2.2.1, ?_⟩
  unfold Dv.newest
  rw [if_pos g1]
  exact h.2.2.2.2.2.2.2
set_option maxHeartbeats 6400000 in
set_option maxRecDepth 100000 in
theorem rOpen (w : World) (p : Value) (F : Nat → Prop) (D : Dv) (a b life era : Int) (hD : IsRd w p F D) :
    Calls Try.prog 62 #[p, .int .i64 a, .int .i64 b, .int .i64 life, .int .i64 era] w (RetOpenR D p a b life era w) := by
  have HO := hid hD.ok
  have hcl := hD.ok.1
  obtain ⟨pb, rv, fz, kv, ks, n, rfl, h1, h2, h3, h4, h5, h6, h7, h8⟩ := hD
  have HRows := hid h3.rows
  obtain ⟨ra, rc, rfl, _, _⟩ := h3.rows.form
  have HB := hid h1
  have HNo : Hid (¬ (0 ≤ a ∧ a ≤ b ∧ b ≤ D.C.length ∧ 1 ≤ life ∧ life ≤ 16777215 ∧ 0 ≤ era ∧ era ≤ 16777215 ∧ D.most a (b - a).toNat < life) → ∀ w', Same w w' → RetOpenR D (.pointer (some ⟨pb, 0, none⟩)) a b life era w (.returned (.tuple #[.pointer none, .int .i64 2])) w') := fun h w' Z => .inl ⟨openE_no h, rfl, Z⟩
  have HYes := hid (@openE_yes D a b life era)
  have HNw := hid (fun (x y : Nat) (hx : x ≤ y) (hy : y ≤ D.C.length) => rNewest w pb _ _ _ _ _ D x y h1 h3.rows hx hy hcl)
  have HRe := hid (fun (w' : World) (Z : Same w w') (x y : Nat) (hx : x ≤ y) (hy : y ≤ D.C.length) => rRead w' pb _ _ _ _ _ D x y era (h1.same Z) (h3.rows.same Z) hx hy hcl)
  obtain ⟨c0, c1, c2, c3, c4⟩ := h1.cells
  clear h1 h2 h3 h4 h5 h6 h7 h8
  by_cases g0 : a < 0
  case pos =>
    have HZ := hid (HNo.out fun h => by have := h.1; omega)
    have d0 : decide (a < 0) = true := decide_eq_true g0
    clear g0 HNo HYes HNw HRe
    go_enter Try.func62, Try.ntmps62
    go_wp2_with fail
    go_ret2
    exact HZ.out _ (Same.refl _)
  have d0 : decide (a < 0) = false := decide_eq_false g0
  by_cases g1 : b < a
  case pos =>
    have HZ := hid (HNo.out fun h => by have := h.2.1; omega)
    have d1 : decide (b < a) = true := decide_eq_true g1
    clear g0 g1 HNo HYes HNw HRe
    go_enter Try.func62, Try.ntmps62
    go_wp2_with fail
    go_ret2
    exact HZ.out _ (Same.refl _)
  have d1 : decide (b < a) = false := decide_eq_false g1
  by_cases g2 : (D.C.length : Int) < b
  case pos =>
    have HZ := hid (HNo.out fun h => by have := h.2.2.1; omega)
    have d2 : decide ((D.C.length : Int) < b) = true := decide_eq_true g2
    clear g0 g1 g2 HNo HYes HNw HRe
    go_enter Try.func62, Try.ntmps62
    go_wp2_with fail
    go_ret2
    exact HZ.out _ (Same.refl _)
  have d2 : decide ((D.C.length : Int) < b) = false := decide_eq_false g2
  by_cases g3 : life < 1
  case pos =>
    have HZ := hid (HNo.out fun h => by have := h.2.2.2.1; omega)
    have d3 : decide (life < 1) = true := decide_eq_true g3
    clear g0 g1 g2 g3 HNo HYes HNw HRe
    go_enter Try.func62, Try.ntmps62
    go_wp2_with fail
    go_ret2
    exact HZ.out _ (Same.refl _)
  have d3 : decide (life < 1) = false := decide_eq_false g3
  by_cases g4 : 16777215 < life
  case pos =>
    have HZ := hid (HNo.out fun h => by have := h.2.2.2.2.1; omega)
    have d4 : decide (16777215 < life) = true := decide_eq_true g4
    clear g0 g1 g2 g3 g4 HNo HYes HNw HRe
    go_enter Try.func62, Try.ntmps62
    go_wp2_with fail
    go_ret2
    exact HZ.out _ (Same.refl _)
  have d4 : decide (16777215 < life) = false := decide_eq_false g4
  by_cases g5 : era < 0
  case pos =>
    have HZ := hid (HNo.out fun h => by have := h.2.2.2.2.2.1; omega)
    have d5 : decide (era < 0) = true := decide_eq_true g5
    clear g0 g1 g2 g3 g4 g5 HNo HYes HNw HRe
    go_enter Try.func62, Try.ntmps62
    go_wp2_with fail
    go_ret2
    exact HZ.out _ (Same.refl _)
  have d5 : decide (era < 0) = false := decide_eq_false g5
  by_cases g6 : 16777215 < era
  case pos =>
    have HZ := hid (HNo.out fun h => by have := h.2.2.2.2.2.2.1; omega)
    have d6 : decide (16777215 < era) = true := decide_eq_true g6
    clear g0 g1 g2 g3 g4 g5 g6 HNo HYes HNw HRe
    go_enter Try.func62, Try.ntmps62
    go_wp2_with fail
    go_ret2
    exact HZ.out _ (Same.refl _)
  have d6 : decide (16777215 < era) = false := decide_eq_false g6
  obtain ⟨x, rfl⟩ := Int.eq_ofNat_of_zero_le (a := a) (by omega)
  obtain ⟨y, rfl⟩ := Int.eq_ofNat_of_zero_le (a := b) (by omega)
  have hxy : x ≤ y := by omega
  have hyl : y ≤ D.C.length := by omega
  have HNx := hid (HNw.out x y hxy hyl)
  have hm : ((y : Int) - (x : Int)).toNat = y - x := by omega
  rw [hm] at HNo HYes
  have d0' : decide ((x : Int) < 0) = false := by simp
  have d1' : decide (y < x) = false := decide_eq_false (by omega)
  have d2' : decide (D.C.length < y) = false := decide_eq_false (by omega)
  by_cases g7 : D.most (x : Int) (y - x) < life
  case neg =>
    have HZ := hid (HNo.out fun h => g7 h.2.2.2.2.2.2.2)
    have d7 : decide (life ≤ D.most (x : Int) (y - x)) = true := decide_eq_true (by omega)
    clear g0 g1 g2 g3 g4 g5 g6 g7 HNo HYes HNw HRe hm
    generalize D.most (x : Int) (y - x) = m at *
    go_enter Try.func62, Try.ntmps62
    go_wp2_with fail
    refine HNx.out.mono ?_
    rintro en w1 ⟨rfl, S1⟩
    have S1 := hid S1
    go_wp2_with fail
    go_ret2
    exact HZ.out _ S1.out
  have HE := hid (HYes.out ⟨by omega, by omega, by omega, by omega, by omega, by omega, by omega, g7⟩)
  have d7 : decide (life ≤ D.most (x : Int) (y - x)) = false := decide_eq_false (by omega)
  clear g0 g1 g2 g3 g4 g5 g6 g7 HNo HYes HNw hm
  generalize D.most (x : Int) (y - x) = m at *
  go_enter Try.func62, Try.ntmps62
  go_wp2_with fail
  refine HNx.out.mono ?_
  rintro en w1 ⟨rfl, S1⟩
  have S1 := hid S1
  go_wp2_with fail
  refine (HRe.out _ S1.out x y hxy hyl).mono ?_
  rintro en w2 ⟨v2, rfl, O2, S2⟩
  obtain ⟨a2, q2, rfl, _, _⟩ := O2.rows.form
  have HX := hid (IsRs.new (p := .pointer (some ⟨pb, 0, none⟩)) (life := life) (O2.mono S1.out.size) (S1.out.trans S2) HE.out _ rfl)
  clear O2 S2 c0 c1 c2 c3 c4
  generalize (D.read (y : Int) era (x : Int) 1 0).1.length = lr at *
  generalize ((D.read (y : Int) era (x : Int) 1 0).2.1 - (x : Int)) = us at *
  go_wp2_with fail
  go_ret2
  exact HX.out
end Go.Proofs.Ytlhnpicmjjddeaa
namespace Go.Proofs.Ytlhnpicmjjddeaa
open Go.RowKit

/-- what Append leaves -/
def RetApp (r : Int × Sc × Dv) (s p : Value) (FD FS : Nat → Prop) (w : World) (en : Ending) (w' : World) : Prop :=
  ∃ FS', en = .returned (.int .i64 r.1) ∧ Keep (fun k => FD k ∨ FS k) w w' ∧ IsDv w' p FD r.2.2 ∧ IsSc w' s p FS' r.2.1 ∧ Grow FS FS' w w'
theorem append_dead {S : Sc} {D : Dv} {b : List UInt8} (h : S.dead = true ∨ D.off = true) : S.append D b = (9, S, D) := if_pos h
theorem append_cut {S : Sc} {D : Dv} {b : List UInt8} (h : ¬ (S.dead = true ∨ D.off = true)) (h2 : cutE S.life S.era (S.all.length + 1) b ≠ 0) : S.append D b = (cutE S.life S.era (S.all.length + 1) b, S, D) := by
  unfold Sc.append; rw [if_neg h, if_pos h2]
theorem append_full {S : Sc} {D : Dv} {b : List UInt8} (h : ¬ (S.dead = true ∨ D.off = true)) (h2 : cutE S.life S.era (S.all.length + 1) b = 0) (h3 : S.till - S.at_ < (cutL S.life S.era (S.all.length + 1) b).length) : S.append D b = (10, S, D) := by
  unfold Sc.append; rw [if_neg h, if_neg (by rw [h2]; exact fun x => x rfl), if_pos h3]
theorem append_bad {S : Sc} {D : Dv} {b : List UInt8} (h : ¬ (S.dead = true ∨ D.off = true)) (h2 : cutE S.life S.era (S.all.length + 1) b = 0) (h3 : ¬ S.till - S.at_ < (cutL S.life S.era (S.all.length + 1) b).length) (h4 : (D.write S.at_ (cutL S.life S.era (S.all.length + 1) b)).1 ≠ 0) :
    S.append D b = ((D.write S.at_ (cutL S.life S.era (S.all.length + 1) b)).1, { S with dead := true }, (D.write S.at_ (cutL S.life S.era (S.all.length + 1) b)).2) := by
  unfold Sc.append; rw [if_neg h, if_neg (by rw [h2]; exact fun x => x rfl), if_neg h3, if_pos h4]
theorem append_good {S : Sc} {D : Dv} {b : List UInt8} (h : ¬ (S.dead = true ∨ D.off = true)) (h2 : cutE S.life S.era (S.all.length + 1) b = 0) (h3 : ¬ S.till - S.at_ < (cutL S.life S.era (S.all.length + 1) b).length) (h4 : (D.write S.at_ (cutL S.life S.era (S.all.length + 1) b)).1 = 0) :
    S.append D b = (0, { S with all := S.all ++ [b], at_ := S.at_ + (cutL S.life S.era (S.all.length + 1) b).length, last := S.life }, (D.write S.at_ (cutL S.life S.era (S.all.length + 1) b)).2) := by
  unfold Sc.append; rw [if_neg h, if_neg (by rw [h2]; exact fun x => x rfl), if_neg h3, if_neg (by rw [h4]; exact fun x => x rfl)]
set_option maxHeartbeats 12800000 in
set_option maxRecDepth 100000 in
theorem cAppend (w : World) (s p v : Value) (FD FS : Nat → Prop) (D : Dv) (S : Sc) (b : List UInt8) (e : TypeId) (hD : IsDv w p FD D) (hS : IsSc w s p FS S) (hx : ∀ i, FD i → ¬ FS i) (hF : ∀ k, FD k → k < w.heap.size)
    (hb : Bytes w e v b) (hl : b.length ≤ 20000) (hnb : ∀ g, homeOf v = some g → ¬ FD g) : Calls Try.prog 69 #[s, v] w (RetApp (S.append D b) s p FD FS w) := by
  have HOk := hid (cOk w s p FS S hS hD.ptr)
  have HLv := hid (fun w' (Z : Same w w') => dLiveD w' p FD D (hD.same Z))
  have HS0 := hid hS
  have HD := hid hD
  have hok := hS.ok
  have HCut := hid (fun w' (Z : Same w w') => fCut w' e v S.life S.era (S.all.length + 1) b (hb.same Z) (by omega))
  have HBy := hid hb
  have Hl := hid hl
  have HNb := hid hnb
  have HF := hid hF
  have Hx := hid hx
  have HBl := hid bClone
  obtain ⟨pb, rfl⟩ := hD.ptr
  obtain ⟨sb, rv, rfl, hB, hFb, hQ, _⟩ := hS
  obtain ⟨av, cv, rfl, f1, f2⟩ := hQ.rows.form
  obtain ⟨ab, cb, rfl, _, _⟩ := hb.form
  have HB := hid hB
  have HQ := hid hQ
  have HFb := hid hFb
  have Hok := hid hok
  have HStop : Hid (∀ r, S.append D b = (r, S, D) → ∀ w', Same w w' → RetApp (S.append D b) (.pointer (some ⟨sb, 0, none⟩)) (.pointer (some ⟨pb, 0, none⟩)) FD FS w (.returned (.int .i64 r)) w') := fun r h w' Z => by
    rw [h]
    exact ⟨FS, rfl, Z.keep _, HD.out.same Z, HS0.out.same Z, Grow.refl _ _ _⟩
  have HA1 := hid (@append_dead S D b)
  have HA2 := hid (@append_cut S D b)
  have HA3 := hid (@append_full S D b)
  have HA4 := hid (@append_bad S D b)
  have HA5 := hid (@append_good S D b)
  have hfit := hok.fit
  have hfew : S.all.length ≤ 2048 := by have := hok.few; omega
  clear hD hb hl hnb hF hx hB hFb hQ hok f1
  go_enter Try.func69, Try.ntmps69
  go_wp2_with fail
  refine HOk.out.mono ?_
  rintro en w1 ⟨rfl, S1⟩
  have S1 := hid S1
  obtain ⟨c0, c1, c2, c3, c4, c5, c6, c7, c8⟩ := Box9.cells (HB.out.same S1.out)
  cases hdead : S.dead
  case true =>
    have hz := hid (HA1.out (.inl hdead))
    rw [hdead] at c8
    clear hdead
    go_wp2_with fail
    go_ret
    exact HStop.out _ hz.out _ S1.out
  rw [hdead] at c8
  have Hdead := hid hdead
  clear hdead
  go_wp2_with fail
  refine (HLv.out _ S1.out).mono ?_
  rintro en w2 ⟨rfl, S2⟩
  have S2 := hid (S1.out.trans S2)
  clear c0 c1 c2 c3 c4 c5 c6 c7 c8
  cases hoff : D.off
  case true =>
    have hz := hid (HA1.out (.inr hoff))
    clear hoff
    go_wp2_with fail
    go_ret
    exact HStop.out _ hz.out _ S2.out
  have Hno : Hid (¬ (S.dead = true ∨ D.off = true)) := by
    show ¬ _
    rw [Hdead.out, hoff]; simp
  clear hoff
  obtain ⟨c0, c1, c2, c3, c4, c5, c6, c7, c8⟩ := Box9.cells (HB.out.same S2.out)
  have HC2 := hid (HCut.out w2.drew S2.out.drew)
  have hw1 : IntKind.i64.wrap ((S.all.length : Int) + 1) = (S.all.length : Int) + 1 := by rw [IntKind.wrap_i64]; omega
  go_wp2_with fail
  go_region_held3 (fun w' => w'.cell? ⟨sb, 3, none⟩ = some (.int .i64 S.life) ∧ w'.cell? ⟨sb, 2, none⟩ = some (.int .i64 S.till) ∧ w'.cell? ⟨sb, 4, none⟩ = some (.int .i64 S.era) ∧ w'.cell? ⟨sb, 7, none⟩ = some (.slice av S.all.length cv))
    (first | with_reducible exact ⟨by assumption, by assumption, by assumption, by assumption⟩ | go_keep)
    (first | (go_at_call 52; (with_reducible refine HC2.out.mono ?_); rintro en w3 ⟨v3, rfl, O3, S3⟩; obtain ⟨a3, q3, rfl, _, _⟩ := O3.rows.form; obtain ⟨m0, m1, m2, m3, m4, m5, m6, m7, m8⟩ := Box9.cells (HB.out.same (S2.out.drew.trans S3))))
  have S3 := hid (S2.out.drew.trans S3)
  clear c0 c1 c2 c3 c4 c5 c6 c7 c8 HC2 HCut
  by_cases hce : cutE S.life S.era (S.all.length + 1) b = 0
  case neg =>
    have hz := hid (HA2.out Hno.out hce)
    have hnz : (cutE S.life S.era (S.all.length + 1) b != 0) = true := by rw [bne_iff_ne]; exact hce
    clear hce
    generalize cutE S.life S.era (S.all.length + 1) b = ce at *
    go_wp2_with fail
    go_ret
    exact HStop.out _ hz.out _ S3.out
  have hca : cutAll S.life S.era (S.all.length + 1) b = cutL S.life S.era (S.all.length + 1) b := by unfold cutAll; rw [if_pos hce]
  have Hce := hid hce
  rw [hca] at O3 ⊢
  rw [hce]
  have hll := cutL_length S.life S.era (S.all.length + 1) b
  have hlp := nparts_pos b.length
  have hlb : nparts b.length ≤ 255 := (cutE_zero.1 hce).1
  clear hce hca
  have HA3' := hid (HA3.out Hno.out Hce.out)
  have HA4' := hid (HA4.out Hno.out Hce.out)
  have HA5' := hid (HA5.out Hno.out Hce.out)
  clear HA1 HA2 HA3 HA4 HA5
  generalize cutL S.life S.era (S.all.length + 1) b = ls at *
  rw [← hll] at hlp hlb
  clear hll
  by_cases hfu : S.till - S.at_ < ls.length
  case pos =>
    have hz := hid (HA3'.out hfu)
    have hd : decide (S.till - S.at_ < (ls.length : Int)) = true := by simpa using hfu
    clear hfu
    go_wp2_with fail
    go_quiet (fail)
    go_wp2_with fail
    go_ret
    exact HStop.out _ hz.out _ (S3.out.drewN _)
  have Hfu := hid hfu
  have hd : decide (S.till - S.at_ < (ls.length : Int)) = false := by simpa using hfu
  have HA4'' := hid (HA4'.out (Int.not_lt.1 hfu))
  have HA5'' := hid (HA5'.out (Int.not_lt.1 hfu))
  clear hfu HA3' HA4' HA5'
  go_wp2_with fail
  go_quiet (fail)
  have S4 := hid (S3.out.drewN nq)
  have O4 := hid (O3.same ((Same.refl w3).drewN nq))
  clear m0 m1 m2 m3 m4 m5 m6 m7 m8 O3 hd
  generalize w3.drewN nq = w4 at *
  have RN := hid (O4.out.rows2N (M := FD) (fun k hk => by have h1 := HF.out k hk; have h2 := S2.out.size; simp; omega))
  have HW := hid (dWrite w4.drew _ FD D S.at_ 23 _ ls (HD.out.same S4.out.drew) (RN.out.keep ((Same.refl w4).drew.keep FD)))
  have hsb : Hid (¬ FD sb) := fun h => Hx.out sb h HFb.out
  obtain ⟨c0, c1, c2, c3, c4, c5, c6, c7, c8⟩ := Box9.cells (HB.out.same S4.out)
  generalize D.write S.at_ ls = R at *
  obtain ⟨re, D'⟩ := R
  simp only at HA4'' HA5''
  go_wp2_with fail
  go_region_held3 (fun w' => w'.cell? ⟨sb, 0, none⟩ = some (.pointer (some ⟨pb, 0, none⟩)) ∧ w'.cell? ⟨sb, 6, none⟩ = some (.int .i64 S.at_))
    (first | with_reducible exact ⟨by assumption, by assumption⟩ | go_keep)
    (first | (go_at_call 34; (with_reducible refine HW.out.mono ?_); rintro en w5 ⟨rfl, K5, D5⟩; obtain ⟨m0, m1, m2, m3, m4, m5, m6, m7, m8⟩ := Box9.cells (Box9.keep (HB.out.same S4.out.drew) K5 hsb.out)))
  have K5 := hid (((Same.keep S4.out.drew FD)).trans K5)
  have D5 := hid D5
  have B5 := hid (Box9.keep HB.out K5.out hsb.out)
  have Q5 := hid (HQ.out.keep K5.out (fun i hi hn => Hx.out i hn hi))
  clear c0 c1 c2 c3 c4 c5 c6 c7 c8 HW RN O4
  by_cases hre : re = 0
  case neg =>
    have hz := hid (HA4''.out hre)
    have hnz : (re != 0) = true := by rw [bne_iff_ne]; exact hre
    have z8 := B5.out.free 8
    clear hre
    go_wp2_with fail
    go_ret
    rw [hz.out]
    have K6 : Keep (fun k => k = sb) w5 (w5.setCell ⟨sb, 8, none⟩ (.bool true)) := (Keep.refl (fun k => k = sb) w5).setCell (p := ⟨sb, 8, none⟩) (.inl rfl) _
    refine ⟨FS, rfl, (K5.out.weak' fun i hi => .inl hi).trans (K6.weak' fun i hi => by subst hi; exact .inr HFb.out), D5.out.keep K6 (fun i hi e => by subst e; exact hsb.out hi), ⟨sb, _, rfl, Box9.set8 B5.out _, HFb.out, Q5.out.box9 B5.out K6, ?_⟩, Grow.refl _ _ _⟩
    obtain ⟨o1, o2, o3, o4, o5, o6⟩ := Hok.out
    exact ⟨o1, o2, o3, o4, o5, o6⟩
  subst hre
  have HZ := hid (HA5''.out rfl)
  clear HA4'' HA5''
  go_upto_region 14 with fail
  have HK7 := K5
  have B7 := B5
  have Q7 := Q5
  have HCl := hid (HBl.out w5.drew e _ b ((HBy.out.keep K5.out HNb.out).same (Same.refl w5).drew) (show b.length ≤ 1000000 by have := Hl.out; omega))
  have hlq : Hid (S.all.length ≤ 1000000) := show _ ≤ _ by omega
  obtain ⟨SS, hSS⟩ : ∃ SS : Bool → World → Prop, ∀ bz wz, SS bz wz ↔ (bz = false → wz.cell? ⟨sb, 7, none⟩ = some (.slice av S.all.length cv) ∧ wz.cell? ⟨sb, 6, none⟩ = some (.int .i64 S.at_) ∧ wz.cell? ⟨sb, 3, none⟩ = some (.int .i64 S.life)) := ⟨_, fun _ _ => Iff.rfl⟩
  have HSS := hid hSS
  have hw : IntKind.i64.wrap (S.at_ + (ls.length : Int)) = S.at_ + (ls.length : Int) := by rw [IntKind.wrap_i64]; have := Hfu.out; omega
  clear hSS m0 m1 m2 m4 m5 m8
  generalize w5 = w7 at *
  refine wp_region_B 24 SS (by kernel_rfl) ((HSS.out _ _).2 fun _ => ⟨m7, m6, m3⟩) (fun hHeld => ?_)
  clear m3 m6 m7
  refine' wpAnyB_take (i := 0) (b := false) rfl (by kernel_rfl) (by kernel_rfl) (by kernel_rfl) (by decide) (by kernel_rfl) (fun _ _ _ h => h) (by assumption) (.inl ⟨by rfl, ?_⟩) ?_
  rotate_left
  · (intro wz hSw; go_simp; try with_reducible rfl)
  try simp only [Act.put, List.setIfInBounds_toArray, List.set_cons_zero, List.set_cons_succ]
  refine' wpAnyB_take (i := 1) (b := false) rfl (by kernel_rfl) (by kernel_rfl) (by kernel_rfl) (by decide) (by kernel_rfl) (fun _ _ _ h => h) (by assumption) (.inl ⟨by rfl, ?_⟩) ?_
  rotate_left
  · (intro wz hSw; go_simp; try with_reducible rfl)
  try simp only [Act.put, List.setIfInBounds_toArray, List.set_cons_zero, List.set_cons_succ]
  refine' wpAnyB_take (i := 2) (b := false) rfl (by kernel_rfl) (by kernel_rfl) (by kernel_rfl) (by decide) (by kernel_rfl) (fun _ _ _ h => h) (by assumption) (.inl ⟨by rfl, ?_⟩) ?_
  rotate_left
  · (intro wz hSw; go_simp; try with_reducible rfl)
  try simp only [Act.put, List.setIfInBounds_toArray, List.set_cons_zero, List.set_cons_succ]
  refine' wpAnyB_take (i := 3) (b := false) rfl (by kernel_rfl) (by kernel_rfl) (by kernel_rfl) (by decide) (by kernel_rfl) (fun _ _ _ h => h) (by assumption) (.inl ⟨by rfl, ?_⟩) ?_
  rotate_left
  · (intro wz hSw; go_simp; try with_reducible rfl)
  try simp only [Act.put, List.setIfInBounds_toArray, List.set_cons_zero, List.set_cons_succ]
  refine' wpAnyB_take (i := 4) (b := false) rfl (by kernel_rfl) (by kernel_rfl) (by kernel_rfl) (by decide) (by kernel_rfl) (fun _ _ _ h => h) (by assumption) (.inl ⟨by rfl, ?_⟩) ?_
  rotate_left
  · (intro wz hSw; go_simp; try with_reducible rfl)
  try simp only [Act.put, List.setIfInBounds_toArray, List.set_cons_zero, List.set_cons_succ]
  refine' wpAnyB_take (i := 5) (b := false) rfl (by kernel_rfl) (by kernel_rfl) (by kernel_rfl) (by decide) (by kernel_rfl) (fun _ _ _ h => h) (by assumption) (.inl ⟨by rfl, ?_⟩) ?_
  rotate_left
  · (intro wz hSw; go_simp; try with_reducible rfl)
  try simp only [Act.put, List.setIfInBounds_toArray, List.set_cons_zero, List.set_cons_succ]
  refine' wpAnyB_early (i := 6) rfl (by kernel_rfl) (by kernel_rfl) (by kernel_rfl) (by decide) (by kernel_rfl) (by kernel_rfl) (fun _ _ _ h => h) (by assumption) (.inl ⟨by rfl, ?_⟩) ?_
  rotate_left
  · (intro wz hSw; obtain ⟨h7, h6, h3⟩ := (HSS.out _ _).1 hSw rfl; go_simp; try with_reducible rfl)
  try simp only [Act.put, List.setIfInBounds_toArray, List.set_cons_zero, List.set_cons_succ]
  refine' wpAnyB_take (i := 7) (b := false) rfl (by kernel_rfl) (by kernel_rfl) (by kernel_rfl) (by decide) (by kernel_rfl) (fun _ _ _ h => h) (by assumption) (.inl ⟨by rfl, ?_⟩) ?_
  rotate_left
  · (intro wz hSw; go_simp; try with_reducible rfl)
  try simp only [Act.put, List.setIfInBounds_toArray, List.set_cons_zero, List.set_cons_succ]
  refine' wpAnyB_take (i := 11) (b := false) rfl (by kernel_rfl) (by kernel_rfl) (by kernel_rfl) (by decide) (by kernel_rfl) (fun _ _ _ h => h) (by assumption) (.inl ⟨by rfl, ?_⟩) ?_
  rotate_left
  · (intro wz hSw; go_simp; try with_reducible rfl)
  try simp only [Act.put, List.setIfInBounds_toArray, List.set_cons_zero, List.set_cons_succ]
  refine' wpAnyB_take (i := 12) (b := false) rfl (by kernel_rfl) (by kernel_rfl) (by kernel_rfl) (by decide) (by kernel_rfl) (fun _ _ _ h => h) (by assumption) (.inl ⟨by rfl, ?_⟩) ?_
  rotate_left
  · (intro wz hSw; go_simp; try with_reducible rfl)
  try simp only [Act.put, List.setIfInBounds_toArray, List.set_cons_zero, List.set_cons_succ]
  refine' wpAnyB_take (i := 13) (b := false) rfl (by kernel_rfl) (by kernel_rfl) (by kernel_rfl) (by decide) (by kernel_rfl) (fun _ _ _ h => h) (by assumption) (.inl ⟨by rfl, ?_⟩) ?_
  rotate_left
  · (intro wz hSw; go_simp; try with_reducible rfl)
  try simp only [Act.put, List.setIfInBounds_toArray, List.set_cons_zero, List.set_cons_succ]
  refine' wpAnyB_early (i := 14) rfl (by kernel_rfl) (by kernel_rfl) (by kernel_rfl) (by decide) (by kernel_rfl) (by kernel_rfl) (fun _ _ _ h => h) (by assumption) (.inl ⟨by rfl, ?_⟩) ?_
  rotate_left
  · (intro wz hSw; obtain ⟨h7, h6, h3⟩ := (HSS.out _ _).1 hSw rfl; go_simp; try with_reducible rfl)
  try simp only [Act.put, List.setIfInBounds_toArray, List.set_cons_zero, List.set_cons_succ]
  refine' wpAnyB_take (i := 15) (b := false) rfl (by kernel_rfl) (by kernel_rfl) (by kernel_rfl) (by decide) (by kernel_rfl) (fun _ _ _ h => h) (by assumption) (.inl ⟨by rfl, ?_⟩) ?_
  rotate_left
  · (intro wz hSw; go_simp; try with_reducible rfl)
  try simp only [Act.put, List.setIfInBounds_toArray, List.set_cons_zero, List.set_cons_succ]
  refine' wpAnyB_take (i := 16) (b := false) rfl (by kernel_rfl) (by kernel_rfl) (by kernel_rfl) (by decide) (by kernel_rfl) (fun _ _ _ h => h) (by assumption) (.inl ⟨by rfl, ?_⟩) ?_
  rotate_left
  · (intro wz hSw; go_simp; try with_reducible rfl)
  try simp only [Act.put, List.setIfInBounds_toArray, List.set_cons_zero, List.set_cons_succ]
  refine' wpAnyB_take (i := 17) (b := false) rfl (by kernel_rfl) (by kernel_rfl) (by kernel_rfl) (by decide) (by kernel_rfl) (fun _ _ _ h => h) (by assumption) (.inl ⟨by rfl, ?_⟩) ?_
  rotate_left
  · (intro wz hSw; go_simp; try with_reducible rfl)
  try simp only [Act.put, List.setIfInBounds_toArray, List.set_cons_zero, List.set_cons_succ]
  refine' wpAnyB_take (i := 18) (b := false) rfl (by kernel_rfl) (by kernel_rfl) (by kernel_rfl) (by decide) (by kernel_rfl) (fun _ _ _ h => h) (by assumption) (.inl ⟨by rfl, ?_⟩) ?_
  rotate_left
  · (intro wz hSw; go_simp; try with_reducible rfl)
  try simp only [Act.put, List.setIfInBounds_toArray, List.set_cons_zero, List.set_cons_succ]
  refine' wpAnyB_take (i := 19) (b := false) rfl (by kernel_rfl) (by kernel_rfl) (by kernel_rfl) (by decide) (by kernel_rfl) (fun _ _ _ h => h) (by assumption) (.inl ⟨by rfl, ?_⟩) ?_
  rotate_left
  · (intro wz hSw; go_simp; try with_reducible rfl)
  try simp only [Act.put, List.setIfInBounds_toArray, List.set_cons_zero, List.set_cons_succ]
  refine' wpAnyB_take (i := 20) (b := false) rfl (by kernel_rfl) (by kernel_rfl) (by kernel_rfl) (by decide) (by kernel_rfl) (fun _ _ _ h => h) (by assumption) (.inl ⟨by rfl, ?_⟩) ?_
  rotate_left
  · (intro wz hSw; go_simp; try with_reducible rfl)
  try simp only [Act.put, List.setIfInBounds_toArray, List.set_cons_zero, List.set_cons_succ]
  refine' wpAnyB_early (i := 21) rfl (by kernel_rfl) (by kernel_rfl) (by kernel_rfl) (by decide) (by kernel_rfl) (by kernel_rfl) (fun _ _ _ h => h) (by assumption) (.inl ⟨by rfl, ?_⟩) ?_
  rotate_left
  · (intro wz hSw; obtain ⟨h7, h6, h3⟩ := (HSS.out _ _).1 hSw rfl; go_simp; try with_reducible rfl)
  try simp only [Act.put, List.setIfInBounds_toArray, List.set_cons_zero, List.set_cons_succ]
  refine wpAnyB_only (i := 8) (b := false) rfl (by kernel_rfl) (by kernel_rfl) (fun K hK => ?_)
  go_simp
  go_at_call 99
  refine HCl.out.mono ?_
  rintro en w9 ⟨v9, rfl, O9, Z9⟩
  obtain ⟨a9, q9, rfl, _, _⟩ := O9.bytes.form
  have O9 := hid O9
  have Z9 := hid ((Same.refl w7).drew.trans Z9)
  have B9 := hid (B7.out.same Z9.out)
  obtain ⟨c0, c1, c2, c3, c4, c5, c6, c7, c8⟩ := Box9.cells B9.out
  have Y := hid (show Sl (w9.alloc (.cells #[.slice a9 b.length q9] 23)) 23 1 (.slice (some ⟨w9.heap.size, 0, none⟩) 1 1) 1 [.slice a9 b.length q9] from Sl.made 23 1 w9.heap.size 1 1 _ _ (heap_alloc_new w9 _) (Nat.le_refl _) (by decide) rfl ⟨[], rfl⟩)
  have W9 := hid ((Same.refl w9).alloc (.cells #[.slice a9 b.length q9] 23))
  obtain ⟨F0, hF0⟩ : ∃ F0 : Nat → Prop, F0 = fun k => FS k ∨ (w.heap.size ≤ k ∧ k < w9.heap.size) := ⟨_, rfl⟩
  have HF0 := hid hF0
  clear hF0
  have UB := hid (O9.out.bytes.same W9.out)
  have QX := hid ((Q7.out.same (Z9.out.trans W9.out)).foot (F' := F0) (fun i hi => by rw [HF0.out]; exact .inl hi))
  have UF : Hid (∀ g, homeOf (.slice a9 b.length q9) = some g → F0 g) := fun g hg => by
    rw [HF0.out]
    have h1 := (O9.out.lt g (home_own hg))
    have h2 := HK7.out.size
    simp at h1
    exact .inr ⟨by omega, h1.2⟩
  have B10 := hid (B9.out.same W9.out)
  refine hK.out _ _ ((HSS.out _ _).2 fun _ => ⟨c7, c6, c3⟩) (fun hHeld => ?_)
  clear hK K
  try simp only [Act.put, List.setIfInBounds_toArray, List.set_cons_zero, List.set_cons_succ]
  refine wpAnyB_only (i := 9) (b := false) rfl (by kernel_rfl) (by kernel_rfl) (fun K hK => ?_)
  go_simp
  refine hK.out _ _ ((HSS.out _ _).2 fun _ => ⟨(Box9.cells B10.out).2.2.2.2.2.2.2.1, (Box9.cells B10.out).2.2.2.2.2.2.1, (Box9.cells B10.out).2.2.2.1⟩) (fun hHeld => ?_)
  clear hK K
  try simp only [Act.put, List.setIfInBounds_toArray, List.set_cons_zero, List.set_cons_succ]
  refine wpAnyB_only (i := 10) (b := false) rfl (by kernel_rfl) (by kernel_rfl) (fun K hK => ?_)
  refine step_append_q (by rfl) (.tmp 86) (.tmp 89) 36 tyRows (by rfl) QX.out Y.out UB.out UF.out (by rfl) (by rfl) hlq.out ?_
  intro x8 w8 Q8 K8
  have B8 := B10.out.keep K8 (fun e => QX.out.apart9 B10.out e)
  obtain ⟨m0, m1, m2, m3, m4, m5, m6, m7, m8⟩ := Box9.cells B8
  have z7 := B8.free 7
  have z6 := B8.free 6
  have z5 := B8.free 5
  obtain ⟨a8, q8, rfl, _, _⟩ := Q8.rows.form
  refine hK.out _ _ ((HSS.out _ _).2 fun _ => ⟨m7, m6, m3⟩) (fun hHeld => ?_)
  clear hK K
  try simp only [Act.put, List.setIfInBounds_toArray, List.set_cons_zero, List.set_cons_succ]
  refine' wpAnyB_take (i := 22) (b := false) rfl (by kernel_rfl) (by kernel_rfl) (by kernel_rfl) (by decide) (by kernel_rfl) (fun _ _ _ h => h) (by assumption) (.inl ⟨by rfl, ?_⟩) ?_
  rotate_left
  · (intro wz hSw; go_simp; try with_reducible rfl)
  try simp only [Act.put, List.setIfInBounds_toArray, List.set_cons_zero, List.set_cons_succ]
  refine' wpAnyB_take (i := 23) (b := false) rfl (by kernel_rfl) (by kernel_rfl) (by kernel_rfl) (by decide) (by kernel_rfl) (fun _ _ _ h => h) (by assumption) (.inl ⟨by rfl, ?_⟩) ?_
  rotate_left
  · (intro wz hSw; go_simp; try with_reducible rfl)
  try simp only [Act.put, List.setIfInBounds_toArray, List.set_cons_zero, List.set_cons_succ]
  refine wpAnyB_only (i := 24) (b := true) rfl (by kernel_rfl) (by kernel_rfl) (fun K hK => ?_)
  go_simp
  refine hK.out _ _ ((HSS.out _ _).2 fun h => Bool.noConfusion h) (fun hHeld => ?_)
  clear hK K
  try simp only [Act.put, List.setIfInBounds_toArray, List.set_cons_zero, List.set_cons_succ]
  refine' wpAnyB_take (i := 25) (b := true) rfl (by kernel_rfl) (by kernel_rfl) (by kernel_rfl) (by decide) (by kernel_rfl) (fun _ _ _ h => h) (by assumption) (.inl ⟨by rfl, ?_⟩) ?_
  rotate_left
  · (intro wz hSw; go_simp; try with_reducible rfl)
  try simp only [Act.put, List.setIfInBounds_toArray, List.set_cons_zero, List.set_cons_succ]
  refine' wpAnyB_take (i := 26) (b := true) rfl (by kernel_rfl) (by kernel_rfl) (by kernel_rfl) (by decide) (by kernel_rfl) (fun _ _ _ h => h) (by assumption) (.inl ⟨by rfl, ?_⟩) ?_
  rotate_left
  · (intro wz hSw; go_simp; try with_reducible rfl)
  try simp only [Act.put, List.setIfInBounds_toArray, List.set_cons_zero, List.set_cons_succ]
  refine wpAnyB_only (i := 27) (b := true) rfl (by kernel_rfl) (by kernel_rfl) (fun K hK => ?_)
  go_simp
  refine hK.out _ _ ((HSS.out _ _).2 fun h => Bool.noConfusion h) (fun hHeld => ?_)
  clear hK K
  try simp only [Act.put, List.setIfInBounds_toArray, List.set_cons_zero, List.set_cons_succ]
  refine' wpAnyB_take (i := 28) (b := true) rfl (by kernel_rfl) (by kernel_rfl) (by kernel_rfl) (by decide) (by kernel_rfl) (fun _ _ _ h => h) (by assumption) (.inl ⟨by rfl, ?_⟩) ?_
  rotate_left
  · (intro wz hSw; go_simp; try with_reducible rfl)
  try simp only [Act.put, List.setIfInBounds_toArray, List.set_cons_zero, List.set_cons_succ]
  refine' wpAnyB_take (i := 29) (b := true) rfl (by kernel_rfl) (by kernel_rfl) (by kernel_rfl) (by decide) (by kernel_rfl) (fun _ _ _ h => h) (by assumption) (.inl ⟨by rfl, ?_⟩) ?_
  rotate_left
  · (intro wz hSw; go_simp; try with_reducible rfl)
  try simp only [Act.put, List.setIfInBounds_toArray, List.set_cons_zero, List.set_cons_succ]
  refine wpAnyB_only (i := 30) (b := true) rfl (by kernel_rfl) (by kernel_rfl) (fun K hK => ?_)
  go_simp
  refine hK.out _ _ ((HSS.out _ _).2 fun h => Bool.noConfusion h) (fun hHeld => ?_)
  clear hK K
  try simp only [Act.put, List.setIfInBounds_toArray, List.set_cons_zero, List.set_cons_succ]
  refine wpAnyB_done (by kernel_rfl) ?_ _
  go_wp2_with fail
  go_ret
  rw [HZ.out]
  have K9 : Keep (fun k => k = sb) w8 (((w8.setCell ⟨sb, 7, none⟩ (.slice a8 (S.all.length + 1) q8)).setCell ⟨sb, 6, none⟩ (.int .i64 (S.at_ + ls.length))).setCell ⟨sb, 5, none⟩ (.int .i64 S.life)) :=
    (((Keep.refl (fun k => k = sb) w8).setCell (p := ⟨sb, 7, none⟩) (.inl rfl) _).setCell (p := ⟨sb, 6, none⟩) (.inl rfl) _).setCell (p := ⟨sb, 5, none⟩) (.inl rfl) _
  have Q9 := Q8.box9 B8 K9
  have hlen : (S.all ++ [b]).length = S.all.length + 1 := by simp
  obtain ⟨us, qo, qF, _⟩ := HQ.out
  have hz7 := HK7.out.size
  have hz8 := Z9.out.size
  have hz9 := W9.out.size
  have hz10 := K8.size
  have hz11 := K9.size
  rw [hlen] at Q9
  obtain ⟨F1, Q9, hi1, hi2⟩ : ∃ F1 : Nat → Prop, OwnQ _ F1 (.slice a8 (S.all.length + 1) q8) (S.all ++ [b]) ∧ (∀ i, F0 i → F1 i) ∧ (∀ i, F1 i → F0 i ∨ (w9.heap.size ≤ i ∧ i < w8.heap.size)) := ⟨_, Q9, fun i h => Or.inl h, fun i h => h.imp id fun h => ⟨Nat.le_trans hz9 h.1, h.2⟩⟩
  have KA : Keep FS w7 w8 := ((Z9.out.trans W9.out).keep FS).trans (K8.weak' fun i hi => qF i hi)
  have KB : Keep FS w7 _ := KA.trans (K9.weak' fun i hi => by subst hi; exact HFb.out)
  refine ⟨F1, rfl, (HK7.out.weak' fun i hi => .inl hi).trans (KB.weak' fun i hi => .inr hi), D5.out.keep KB Hx.out, ⟨sb, _, rfl, Box9.set765 B8 _ _ _, hi1 sb (by rw [HF0.out]; exact .inl HFb.out), Q9, ?_⟩, ?_⟩
  · obtain ⟨o1, o2, o3, o4, o5, o6⟩ := Hok.out
    have hfu := Hfu.out
    refine ⟨⟨o1.1, ?_, ?_, o1.2.2.2⟩, ?_, ?_, o4, o5, o4⟩
    · show S.from_ ≤ S.at_ + (ls.length : Int); omega
    · show S.at_ + (ls.length : Int) ≤ S.till; omega
    · show (((S.all ++ [b]).length : Nat) : Int) ≤ S.at_ + (ls.length : Int)
      rw [hlen]; omega
    · intro r hr
      rcases List.mem_append.1 hr with hr | hr
      · exact o3 r hr
      · simp at hr; subst hr; have := Hl.out; omega
  · intro i hi
    rcases hi2 i hi with hi | hi
    · rw [HF0.out] at hi
      rcases hi with hi | hi
      · exact .inl hi
      · exact .inr ⟨hi.1, by omega⟩
    · exact .inr ⟨by omega, by omega⟩
end Go.Proofs.Ytlhnpicmjjddeaa
namespace Go.Proofs.Ytlhnpicmjjddeaa
open Go.RowKit

set_option maxHeartbeats 3200000 in
set_option maxRecDepth 100000 in
theorem rCutEmpty (w : World) (e : TypeId) (v : Value) (life era seq : Int) (hb : Bytes w e v []) :
    Calls Try.prog 53 #[.int .i64 life, .int .i64 era, .int .i64 seq, v] w (RetCut (cutAll life era seq []) (cutE life era seq []) w) := by
  have HBy := hid hb
  obtain ⟨ao, cap, rfl, h1, h2⟩ := hb.form
  unfold maxLen at h2
  have HE := hid rEncode
  have HSt := hid (cutAt_right_eq life era seq [] 0 (by decide) (by decide))
  have HCE : Hid (cutE life era seq [] = if stampOk life era seq = true then 0 else 2) := by
    show _ = _
    unfold cutE
    rw [if_pos (by decide)]
  have HLn : Hid (cutL life era seq [] = [enc (cutAt life era seq [] 0)]) := rfl
  have s1 := fun W => slice_00 W ao cap
  simp only [List.length_nil] at *
  clear hb
  go_enter Try.func53, Try.ntmps53
  go_wp2_with fail
  go_loopw [11, 12] (fun out i wr => ∃ k : Nat, k ≤ 1 ∧ (k = 0 ∨ stampOk life era seq = true) ∧ i = .int .i64 k ∧ OwnR wr w.heap.size out ((cutL life era seq []).take k) ∧ Same w wr) (fun _ i _ => 1 - (intOf i).toNat)
  case atStart => exact ⟨0, by omega, .inl rfl, rfl, OwnR.nil _ _, Same.refl w⟩
  case round =>
    obtain ⟨k, hk, hks, rfl, hO, S⟩ := hrel
    have HO := hid hO
    have HS := hid S
    have Hks := hid hks
    clear hO S hks
    match k, hk with
    | 0, _ =>
      have FV : FrV wr (.agg #[.int .i64 life, .int .i64 era, .int .i64 seq, .int .i64 0, .int .i64 1, .slice ao 0 cap]) (cutAt life era seq [] 0) := ⟨_, e, rfl, HBy.out.same HS.out⟩
      have HEk := hid (HE.out wr _ _ FV)
      clear FV
      go_wp2_with fail
      refine HEk.out.mono ?_
      rintro en w2 ⟨v2, rfl, O2, S2⟩
      have O2 := hid O2
      obtain ⟨a2, c2, rfl, _, _⟩ := O2.out.bytes.form
      have S3 := hid (HS.out.trans S2)
      have HO3 := hid (HO.out.same S2)
      have hOf : Hid (∀ g', homeOf (.slice a2 (encOf (cutAt life era seq [] 0)).length c2) = some g' → w.heap.size ≤ g') := fun g' hg' => Nat.le_trans HS.out.size (O2.out.fresh g' hg')
      have e1 : encE (cutAt life era seq [] 0) = if stampOk life era seq = true then 0 else 2 := by unfold encE; rw [HSt.out]
      have e2 : stampOk life era seq = true → encOf (cutAt life era seq [] 0) = enc (cutAt life era seq [] 0) := fun h => by unfold encOf; rw [HSt.out, h]; rfl
      have E2 := hid e2
      rw [e1]
      clear e1 e2 S2
      generalize encOf (cutAt life era seq [] 0) = ec at *
      cases hst : stampOk life era seq
      · have HR : Hid (cutAll life era seq [] = [] ∧ cutE life era seq [] = 2) := by
          have h2 : cutE life era seq [] = 2 := by rw [HCE.out, hst]; rfl
          refine ⟨?_, h2⟩
          unfold cutAll
          rw [h2]
          rfl
        rw [if_neg (by simp)]
        clear hst
        go_wp2_with fail
        go_ret2
        rw [HR.out.1, HR.out.2]
        exact ⟨_, rfl, OwnR.nil _ _, S3.out⟩
      · have Hst := hid hst
        have E3 := hid (E2.out hst)
        rw [if_pos rfl]
        clear hst
        go_wp2_with (at_builtin; refine wpList_append_rows rfl (.tmp 56) (.tmp 58) 36 tyRows rfl (HO3.out.same ((Same.refl w2).alloc _)) (one_row O2.out.bytes hOf.out).1 (one_row O2.out.bytes hOf.out).2 rfl rfl (by simp) (by have := S3.out.size; simp; omega) ?_; intro x1 w5 ho5 K6)
        go_roundw
        case rel => exact ⟨1, by omega, .inr Hst.out, rfl, by rw [HLn.out, ← E3.out]; exact ho5, (S3.out.alloc _).keepOwn K6 fun j hj => (HO3.out.lt j hj).1⟩
        case measure => simp [intOf]
    | 1, _ =>
      have hst : stampOk life era seq = true := by
        rcases Hks.out with h | h
        · omega
        · exact h
      have HR : Hid (cutAll life era seq [] = cutL life era seq [] ∧ cutE life era seq [] = 0) := by
        have h2 : cutE life era seq [] = 0 := by rw [HCE.out, hst]; rfl
        refine ⟨?_, h2⟩
        unfold cutAll
        rw [if_pos h2]
      clear hst
      go_wp2_with fail
      go_ret2
      rw [HR.out.1, HR.out.2]
      exact ⟨_, rfl, HO.out, HS.out⟩
/-- the reference's Cut -/
theorem rCut (w : World) (e : TypeId) (v : Value) (life era seq : Int) (b : List UInt8) (hb : Bytes w e v b) (hl : b.length ≤ 400) :
    Calls Try.prog 53 #[.int .i64 life, .int .i64 era, .int .i64 seq, v] w (RetCut (cutAll life era seq b) (cutE life era seq b) w) := by
  by_cases h0 : b.length = 0
  · obtain rfl := List.eq_nil_of_length_eq_zero h0
    exact rCutEmpty w e v life era seq hb
  · exact rCutGo w e v life era seq b hb hl h0
end Go.Proofs.Ytlhnpicmjjddeaa
namespace Go.Proofs.Ytlhnpicmjjddeaa
open Go.RowKit

/-- what Append of the reference leaves -/
def RetAppR (r : Int × Sc × Dv) (s p : Value) (FX FY N : Nat → Prop) (hm : Nat → Prop) (w : World) (en : Ending) (w' : World) : Prop :=
  ∃ FX' FY' N', en = .returned (.int .i64 r.1) ∧ Keep (fun k => FX k ∨ FY k) w w' ∧ IsRd w' p FX' r.2.2 ∧ IsRs w' s p FY' N' r.2.1 ∧ Grow FX FX' w w' ∧ Grow FY FY' w w' ∧ (∀ i, FX' i → ¬ FY' i) ∧ (∀ g, N' g → ¬ FX' g) ∧ (∀ g, N' g → N g ∨ hm g)
set_option maxHeartbeats 12800000 in
set_option maxRecDepth 100000 in
theorem rAppend (w : World) (s p v : Value) (FX FY N : Nat → Prop) (D : Dv) (S : Sc) (b : List UInt8) (e : TypeId) (hD : IsRd w p FX D) (hS : IsRs w s p FY N S) (hok : S.Ok) (hx : ∀ i, FX i → ¬ FY i) (hFX : ∀ k, FX k → k < w.heap.size) (hFY : ∀ k, FY k → k < w.heap.size)
    (hN : ∀ g, N g → ¬ FX g ∧ g < w.heap.size) (hb : Bytes w e v b) (hl : b.length ≤ 400) (hnb : ∀ g, homeOf v = some g → ¬ FX g ∧ ¬ FY g) :
    Calls Try.prog 70 #[s, v] w (RetAppR (S.append D b) s p FX FY N (fun g => homeOf v = some g) w) := by
  have HS0 := hid hS
  have HD := hid hD
  have HCut := hid (fun w' (Z : Same w w') => rCut w' e v S.life S.era (S.all.length + 1) b (hb.same Z) hl)
  have HBy := hid hb
  have HNb := hid hnb
  have HFX := hid hFX
  have HFY := hid hFY
  have Hx := hid hx
  have HN := hid hN
  obtain ⟨pb, drv, fz, kv, ks, dn, rfl, hDB, hD2, hD3, hD4, hD5, hD6⟩ := id hD
  obtain ⟨sb, rv, rfl, hB, hFb, hQ, hNF⟩ := hS
  obtain ⟨av, cv, rfl, f1, f2⟩ := hQ.rows.form
  obtain ⟨ab, cb, rfl, _, _⟩ := hb.form
  have HB := hid hB
  have HDB := hid hDB
  have HQ := hid hQ
  have HFb := hid hFb
  have HNF := hid hNF
  have HhN := hid (fun g (h : homeOf (.slice ab b.length cb) = some g) => Sl.home_lt hb h)
  have HStop : Hid (∀ r, S.append D b = (r, S, D) → ∀ w', Same w w' → RetAppR (S.append D b) (.pointer (some ⟨sb, 0, none⟩)) (.pointer (some ⟨pb, 0, none⟩)) FX FY N (fun g => homeOf (.slice ab b.length cb) = some g) w (.returned (.int .i64 r)) w') := fun r h w' Z => by
    rw [h]
    exact ⟨FX, FY, N, rfl, Z.keep _, HD.out.same Z, HS0.out.same Z, Grow.refl _ _ _, Grow.refl _ _ _, Hx.out, fun g hg => (HN.out g hg).1, fun g hg => .inl hg⟩
  have HA1 := hid (@append_dead S D b)
  have HA2 := hid (@append_cut S D b)
  have HA3 := hid (@append_full S D b)
  have HA4 := hid (@append_bad S D b)
  have HA5 := hid (@append_good S D b)
  have hfit := hok.fit
  have hfew : S.all.length ≤ 2048 := by have := hok.few; omega
  clear hD hb hnb hFX hFY hN hx hB hDB hFb hQ hNF hD2 hD3 hD4 hD5 hD6 hok f1
  obtain ⟨c0, c1, c2, c3, c4, c5, c6, c7⟩ := HB.out.cells
  obtain ⟨d0, d1, d2, d3, d4⟩ := HDB.out.cells
  cases hdead : S.dead
  case true =>
    have hz := hid (HA1.out (.inl hdead))
    rw [hdead] at c7
    clear hdead
    go_enter Try.func70, Try.ntmps70
    go_wp2_with fail
    go_ret
    exact HStop.out _ hz.out _ (Same.refl _)
  rw [hdead] at c7
  have Hdead := hid hdead
  clear hdead
  cases hoff : D.off
  case true =>
    have hz := hid (HA1.out (.inr hoff))
    rw [hoff] at d1
    clear hoff
    go_enter Try.func70, Try.ntmps70
    go_wp2_with fail
    go_ret
    exact HStop.out _ hz.out _ (Same.refl _)
  have Hno : Hid (¬ (S.dead = true ∨ D.off = true)) := by
    show ¬ _
    rw [Hdead.out, hoff]; simp
  rw [hoff] at d1
  clear hoff
  have HC2 := hid (HCut.out w.drew (Same.refl w).drew)
  have hw1 : IntKind.i64.wrap ((S.all.length : Int) + 1) = (S.all.length : Int) + 1 := by rw [IntKind.wrap_i64]; omega
  go_enter Try.func70, Try.ntmps70
  go_upto_region 3 with fail
  clear d0 d1 d2 d3 d4
  go_region_held3 (fun w' => w'.cell? ⟨sb, 3, none⟩ = some (.int .i64 S.life) ∧ w'.cell? ⟨sb, 4, none⟩ = some (.int .i64 S.era) ∧ w'.cell? ⟨sb, 5, none⟩ = some (.slice av S.all.length cv))
    (first | with_reducible exact ⟨by assumption, by assumption, by assumption⟩ | go_keep)
    (first | (go_at_call 53; (with_reducible refine HC2.out.mono ?_); rintro en w3 ⟨v3, rfl, O3, S3⟩; obtain ⟨a3, q3, rfl, _, _⟩ := O3.rows.form; obtain ⟨m0, m1, m2, m3, m4, m5, m6, m7⟩ := (HB.out.same ((Same.refl w).drew.trans S3)).cells))
  have S3 := hid ((Same.refl w).drew.trans S3)
  clear c0 c1 c2 c3 c4 c5 c6 c7 HC2 HCut
  by_cases hce : cutE S.life S.era (S.all.length + 1) b = 0
  case neg =>
    have hz := hid (HA2.out Hno.out hce)
    have hnz : (cutE S.life S.era (S.all.length + 1) b != 0) = true := by rw [bne_iff_ne]; exact hce
    clear hce
    generalize cutE S.life S.era (S.all.length + 1) b = ce at *
    go_wp2_with fail
    go_ret
    exact HStop.out _ hz.out _ S3.out
  have hca : cutAll S.life S.era (S.all.length + 1) b = cutL S.life S.era (S.all.length + 1) b := by unfold cutAll; rw [if_pos hce]
  have Hce := hid hce
  rw [hca] at O3 ⊢
  rw [hce]
  have hll := cutL_length S.life S.era (S.all.length + 1) b
  have hlp := nparts_pos b.length
  have hlb : nparts b.length ≤ 255 := (cutE_zero.1 hce).1
  clear hce hca
  have HA3' := hid (HA3.out Hno.out Hce.out)
  have HA4' := hid (HA4.out Hno.out Hce.out)
  have HA5' := hid (HA5.out Hno.out Hce.out)
  clear HA1 HA2 HA3 HA4 HA5
  generalize cutL S.life S.era (S.all.length + 1) b = ls at *
  rw [← hll] at hlp hlb
  clear hll
  have hsub : S.till - S.from_ - (S.at_ - S.from_) = S.till - S.at_ := by omega
  by_cases hfu : S.till - S.at_ < ls.length
  case pos =>
    have hz := hid (HA3'.out hfu)
    have hd : decide (S.till - S.from_ - (S.at_ - S.from_) < (ls.length : Int)) = true := by rw [hsub]; exact decide_eq_true hfu
    clear hfu hsub
    go_wp2_with fail
    go_quiet (fail)
    go_wp2_with fail
    go_ret
    exact HStop.out _ hz.out _ (S3.out.drewN _)
  have Hfu := hid hfu
  have hd : decide (S.till - S.from_ - (S.at_ - S.from_) < (ls.length : Int)) = false := by rw [hsub]; exact decide_eq_false hfu
  have HA4'' := hid (HA4'.out (Int.not_lt.1 hfu))
  have HA5'' := hid (HA5'.out (Int.not_lt.1 hfu))
  clear hfu HA3' HA4' HA5' hsub
  go_wp2_with fail
  go_quiet (fail)
  have S4 := hid (S3.out.drewN nq)
  have O4 := hid (O3.same ((Same.refl w3).drewN nq))
  clear m0 m1 m2 m3 m4 m5 m6 m7 O3 hd
  generalize w3.drewN nq = w4 at *
  have hu0 : S.from_ + (S.at_ - S.from_) = S.at_ := by omega
  have hub : 0 ≤ S.at_ - S.from_ ∧ S.at_ - S.from_ ≤ 2048 := by omega
  have HUs : Hid (S.at_ - S.from_ = S.at_ - S.from_) := rfl
  generalize hu : S.at_ - S.from_ = u at *
  have HU := hid hu
  clear hu
  have hwu : IntKind.i64.wrap (S.from_ + u) = S.from_ + u := by rw [IntKind.wrap_i64]; omega
  have RN := hid (O4.out.rows2N (M := FX) (fun k hk => by have h1 := HFX.out k hk; simp; omega))
  have HW := hid (rWrite w4.drew _ FX D S.at_ 23 _ ls (HD.out.same S4.out.drew) (RN.out.keep ((Same.refl w4).drew.keep FX)))
  rw [← hu0] at HW
  have HU0 := hid hu0
  clear hu0
  have hsb : Hid (¬ FX sb) := fun h => Hx.out sb h HFb.out
  obtain ⟨c0, c1, c2, c3, c4, c5, c6, c7⟩ := (HB.out.same S4.out).cells
  rw [HU0.out] at HW
  rw [← HU0.out] at HA4'' HA5''
  generalize hR : D.write (S.from_ + u) ls = R at *
  rw [HU0.out] at hR
  rw [hR] at HW
  clear hR
  obtain ⟨re, D'⟩ := R
  simp only at HA4'' HA5''
  have hc : Calls Try.prog 104 #[.pointer (some ⟨pb, 0, none⟩), .int .i64 (S.from_ + u), .slice a3 ls.length q3] w4.drew (RetRd (re, D') (.pointer (some ⟨pb, 0, none⟩)) FX w4.drew) := by rw [HU0.out]; exact HW.out
  have HW := hid hc
  clear hc
  go_wp2_with fail
  go_region_held3 (fun w' => w'.cell? ⟨sb, 0, none⟩ = some (.pointer (some ⟨pb, 0, none⟩)) ∧ w'.cell? ⟨sb, 1, none⟩ = some (.int .i64 S.from_) ∧ w'.cell? ⟨sb, 6, none⟩ = some (.int .i64 u))
    (first | with_reducible exact ⟨by assumption, by assumption, by assumption⟩ | go_keep)
    (first | (go_at_call 104; (with_reducible refine HW.out.mono ?_); rintro en w5 ⟨FX', rfl, K5, D5, G5⟩; obtain ⟨m0, m1, m2, m3, m4, m5, m6, m7⟩ := (Box8.keep (HB.out.same S4.out.drew) K5 hsb.out).cells))
  have K5 := hid (((Same.keep S4.out.drew FX)).trans K5)
  have D5 := hid D5
  have B5 := hid (Box8.keep HB.out K5.out hsb.out)
  have hNX : ∀ g, (N g ∨ homeOf (.slice ab b.length cb) = some g) → ¬ FX g ∧ ¬ FY g ∧ g < w.heap.size := fun g hg => by
    rcases hg with hg | hg
    · exact ⟨(HN.out g hg).1, HNF.out g hg, (HN.out g hg).2⟩
    · exact ⟨(HNb.out g hg).1, (HNb.out g hg).2, HhN.out g hg⟩
  have HNX := hid hNX
  have Q5 := hid (HQ.out.keep K5.out (fun i hi hn => Hx.out i hn hi) (fun i hi hn => (HN.out i hi).1 hn))
  have hG5 : ∀ i, FX' i → FX i ∨ (w.heap.size ≤ i ∧ i < w5.heap.size) := fun i hi => (G5 i hi).imp id fun h => ⟨Nat.le_trans S4.out.drew.size h.1, h.2⟩
  have HG5 := hid hG5
  have Y5 := hid (HBy.out.keep K5.out (fun g hg => (HNb.out g hg).1))
  have hz5 := K5.out.size
  have HZ5 := hid hz5
  clear c0 c1 c2 c3 c4 c5 c6 c7 HW RN O4 G5 hG5 hNX hz5
  by_cases hre : re = 0
  case neg =>
    have hz := hid (HA4''.out hre)
    have hnz : (re != 0) = true := by rw [bne_iff_ne]; exact hre
    have z7 := B5.out.free 7
    clear hre
    go_wp2_with fail
    go_ret
    rw [hz.out]
    have K6 : Keep (fun k => k = sb) w5 (w5.setCell ⟨sb, 7, none⟩ (.bool true)) := (Keep.refl (fun k => k = sb) w5).setCell (p := ⟨sb, 7, none⟩) (.inl rfl) _
    have hsz : (w5.setCell ⟨sb, 7, none⟩ (.bool true)).heap.size = w5.heap.size := by simp
    have hnb : ¬ N sb := fun h => HNF.out sb h HFb.out
    have hX' : ¬ FX' sb := fun h => by
      rcases HG5.out sb h with h | h
      · exact hsb.out h
      · have := HFY.out sb HFb.out; omega
    refine ⟨FX', FY, N, rfl, (K5.out.weak' fun i hi => .inl hi).trans (K6.weak' fun i hi => by subst hi; exact .inr HFb.out), D5.out.keep K6 (fun i hi e => by subst e; exact hX' hi), ⟨sb, _, rfl, ?_, HFb.out, Q5.out.box8 B5.out hnb K6, HNF.out⟩,
      fun i hi => by rw [hsz]; exact HG5.out i hi, Grow.refl _ _ _, fun i hi hj => ?_, fun g hg hi => ?_, fun g hg => .inl hg⟩
    · have e : (S.from_ + u) - S.from_ = u := by omega
      show Box8 _ sb _ _ _ _ _ _ (.int .i64 ((S.from_ + u) - S.from_)) _
      rw [e]
      exact B5.out.set7 _
    · rcases HG5.out i hi with h | h
      · exact Hx.out i h hj
      · have := HFY.out i hj; omega
    · rcases HG5.out g hi with h | h
      · exact (HN.out g hg).1 h
      · have := (HN.out g hg).2; omega
  subst hre
  have HZ := hid (HA5''.out rfl)
  have z5 := B5.out.free 5
  have z6 := B5.out.free 6
  have W6 := hid ((Same.refl w5).alloc (.cells #[.slice ab b.length cb] 23))
  have Q6 := hid (OwnP.foot (N' := fun g => N g ∨ homeOf (.slice ab b.length cb) = some g) (Q5.out.keep W6.out (fun _ _ x => x) (fun _ _ x => x)) (fun i hi => hi) (fun i hi => .inl hi))
  have hOne : Hid (Sl (w5.alloc (.cells #[.slice ab b.length cb] 23)) 23 1 (.slice (some ⟨w5.heap.size, 0, none⟩) 1 1) 1 [.slice ab b.length cb]) := Sl.made 23 1 w5.heap.size 1 1 _ _ (heap_alloc_new w5 _) (Nat.le_refl _) (by decide) rfl ⟨[], rfl⟩
  have Y6 := hid (Y5.out.same W6.out)
  have B6 := hid (B5.out.same W6.out)
  have HNFb : Hid (∀ g, (N g ∨ homeOf (.slice ab b.length cb) = some g) → ¬ FY g) := fun g hg => (HNX.out g hg).2.1
  clear HA4'' HA5''
  go_wp2_with (at_builtin; refine wpList_append_p rfl (.tmp 86) (.tmp 88) 36 tyRows rfl Q6.out HNFb.out hOne.out Y6.out (fun g hg => .inr hg) rfl rfl (by omega) ?_; intro x7 w7 q7 k7; have Q7 := hid q7; have K7 := hid k7; have B7 := hid (B6.out.keep k7 (Q6.out.apart8 B6.out)); obtain ⟨y0, y1, y2, y3, y4, y5, y6, y7⟩ := B7.out.cells; have zz5 := B7.out.free 5; have zz6 := B7.out.free 6; obtain ⟨a7, c7, rfl, _, _⟩ := q7.rows.form; clear q7 k7)
  go_ret
  rw [HZ.out]
  have hl1 : (S.all ++ [b]).length = S.all.length + 1 := by simp
  have B7' := B7.out
  have K8 : Keep (fun k => k = sb) w7 ((w7.setCell ⟨sb, 5, none⟩ (.slice a7 (S.all.length + 1) c7)).setCell ⟨sb, 6, none⟩ (.int .i64 (u + ls.length))) :=
    ((Keep.refl (fun k => k = sb) w7).setCell (p := ⟨sb, 5, none⟩) (.inl rfl) _).setCell (p := ⟨sb, 6, none⟩) (.inl rfl) _
  have hsz : ((w7.setCell ⟨sb, 5, none⟩ (.slice a7 (S.all.length + 1) c7)).setCell ⟨sb, 6, none⟩ (.int .i64 (u + ls.length))).heap.size = w7.heap.size := by simp
  have B8 := (B7'.set5 (.slice a7 (S.all.length + 1) c7)).set6 (.int .i64 (u + ls.length))
  have hz5 := HZ5.out
  have hz6 := W6.out.size
  have hz7 := K7.out.size
  have hsbl := HFY.out sb HFb.out
  have hnb : ¬ (N sb ∨ homeOf (.slice ab b.length cb) = some sb) := fun h => (HNX.out sb h).2.1 HFb.out
  have Q7' := Q7.out
  rw [hl1] at Q7'
  have Q8 := Q7'.box8 B7.out hnb K8
  have hX' : ∀ i, FX' i → ¬ FY i := fun i hi hj => by
    rcases HG5.out i hi with h | h
    · exact Hx.out i h hj
    · have := HFY.out i hj; omega
  have hXl : ∀ i, FX' i → i < w5.heap.size := fun i hi => by
    rcases HG5.out i hi with h | h
    · have := HFX.out i h; omega
    · exact h.2
  have KY : Keep (fun k => FX k ∨ FY k) w5 w7 := ((W6.out.keep (fun k => FX k ∨ FY k)).trans (K7.out.weak' (M' := fun k => FX k ∨ FY k) fun k e => by
    obtain ⟨us, _, q2, _⟩ := HQ.out
    exact .inr (q2 k e)))
  have KYs : Keep FY w5 w7 := ((W6.out.keep FY).trans (K7.out.weak' (M' := FY) fun k e => by
    obtain ⟨us, _, q2, _⟩ := HQ.out
    exact q2 k e))
  have KA : Keep FY w5 _ := KYs.trans (K8.weak' fun i hi => by subst hi; exact HFb.out)
  refine ⟨FX', FG FY w5 w7, (fun g => N g ∨ homeOf (.slice ab b.length cb) = some g), rfl, ((K5.out.weak' fun i hi => .inl hi).trans KY).trans (K8.weak' fun i hi => by subst hi; exact .inr HFb.out), D5.out.keep KA hX', ⟨sb, .slice a7 (S.all.length + 1) c7, rfl, ?_, .inl HFb.out, ?_, ?_⟩, ?_, ?_, ?_, ?_, fun g hg => hg⟩
  · have e : (S.from_ + u + (ls.length : Int)) - S.from_ = u + ls.length := by omega
    show Box8 _ sb _ _ _ _ _ _ (.int .i64 ((S.from_ + u + (ls.length : Int)) - S.from_)) _
    rw [e]
    exact B8
  · exact Q8.foot (fun i hi => hi.imp id fun h => ⟨Nat.le_trans hz6 h.1, h.2⟩) fun i hi => hi
  · intro g hg hf
    rcases hf with hf | hf
    · exact (HNX.out g hg).2.1 hf
    · have := (HNX.out g hg).2.2; omega
  · intro i hi
    rw [hsz]
    exact (HG5.out i hi).imp id fun h => ⟨h.1, by omega⟩
  · intro i hi
    rw [hsz]
    exact hi.imp id fun h => ⟨by omega, h.2⟩
  · intro i hi hf
    rcases hf with hf | hf
    · exact hX' i hi hf
    · have := hXl i hi; omega
  · intro g hg hf
    rcases HG5.out g hf with h | h
    · exact (HNX.out g hg).1 h
    · have := (HNX.out g hg).2.2; omega
end Go.Proofs.Ytlhnpicmjjddeaa
namespace Go.Proofs.Ytlhnpicmjjddeaa
open Go.RowKit

set_option maxHeartbeats 6400000 in
set_option maxRecDepth 100000 in
theorem rLoad (w : World) (p : Value) (F : Nat → Prop) (D : Dv) (at_ each : Int) (hD : IsRd w p F D) (hb : -9223372036854775808 ≤ each ∧ each ≤ 9223372036854775807) :
    Calls Try.prog 114 #[p, .int .i64 at_, .int .i64 each] w (RetLoad (D.loadR at_ each) w) := by
  have hl := hD.ok.1
  have hln : (D.C.length : Int) ≤ 2048 := by omega
  obtain ⟨pb, rv, fz, kv, ks, n, rfl, h1, h2, h3, h4, h5, h6, h7, h8⟩ := hD
  obtain ⟨ra, rc, rfl, _, _⟩ := h3.rows.form
  have HNo : Hid (D.loadE at_ each ≠ 0 → RetLoad (D.loadR at_ each) w (.returned (.tuple #[.int .i64 0, .slice none 0 0, .int .i64 2])) w) := fun h => by
    have e : D.loadR at_ each = (0, [], 2) := by unfold Dv.loadR; rw [if_neg h]
    rw [e]
    exact ⟨_, rfl, OwnB.nil _ _, Same.refl _⟩
  have HP := hid (fun (w' : World) (Z : Same w w') (a : Nat) (odd : Int) (hE : 1 ≤ each) (hy : (a : Int) + each ≤ D.C.length) => rPlace w' pb _ _ _ _ _ D a each odd (h1.same Z) (h3.rows.same Z) hE hy hl)
  have hE0 : D.loadE at_ each = if at_ < 0 ∨ each < 1 ∨ (D.C.length : Int) < each ∨ (D.C.length : Int) - 2 * each < at_ then 2 else 0 := rfl
  have HE0 := hid hE0
  obtain ⟨c0, c1, c2, c3, c4⟩ := h1.cells
  clear h1 h2 h3 h4 h5 h6 h7 h8 hE0
  by_cases g0 : at_ < 0
  case pos =>
    have HZ := hid (HNo.out (by rw [HE0.out, if_pos (.inl g0)]; decide))
    have d0 : decide (at_ < 0) = true := decide_eq_true g0
    clear g0 HNo HP
    go_enter Try.func114, Try.ntmps114
    go_wp2_with fail
    go_ret3
    exact HZ.out
  have d0 : decide (at_ < 0) = false := decide_eq_false g0
  by_cases g1 : each < 1
  case pos =>
    have HZ := hid (HNo.out (by rw [HE0.out, if_pos (.inr (.inl g1))]; decide))
    have d1 : decide (each < 1) = true := decide_eq_true g1
    clear g0 g1 HNo HP
    go_enter Try.func114, Try.ntmps114
    go_wp2_with fail
    go_ret3
    exact HZ.out
  have d1 : decide (each < 1) = false := decide_eq_false g1
  by_cases g2 : (D.C.length : Int) < each
  case pos =>
    have HZ := hid (HNo.out (by rw [HE0.out, if_pos (.inr (.inr (.inl g2)))]; decide))
    have d2 : decide ((D.C.length : Int) < each) = true := decide_eq_true g2
    clear g0 g1 g2 HNo HP
    go_enter Try.func114, Try.ntmps114
    go_wp2_with fail
    go_ret3
    exact HZ.out
  have d2 : decide ((D.C.length : Int) < each) = false := decide_eq_false g2
  by_cases g3 : (D.C.length : Int) - 2 * each < at_
  case pos =>
    have HZ := hid (HNo.out (by rw [HE0.out, if_pos (.inr (.inr (.inr g3)))]; decide))
    have d3 : decide ((D.C.length : Int) - 2 * each < at_) = true := decide_eq_true g3
    have b1 : 1 ≤ each := by omega
    have b2 : each ≤ 2048 := by omega
    clear g0 g1 g2 g3 HNo HP
    go_enter Try.func114, Try.ntmps114
    go_wp2_with fail
    go_ret3
    exact HZ.out
  have d3 : decide ((D.C.length : Int) - 2 * each < at_) = false := decide_eq_false g3
  have hE : D.loadE at_ each = 0 := by rw [HE0.out, if_neg (by omega)]
  have hR : D.loadR at_ each = (if (D.load at_ each).1 = 0 then (0, [], 11) else ((D.load at_ each).1, (D.load at_ each).2, 0)) := by unfold Dv.loadR; rw [if_pos hE]
  have hLd : Hid (D.load at_ each = if (D.place at_ each 0).1 < (D.place (at_ + each) each 1).1 then D.place (at_ + each) each 1 else D.place at_ each 0) := rfl
  have HR := hid hR
  obtain ⟨a, rfl⟩ := Int.eq_ofNat_of_zero_le (a := at_) (by omega)
  obtain ⟨E, rfl⟩ := Int.eq_ofNat_of_zero_le (a := each) (by omega)
  have HA := hid (HP.out w (Same.refl w) a 0 (by omega) (by omega))
  have HB := hid (fun (w' : World) (Z : Same w w') => show Calls Try.prog 124 #[.pointer (some ⟨pb, 0, none⟩), .int .i64 ((a : Int) + (E : Int)), .int .i64 (E : Int), .int .i64 1] w' (RetPlace (D.place ((a : Int) + (E : Int)) E 1) w') by
    have := HP.out w' Z (a + E) 1 (by omega) (by rw [Int.natCast_add]; omega)
    rw [Int.natCast_add] at this
    exact this)
  have q1 : 1 ≤ E := by omega
  have q2 : E ≤ 2048 := by omega
  have q3 : (a : Int) + 2 * (E : Int) ≤ (D.C.length : Int) := by omega
  clear hR hE HNo HP HE0 g0 g1 g2 g3
  generalize D.loadR (a : Int) (E : Int) = R at *
  generalize D.load (a : Int) (E : Int) = L at *
  generalize D.place (a : Int) (E : Int) 0 = A at *
  generalize D.place ((a : Int) + (E : Int)) (E : Int) 1 = B at *
  obtain ⟨ea, la⟩ := A
  obtain ⟨eb, lb⟩ := B
  simp only at *
  go_enter Try.func114, Try.ntmps114
  go_wp2_with fail
  refine HA.out.mono ?_
  rintro en w2 ⟨v2, rfl, O2, S2⟩
  have O2 := hid O2
  have T2 := hid S2
  clear S2
  go_wp2_with fail
  refine (HB.out _ T2.out).mono ?_
  rintro en w3 ⟨v3, rfl, O3, S3⟩
  have O2 := hid ((O2.out.keep S3 (fun _ _ x => x)))
  have O3 := hid (O3.mono T2.out.size)
  have T3 := hid (T2.out.trans S3)
  obtain ⟨a2, c2', rfl, _, _⟩ := O2.out.bytes.form
  obtain ⟨a3, c3', rfl, _, _⟩ := O3.out.bytes.form
  simp only at *
  clear S3
  by_cases hlt : ea < eb
  case pos =>
    rw [if_pos hlt] at hLd
    have hz := hLd.out
    rw [hz] at HR
    clear hLd hz
    simp only at HR
    by_cases hc0 : eb = 0
    case pos =>
      have hcb : (eb == 0) = true := by rw [beq_iff_eq]; exact hc0
      rw [if_pos hc0] at HR
      have h2 : decide (ea < eb) = true := decide_eq_true hlt
      clear hc0 hlt
      go_wp2_with fail
      go_ret3
      rw [HR.out]
      exact ⟨_, rfl, OwnB.nil _ _, T3.out⟩
    case neg =>
      have hcb : (eb == 0) = false := by rw [beq_eq_false_iff_ne]; exact hc0
      rw [if_neg hc0] at HR
      have h2 : decide (ea < eb) = true := decide_eq_true hlt
      clear hc0 hlt
      go_wp2_with fail
      go_ret3
      rw [HR.out]
      exact ⟨_, rfl, O3.out, T3.out⟩
  case neg =>
    rw [if_neg hlt] at hLd
    have hz := hLd.out
    rw [hz] at HR
    clear hLd hz
    simp only at HR
    by_cases hc0 : ea = 0
    case pos =>
      have hcb : (ea == 0) = true := by rw [beq_iff_eq]; exact hc0
      rw [if_pos hc0] at HR
      have h2 : decide (ea < eb) = false := decide_eq_false hlt
      clear hc0 hlt
      go_wp2_with fail
      go_ret3
      rw [HR.out]
      exact ⟨_, rfl, OwnB.nil _ _, T3.out⟩
    case neg =>
      have hcb : (ea == 0) = false := by rw [beq_eq_false_iff_ne]; exact hc0
      rw [if_neg hc0] at HR
      have h2 : decide (ea < eb) = false := decide_eq_false hlt
      clear hc0 hlt
      go_wp2_with fail
      go_ret3
      rw [HR.out]
      exact ⟨_, rfl, O2.out, T3.out⟩
theorem save_two {D : Dv} {at_ each life era : Int} {b : List UInt8} (h : D.loadE at_ each = 2) : D.save at_ each life era b = (2, D) := if_pos h
set_option maxHeartbeats 6400000 in
set_option maxRecDepth 100000 in
theorem rSave (w : World) (p v : Value) (F : Nat → Prop) (D : Dv) (at_ each life era : Int) (b : List UInt8) (e : TypeId) (hD : IsRd w p F D) (hF : ∀ k, F k → k < w.heap.size) (hb : Bytes w e v b) (hl : b.length ≤ 400) (hla : at_ ≤ 2048)
    (hea : -9223372036854775808 ≤ each ∧ each ≤ 9223372036854775807) (her : era ≤ 9223372036854775807) :
    Calls Try.prog 115 #[p, .int .i64 at_, .int .i64 each, .int .i64 life, .int .i64 era, v] w (RetRd (D.save at_ each life era b) p F w) := by
  have HL := hid (rLoad w p F D at_ each hD hea)
  have HC := hid (fun w' (S : Same w w') => rCut w' e v life era 1 b (hb.same S) hl)
  have HD := hid hD
  have HF := hid hF
  have hlen := hD.ok.1
  have HStop : Hid (∀ r, D.save at_ each life era b = (r, D) → ∀ w', Same w w' → RetRd (D.save at_ each life era b) p F w (.returned (.int .i64 r)) w') := fun r h w' Z => by
    rw [h]
    exact ⟨F, rfl, Z.keep _, HD.out.same Z, Grow.refl _ _ _⟩
  have HSv : Hid (D.save at_ each life era b = if D.loadE at_ each = 2 then (2, D) else if era < 1 ∨ era ≤ (D.loadR at_ each).1 then (2, D) else if cutE life era 1 b ≠ 0 then (cutE life era 1 b, D)
    else if each < (cutL life era 1 b).length then (10, D) else D.write (at_ + era % 2 * each) (cutL life era 1 b)) := rfl
  have HEr := hid (loadR_err D at_ each)
  have HRg : Hid (D.loadE at_ each ≠ 2 → 0 ≤ at_ ∧ 1 ≤ each ∧ each ≤ 2048 ∧ at_ + 2 * each ≤ 2048) := fun h => by
    unfold Dv.loadE at h
    split at h
    · exact absurd rfl h
    · omega
  have HWr := hid rWrite
  obtain ⟨pb, rfl⟩ := hD.ptr
  obtain ⟨ab, cb, rfl, _, _⟩ := hb.form
  clear hD hb hF
  generalize hS : D.save at_ each life era b = SV at *
  clear hS
  go_enter Try.func115, Try.ntmps115
  go_wp2_with fail
  refine HL.out.mono ?_
  rintro en w1 ⟨v1, rfl, O1, S1⟩
  obtain ⟨a1, c1, rfl, _, _⟩ := O1.bytes.form
  have S1 := hid S1
  clear O1
  by_cases h2 : (D.loadR at_ each).2.2 = 2
  case pos =>
    have HZ := hid (HStop.out 2 (by rw [HSv.out, if_pos (HEr.out.1 h2)]) _ S1.out)
    rw [h2]
    clear h2
    generalize (D.loadR at_ each).2.1.length = nl at *
    go_wp2_with fail
    go_ret
    exact HZ.out
  have hE2 : ¬ D.loadE at_ each = 2 := fun h => h2 (HEr.out.2 h)
  rw [if_neg hE2] at HSv
  have hrg := HRg.out hE2
  have h2b : ((D.loadR at_ each).2.2 == 2) = false := by rw [beq_eq_false_iff_ne]; exact h2
  clear h2 hE2 HEr HRg
  generalize (D.loadR at_ each).2.1.length = nl at *
  generalize (D.loadR at_ each).2.2 = r2 at *
  generalize (D.loadR at_ each).1 = last at *
  by_cases h3 : era < 1
  case pos =>
    have HZ := hid (HStop.out 2 (by rw [HSv.out, if_pos (.inl h3)]) _ S1.out)
    have d3 : decide (era < 1) = true := decide_eq_true h3
    clear h3
    go_wp2_with fail
    go_ret
    exact HZ.out
  have d3 : decide (era < 1) = false := decide_eq_false h3
  by_cases h4 : era ≤ last
  case pos =>
    have HZ := hid (HStop.out 2 (by rw [HSv.out, if_pos (.inr h4)]) _ S1.out)
    have d4 : decide (era ≤ last) = true := decide_eq_true h4
    clear h4 h3
    go_wp2_with fail
    go_ret
    exact HZ.out
  have d4 : decide (era ≤ last) = false := decide_eq_false h4
  rw [if_neg (by omega)] at HSv
  have her1 : 1 ≤ era := by omega
  clear h3 h4
  go_wp2_with fail
  refine (HC.out _ S1.out).mono ?_
  rintro en w2 ⟨v2, rfl, O2, S2⟩
  obtain ⟨a2, c2, rfl, _, _⟩ := O2.rows.form
  have S2 := hid (S1.out.trans S2)
  by_cases hce : cutE life era 1 b = 0
  case neg =>
    rw [if_pos hce] at HSv
    have HZ := hid (HStop.out _ HSv.out _ S2.out)
    have hnz : (cutE life era 1 b != 0) = true := by rw [bne_iff_ne]; exact hce
    clear hce HSv O2
    generalize (cutAll life era 1 b).length = nc at *
    generalize cutE life era 1 b = ce at *
    go_wp2_with fail
    go_ret
    exact HZ.out
  have hca : cutAll life era 1 b = cutL life era 1 b := by unfold cutAll; rw [if_pos hce]
  rw [if_neg (by rw [hce]; exact fun x => x rfl)] at HSv
  rw [hca] at O2 ⊢
  rw [hce]
  have hlb : nparts b.length ≤ 255 := (cutE_zero.1 hce).1
  have hll := cutL_length life era 1 b
  rw [← hll] at hlb
  clear hce hca hll
  generalize cutL life era 1 b = ls at *
  by_cases hf : each < ls.length
  case pos =>
    rw [if_pos hf] at HSv
    have HZ := hid (HStop.out _ HSv.out _ S2.out)
    have d5 : decide (each < (ls.length : Int)) = true := decide_eq_true hf
    clear hf HSv O2
    go_wp2_with fail
    go_ret
    exact HZ.out
  rw [if_neg hf] at HSv
  have d5 : decide (each < (ls.length : Int)) = false := decide_eq_false hf
  clear hf
  have O2 := hid O2
  have RN := hid (O2.out.rows2N (M := F) (fun k hk => Nat.lt_of_lt_of_le (HF.out k hk) S1.out.size))
  have HW := hid (HWr.out w2 _ F D (at_ + era % 2 * each) 23 _ ls (HD.out.same S2.out) RN.out)
  have hm : 0 ≤ era % 2 * each ∧ era % 2 * each ≤ each := by
    rcases Int.emod_two_eq era with h | h <;> rw [h] <;> omega
  have hm1 := hm.1
  have hm2 := hm.2
  have hmb : 0 ≤ era % 2 ∧ era % 2 ≤ 1 := by omega
  have hwm : IntKind.i64.wrap (era % 2 * each) = era % 2 * each := by rw [IntKind.wrap_i64]; omega
  have hwm2 : wrap64 (era % 2 * each) = era % 2 * each := IntWalk.wrap64_in _ ⟨by omega, by omega⟩
  rw [← HSv.out] at HW
  clear hm RN O2
  go_wp2_with fail
  refine HW.out.mono ?_
  rintro en w3 ⟨F', rfl, K3, I3, G3⟩
  have X3 := hid (And.intro K3 (And.intro I3 G3))
  clear K3 I3 G3
  go_wp2_with fail
  go_ret
  exact ⟨F', rfl, (S2.out.keep F).trans X3.out.1, X3.out.2.1, fun i hi => (X3.out.2.2 i hi).imp id fun h => ⟨Nat.le_trans S2.out.size h.1, h.2⟩⟩
end Go.Proofs.Ytlhnpicmjjddeaa
namespace Go.Proofs.Ytlhnpicmjjddeaa
open Go.RowKit

theorem takeExt {α : Type} {l r : List α} (k : Nat) (h1 : k < l.length) (h2 : k < r.length) (h : l.take k = r.take k) (hk : l[k] = r[k]) : l.take (k + 1) = r.take (k + 1) := by
  rw [List.take_succ_eq_append_getElem h1, List.take_succ_eq_append_getElem h2, h, hk]
theorem neAt {l r : List (List UInt8)} (k : Nat) (h1 : k < l.length) (h2 : k < r.length) (h : l[k] ≠ r[k]) : decide (l = r) = false := by
  apply decide_eq_false
  intro e
  subst e
  exact h rfl
set_option maxHeartbeats 3200000 in
set_option maxRecDepth 100000 in
theorem rSame2 (w : World) (e1 e2 : TypeId) (v1 v2 : Value) (la lb : List (List UInt8)) (h1 : Rows2 w e1 v1 la) (h2 : Rows2 w e2 v2 lb) : Calls Try.prog 64 #[v1, v2] w (RetSame (.bool (decide (la = lb))) w) := by
  obtain ⟨a1, c1, rfl, f1, f2⟩ := h1.form
  obtain ⟨a2, c2, rfl, f3, f4⟩ := h2.form
  unfold maxLen at f2 f4
  have HA := hid h1
  have HB := hid h2
  clear h1 h2
  by_cases hlen : la.length = lb.length
  case neg =>
    have hd : ((la.length : Int) != (lb.length : Int)) = true := by simp; omega
    have HE : Hid (decide (la = lb) = false) := decide_eq_false (fun e => hlen (by rw [e]))
    clear hlen
    go_enter Try.func64, Try.ntmps64
    go_wp2_with fail
    go_ret
    rw [HE.out]
    exact ⟨rfl, Same.refl _⟩
  have hd : ((la.length : Int) != (lb.length : Int)) = false := by simp [hlen]
  have HL := hid hlen
  have hl1 : la.length ≤ lb.length := by omega
  clear hlen
  go_enter Try.func64, Try.ntmps64
  go_wp2_with fail
  go_loopg [5] la.length (fun gk i wr => ∃ k : Nat, k + gk = la.length ∧ i = .int .i64 k ∧ la.take k = lb.take k ∧ Same w wr)
  case atStart => exact ⟨0, by omega, rfl, rfl, Same.refl _⟩
  case round =>
    obtain ⟨k, hk, rfl, ht, Z⟩ := hrel
    have HT := hid ht
    have Z := hid Z
    have hk2 : k ≤ la.length := by omega
    have HK := hid hk
    clear ht hk
    by_cases hlt : k < la.length
    case neg =>
      obtain rfl : k = la.length := by omega
      have HE : Hid (decide (la = lb) = true) := by
        apply decide_eq_true
        have h5 := HT.out
        have := HL.out
        rwa [List.take_of_length_le (Nat.le_refl _), List.take_of_length_le (by omega)] at h5
      go_wp2_with fail
      go_ret
      rw [HE.out]
      exact ⟨rfl, Z.out⟩
    have hlt2 : k < lb.length := by omega
    obtain ⟨g, o, xa, xc, xe, rfl, hcell, hby⟩ := (HA.out.same Z.out).row k hlt
    obtain ⟨g', o', ya, yc, ye, rfl, hcell', hby'⟩ := (HB.out.same Z.out).row k hlt2
    have HX := hid hby
    have HY := hid hby'
    have HNe := hid (fun h => neAt k hlt hlt2 h)
    have HEx := hid (fun h => takeExt k hlt hlt2 HT.out h)
    have hgl := World.block_lt_of_cell? wr _ hcell
    have hgl' := World.block_lt_of_cell? wr _ hcell'
    have hC := hid (fun wz (S : Same wr wz) => (S.cell (p := ⟨g, o + k, none⟩) hgl).trans hcell)
    have hC' := hid (fun wz (S : Same wr wz) => (S.cell (p := ⟨g', o' + k, none⟩) hgl').trans hcell')
    clear hby hby' hgl hgl' HT
    generalize la[k] = xs at *
    generalize lb[k] = ys at *
    obtain ⟨xx, xy, hxf, xf, xg⟩ := HX.out.form
    obtain ⟨yx, yy, hyf, yf, yg⟩ := HY.out.form
    cases hxf
    cases hyf
    unfold maxLen at xg yg
    by_cases hll : xs.length = ys.length
    case neg =>
      have hd2 : ((xs.length : Int) != (ys.length : Int)) = true := by simp; omega
      have hz := hid (HNe.out (fun e => hll (by rw [e])))
      clear hll
      go_wp2_with fail
      go_quiet (fail)
      go_wp2_with fail
      go_ret
      rw [hz.out]
      exact ⟨rfl, Z.out.drewN _⟩
    have hd2 : ((xs.length : Int) != (ys.length : Int)) = false := by simp [hll]
    have HLL := hid hll
    have hle : xs.length ≤ ys.length := by omega
    clear hll
    go_wp2_with fail
    go_quiet (fail)
    go_wp2_with fail
    clear hcell hcell'
    go_loopg [6] xs.length (fun gj j wq => ∃ i : Nat, i + gj = xs.length ∧ j = .int .i64 i ∧ xs.take i = ys.take i ∧ Same wr wq)
    case atStart => exact ⟨0, by omega, rfl, rfl, Same.of_drewN _ _⟩
    case round =>
      rename_i wq
      obtain ⟨i, hi, rfl, ht, Y⟩ := hrel
      have HT := hid ht
      have Y := hid Y
      have hi2 : i ≤ xs.length := by omega
      have HI := hid hi
      clear ht hi
      have hcell := hC.out _ Y.out
      have hcell' := hC'.out _ Y.out
      by_cases hit : i < xs.length
      case neg =>
        obtain rfl : i = xs.length := by omega
        have HE : xs = ys := by
          have h5 := HT.out
          have := HLL.out
          rwa [List.take_of_length_le (Nat.le_refl _), List.take_of_length_le (by omega)] at h5
        have hz := hid (HEx.out HE)
        clear HE
        go_wp2_with fail
        go_roundg (la.length - (k + 1))
        case measure => have := HK.out; omega
        case rel => exact ⟨k + 1, by have := HK.out; omega, by go_num, hz.out, Z.out.trans Y.out⟩
      have hit2 : i < ys.length := by omega
      obtain ⟨bg, bo, rfl, hbc⟩ := (HX.out.same Y.out).cells (by omega)
      obtain ⟨bg', bo', rfl, hbc'⟩ := (HY.out.same Y.out).cells (by omega)
      have q1 := hbc i hit
      have q2 := hbc' i hit2
      clear hbc hbc'
      by_cases hne : xs[i].toNat = ys[i].toNat
      · have hz := hid (takeExt i hit hit2 HT.out (UInt8.toNat_inj.1 hne))
        have hd3 : ((xs[i].toNat : Int) != (ys[i].toNat : Int)) = false := by simp [hne]
        clear hne
        go_wp2_with fail
        go_quiet (fail)
        go_wp2_with fail
        go_roundg (xs.length - (i + 1))
        case measure => have := HI.out; omega
        case rel => exact ⟨i + 1, by omega, by go_num, hz.out, Y.out.drewN _⟩
      · have hz := hid (HNe.out (fun e => hne (by subst e; rfl)))
        have hd3 : ((xs[i].toNat : Int) != (ys[i].toNat : Int)) = true := by simp; omega
        clear hne
        go_wp2_with fail
        go_quiet (fail)
        go_wp2_with fail
        go_ret
        rw [hz.out]
        exact ⟨rfl, (Z.out.trans Y.out).drewN _⟩
end Go.Proofs.Ytlhnpicmjjddeaa
namespace Go.Proofs.Ytlhnpicmjjddeaa
open Go.RowKit

def l8a : Sc := (Dv.new 9).opened 1 9 1 0
def l8b : Int × Sc × Dv := l8a.append (Dv.new 9) [97]
def l8c : Sc := l8b.2.2.opened 1 9 2 0
theorem l8_1 : (Dv.new 9).openE 1 9 1 0 = 0 := by kernel_rfl
theorem l8_2 : l8b.1 = 0 := by kernel_rfl
theorem l8_3 : l8b.2.2.openE 1 9 2 0 = 0 := by kernel_rfl
theorem l8_4 : l8c.all = [[97]] := by kernel_rfl
theorem l8_5 : l8c.at_ - l8c.from_ = 1 := by kernel_rfl
theorem l8_6 : l8b.2.2.newest 0 9 = 1 := by kernel_rfl
theorem RetOpenS.good {D : Dv} {p : Value} {a b life era : Int} {w : World} {en : Ending} {w' : World} (h : RetOpenS D p a b life era w en w') (he : D.openE a b life era = 0) :
    ∃ s FS, en = .returned (.tuple #[s, .int .i64 0]) ∧ IsSc w' s p FS (D.opened a b life era) ∧ Same w w' ∧ Bnd FS w.heap.size w'.heap.size := by
  rcases h with ⟨h, _⟩ | ⟨_, h⟩
  · rw [he] at h; cases h
  · exact h
set_option maxHeartbeats 6400000 in
set_option maxRecDepth 100000 in
theorem cLives (w : World) : Calls Try.prog 63 #[] w (RetSame (.bool true) w) := by
  have HO := hid cOpen
  have HA := hid cAppend
  have HR := hid cRecords
  have HU := hid cUsed
  have HN := hid cNewest
  have HS := hid rSame2
  have A1 := hid l8_1
  have A2 := hid l8_2
  have A3 := hid l8_3
  have A4 := hid l8_4
  have A5 := hid l8_5
  have A6 := hid l8_6
  have kcc := fun (w : World) (C : Array Value) (n c : Nat) => Lib.run_convert_bytes_const (P := Try.prog) w 23 5 C n c Try.underlying23 Try.underlying5
  go_enter Try.func63, Try.ntmps63
  go_wp2_with fail
  refine (dNewD w 9 (by omega) (by omega)).mono ?_
  rintro en w1 ⟨p, F, rfl, S1, D1, B1⟩
  have D1 := hid D1
  have B1 := hid B1
  have S1 := hid S1
  obtain ⟨pb, rfl⟩ := D1.out.ptr
  go_wp2_with fail
  refine (HO.out w1 _ F _ 1 9 1 0 D1.out (fun k hk => (B1.out k hk).2)).mono ?_
  rintro en w2 hr
  obtain ⟨s, FS, rfl, I2, S2, B2⟩ := hr.good A1.out
  clear hr
  obtain ⟨sb, rfl⟩ := I2.ptr
  have S2 := hid S2
  have I2 : Hid (IsSc w2 (.pointer (some ⟨sb, 0, none⟩)) (.pointer (some ⟨pb, 0, none⟩)) FS l8a) := I2
  have B2 := hid B2
  go_wp2_with fail
  have T2 := hid ((Same.refl w2).alloc (.cells #[.int .u8 97] 5 (1, 2)))
  refine (HA.out _ _ _ _ F FS (Dv.new 9) l8a [97] 5 (D1.out.same (S2.out.trans T2.out)) (I2.out.same T2.out) (fun i hi hn => by have h1 := (B1.out i hi).2; have h2 := (B2.out i hn).1; omega) (fun k hk => Nat.lt_of_lt_of_le (B1.out k hk).2 (S2.out.trans T2.out).size) (b1_made' w2 97 (by omega) (1, 2)) (by simp) (fun g hg hn => by simp [homeOf] at hg; have h1 := (B1.out g hn).2; have h2 := S2.out.size; omega)).mono ?_
  rintro en w3 ⟨FS3, rfl, K3, D3, I3, G3⟩
  have e1 : (l8a.append (Dv.new 9) [97]).1 = 0 := A2.out
  rw [e1]
  have D3 : IsDv w3 (.pointer (some ⟨pb, 0, none⟩)) F l8b.2.2 := D3
  have D3 := hid D3
  have S3 : Hid (Same w w3) := (((S1.out.trans S2.out).trans T2.out).keepOwn K3 (fun k hk => by
    rcases hk with hk | hk
    · exact (B1.out k hk).1
    · have h1 := (B2.out k hk).1; have h2 := S1.out.size; omega))
  have hsz3 : Hid (∀ k, F k → k < w3.heap.size) := fun k hk => by have h1 := (B1.out k hk).2; have h2 := (S2.out.trans T2.out).size; have h3 := K3.size; omega
  clear I3 G3 K3 e1 I2
  go_wp2_with fail
  refine (HO.out w3 _ F _ 1 9 2 0 D3.out hsz3.out).mono ?_
  rintro en w4 hr
  obtain ⟨t, FT, rfl, I4, S4, B4⟩ := hr.good A3.out
  clear hr B4
  obtain ⟨tb, rfl⟩ := I4.ptr
  have I4 : Hid (IsSc w4 (.pointer (some ⟨tb, 0, none⟩)) (.pointer (some ⟨pb, 0, none⟩)) FT l8c) := I4
  have S4 := hid S4
  go_wp2_with fail
  refine (HR.out w4 _ _ FT l8c I4.out ⟨pb, rfl⟩).mono ?_
  rintro en w5 ⟨v5, rfl, O5, S5⟩
  rw [A4.out] at O5
  obtain ⟨a5, c5, rfl, _, _⟩ := O5.rows.form
  have O5 := hid O5
  have S5 := hid S5
  simp only [List.length_cons, List.length_nil] at *
  go_wp2_with fail
  have T5 := hid (((Same.refl w5).alloc (.cells #[.int .u8 97] 5 (1, 2))).alloc (.cells #[.slice (some ⟨w5.heap.size, 0, none⟩) 1 1] 23))
  have R5 := hid ((Rows2N.one (F := NoB) (b1_made' w5 97 (by omega) (1, 2)) (fun _ _ x => x) (fun x => x)).rows)
  simp only [World.size_alloc] at R5
  refine (HS.out _ 23 23 _ _ _ _ (O5.out.rows.same T5.out) R5.out).mono ?_
  rintro en w6 ⟨rfl, S6⟩
  have S6 := hid (T5.out.trans S6)
  go_wp2_with fail
  refine (HU.out w6 _ _ FT l8c (I4.out.same (S5.out.trans S6.out)) ⟨pb, rfl⟩).mono ?_
  rintro en w7 ⟨rfl, S7⟩
  rw [A5.out]
  have S7 := hid S7
  go_wp2_with fail
  refine (HN.out w7 _ F _ 0 9 (D3.out.same (((S4.out.trans S5.out).trans S6.out).trans S7.out))).mono ?_
  rintro en w8 ⟨rfl, S8⟩
  rw [A6.out]
  go_wp2_with fail
  go_ret
  exact ⟨rfl, ((((S3.out.trans S4.out).trans S5.out).trans S6.out).trans S7.out).trans S8⟩

theorem cOpen_none (w : World) (p : Value) (a b life era : Int) (h : Nobody w p) : Calls Try.prog 61 #[p, .int .i64 a, .int .i64 b, .int .i64 life, .int .i64 era] w (RetSame (.tuple #[.pointer none, .int .i64 1]) w) := by
  have HS := hid (dSize_none w p h)
  go_enter Try.func61, Try.ntmps61
  go_wp2_with fail
  refine HS.out.mono ?_
  rintro en w1 ⟨rfl, S1⟩
  go_wp2_with fail
  go_ret2
  exact ⟨rfl, S1⟩
set_option maxRecDepth 100000 in
theorem cNewest_none (w : World) (p : Value) (a b : Int) (h : Nobody w p) : Calls Try.prog 67 #[p, .int .i64 a, .int .i64 b] w (RetSame (.int .i64 0) w) := by
  have HW := hid (cWithin_none w p a b h)
  obtain ⟨q, rfl⟩ : ∃ q, p = .pointer q := by
    rcases h with h | ⟨pb, h, _⟩
    · exact ⟨_, h⟩
    · exact ⟨_, h⟩
  by_cases g : 0 ≤ a ∧ a ≤ b ∧ b ≤ 0
  · rw [decide_eq_true g] at HW
    obtain rfl : a = 0 := by omega
    obtain rfl : b = 0 := by omega
    clear g h
    go_enter Try.func67, Try.ntmps67
    go_wp2_with fail
    refine HW.out.mono ?_
    rintro en w1 ⟨rfl, S1⟩
    have S1 := hid S1
    go_wp2_with fail
    go_loopg [7, 9] 0 (fun gk m i wr => m = .int .i64 0 ∧ i = .int .i64 0 ∧ Same w wr)
    case atStart => exact ⟨rfl, rfl, S1.out.alloc _⟩
    case round =>
      obtain ⟨rfl, rfl, Z⟩ := hrel
      have Z := hid Z
      go_wp2_with fail
      go_ret
      exact ⟨rfl, Z.out⟩
  · rw [decide_eq_false g] at HW
    clear g h
    go_enter Try.func67, Try.ntmps67
    go_wp2_with fail
    refine HW.out.mono ?_
    rintro en w1 ⟨rfl, S1⟩
    go_wp2_with fail
    go_ret
    exact ⟨rfl, S1⟩
theorem NoScroll.boxed (w : World) : NoScroll (w.alloc (.cells #[.pointer none, .int .i64 0, .int .i64 0, .int .i64 0, .int .i64 0, .int .i64 0, .int .i64 0, .slice none 0 0, .bool false] 108)) (.pointer (some ⟨w.heap.size, 0, none⟩)) :=
  .inr ⟨_, rfl, (Box9.cells (Box9.new w _ _ _ _ _ _ _ _ _)).1⟩
set_option maxHeartbeats 6400000 in
set_option maxRecDepth 100000 in
theorem scrollNobodyWalk (w : World) (v : Value) (e : TypeId) (a b' : Int) (b : List UInt8) (hb : Bytes w e v b) :
    Calls Try.prog 16 #[v, .int .i64 a, .int .i64 b'] w (RetSame (.bool true) w) := by
  have H1 := hid cOpen_none
  have H2 := hid cNewest_none
  have H3 := hid (fun w' => show Calls Try.prog 22 #[v, .int .i64 90] w' _ from r01Cut0 w w' e v b 90 hb)
  have H4 := hid cAppend_none
  have H5 := hid cRecords_none
  have H6 := hid cUsed_none
  have H9 := hid cLives
  have HB := hid Nobody.boxed
  have HC := hid NoScroll.boxed
  obtain ⟨av, cv, rfl, _, _⟩ := hb.form
  clear hb
  go_enter Try.func16, Try.ntmps16
  go_wp2_with fail
  go_loopw [7] (fun i wr => ∃ k : Nat, k ≤ 2 ∧ i = .int .i64 k ∧ Same w wr) (fun i _ => 2 - (intOf i).toNat)
  case atStart => exact ⟨0, by omega, rfl, Same.refl w⟩
  case round =>
    obtain ⟨k, hk, rfl, S⟩ := hrel
    have S := hid S
    match k, hk with
    | 2, _ =>
      go_wp2_with fail
      refine (H9.out _).mono ?_
      rintro en w3 ⟨rfl, S3⟩
      go_wp2_with fail
      go_ret
      exact ⟨rfl, S.out.trans S3⟩
    | 0, _ =>
      have N0 : Hid (Nobody wr (.pointer none)) := .inl rfl
      have N1 : Hid (NoScroll wr (.pointer none)) := .inl rfl
      go_wp2_with fail
      refine (H1.out _ _ _ _ _ _ N0.out).mono ?_
      rintro en w1 ⟨rfl, S1⟩
      have T1 := hid S1
      clear S1
      go_wp2_with fail
      refine (H2.out _ _ _ _ (N0.out.same T1.out)).mono ?_
      rintro en w2 ⟨rfl, S2⟩
      have T2 := hid (T1.out.trans S2)
      clear S2
      go_wp2_with fail
      refine (H3.out _).mono ?_
      rintro en w2' ⟨v3, rfl, B3, rfl⟩
      obtain ⟨a3, c3, rfl, _, _⟩ := B3.form
      clear B3
      go_wp2_with fail
      refine (H4.out _ _ _ (N1.out.same T2.out)).mono ?_
      rintro en w3 ⟨rfl, S3⟩
      have T3 := hid (T2.out.trans S3)
      clear S3
      go_wp2_with fail
      refine (H5.out _ _ (N1.out.same T3.out)).mono ?_
      rintro en w4 ⟨rfl, S4⟩
      have T4 := hid (T3.out.trans S4)
      clear S4
      go_wp2_with fail
      refine (H6.out _ _ (N1.out.same T4.out)).mono ?_
      rintro en w5 ⟨rfl, S5⟩
      have T5 := hid (T4.out.trans S5)
      clear S5
      go_wp2_with fail
      go_roundw
      case rel => exact ⟨1, by omega, rfl, S.out.trans T5.out⟩
      case measure => simp [intOf]
    | 1, _ =>
      have N1 := hid ((HC.out wr).same ((Same.refl _).alloc (.cells #[.bool false, .bool false, .int .i64 0, .slice none 0 0, .slice none 0 0, .int .i64 0] 55)))
      have N0 := hid (HB.out (wr.alloc (.cells #[.pointer none, .int .i64 0, .int .i64 0, .int .i64 0, .int .i64 0, .int .i64 0, .int .i64 0, .slice none 0 0, .bool false] 108)))
      have Z0 := hid (((Same.refl wr).alloc (.cells #[.pointer none, .int .i64 0, .int .i64 0, .int .i64 0, .int .i64 0, .int .i64 0, .int .i64 0, .slice none 0 0, .bool false] 108)).alloc (.cells #[.bool false, .bool false, .int .i64 0, .slice none 0 0, .slice none 0 0, .int .i64 0] 55))
      simp only [World.size_alloc] at N0
      go_wp2_with fail
      refine (H1.out _ _ _ _ _ _ N0.out).mono ?_
      rintro en w1 ⟨rfl, S1⟩
      have T1 := hid S1
      clear S1
      go_wp2_with fail
      refine (H2.out _ _ _ _ (N0.out.same T1.out)).mono ?_
      rintro en w2 ⟨rfl, S2⟩
      have T2 := hid (T1.out.trans S2)
      clear S2
      go_wp2_with fail
      refine (H3.out _).mono ?_
      rintro en w2' ⟨v3, rfl, B3, rfl⟩
      obtain ⟨a3, c3, rfl, _, _⟩ := B3.form
      clear B3
      go_wp2_with fail
      refine (H4.out _ _ _ (N1.out.same T2.out)).mono ?_
      rintro en w3 ⟨rfl, S3⟩
      have T3 := hid (T2.out.trans S3)
      clear S3
      go_wp2_with fail
      refine (H5.out _ _ (N1.out.same T3.out)).mono ?_
      rintro en w4 ⟨rfl, S4⟩
      have T4 := hid (T3.out.trans S4)
      clear S4
      go_wp2_with fail
      refine (H6.out _ _ (N1.out.same T4.out)).mono ?_
      rintro en w5 ⟨rfl, S5⟩
      have T5 := hid (T4.out.trans S5)
      clear S5
      go_wp2_with fail
      go_roundw
      case rel => exact ⟨2, by omega, rfl, (S.out.trans Z0.out).trans T5.out⟩
      case measure => simp [intOf]
end Go.Proofs.Ytlhnpicmjjddeaa
namespace Go.Proofs.Ytlhnpicmjjddeaa
open Go.RowKit

/-- A vault. -/
structure Vt where
  each : Int
  life : Int
  era : Int
  state : List UInt8
  dead : Bool
  S : Sc
/-- a box of seven cells: a vault -/
def Box7 (w : World) (b : Nat) (c0 c1 c2 c3 c4 c5 c6 : Value) : Prop := w.heap[b]? = some (.cells #[c0, c1, c2, c3, c4, c5, c6] 122 (0, 0))
section
variable {w w' : World} {b : Nat} {c0 c1 c2 c3 c4 c5 c6 : Value}
theorem Box7.lt (h : Box7 w b c0 c1 c2 c3 c4 c5 c6) : b < w.heap.size := (Array.getElem?_eq_some_iff.1 h).1
theorem Box7.keep {M : Nat → Prop} (h : Box7 w b c0 c1 c2 c3 c4 c5 c6) (K : Keep M w w') (hm : ¬ M b) : Box7 w' b c0 c1 c2 c3 c4 c5 c6 := (K.block b h.lt hm).trans h
theorem Box7.same (h : Box7 w b c0 c1 c2 c3 c4 c5 c6) (S : Same w w') : Box7 w' b c0 c1 c2 c3 c4 c5 c6 := h.keep S fun x => x
theorem Box7.new (w : World) (c0 c1 c2 c3 c4 c5 c6 : Value) : Box7 (w.alloc (.cells #[c0, c1, c2, c3, c4, c5, c6] 122)) w.heap.size c0 c1 c2 c3 c4 c5 c6 := heap_alloc_new w _
theorem Box7.cells (h : Box7 w b c0 c1 c2 c3 c4 c5 c6) :
    w.cell? ⟨b, 0, none⟩ = some c0 ∧ w.cell? ⟨b, 1, none⟩ = some c1 ∧ w.cell? ⟨b, 2, none⟩ = some c2 ∧ w.cell? ⟨b, 3, none⟩ = some c3 ∧ w.cell? ⟨b, 4, none⟩ = some c4 ∧ w.cell? ⟨b, 5, none⟩ = some c5 ∧
    w.cell? ⟨b, 6, none⟩ = some c6 := by
  refine ⟨?_, ?_, ?_, ?_, ?_, ?_, ?_⟩
  all_goals (rw [cell_of_row w b _ _ 122 _ h]; rfl)
theorem Box7.free (h : Box7 w b c0 c1 c2 c3 c4 c5 c6) (o : Nat) : w.frozen? ⟨b, o, none⟩ = false := by
  unfold World.frozen?
  rw [h]
  by_cases h0 : 0 ≤ o <;> simp
theorem Box7.set0 (h : Box7 w b c0 c1 c2 c3 c4 c5 c6) (u : Value) : Box7 (w.setCell ⟨b, 0, none⟩ u) b u c1 c2 c3 c4 c5 c6 := heap_setCell_same w b 0 _ 122 u h
theorem Box7.set6 (h : Box7 w b c0 c1 c2 c3 c4 c5 c6) (u : Value) : Box7 (w.setCell ⟨b, 6, none⟩ u) b c0 c1 c2 c3 c4 c5 u := heap_setCell_same w b 6 _ 122 u h
theorem Box7.set543 (h : Box7 w b c0 c1 c2 c3 c4 c5 c6) (u5 u4 u3 : Value) : Box7 (((w.setCell ⟨b, 5, none⟩ u5).setCell ⟨b, 4, none⟩ u4).setCell ⟨b, 3, none⟩ u3) b c0 c1 c2 u3 u4 u5 c6 := by
  have h0 := heap_setCell_same w b 5 _ 122 u5 h
  have h1 := heap_setCell_same _ b 4 _ 122 u4 h0
  exact heap_setCell_same _ b 3 _ 122 u3 h1
end
theorem Bytes.apart7 {w : World} {u : Value} {l : List UInt8} (h : Bytes w 5 u l) {b : Nat} {c0 c1 c2 c3 c4 c5 c6 : Value} (hb : Box7 w b c0 c1 c2 c3 c4 c5 c6) : homeOf u ≠ some b := by
  intro e
  obtain ⟨c, fr, hc⟩ := bytes_block h e
  unfold Box7 at hb
  rw [hb] at hc
  simp at hc
def vtBox (w : World) (b : Nat) (sp p : Value) (V : Vt) (sv : Value) : Prop := Box7 w b sp p (.int .i64 V.each) (.int .i64 V.life) (.int .i64 V.era) sv (.bool V.dead)
structure Vt.Ok (V : Vt) : Prop where
  each : 1 ≤ V.each ∧ 2 * V.each ≤ 2048
  life : 1 ≤ V.life ∧ V.life ≤ 16777214
  era : 0 ≤ V.era ∧ V.era ≤ 16777215
  state : V.state.length ≤ 30000
/-- The pointer v is a vault of the drive p that reads as V; all its blocks lie in F. -/
def IsVt (w : World) (v p : Value) (F : Nat → Prop) (V : Vt) : Prop :=
  ∃ b sp sv FS, v = .pointer (some ⟨b, 0, none⟩) ∧ vtBox w b sp p V sv ∧ IsSc w sp p FS V.S ∧ (∀ i, FS i → F i) ∧ F b ∧ ¬ FS b ∧ Bytes w 5 sv V.state ∧ (∀ g, homeOf sv = some g → F g ∧ ¬ FS g) ∧ V.Ok
theorem IsVt.keep {w w' : World} {v p : Value} {F M : Nat → Prop} {V : Vt} (h : IsVt w v p F V) (k : Keep M w w') (hd : ∀ i, F i → ¬ M i) : IsVt w' v p F V :=
  let ⟨b, sp, sv, FS, h1, h2, h3, h4, h5, h6, h7, h8, h9⟩ := h
  ⟨b, sp, sv, FS, h1, h2.keep k (hd b h5), h3.keep k (fun i hi => hd i (h4 i hi)), h4, h5, h6, h7.keep k (fun g hg => hd g (h8 g hg).1), h8, h9⟩
theorem IsVt.same {w w' : World} {v p : Value} {F : Nat → Prop} {V : Vt} (h : IsVt w v p F V) (k : Same w w') : IsVt w' v p F V := h.keep k fun _ _ x => x
theorem IsVt.ok {w : World} {v p : Value} {F : Nat → Prop} {V : Vt} (h : IsVt w v p F V) : V.Ok := let ⟨_, _, _, _, _, _, _, _, _, _, _, _, h9⟩ := h; h9
theorem IsVt.ptr {w : World} {v p : Value} {F : Nat → Prop} {V : Vt} (h : IsVt w v p F V) : ∃ b, v = .pointer (some ⟨b, 0, none⟩) := let ⟨b, _, _, _, h1, _⟩ := h; ⟨b, h1⟩
theorem vOk (w : World) (v p : Value) (F : Nat → Prop) (V : Vt) (hV : IsVt w v p F V) : Calls Try.prog 110 #[v] w (RetSame (.bool true) w) := by
  obtain ⟨b, sp, sv, FS, rfl, hB, hS, _⟩ := hV
  obtain ⟨sb, rfl⟩ := hS.ptr
  obtain ⟨c0, c1, c2, c3, c4, c5, c6⟩ := Box7.cells hB
  clear hB hS
  go_enter Try.func110, Try.ntmps110
  go_wp2_with fail
  go_ret
  exact ⟨rfl, Same.refl _⟩
/-- a vault that no call made -/
def NoVault (w : World) (v : Value) : Prop := v = .pointer none ∨ ∃ b, v = .pointer (some ⟨b, 0, none⟩) ∧ w.cell? ⟨b, 0, none⟩ = some (.pointer none)
theorem NoVault.same {w w' : World} {v : Value} (h : NoVault w v) (S : Same w w') : NoVault w' v := by
  rcases h with h | ⟨b, h, c⟩
  · exact .inl h
  · exact .inr ⟨b, h, (S.cell (p := ⟨b, 0, none⟩) (World.block_lt_of_cell? w _ c)).trans c⟩
theorem vOk_none (w : World) (v : Value) (h : NoVault w v) : Calls Try.prog 110 #[v] w (RetSame (.bool false) w) := by
  rcases h with rfl | ⟨b, rfl, c0⟩
  all_goals
    go_enter Try.func110, Try.ntmps110
    go_wp2_with fail
    go_ret
    exact ⟨rfl, Same.refl _⟩
theorem vReady_none (w : World) (v : Value) (h : NoVault w v) : Calls Try.prog 112 #[v] w (RetSame (.int .i64 1) w) := by
  have H := hid vOk_none
  go_enter Try.func112, Try.ntmps112
  go_wp2_with fail
  refine (H.out _ _ h).mono ?_
  rintro en w1 ⟨rfl, S1⟩
  go_wp2_with fail
  go_ret
  exact ⟨rfl, S1⟩
theorem vAppend_none (w : World) (v u : Value) (h : NoVault w v) : Calls Try.prog 74 #[v, u] w (RetSame (.int .i64 1) w) := by
  have H := hid vReady_none
  go_enter Try.func74, Try.ntmps74
  go_wp2_with fail
  refine (H.out _ _ h).mono ?_
  rintro en w1 ⟨rfl, S1⟩
  go_wp2_with fail
  go_ret
  exact ⟨rfl, S1⟩
theorem vCompact_none (w : World) (v u : Value) (h : NoVault w v) : Calls Try.prog 75 #[v, u] w (RetSame (.int .i64 1) w) := by
  have H := hid vReady_none
  go_enter Try.func75, Try.ntmps75
  go_wp2_with fail
  refine (H.out _ _ h).mono ?_
  rintro en w1 ⟨rfl, S1⟩
  go_wp2_with fail
  go_ret
  exact ⟨rfl, S1⟩
theorem vRecords_none (w : World) (v : Value) (h : NoVault w v) : Calls Try.prog 76 #[v] w (RetSame (.slice none 0 0) w) := by
  have H := hid vOk_none
  go_enter Try.func76, Try.ntmps76
  go_wp2_with fail
  refine (H.out _ _ h).mono ?_
  rintro en w1 ⟨rfl, S1⟩
  go_wp2_with fail
  go_ret
  exact ⟨rfl, S1⟩
theorem vEra_none (w : World) (v : Value) (h : NoVault w v) : Calls Try.prog 77 #[v] w (RetSame (.int .i64 0) w) := by
  have H := hid vOk_none
  go_enter Try.func77, Try.ntmps77
  go_wp2_with fail
  refine (H.out _ _ h).mono ?_
  rintro en w1 ⟨rfl, S1⟩
  go_wp2_with fail
  go_ret
  exact ⟨rfl, S1⟩
theorem vLeft_none (w : World) (v : Value) (h : NoVault w v) : Calls Try.prog 78 #[v] w (RetSame (.int .i64 0) w) := by
  have H := hid vOk_none
  go_enter Try.func78, Try.ntmps78
  go_wp2_with fail
  refine (H.out _ _ h).mono ?_
  rintro en w1 ⟨rfl, S1⟩
  go_wp2_with fail
  go_ret
  exact ⟨rfl, S1⟩
theorem vState_none (w : World) (v : Value) (h : NoVault w v) : Calls Try.prog 72 #[v] w (RetSame (.tuple #[.slice none 0 0, .bool false]) w) := by
  have H := hid vOk_none
  go_enter Try.func72, Try.ntmps72
  go_wp2_with fail
  refine (H.out _ _ h).mono ?_
  rintro en w1 ⟨rfl, S1⟩
  go_wp2_with fail
  go_ret2
  exact ⟨rfl, S1⟩
theorem vOpen_none (w : World) (p : Value) (each : Int) (h : Nobody w p) : Calls Try.prog 73 #[p, .int .i64 each] w (RetSame (.tuple #[.pointer none, .int .i64 1]) w) := by
  have H := hid dSize_none
  go_enter Try.func73, Try.ntmps73
  go_wp2_with fail
  refine (H.out _ _ h).mono ?_
  rintro en w1 ⟨rfl, S1⟩
  go_wp2_with fail
  go_ret2
  exact ⟨rfl, S1⟩
/-- ready -/
def Vt.ready (V : Vt) (D : Dv) : Int := if V.dead || D.off then 9 else 0
theorem vReady (w : World) (v p : Value) (F FD : Nat → Prop) (V : Vt) (D : Dv) (hV : IsVt w v p F V) (hD : IsDv w p FD D) : Calls Try.prog 112 #[v] w (RetSame (.int .i64 (V.ready D)) w) := by
  have HOk := hid (vOk w v p F V hV)
  have HLv := hid (fun w' (Z : Same w w') => dLiveD w' p FD D (hD.same Z))
  obtain ⟨pb, rfl⟩ := hD.ptr
  obtain ⟨b, sp, sv, FS, rfl, hB, hS, _⟩ := hV
  have HB := hid hB
  have hr : V.ready D = if V.dead || D.off then 9 else 0 := rfl
  have HR := hid hr
  clear hB hS hD hr
  generalize V.ready D = r at *
  go_enter Try.func112, Try.ntmps112
  go_wp2_with fail
  refine HOk.out.mono ?_
  rintro en w1 ⟨rfl, S1⟩
  have S1 := hid S1
  obtain ⟨c0, c1, c2, c3, c4, c5, c6⟩ := Box7.cells (HB.out.same S1.out)
  clear c0 c2 c3 c4 c5
  cases hd : V.dead
  · rw [hd] at c6 HR
    clear hd
    go_wp2_with fail
    refine (HLv.out _ S1.out).mono ?_
    rintro en w2 ⟨rfl, S2⟩
    have S2 := hid (S1.out.trans S2)
    cases ho : D.off
    · rw [ho] at HR
      have HR : Hid (r = 0) := HR
      clear ho
      go_wp2_with fail
      go_ret
      rw [HR.out]
      exact ⟨rfl, S2.out⟩
    · rw [ho] at HR
      have HR : Hid (r = 9) := HR
      clear ho
      go_wp2_with fail
      go_ret
      rw [HR.out]
      exact ⟨rfl, S2.out⟩
  · rw [hd] at c6 HR
    have HR : Hid (r = 9) := HR
    clear hd
    go_wp2_with fail
    go_ret
    rw [HR.out]
    exact ⟨rfl, S1.out⟩
/-- note -/
theorem vNote (w : World) (v p : Value) (F : Nat → Prop) (V : Vt) (e : Int) (hV : IsVt w v p F V) : Calls Try.prog 113 #[v, .int .i64 e] w fun en w' =>
    en = .returned (.int .i64 e) ∧ Keep F w w' ∧ (∀ FD D, IsDv w p FD D → (∀ i, FD i → ¬ F i) → IsDv w' p FD D) ∧ IsVt w' v p F { V with dead := V.dead || e == 9 } := by
  obtain ⟨b, sp, sv, FS, rfl, hB, hS, h4, h5, h6, h7, h8, h9⟩ := hV
  obtain ⟨c0, c1, c2, c3, c4, c5, c6⟩ := Box7.cells hB
  have z6 := Box7.free hB 6
  have HB := hid hB
  have HS := hid hS
  have H7 := hid h7
  have H8 := hid h8
  have H4 := hid h4
  have H5 := hid h5
  have H6 := hid h6
  have H9 := hid h9
  clear hB hS h4 h5 h6 h7 h8 h9 c0 c1 c2 c3 c4 c5
  have fin : ∀ u : Bool, u = (V.dead || e == 9) → ∀ w', w' = w.setCell ⟨b, 6, none⟩ (.bool u) → Keep F w w' ∧ (∀ FD D, IsDv w p FD D → (∀ i, FD i → ¬ F i) → IsDv w' p FD D) ∧ IsVt w' (.pointer (some ⟨b, 0, none⟩)) p F { V with dead := V.dead || e == 9 } := by
    rintro u rfl w' rfl
    have K : Keep (fun k => k = b) w (w.setCell ⟨b, 6, none⟩ (.bool (V.dead || e == 9))) := (Keep.refl (fun k => k = b) w).setCell (p := ⟨b, 6, none⟩) (.inl rfl) _
    have KF : Keep F w _ := K.weak' (fun i hi => by subst hi; exact H5.out)
    obtain ⟨o1, o2, o3, o4⟩ := H9.out
    exact ⟨KF, fun FD D hD hd => hD.keep KF hd, b, sp, sv, FS, rfl, Box7.set6 HB.out _, HS.out.keep K (fun i hi e => by subst e; exact H6.out hi), H4.out, H5.out, H6.out, H7.out.keep K (fun g hg e => H7.out.apart7 HB.out (by rw [hg, e])), H8.out, ⟨o1, o2, o3, o4⟩⟩
  have Fin := hid fin
  clear fin
  cases hd : V.dead
  · rw [hd] at c6 Fin
    by_cases he : e = 9
    · subst he
      clear hd
      go_enter Try.func113, Try.ntmps113
      go_wp2_with fail
      go_ret
      exact ⟨rfl, Fin.out true rfl _ rfl⟩
    · have hb : (e == 9) = false := by rw [beq_eq_false_iff_ne]; exact he
      rw [hb] at Fin
      clear hd he
      go_enter Try.func113, Try.ntmps113
      go_wp2_with fail
      go_ret
      rw [hb]
      exact ⟨rfl, Fin.out false rfl _ rfl⟩
  · rw [hd] at c6 Fin
    clear hd
    go_enter Try.func113, Try.ntmps113
    go_wp2_with fail
    go_ret
    exact ⟨rfl, Fin.out true rfl _ rfl⟩
theorem vRecords (w : World) (v p : Value) (F : Nat → Prop) (V : Vt) (hV : IsVt w v p F V) (hp : ∃ pb, p = .pointer (some ⟨pb, 0, none⟩)) : Calls Try.prog 76 #[v] w (RetRows V.S.all w) := by
  have HOk := hid (vOk w v p F V hV)
  obtain ⟨b, sp, sv, FS, rfl, hB, hS, _⟩ := hV
  have HR := hid (fun w' (Z : Same w w') => cRecords w' sp p FS V.S (hS.same Z) hp)
  obtain ⟨sb, rfl⟩ := hS.ptr
  have HB := hid hB
  clear hB hS hp
  go_enter Try.func76, Try.ntmps76
  go_wp2_with fail
  refine HOk.out.mono ?_
  rintro en w1 ⟨rfl, S1⟩
  have S1 := hid S1
  obtain ⟨c0, c1, c2, c3, c4, c5, c6⟩ := Box7.cells (HB.out.same S1.out)
  clear c1 c2 c3 c4 c5 c6
  go_wp2_with fail
  refine (HR.out _ S1.out).mono ?_
  rintro en w2 ⟨v2, rfl, O2, S2⟩
  obtain ⟨a2, c2, rfl, _, _⟩ := O2.rows.form
  have O2 := hid O2
  have S2 := hid S2
  go_wp2_with fail
  go_ret
  exact ⟨_, rfl, O2.out.mono S1.out.size, S1.out.trans S2.out⟩
theorem vEra (w : World) (v p : Value) (F : Nat → Prop) (V : Vt) (hV : IsVt w v p F V) : Calls Try.prog 77 #[v] w (RetSame (.int .i64 V.era) w) := by
  have HOk := hid (vOk w v p F V hV)
  obtain ⟨b, sp, sv, FS, rfl, hB, hS, _⟩ := hV
  have HB := hid hB
  clear hB hS
  go_enter Try.func77, Try.ntmps77
  go_wp2_with fail
  refine HOk.out.mono ?_
  rintro en w1 ⟨rfl, S1⟩
  have S1 := hid S1
  obtain ⟨c0, c1, c2, c3, c4, c5, c6⟩ := Box7.cells (HB.out.same S1.out)
  clear c0 c1 c2 c3 c5 c6
  go_wp2_with fail
  go_ret
  exact ⟨rfl, S1.out⟩
set_option maxHeartbeats 1600000 in
theorem vState (w : World) (v p : Value) (F : Nat → Prop) (V : Vt) (hV : IsVt w v p F V) : Calls Try.prog 72 #[v] w fun en w' =>
    ∃ u, en = .returned (.tuple #[u, .bool (decide (0 < V.era))]) ∧ OwnB w' w.heap.size u V.state ∧ Same w w' := by
  have HOk := hid (vOk w v p F V hV)
  obtain ⟨b, sp, sv, FS, rfl, hB, hS, _, _, _, h7, _, h9⟩ := hV
  have HB := hid hB
  have hst := h9.state
  have HBl := hid (fun w' (Z : Same w w') => bClone w' 5 sv V.state (h7.same Z) (show V.state.length ≤ 1000000 by omega))
  obtain ⟨av, cv, rfl, _, _⟩ := h7.form
  clear hB hS h7 h9 hst
  go_enter Try.func72, Try.ntmps72
  go_wp2_with fail
  refine HOk.out.mono ?_
  rintro en w1 ⟨rfl, S1⟩
  have S1 := hid S1
  obtain ⟨c0, c1, c2, c3, c4, c5, c6⟩ := Box7.cells (HB.out.same S1.out)
  have HBk := hid (HBl.out w1.drew S1.out.drew)
  clear c0 c1 c2 c3 c6
  go_wp2_with fail
  go_region_held3 (fun w' => w'.cell? ⟨b, 4, none⟩ = some (.int .i64 V.era) ∧ w'.cell? ⟨b, 5, none⟩ = some (.slice av V.state.length cv))
    (first | with_reducible exact ⟨by assumption, by assumption⟩ | go_keep)
    (first | (go_at_call 99; (with_reducible refine HBk.out.mono ?_); rintro en w2 ⟨v2, rfl, O2, S2⟩; obtain ⟨a2, q2, rfl, _, _⟩ := O2.bytes.form; obtain ⟨m0, m1, m2, m3, m4, m5, m6⟩ := Box7.cells (HB.out.same (S1.out.drew.trans S2))))
  have O2 := hid O2
  have S2 := hid S2
  go_wp2_with fail
  go_ret2
  exact ⟨_, rfl, O2.out.mono S1.out.drew.size, S1.out.drew.trans S2.out⟩
end Go.Proofs.Ytlhnpicmjjddeaa
namespace Go.Proofs.Ytlhnpicmjjddeaa

/-- the scroll is what the drive says; nothing of its own life stands behind it -/
structure KsA (D : Dv) (S : Sc) : Prop where
  on : D.off = false
  alive : S.dead = false
  fit : 0 ≤ S.from_ ∧ S.from_ ≤ S.at_ ∧ S.at_ ≤ S.till ∧ S.till ≤ D.C.length
  low : ∀ i : Int, (decF (D.sector i)).right = true → (decF (D.sector i)).life ≤ S.life
  low2 : ∀ i : Int, S.at_ ≤ i → (decF (D.sector i)).right = true → (decF (D.sector i)).life < S.life
  reads : D.read S.till S.era S.from_ 1 0 = (S.all, S.at_, S.last)
  lastL : S.last ≤ S.life
theorem read_last {D : Dv} {till era L : Int} (h : ∀ i : Int, (decF (D.sector i)).right = true → (decF (D.sector i)).life ≤ L) : ∀ (f : Nat) (a n last : Int), till - a ≤ f → last ≤ L → (D.read till era a n last).2.2 ≤ L := by
  intro f
  induction f with
  | zero =>
    intro a n last h1 h2
    have : D.recAt till era a n last = false := by
      cases e : D.recAt till era a n last
      · rfl
      · have := (recAt_iff.1 e).1
        omega
    rw [read_no this]
    exact h2
  | succ f ih =>
    intro a n last h1 h2
    cases e : D.recAt till era a n last
    · rw [read_no e]; exact h2
    · have hp := recAt_parts e
      rw [read_yes e]
      refine ih _ _ _ (by omega) ?_
      have := hp.2.2.2 0 (by omega)
      rw [show a + ((0 : Nat) : Int) = a by simp] at this
      exact h _ this
theorem open_zero {D : Dv} {from_ till life era : Int} (hf : 0 ≤ from_ ∧ from_ ≤ till ∧ till ≤ D.C.length) (hl : 1 ≤ life ∧ life ≤ 16777215) (he : 0 ≤ era ∧ era ≤ 16777215)
    (h : ∀ i : Int, (decF (D.sector i)).right = true → (decF (D.sector i)).life < life) : D.openE from_ till life era = 0 := by
  unfold Dv.openE
  rw [if_pos ⟨by unfold Dv.within; rw [decide_eq_true_eq]; exact hf, hl.1, hl.2, he.1, he.2, newest_lt h hl.1⟩]
theorem KsA.opened {D : Dv} {from_ till life era : Int} (ho : D.off = false) (hf : 0 ≤ from_ ∧ from_ ≤ till ∧ till ≤ D.C.length) (hl : 1 ≤ life)
    (h : ∀ i : Int, (decF (D.sector i)).right = true → (decF (D.sector i)).life < life) : KsA D (D.opened from_ till life era) :=
  ⟨ho, rfl, ⟨hf.1, read_from D till era from_ 1 0, read_le D till era from_ 1 0 hf.2.1, hf.2.2⟩, fun i hr => Int.le_of_lt (h i hr), fun i _ hr => h i hr, rfl,
    read_last (fun i hr => Int.le_of_lt (h i hr)) (till - from_).toNat from_ 1 0 (by omega) (by omega)⟩
theorem KsA.of_C {D D' : Dv} {S : Sc} (h : KsA D S) (hC : D'.C = D.C) (ho : D'.off = false) : KsA D' S := by
  have hs := sector_C hC
  refine ⟨ho, h.alive, by rw [hC]; exact h.fit, fun i hr => ?_, fun i hi hr => ?_, ?_, h.lastL⟩
  · rw [hs] at hr ⊢; exact h.low i hr
  · rw [hs] at hr ⊢; exact h.low2 i hi hr
  · have := read_prefix (D := D) (D' := D') S.till S.era (S.till - S.from_).toNat S.from_ 1 0 (by omega) (fun i _ _ => hs i)
    rw [this, read_no (D := D')]
    · simp only [List.append_nil]; exact h.reads
    · have := read_stop D S.till S.era S.from_ 1 0
      rwa [(recAt_congr (hs _) (fun i _ => hs _)).1]
/-- what is left of a record under way -/
structure KsB (D D' : Dv) (S : Sc) (b : List UInt8) : Prop where
  len : D'.C.length = D.C.length
  low : ∀ i : Int, (decF (D'.sector i)).right = true → (decF (D'.sector i)).life ≤ S.life
  out : ∀ i : Int, i < S.from_ → D'.sector i = D.sector i
  reads : (D'.read S.till S.era S.from_ 1 0).1 = S.all ∨ (D'.read S.till S.era S.from_ 1 0).1 = S.all ++ [b]
theorem KsA.append {D : Dv} {S : Sc} {b : List UInt8} (h : KsA D S) (hc : cutE S.life S.era (S.all.length + 1) b = 0) :
    S.append D b = (10, S, D) ∨
    ((S.append D b).1 = 0 ∧ KsA (S.append D b).2.2 (S.append D b).2.1 ∧ (∃ a, (S.append D b).2.1 = { S with all := S.all ++ [b], at_ := a, last := S.life }) ∧ (S.append D b).2.2.C.length = D.C.length ∧ ∀ i : Int, i < S.from_ → (S.append D b).2.2.sector i = D.sector i) ∨
    ((S.append D b).1 = 9 ∧ (S.append D b).2.2.off = true ∧ KsB D (S.append D b).2.2 S b ∧ (S.append D b).2.1 = { S with dead := true }) := by
  obtain ⟨f1, f2, f3, f4⟩ := h.fit
  have hlen := cutL_length S.life S.era (S.all.length + 1) b
  have hpos := nparts_pos b.length
  by_cases hfull : S.till - S.at_ < (cutL S.life S.era (S.all.length + 1) b).length
  · left
    unfold Sc.append
    rw [if_neg (by rw [h.alive, h.on]; simp), if_neg (by rw [hc]; exact fun x => x rfl), if_pos hfull]
  right
  obtain ⟨A, hA⟩ : ∃ A : Nat, S.at_ = (A : Int) := ⟨S.at_.toNat, by omega⟩
  have hbad : D.bad A (cutL S.life S.era (S.all.length + 1) b) = false := by
    unfold Dv.bad
    rw [cutL_long hc, decide_eq_false (by omega), decide_eq_false (by omega), decide_eq_false (by omega)]
    rfl
  have hw : D.write S.at_ (cutL S.life S.era (S.all.length + 1) b) = (if D.blown then 9 else 0, D.wrote A (cutL S.life S.era (S.all.length + 1) b)) := by
    unfold Dv.write
    rw [hA, h.on, hbad, if_neg (by decide), if_neg (by decide), if_neg (by intro e; rw [e] at hlen; simp at hlen; omega)]
  have ht := D.tornS (at_ := A) (life := S.life) (era := S.era) (seq := S.all.length + 1) (b := b) (by omega)
  have hl2 : (D.wrote A (cutL S.life S.era (S.all.length + 1) b)).C.length = D.C.length := by unfold Dv.wrote; exact landed_length _ _ _ _ _
  have hS : S.append D b = if D.blown then (9, { S with dead := true }, D.wrote A (cutL S.life S.era (S.all.length + 1) b))
      else (0, { S with all := S.all ++ [b], at_ := S.at_ + (cutL S.life S.era (S.all.length + 1) b).length, last := S.life }, D.wrote A (cutL S.life S.era (S.all.length + 1) b)) := by
    unfold Sc.append
    rw [if_neg (by rw [h.alive, h.on]; simp), if_neg (by rw [hc]; exact fun x => x rfl), if_neg hfull, hw]
    cases D.blown
    · rfl
    · rfl
  rw [hS]
  have hoff : (D.wrote A (cutL S.life S.era (S.all.length + 1) b)).off = D.blown := rfl
  clear hS hw hbad
  generalize D.wrote A (cutL S.life S.era (S.all.length + 1) b) = D' at *
  rw [hlen] at hfull ⊢
  have hr := h.reads
  have hstop := read_stop D S.till S.era S.from_ 1 0
  have hpre := read_prefix (D := D) (D' := D') S.till S.era (S.till - S.from_).toNat S.from_ 1 0 (by omega) (fun i h1 h2 => ht.2 i fun k hk _ e => by rw [hr] at h2; simp only at h2; omega)
  rw [hr] at hstop hpre
  simp only at hstop hpre
  rw [show (1 : Int) + (S.all.length : Int) = (S.all.length : Int) + 1 by omega, hA] at hstop hpre
  have hout : ∀ i : Int, i < S.from_ → D'.sector i = D.sector i := fun i hi => ht.2 i fun k hk _ e => by omega
  have hlow : ∀ i : Int, (decF (D'.sector i)).right = true → (decF (D'.sector i)).life ≤ S.life := by
    intro i hr
    by_cases hx : ∃ k : Nat, k < nparts b.length ∧ D.keeps k = true ∧ i = (A : Int) + k
    · obtain ⟨k, hk, hs, rfl⟩ := hx
      rw [ht.new hc hk hs]
      exact Int.le_refl _
    · have e := ht.2 i fun k hk hs e => hx ⟨k, hk, hs, e⟩
      rw [e] at hr ⊢
      exact h.low i hr
  have hlow2 : ∀ i : Int, (A : Int) ≤ i → (decF (D.sector i)).right = true → (decF (D.sector i)).life < S.life := fun i hi => h.low2 i (by omega)
  cases hB : D.blown
  · left
    rw [if_neg (by decide)]
    have hw := read_whole (till := S.till) (last := S.last) ht hc (by omega) h.lastL hlow2 (fun i _ => by unfold Dv.keeps; rw [hB]; rfl)
    rw [hw] at hpre
    refine ⟨rfl, ⟨by rw [hoff, hB], h.alive, ⟨f1, by show S.from_ ≤ S.at_ + _; omega, by show S.at_ + _ ≤ S.till; omega, by rw [hl2]; exact f4⟩, hlow, fun i hi hr => ?_, ?_, Int.le_refl _⟩, ⟨_, rfl⟩, hl2, hout⟩
    · have hi' : S.at_ + (nparts b.length : Int) ≤ i := hi
      rw [ht.2 i fun k hk _ e => by omega] at hr ⊢
      exact h.low2 i (by omega) hr
    · show D'.read S.till S.era S.from_ 1 0 = (S.all ++ [b], S.at_ + (nparts b.length : Int), S.life)
      rw [hpre, hA]
  · right
    rw [if_pos rfl]
    refine ⟨rfl, by rw [hoff, hB], ⟨hl2, hlow, hout, ?_⟩, rfl⟩
    rcases read_torn (till := S.till) (last := S.last) ht hc (by omega) h.lastL hlow2 hstop with e | e
    · right; rw [hpre, e]
    · left; rw [hpre, e]; simp
theorem Sc.append_dead {S : Sc} {D : Dv} {b : List UInt8} (h : S.dead = true ∨ D.off = true) : S.append D b = (9, S, D) := by unfold Sc.append; rw [if_pos h]
end Go.Proofs.Ytlhnpicmjjddeaa
