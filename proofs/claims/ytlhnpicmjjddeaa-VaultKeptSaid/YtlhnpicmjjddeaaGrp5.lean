/- SCROLL: Append. SCROLL's reference: Same of two rows of records. SCROLL: lives of layer 8; a scroll that no call made; the walk of ScrollNobody. VAULT: the vault in memory; its small functions; a vault that no call made. SCROLL, plainly: what a crash leaves. No program in sight. VAULT: turn, Open. VAULT: Append, Compact. -/
import Derived.Test.YtlhnpicmjjddeaaGrp4
import Derived.Test.YtlhnpicmjjddeaaGrp3
set_option linter.unusedVariables false
set_option linter.unusedSimpArgs false
namespace Go.Proofs.Ytlhnpicmjjddeaa
open Go.RowKit

/-- what Append leaves -/
def RetApp (r : Int × Sc × Dv) (s p : Value) (FD FS : Nat → Prop) (w : World) (en : Ending) (w' : World) : Prop :=
  ∃ FS', en = .returned (.int .i64 r.1) ∧ Keep (fun k => FD k ∨ FS k) w w' ∧ IsDv w' p FD r.2.2 ∧ IsSc w' s p FS' r.2.1 ∧ Grow FS FS' w w'
theorem append_dead {S : Sc} {D : Dv} {b : List UInt8} (h : S.dead = true ∨ D.off = true) : S.append D b = (9, S, D) := if_pos h
theorem append_cut {S : Sc} {D : Dv} {b : List UInt8} (h : ¬ (S.dead = true ∨ D.off = true)) (h2 : cutE S.life S.era (S.all.length + 1) b ≠ 0) : S.append D b = (cutE S.life S.era (S.all.length + 1) b, S, D) := by
  unfold Sc.append; rw [if_neg h, if_pos h2]
theorem append_full {S : Sc} {D : Dv} {b : List UInt8} (h : ¬ (S.dead = true ∨ D.off = true)) (h2 : cutE S.life S.era (S.all.length + 1) b = 0) (h3 : S.till - S.at_ < (cutL S.life S.era (S.all.length + 1) b).length) : S.append D b = (10, S, D) := by
  unfold Sc.append; rw [if_neg h, if_neg (by rw [h2]; exact fun x => x rfl), if_pos h3]
theorem append_bad {S : Sc} {D : Dv} {b : List UInt8} (h : ¬ (S.dead = true ∨ D.off = true)) (h2 : cutE S.life S.era (S.all.length + 1) b = 0) (h3 : ¬ S.till - S.at_ < (cutL S.life S.era (S.all.length + 1) b).length) (h4 : (D.write S.at_ (cutL S.life S.era (S.all.length + 1) b)).1 ≠ 0) :
    S.append D b = ((D.write S.at_ (cutL S.life S.era (S.all.length + 1) b)).1, { S with dead := true }, (D.write S.at_ (cutL S.life S.era (S.all.length + 1) b)).2) := by
  unfold Sc.append; rw [if_neg h, if_neg (by rw [h2]; exact fun x => x rfl), if_neg h3, if_pos h4]
theorem append_good {S : Sc} {D : Dv} {b : List UInt8} (h : ¬ (S.dead = true ∨ D.off = true)) (h2 : cutE S.life S.era (S.all.length + 1) b = 0) (h3 : ¬ S.till - S.at_ < (cutL S.life S.era (S.all.length + 1) b).length) (h4 : (D.write S.at_ (cutL S.life S.era (S.all.length + 1) b)).1 = 0) :
    S.append D b = (0, { S with all := S.all ++ [b], at_ := S.at_ + (cutL S.life S.era (S.all.length + 1) b).length, last := S.life }, (D.write S.at_ (cutL S.life S.era (S.all.length + 1) b)).2) := by
  unfold Sc.append; rw [if_neg h, if_neg (by rw [h2]; exact fun x => x rfl), if_neg h3, if_neg (by rw [h4]; exact fun x => x rfl)]
set_option maxHeartbeats 12800000 in
set_option maxRecDepth 100000 in
theorem cAppend (w : World) (s p v : Value) (FD FS : Nat → Prop) (D : Dv) (S : Sc) (b : List UInt8) (e : TypeId) (hD : IsDv w p FD D) (hS : IsSc w s p FS S) (hx : ∀ i, FD i → ¬ FS i) (hF : ∀ k, FD k → k < w.heap.size)
    (hb : Bytes w e v b) (hl : b.length ≤ 20000) (hnb : ∀ g, homeOf v = some g → ¬ FD g) : Calls Try.prog 69 #[s, v] w (RetApp (S.append D b) s p FD FS w) := by
  have HOk := hid (cOk w s p FS S hS hD.ptr)
  have HLv := hid (fun w' (Z : Same w w') => dLiveD w' p FD D (hD.same Z))
  have HS0 := hid hS
  have HD := hid hD
  have hok := hS.ok
  have HCut := hid (fun w' (Z : Same w w') => fCut w' e v S.life S.era (S.all.length + 1) b (hb.same Z) (by omega))
  have HBy := hid hb
  have Hl := hid hl
  have HNb := hid hnb
  have HF := hid hF
  have Hx := hid hx
  have HBl := hid bClone
  obtain ⟨pb, rfl⟩ := hD.ptr
  obtain ⟨sb, rv, rfl, hB, hFb, hQ, _⟩ := hS
  obtain ⟨av, cv, rfl, f1, f2⟩ := hQ.rows.form
  obtain ⟨ab, cb, rfl, _, _⟩ := hb.form
  have HB := hid hB
  have HQ := hid hQ
  have HFb := hid hFb
  have Hok := hid hok
  have HStop : Hid (∀ r, S.append D b = (r, S, D) → ∀ w', Same w w' → RetApp (S.append D b) (.pointer (some ⟨sb, 0, none⟩)) (.pointer (some ⟨pb, 0, none⟩)) FD FS w (.returned (.int .i64 r)) w') := fun r h w' Z => by
    rw [h]
    exact ⟨FS, rfl, Z.keep _, HD.out.same Z, HS0.out.same Z, Grow.refl _ _ _⟩
  have HA1 := hid (@append_dead S D b)
  have HA2 := hid (@append_cut S D b)
  have HA3 := hid (@append_full S D b)
  have HA4 := hid (@append_bad S D b)
  have HA5 := hid (@append_good S D b)
  have hfit := hok.fit
  have hfew : S.all.length ≤ 2048 := by have := hok.few; omega
  clear hD hb hl hnb hF hx hB hFb hQ hok f1
  go_enter Try.func69, Try.ntmps69
  go_wp2_with fail
  refine HOk.out.mono ?_
  rintro en w1 ⟨rfl, S1⟩
  have S1 := hid S1
  obtain ⟨c0, c1, c2, c3, c4, c5, c6, c7, c8⟩ := Box9.cells (HB.out.same S1.out)
  cases hdead : S.dead
  case true =>
    have hz := hid (HA1.out (.inl hdead))
    rw [hdead] at c8
    clear hdead
    go_wp2_with fail
    go_ret
    exact HStop.out _ hz.out _ S1.out
  rw [hdead] at c8
  have Hdead := hid hdead
  clear hdead
  go_wp2_with fail
  refine (HLv.out _ S1.out).mono ?_
  rintro en w2 ⟨rfl, S2⟩
  have S2 := hid (S1.out.trans S2)
  clear c0 c1 c2 c3 c4 c5 c6 c7 c8
  cases hoff : D.off
  case true =>
    have hz := hid (HA1.out (.inr hoff))
    clear hoff
    go_wp2_with fail
    go_ret
    exact HStop.out _ hz.out _ S2.out
  have Hno : Hid (¬ (S.dead = true ∨ D.off = true)) := by
    show ¬ _
    rw [Hdead.out, hoff]; simp
  clear hoff
  obtain ⟨c0, c1, c2, c3, c4, c5, c6, c7, c8⟩ := Box9.cells (HB.out.same S2.out)
  have HC2 := hid (HCut.out w2.drew S2.out.drew)
  have hw1 : IntKind.i64.wrap ((S.all.length : Int) + 1) = (S.all.length : Int) + 1 := by rw [IntKind.wrap_i64]; omega
  go_wp2_with fail
  go_region_held3 (fun w' => w'.cell? ⟨sb, 3, none⟩ = some (.int .i64 S.life) ∧ w'.cell? ⟨sb, 2, none⟩ = some (.int .i64 S.till) ∧ w'.cell? ⟨sb, 4, none⟩ = some (.int .i64 S.era) ∧ w'.cell? ⟨sb, 7, none⟩ = some (.slice av S.all.length cv))
    (first | with_reducible exact ⟨by assumption, by assumption, by assumption, by assumption⟩ | go_keep)
    (first | (go_at_call 52; (with_reducible refine HC2.out.mono ?_); rintro en w3 ⟨v3, rfl, O3, S3⟩; obtain ⟨a3, q3, rfl, _, _⟩ := O3.rows.form; obtain ⟨m0, m1, m2, m3, m4, m5, m6, m7, m8⟩ := Box9.cells (HB.out.same (S2.out.drew.trans S3))))
  have S3 := hid (S2.out.drew.trans S3)
  clear c0 c1 c2 c3 c4 c5 c6 c7 c8 HC2 HCut
  by_cases hce : cutE S.life S.era (S.all.length + 1) b = 0
  case neg =>
    have hz := hid (HA2.out Hno.out hce)
    have hnz : (cutE S.life S.era (S.all.length + 1) b != 0) = true := by rw [bne_iff_ne]; exact hce
    clear hce
    generalize cutE S.life S.era (S.all.length + 1) b = ce at *
    go_wp2_with fail
    go_ret
    exact HStop.out _ hz.out _ S3.out
  have hca : cutAll S.life S.era (S.all.length + 1) b = cutL S.life S.era (S.all.length + 1) b := by unfold cutAll; rw [if_pos hce]
  have Hce := hid hce
  rw [hca] at O3 ⊢
  rw [hce]
  have hll := cutL_length S.life S.era (S.all.length + 1) b
  have hlp := nparts_pos b.length
  have hlb : nparts b.length ≤ 255 := (cutE_zero.1 hce).1
  clear hce hca
  have HA3' := hid (HA3.out Hno.out Hce.out)
  have HA4' := hid (HA4.out Hno.out Hce.out)
  have HA5' := hid (HA5.out Hno.out Hce.out)
  clear HA1 HA2 HA3 HA4 HA5
  generalize cutL S.life S.era (S.all.length + 1) b = ls at *
  rw [← hll] at hlp hlb
  clear hll
  by_cases hfu : S.till - S.at_ < ls.length
  case pos =>
    have hz := hid (HA3'.out hfu)
    have hd : decide (S.till - S.at_ < (ls.length : Int)) = true := by simpa using hfu
    clear hfu
    go_wp2_with fail
    go_quiet (fail)
    go_wp2_with fail
    go_ret
    exact HStop.out _ hz.out _ (S3.out.drewN _)
  have Hfu := hid hfu
  have hd : decide (S.till - S.at_ < (ls.length : Int)) = false := by simpa using hfu
  have HA4'' := hid (HA4'.out (Int.not_lt.1 hfu))
  have HA5'' := hid (HA5'.out (Int.not_lt.1 hfu))
  clear hfu HA3' HA4' HA5'
  go_wp2_with fail
  go_quiet (fail)
  have S4 := hid (S3.out.drewN nq)
  have O4 := hid (O3.same ((Same.refl w3).drewN nq))
  clear m0 m1 m2 m3 m4 m5 m6 m7 m8 O3 hd
  generalize w3.drewN nq = w4 at *
  have RN := hid (O4.out.rows2N (M := FD) (fun k hk => by have h1 := HF.out k hk; have h2 := S2.out.size; simp; omega))
  have HW := hid (dWrite w4.drew _ FD D S.at_ 23 _ ls (HD.out.same S4.out.drew) (RN.out.keep ((Same.refl w4).drew.keep FD)))
  have hsb : Hid (¬ FD sb) := fun h => Hx.out sb h HFb.out
  obtain ⟨c0, c1, c2, c3, c4, c5, c6, c7, c8⟩ := Box9.cells (HB.out.same S4.out)
  generalize D.write S.at_ ls = R at *
  obtain ⟨re, D'⟩ := R
  simp only at HA4'' HA5''
  go_wp2_with fail
  go_region_held3 (fun w' => w'.cell? ⟨sb, 0, none⟩ = some (.pointer (some ⟨pb, 0, none⟩)) ∧ w'.cell? ⟨sb, 6, none⟩ = some (.int .i64 S.at_))
    (first | with_reducible exact ⟨by assumption, by assumption⟩ | go_keep)
    (first | (go_at_call 34; (with_reducible refine HW.out.mono ?_); rintro en w5 ⟨rfl, K5, D5⟩; obtain ⟨m0, m1, m2, m3, m4, m5, m6, m7, m8⟩ := Box9.cells (Box9.keep (HB.out.same S4.out.drew) K5 hsb.out)))
  have K5 := hid (((Same.keep S4.out.drew FD)).trans K5)
  have D5 := hid D5
  have B5 := hid (Box9.keep HB.out K5.out hsb.out)
  have Q5 := hid (HQ.out.keep K5.out (fun i hi hn => Hx.out i hn hi))
  clear c0 c1 c2 c3 c4 c5 c6 c7 c8 HW RN O4
  by_cases hre : re = 0
  case neg =>
    have hz := hid (HA4''.out hre)
    have hnz : (re != 0) = true := by rw [bne_iff_ne]; exact hre
    have z8 := B5.out.free 8
    clear hre
    go_wp2_with fail
    go_ret
    rw [hz.out]
    have K6 : Keep (fun k => k = sb) w5 (w5.setCell ⟨sb, 8, none⟩ (.bool true)) := (Keep.refl (fun k => k = sb) w5).setCell (p := ⟨sb, 8, none⟩) (.inl rfl) _
    refine ⟨FS, rfl, (K5.out.weak' fun i hi => .inl hi).trans (K6.weak' fun i hi => by subst hi; exact .inr HFb.out), D5.out.keep K6 (fun i hi e => by subst e; exact hsb.out hi), ⟨sb, _, rfl, Box9.set8 B5.out _, HFb.out, Q5.out.box9 B5.out K6, ?_⟩, Grow.refl _ _ _⟩
    obtain ⟨o1, o2, o3, o4, o5, o6⟩ := Hok.out
    exact ⟨o1, o2, o3, o4, o5, o6⟩
  subst hre
  have HZ := hid (HA5''.out rfl)
  clear HA4'' HA5''
  go_upto_region 14 with fail
  have HK7 := K5
  have B7 := B5
  have Q7 := Q5
  have HCl := hid (HBl.out w5.drew e _ b ((HBy.out.keep K5.out HNb.out).same (Same.refl w5).drew) (show b.length ≤ 1000000 by have := Hl.out; omega))
  have hlq : Hid (S.all.length ≤ 1000000) := show _ ≤ _ by omega
  obtain ⟨SS, hSS⟩ : ∃ SS : Bool → World → Prop, ∀ bz wz, SS bz wz ↔ (bz = false → wz.cell? ⟨sb, 7, none⟩ = some (.slice av S.all.length cv) ∧ wz.cell? ⟨sb, 6, none⟩ = some (.int .i64 S.at_) ∧ wz.cell? ⟨sb, 3, none⟩ = some (.int .i64 S.life)) := ⟨_, fun _ _ => Iff.rfl⟩
  have HSS := hid hSS
  have hw : IntKind.i64.wrap (S.at_ + (ls.length : Int)) = S.at_ + (ls.length : Int) := by rw [IntKind.wrap_i64]; have := Hfu.out; omega
  clear hSS m0 m1 m2 m4 m5 m8
  generalize w5 = w7 at *
  refine wp_region_B 24 SS (by kernel_rfl) ((HSS.out _ _).2 fun _ => ⟨m7, m6, m3⟩) (fun hHeld => ?_)
  clear m3 m6 m7
  refine' wpAnyB_take (i := 0) (b := false) rfl (by kernel_rfl) (by kernel_rfl) (by kernel_rfl) (by decide) (by kernel_rfl) (fun _ _ _ h => h) (by assumption) (.inl ⟨by rfl, ?_⟩) ?_
  rotate_left
  · (intro wz hSw; go_simp; try with_reducible rfl)
  try simp only [Act.put, List.setIfInBounds_toArray, List.set_cons_zero, List.set_cons_succ]
  refine' wpAnyB_take (i := 1) (b := false) rfl (by kernel_rfl) (by kernel_rfl) (by kernel_rfl) (by decide) (by kernel_rfl) (fun _ _ _ h => h) (by assumption) (.inl ⟨by rfl, ?_⟩) ?_
  rotate_left
  · (intro wz hSw; go_simp; try with_reducible rfl)
  try simp only [Act.put, List.setIfInBounds_toArray, List.set_cons_zero, List.set_cons_succ]
  refine' wpAnyB_take (i := 2) (b := false) rfl (by kernel_rfl) (by kernel_rfl) (by kernel_rfl) (by decide) (by kernel_rfl) (fun _ _ _ h => h) (by assumption) (.inl ⟨by rfl, ?_⟩) ?_
  rotate_left
  · (intro wz hSw; go_simp; try with_reducible rfl)
  try simp only [Act.put, List.setIfInBounds_toArray, List.set_cons_zero, List.set_cons_succ]
  refine' wpAnyB_take (i := 3) (b := false) rfl (by kernel_rfl) (by kernel_rfl) (by kernel_rfl) (by decide) (by kernel_rfl) (fun _ _ _ h => h) (by assumption) (.inl ⟨by rfl, ?_⟩) ?_
  rotate_left
  · (intro wz hSw; go_simp; try with_reducible rfl)
  try simp only [Act.put, List.setIfInBounds_toArray, List.set_cons_zero, List.set_cons_succ]
  refine' wpAnyB_take (i := 4) (b := false) rfl (by kernel_rfl) (by kernel_rfl) (by kernel_rfl) (by decide) (by kernel_rfl) (fun _ _ _ h => h) (by assumption) (.inl ⟨by rfl, ?_⟩) ?_
  rotate_left
  · (intro wz hSw; go_simp; try with_reducible rfl)
  try simp only [Act.put, List.setIfInBounds_toArray, List.set_cons_zero, List.set_cons_succ]
  refine' wpAnyB_take (i := 5) (b := false) rfl (by kernel_rfl) (by kernel_rfl) (by kernel_rfl) (by decide) (by kernel_rfl) (fun _ _ _ h => h) (by assumption) (.inl ⟨by rfl, ?_⟩) ?_
  rotate_left
  · (intro wz hSw; go_simp; try with_reducible rfl)
  try simp only [Act.put, List.setIfInBounds_toArray, List.set_cons_zero, List.set_cons_succ]
  refine' wpAnyB_early (i := 6) rfl (by kernel_rfl) (by kernel_rfl) (by kernel_rfl) (by decide) (by kernel_rfl) (by kernel_rfl) (fun _ _ _ h => h) (by assumption) (.inl ⟨by rfl, ?_⟩) ?_
  rotate_left
  · (intro wz hSw; obtain ⟨h7, h6, h3⟩ := (HSS.out _ _).1 hSw rfl; go_simp; try with_reducible rfl)
  try simp only [Act.put, List.setIfInBounds_toArray, List.set_cons_zero, List.set_cons_succ]
  refine' wpAnyB_take (i := 7) (b := false) rfl (by kernel_rfl) (by kernel_rfl) (by kernel_rfl) (by decide) (by kernel_rfl) (fun _ _ _ h => h) (by assumption) (.inl ⟨by rfl, ?_⟩) ?_
  rotate_left
  · (intro wz hSw; go_simp; try with_reducible rfl)
  try simp only [Act.put, List.setIfInBounds_toArray, List.set_cons_zero, List.set_cons_succ]
  refine' wpAnyB_take (i := 11) (b := false) rfl (by kernel_rfl) (by kernel_rfl) (by kernel_rfl) (by decide) (by kernel_rfl) (fun _ _ _ h => h) (by assumption) (.inl ⟨by rfl, ?_⟩) ?_
  rotate_left
  · (intro wz hSw; go_simp; try with_reducible rfl)
  try simp only [Act.put, List.setIfInBounds_toArray, List.set_cons_zero, List.set_cons_succ]
  refine' wpAnyB_take (i := 12) (b := false) rfl (by kernel_rfl) (by kernel_rfl) (by kernel_rfl) (by decide) (by kernel_rfl) (fun _ _ _ h => h) (by assumption) (.inl ⟨by rfl, ?_⟩) ?_
  rotate_left
  · (intro wz hSw; go_simp; try with_reducible rfl)
  try simp only [Act.put, List.setIfInBounds_toArray, List.set_cons_zero, List.set_cons_succ]
  refine' wpAnyB_take (i := 13) (b := false) rfl (by kernel_rfl) (by kernel_rfl) (by kernel_rfl) (by decide) (by kernel_rfl) (fun _ _ _ h => h) (by assumption) (.inl ⟨by rfl, ?_⟩) ?_
  rotate_left
  · (intro wz hSw; go_simp; try with_reducible rfl)
  try simp only [Act.put, List.setIfInBounds_toArray, List.set_cons_zero, List.set_cons_succ]
  refine' wpAnyB_early (i := 14) rfl (by kernel_rfl) (by kernel_rfl) (by kernel_rfl) (by decide) (by kernel_rfl) (by kernel_rfl) (fun _ _ _ h => h) (by assumption) (.inl ⟨by rfl, ?_⟩) ?_
  rotate_left
  · (intro wz hSw; obtain ⟨h7, h6, h3⟩ := (HSS.out _ _).1 hSw rfl; go_simp; try with_reducible rfl)
  try simp only [Act.put, List.setIfInBounds_toArray, List.set_cons_zero, List.set_cons_succ]
  refine' wpAnyB_take (i := 15) (b := false) rfl (by kernel_rfl) (by kernel_rfl) (by kernel_rfl) (by decide) (by kernel_rfl) (fun _ _ _ h => h) (by assumption) (.inl ⟨by rfl, ?_⟩) ?_
  rotate_left
  · (intro wz hSw; go_simp; try with_reducible rfl)
  try simp only [Act.put, List.setIfInBounds_toArray, List.set_cons_zero, List.set_cons_succ]
  refine' wpAnyB_take (i := 16) (b := false) rfl (by kernel_rfl) (by kernel_rfl) (by kernel_rfl) (by decide) (by kernel_rfl) (fun _ _ _ h => h) (by assumption) (.inl ⟨by rfl, ?_⟩) ?_
  rotate_left
  · (intro wz hSw; go_simp; try with_reducible rfl)
  try simp only [Act.put, List.setIfInBounds_toArray, List.set_cons_zero, List.set_cons_succ]
  refine' wpAnyB_take (i := 17) (b := false) rfl (by kernel_rfl) (by kernel_rfl) (by kernel_rfl) (by decide) (by kernel_rfl) (fun _ _ _ h => h) (by assumption) (.inl ⟨by rfl, ?_⟩) ?_
  rotate_left
  · (intro wz hSw; go_simp; try with_reducible rfl)
  try simp only [Act.put, List.setIfInBounds_toArray, List.set_cons_zero, List.set_cons_succ]
  refine' wpAnyB_take (i := 18) (b := false) rfl (by kernel_rfl) (by kernel_rfl) (by kernel_rfl) (by decide) (by kernel_rfl) (fun _ _ _ h => h) (by assumption) (.inl ⟨by rfl, ?_⟩) ?_
  rotate_left
  · (intro wz hSw; go_simp; try with_reducible rfl)
  try simp only [Act.put, List.setIfInBounds_toArray, List.set_cons_zero, List.set_cons_succ]
  refine' wpAnyB_take (i := 19) (b := false) rfl (by kernel_rfl) (by kernel_rfl) (by kernel_rfl) (by decide) (by kernel_rfl) (fun _ _ _ h => h) (by assumption) (.inl ⟨by rfl, ?_⟩) ?_
  rotate_left
  · (intro wz hSw; go_simp; try with_reducible rfl)
  try simp only [Act.put, List.setIfInBounds_toArray, List.set_cons_zero, List.set_cons_succ]
  refine' wpAnyB_take (i := 20) (b := false) rfl (by kernel_rfl) (by kernel_rfl) (by kernel_rfl) (by decide) (by kernel_rfl) (fun _ _ _ h => h) (by assumption) (.inl ⟨by rfl, ?_⟩) ?_
  rotate_left
  · (intro wz hSw; go_simp; try with_reducible rfl)
  try simp only [Act.put, List.setIfInBounds_toArray, List.set_cons_zero, List.set_cons_succ]
  refine' wpAnyB_early (i := 21) rfl (by kernel_rfl) (by kernel_rfl) (by kernel_rfl) (by decide) (by kernel_rfl) (by kernel_rfl) (fun _ _ _ h => h) (by assumption) (.inl ⟨by rfl, ?_⟩) ?_
  rotate_left
  · (intro wz hSw; obtain ⟨h7, h6, h3⟩ := (HSS.out _ _).1 hSw rfl; go_simp; try with_reducible rfl)
  try simp only [Act.put, List.setIfInBounds_toArray, List.set_cons_zero, List.set_cons_succ]
  refine wpAnyB_only (i := 8) (b := false) rfl (by kernel_rfl) (by kernel_rfl) (fun K hK => ?_)
  go_simp
  go_at_call 99
  refine HCl.out.mono ?_
  rintro en w9 ⟨v9, rfl, O9, Z9⟩
  obtain ⟨a9, q9, rfl, _, _⟩ := O9.bytes.form
  have O9 := hid O9
  have Z9 := hid ((Same.refl w7).drew.trans Z9)
  have B9 := hid (B7.out.same Z9.out)
  obtain ⟨c0, c1, c2, c3, c4, c5, c6, c7, c8⟩ := Box9.cells B9.out
  have Y := hid (show Sl (w9.alloc (.cells #[.slice a9 b.length q9] 23)) 23 1 (.slice (some ⟨w9.heap.size, 0, none⟩) 1 1) 1 [.slice a9 b.length q9] from Sl.made 23 1 w9.heap.size 1 1 _ _ (heap_alloc_new w9 _) (Nat.le_refl _) (by decide) rfl ⟨[], rfl⟩)
  have W9 := hid ((Same.refl w9).alloc (.cells #[.slice a9 b.length q9] 23))
  obtain ⟨F0, hF0⟩ : ∃ F0 : Nat → Prop, F0 = fun k => FS k ∨ (w.heap.size ≤ k ∧ k < w9.heap.size) := ⟨_, rfl⟩
  have HF0 := hid hF0
  clear hF0
  have UB := hid (O9.out.bytes.same W9.out)
  have QX := hid ((Q7.out.same (Z9.out.trans W9.out)).foot (F' := F0) (fun i hi => by rw [HF0.out]; exact .inl hi))
  have UF : Hid (∀ g, homeOf (.slice a9 b.length q9) = some g → F0 g) := fun g hg => by
    rw [HF0.out]
    have h1 := (O9.out.lt g (home_own hg))
    have h2 := HK7.out.size
    simp at h1
    exact .inr ⟨by omega, h1.2⟩
  have B10 := hid (B9.out.same W9.out)
  refine hK.out _ _ ((HSS.out _ _).2 fun _ => ⟨c7, c6, c3⟩) (fun hHeld => ?_)
  clear hK K
  try simp only [Act.put, List.setIfInBounds_toArray, List.set_cons_zero, List.set_cons_succ]
  refine wpAnyB_only (i := 9) (b := false) rfl (by kernel_rfl) (by kernel_rfl) (fun K hK => ?_)
  go_simp
  refine hK.out _ _ ((HSS.out _ _).2 fun _ => ⟨(Box9.cells B10.out).2.2.2.2.2.2.2.1, (Box9.cells B10.out).2.2.2.2.2.2.1, (Box9.cells B10.out).2.2.2.1⟩) (fun hHeld => ?_)
  clear hK K
  try simp only [Act.put, List.setIfInBounds_toArray, List.set_cons_zero, List.set_cons_succ]
  refine wpAnyB_only (i := 10) (b := false) rfl (by kernel_rfl) (by kernel_rfl) (fun K hK => ?_)
  refine step_append_q (by rfl) (.tmp 86) (.tmp 89) 36 tyRows (by rfl) QX.out Y.out UB.out UF.out (by rfl) (by rfl) hlq.out ?_
  intro x8 w8 Q8 K8
  have B8 := B10.out.keep K8 (fun e => QX.out.apart9 B10.out e)
  obtain ⟨m0, m1, m2, m3, m4, m5, m6, m7, m8⟩ := Box9.cells B8
  have z7 := B8.free 7
  have z6 := B8.free 6
  have z5 := B8.free 5
  obtain ⟨a8, q8, rfl, _, _⟩ := Q8.rows.form
  refine hK.out _ _ ((HSS.out _ _).2 fun _ => ⟨m7, m6, m3⟩) (fun hHeld => ?_)
  clear hK K
  try simp only [Act.put, List.setIfInBounds_toArray, List.set_cons_zero, List.set_cons_succ]
  refine' wpAnyB_take (i := 22) (b := false) rfl (by kernel_rfl) (by kernel_rfl) (by kernel_rfl) (by decide) (by kernel_rfl) (fun _ _ _ h => h) (by assumption) (.inl ⟨by rfl, ?_⟩) ?_
  rotate_left
  · (intro wz hSw; go_simp; try with_reducible rfl)
  try simp only [Act.put, List.setIfInBounds_toArray, List.set_cons_zero, List.set_cons_succ]
  refine' wpAnyB_take (i := 23) (b := false) rfl (by kernel_rfl) (by kernel_rfl) (by kernel_rfl) (by decide) (by kernel_rfl) (fun _ _ _ h => h) (by assumption) (.inl ⟨by rfl, ?_⟩) ?_
  rotate_left
  · (intro wz hSw; go_simp; try with_reducible rfl)
  try simp only [Act.put, List.setIfInBounds_toArray, List.set_cons_zero, List.set_cons_succ]
  refine wpAnyB_only (i := 24) (b := true) rfl (by kernel_rfl) (by kernel_rfl) (fun K hK => ?_)
  go_simp
  refine hK.out _ _ ((HSS.out _ _).2 fun h => Bool.noConfusion h) (fun hHeld => ?_)
  clear hK K
  try simp only [Act.put, List.setIfInBounds_toArray, List.set_cons_zero, List.set_cons_succ]
  refine' wpAnyB_take (i := 25) (b := true) rfl (by kernel_rfl) (by kernel_rfl) (by kernel_rfl) (by decide) (by kernel_rfl) (fun _ _ _ h => h) (by assumption) (.inl ⟨by rfl, ?_⟩) ?_
  rotate_left
  · (intro wz hSw; go_simp; try with_reducible rfl)
  try simp only [Act.put, List.setIfInBounds_toArray, List.set_cons_zero, List.set_cons_succ]
  refine' wpAnyB_take (i := 26) (b := true) rfl (by kernel_rfl) (by kernel_rfl) (by kernel_rfl) (by decide) (by kernel_rfl) (fun _ _ _ h => h) (by assumption) (.inl ⟨by rfl, ?_⟩) ?_
  rotate_left
  · (intro wz hSw; go_simp; try with_reducible rfl)
  try simp only [Act.put, List.setIfInBounds_toArray, List.set_cons_zero, List.set_cons_succ]
  refine wpAnyB_only (i := 27) (b := true) rfl (by kernel_rfl) (by kernel_rfl) (fun K hK => ?_)
  go_simp
  refine hK.out _ _ ((HSS.out _ _).2 fun h => Bool.noConfusion h) (fun hHeld => ?_)
  clear hK K
  try simp only [Act.put, List.setIfInBounds_toArray, List.set_cons_zero, List.set_cons_succ]
  refine' wpAnyB_take (i := 28) (b := true) rfl (by kernel_rfl) (by kernel_rfl) (by kernel_rfl) (by decide) (by kernel_rfl) (fun _ _ _ h => h) (by assumption) (.inl ⟨by rfl, ?_⟩) ?_
  rotate_left
  · (intro wz hSw; go_simp; try with_reducible rfl)
  try simp only [Act.put, List.setIfInBounds_toArray, List.set_cons_zero, List.set_cons_succ]
  refine' wpAnyB_take (i := 29) (b := true) rfl (by kernel_rfl) (by kernel_rfl) (by kernel_rfl) (by decide) (by kernel_rfl) (fun _ _ _ h => h) (by assumption) (.inl ⟨by rfl, ?_⟩) ?_
  rotate_left
  · (intro wz hSw; go_simp; try with_reducible rfl)
  try simp only [Act.put, List.setIfInBounds_toArray, List.set_cons_zero, List.set_cons_succ]
  refine wpAnyB_only (i := 30) (b := true) rfl (by kernel_rfl) (by kernel_rfl) (fun K hK => ?_)
  go_simp
  refine hK.out _ _ ((HSS.out _ _).2 fun h => Bool.noConfusion h) (fun hHeld => ?_)
  clear hK K
  try simp only [Act.put, List.setIfInBounds_toArray, List.set_cons_zero, List.set_cons_succ]
  refine wpAnyB_done (by kernel_rfl) ?_ _
  go_wp2_with fail
  go_ret
  rw [HZ.out]
  have K9 : Keep (fun k => k = sb) w8 (((w8.setCell ⟨sb, 7, none⟩ (.slice a8 (S.all.length + 1) q8)).setCell ⟨sb, 6, none⟩ (.int .i64 (S.at_ + ls.length))).setCell ⟨sb, 5, none⟩ (.int .i64 S.life)) :=
    (((Keep.refl (fun k => k = sb) w8).setCell (p := ⟨sb, 7, none⟩) (.inl rfl) _).setCell (p := ⟨sb, 6, none⟩) (.inl rfl) _).setCell (p := ⟨sb, 5, none⟩) (.inl rfl) _
  have Q9 := Q8.box9 B8 K9
  have hlen : (S.all ++ [b]).length = S.all.length + 1 := by simp
  obtain ⟨us, qo, qF, _⟩ := HQ.out
  have hz7 := HK7.out.size
  have hz8 := Z9.out.size
  have hz9 := W9.out.size
  have hz10 := K8.size
  have hz11 := K9.size
  rw [hlen] at Q9
  obtain ⟨F1, Q9, hi1, hi2⟩ : ∃ F1 : Nat → Prop, OwnQ _ F1 (.slice a8 (S.all.length + 1) q8) (S.all ++ [b]) ∧ (∀ i, F0 i → F1 i) ∧ (∀ i, F1 i → F0 i ∨ (w9.heap.size ≤ i ∧ i < w8.heap.size)) := ⟨_, Q9, fun i h => Or.inl h, fun i h => h.imp id fun h => ⟨Nat.le_trans hz9 h.1, h.2⟩⟩
  have KA : Keep FS w7 w8 := ((Z9.out.trans W9.out).keep FS).trans (K8.weak' fun i hi => qF i hi)
  have KB : Keep FS w7 _ := KA.trans (K9.weak' fun i hi => by subst hi; exact HFb.out)
  refine ⟨F1, rfl, (HK7.out.weak' fun i hi => .inl hi).trans (KB.weak' fun i hi => .inr hi), D5.out.keep KB Hx.out, ⟨sb, _, rfl, Box9.set765 B8 _ _ _, hi1 sb (by rw [HF0.out]; exact .inl HFb.out), Q9, ?_⟩, ?_⟩
  · obtain ⟨o1, o2, o3, o4, o5, o6⟩ := Hok.out
    have hfu := Hfu.out
    refine ⟨⟨o1.1, ?_, ?_, o1.2.2.2⟩, ?_, ?_, o4, o5, o4⟩
    · show S.from_ ≤ S.at_ + (ls.length : Int); omega
    · show S.at_ + (ls.length : Int) ≤ S.till; omega
    · show (((S.all ++ [b]).length : Nat) : Int) ≤ S.at_ + (ls.length : Int)
      rw [hlen]; omega
    · intro r hr
      rcases List.mem_append.1 hr with hr | hr
      · exact o3 r hr
      · simp at hr; subst hr; have := Hl.out; omega
  · intro i hi
    rcases hi2 i hi with hi | hi
    · rw [HF0.out] at hi
      rcases hi with hi | hi
      · exact .inl hi
      · exact .inr ⟨hi.1, by omega⟩
    · exact .inr ⟨by omega, by omega⟩
end Go.Proofs.Ytlhnpicmjjddeaa
namespace Go.Proofs.Ytlhnpicmjjddeaa
open Go.RowKit

theorem takeExt {α : Type} {l r : List α} (k : Nat) (h1 : k < l.length) (h2 : k < r.length) (h : l.take k = r.take k) (hk : l[k] = r[k]) : l.take (k + 1) = r.take (k + 1) := by
  rw [List.take_succ_eq_append_getElem h1, List.take_succ_eq_append_getElem h2, h, hk]
theorem neAt {l r : List (List UInt8)} (k : Nat) (h1 : k < l.length) (h2 : k < r.length) (h : l[k] ≠ r[k]) : decide (l = r) = false := by
  apply decide_eq_false
  intro e
  subst e
  exact h rfl
set_option maxHeartbeats 3200000 in
set_option maxRecDepth 100000 in
theorem rSame2 (w : World) (e1 e2 : TypeId) (v1 v2 : Value) (la lb : List (List UInt8)) (h1 : Rows2 w e1 v1 la) (h2 : Rows2 w e2 v2 lb) : Calls Try.prog 64 #[v1, v2] w (RetSame (.bool (decide (la = lb))) w) := by
  obtain ⟨a1, c1, rfl, f1, f2⟩ := h1.form
  obtain ⟨a2, c2, rfl, f3, f4⟩ := h2.form
  unfold maxLen at f2 f4
  have HA := hid h1
  have HB := hid h2
  clear h1 h2
  by_cases hlen : la.length = lb.length
  case neg =>
    have hd : ((la.length : Int) != (lb.length : Int)) = true := by simp; omega
    have HE : Hid (decide (la = lb) = false) := decide_eq_false (fun e => hlen (by rw [e]))
    clear hlen
    go_enter Try.func64, Try.ntmps64
    go_wp2_with fail
    go_ret
    rw [HE.out]
    exact ⟨rfl, Same.refl _⟩
  have hd : ((la.length : Int) != (lb.length : Int)) = false := by simp [hlen]
  have HL := hid hlen
  have hl1 : la.length ≤ lb.length := by omega
  clear hlen
  go_enter Try.func64, Try.ntmps64
  go_wp2_with fail
  go_loopg [5] la.length (fun gk i wr => ∃ k : Nat, k + gk = la.length ∧ i = .int .i64 k ∧ la.take k = lb.take k ∧ Same w wr)
  case atStart => exact ⟨0, by omega, rfl, rfl, Same.refl _⟩
  case round =>
    obtain ⟨k, hk, rfl, ht, Z⟩ := hrel
    have HT := hid ht
    have Z := hid Z
    have hk2 : k ≤ la.length := by omega
    have HK := hid hk
    clear ht hk
    by_cases hlt : k < la.length
    case neg =>
      obtain rfl : k = la.length := by omega
      have HE : Hid (decide (la = lb) = true) := by
        apply decide_eq_true
        have h5 := HT.out
        have := HL.out
        rwa [List.take_of_length_le (Nat.le_refl _), List.take_of_length_le (by omega)] at h5
      go_wp2_with fail
      go_ret
      rw [HE.out]
      exact ⟨rfl, Z.out⟩
    have hlt2 : k < lb.length := by omega
    obtain ⟨g, o, xa, xc, xe, rfl, hcell, hby⟩ := (HA.out.same Z.out).row k hlt
    obtain ⟨g', o', ya, yc, ye, rfl, hcell', hby'⟩ := (HB.out.same Z.out).row k hlt2
    have HX := hid hby
    have HY := hid hby'
    have HNe := hid (fun h => neAt k hlt hlt2 h)
    have HEx := hid (fun h => takeExt k hlt hlt2 HT.out h)
    have hgl := World.block_lt_of_cell? wr _ hcell
    have hgl' := World.block_lt_of_cell? wr _ hcell'
    have hC := hid (fun wz (S : Same wr wz) => (S.cell (p := ⟨g, o + k, none⟩) hgl).trans hcell)
    have hC' := hid (fun wz (S : Same wr wz) => (S.cell (p := ⟨g', o' + k, none⟩) hgl').trans hcell')
    clear hby hby' hgl hgl' HT
    generalize la[k] = xs at *
    generalize lb[k] = ys at *
    obtain ⟨xx, xy, hxf, xf, xg⟩ := HX.out.form
    obtain ⟨yx, yy, hyf, yf, yg⟩ := HY.out.form
    cases hxf
    cases hyf
    unfold maxLen at xg yg
    by_cases hll : xs.length = ys.length
    case neg =>
      have hd2 : ((xs.length : Int) != (ys.length : Int)) = true := by simp; omega
      have hz := hid (HNe.out (fun e => hll (by rw [e])))
      clear hll
      go_wp2_with fail
      go_quiet (fail)
      go_wp2_with fail
      go_ret
      rw [hz.out]
      exact ⟨rfl, Z.out.drewN _⟩
    have hd2 : ((xs.length : Int) != (ys.length : Int)) = false := by simp [hll]
    have HLL := hid hll
    have hle : xs.length ≤ ys.length := by omega
    clear hll
    go_wp2_with fail
    go_quiet (fail)
    go_wp2_with fail
    clear hcell hcell'
    go_loopg [6] xs.length (fun gj j wq => ∃ i : Nat, i + gj = xs.length ∧ j = .int .i64 i ∧ xs.take i = ys.take i ∧ Same wr wq)
    case atStart => exact ⟨0, by omega, rfl, rfl, Same.of_drewN _ _⟩
    case round =>
      rename_i wq
      obtain ⟨i, hi, rfl, ht, Y⟩ := hrel
      have HT := hid ht
      have Y := hid Y
      have hi2 : i ≤ xs.length := by omega
      have HI := hid hi
      clear ht hi
      have hcell := hC.out _ Y.out
      have hcell' := hC'.out _ Y.out
      by_cases hit : i < xs.length
      case neg =>
        obtain rfl : i = xs.length := by omega
        have HE : xs = ys := by
          have h5 := HT.out
          have := HLL.out
          rwa [List.take_of_length_le (Nat.le_refl _), List.take_of_length_le (by omega)] at h5
        have hz := hid (HEx.out HE)
        clear HE
        go_wp2_with fail
        go_roundg (la.length - (k + 1))
        case measure => have := HK.out; omega
        case rel => exact ⟨k + 1, by have := HK.out; omega, by go_num, hz.out, Z.out.trans Y.out⟩
      have hit2 : i < ys.length := by omega
      obtain ⟨bg, bo, rfl, hbc⟩ := (HX.out.same Y.out).cells (by omega)
      obtain ⟨bg', bo', rfl, hbc'⟩ := (HY.out.same Y.out).cells (by omega)
      have q1 := hbc i hit
      have q2 := hbc' i hit2
      clear hbc hbc'
      by_cases hne : xs[i].toNat = ys[i].toNat
      · have hz := hid (takeExt i hit hit2 HT.out (UInt8.toNat_inj.1 hne))
        have hd3 : ((xs[i].toNat : Int) != (ys[i].toNat : Int)) = false := by simp [hne]
        clear hne
        go_wp2_with fail
        go_quiet (fail)
        go_wp2_with fail
        go_roundg (xs.length - (i + 1))
        case measure => have := HI.out; omega
        case rel => exact ⟨i + 1, by omega, by go_num, hz.out, Y.out.drewN _⟩
      · have hz := hid (HNe.out (fun e => hne (by subst e; rfl)))
        have hd3 : ((xs[i].toNat : Int) != (ys[i].toNat : Int)) = true := by simp; omega
        clear hne
        go_wp2_with fail
        go_quiet (fail)
        go_wp2_with fail
        go_ret
        rw [hz.out]
        exact ⟨rfl, (Z.out.trans Y.out).drewN _⟩
end Go.Proofs.Ytlhnpicmjjddeaa
namespace Go.Proofs.Ytlhnpicmjjddeaa
open Go.RowKit

def l8a : Sc := (Dv.new 9).opened 1 9 1 0
def l8b : Int × Sc × Dv := l8a.append (Dv.new 9) [97]
def l8c : Sc := l8b.2.2.opened 1 9 2 0
theorem l8_1 : (Dv.new 9).openE 1 9 1 0 = 0 := by kernel_rfl
theorem l8_2 : l8b.1 = 0 := by kernel_rfl
theorem l8_3 : l8b.2.2.openE 1 9 2 0 = 0 := by kernel_rfl
theorem l8_4 : l8c.all = [[97]] := by kernel_rfl
theorem l8_5 : l8c.at_ - l8c.from_ = 1 := by kernel_rfl
theorem l8_6 : l8b.2.2.newest 0 9 = 1 := by kernel_rfl
theorem RetOpenS.good {D : Dv} {p : Value} {a b life era : Int} {w : World} {en : Ending} {w' : World} (h : RetOpenS D p a b life era w en w') (he : D.openE a b life era = 0) :
    ∃ s FS, en = .returned (.tuple #[s, .int .i64 0]) ∧ IsSc w' s p FS (D.opened a b life era) ∧ Same w w' ∧ Bnd FS w.heap.size w'.heap.size := by
  rcases h with ⟨h, _⟩ | ⟨_, h⟩
  · rw [he] at h; cases h
  · exact h
set_option maxHeartbeats 6400000 in
set_option maxRecDepth 100000 in
theorem cLives (w : World) : Calls Try.prog 63 #[] w (RetSame (.bool true) w) := by
  have HO := hid cOpen
  have HA := hid cAppend
  have HR := hid cRecords
  have HU := hid cUsed
  have HN := hid cNewest
  have HS := hid rSame2
  have A1 := hid l8_1
  have A2 := hid l8_2
  have A3 := hid l8_3
  have A4 := hid l8_4
  have A5 := hid l8_5
  have A6 := hid l8_6
  have kcc := fun (w : World) (C : Array Value) (n c : Nat) => Lib.run_convert_bytes_const (P := Try.prog) w 23 5 C n c Try.underlying23 Try.underlying5
  go_enter Try.func63, Try.ntmps63
  go_wp2_with fail
  refine (dNewD w 9 (by omega) (by omega)).mono ?_
  rintro en w1 ⟨p, F, rfl, S1, D1, B1⟩
  have D1 := hid D1
  have B1 := hid B1
  have S1 := hid S1
  obtain ⟨pb, rfl⟩ := D1.out.ptr
  go_wp2_with fail
  refine (HO.out w1 _ F _ 1 9 1 0 D1.out (fun k hk => (B1.out k hk).2)).mono ?_
  rintro en w2 hr
  obtain ⟨s, FS, rfl, I2, S2, B2⟩ := hr.good A1.out
  clear hr
  obtain ⟨sb, rfl⟩ := I2.ptr
  have S2 := hid S2
  have I2 : Hid (IsSc w2 (.pointer (some ⟨sb, 0, none⟩)) (.pointer (some ⟨pb, 0, none⟩)) FS l8a) := I2
  have B2 := hid B2
  go_wp2_with fail
  have T2 := hid ((Same.refl w2).alloc (.cells #[.int .u8 97] 5 (1, 2)))
  refine (HA.out _ _ _ _ F FS (Dv.new 9) l8a [97] 5 (D1.out.same (S2.out.trans T2.out)) (I2.out.same T2.out) (fun i hi hn => by have h1 := (B1.out i hi).2; have h2 := (B2.out i hn).1; omega) (fun k hk => Nat.lt_of_lt_of_le (B1.out k hk).2 (S2.out.trans T2.out).size) (b1_made' w2 97 (by omega) (1, 2)) (by simp) (fun g hg hn => by simp [homeOf] at hg; have h1 := (B1.out g hn).2; have h2 := S2.out.size; omega)).mono ?_
  rintro en w3 ⟨FS3, rfl, K3, D3, I3, G3⟩
  have e1 : (l8a.append (Dv.new 9) [97]).1 = 0 := A2.out
  rw [e1]
  have D3 : IsDv w3 (.pointer (some ⟨pb, 0, none⟩)) F l8b.2.2 := D3
  have D3 := hid D3
  have S3 : Hid (Same w w3) := (((S1.out.trans S2.out).trans T2.out).keepOwn K3 (fun k hk => by
    rcases hk with hk | hk
    · exact (B1.out k hk).1
    · have h1 := (B2.out k hk).1; have h2 := S1.out.size; omega))
  have hsz3 : Hid (∀ k, F k → k < w3.heap.size) := fun k hk => by have h1 := (B1.out k hk).2; have h2 := (S2.out.trans T2.out).size; have h3 := K3.size; omega
  clear I3 G3 K3 e1 I2
  go_wp2_with fail
  refine (HO.out w3 _ F _ 1 9 2 0 D3.out hsz3.out).mono ?_
  rintro en w4 hr
  obtain ⟨t, FT, rfl, I4, S4, B4⟩ := hr.good A3.out
  clear hr B4
  obtain ⟨tb, rfl⟩ := I4.ptr
  have I4 : Hid (IsSc w4 (.pointer (some ⟨tb, 0, none⟩)) (.pointer (some ⟨pb, 0, none⟩)) FT l8c) := I4
  have S4 := hid S4
  go_wp2_with fail
  refine (HR.out w4 _ _ FT l8c I4.out ⟨pb, rfl⟩).mono ?_
  rintro en w5 ⟨v5, rfl, O5, S5⟩
  rw [A4.out] at O5
  obtain ⟨a5, c5, rfl, _, _⟩ := O5.rows.form
  have O5 := hid O5
  have S5 := hid S5
  simp only [List.length_cons, List.length_nil] at *
  go_wp2_with fail
  have T5 := hid (((Same.refl w5).alloc (.cells #[.int .u8 97] 5 (1, 2))).alloc (.cells #[.slice (some ⟨w5.heap.size, 0, none⟩) 1 1] 23))
  have R5 := hid ((Rows2N.one (F := NoB) (b1_made' w5 97 (by omega) (1, 2)) (fun _ _ x => x) (fun x => x)).rows)
  simp only [World.size_alloc] at R5
  refine (HS.out _ 23 23 _ _ _ _ (O5.out.rows.same T5.out) R5.out).mono ?_
  rintro en w6 ⟨rfl, S6⟩
  have S6 := hid (T5.out.trans S6)
  go_wp2_with fail
  refine (HU.out w6 _ _ FT l8c (I4.out.same (S5.out.trans S6.out)) ⟨pb, rfl⟩).mono ?_
  rintro en w7 ⟨rfl, S7⟩
  rw [A5.out]
  have S7 := hid S7
  go_wp2_with fail
  refine (HN.out w7 _ F _ 0 9 (D3.out.same (((S4.out.trans S5.out).trans S6.out).trans S7.out))).mono ?_
  rintro en w8 ⟨rfl, S8⟩
  rw [A6.out]
  go_wp2_with fail
  go_ret
  exact ⟨rfl, ((((S3.out.trans S4.out).trans S5.out).trans S6.out).trans S7.out).trans S8⟩

theorem cOpen_none (w : World) (p : Value) (a b life era : Int) (h : Nobody w p) : Calls Try.prog 61 #[p, .int .i64 a, .int .i64 b, .int .i64 life, .int .i64 era] w (RetSame (.tuple #[.pointer none, .int .i64 1]) w) := by
  have HS := hid (dSize_none w p h)
  go_enter Try.func61, Try.ntmps61
  go_wp2_with fail
  refine HS.out.mono ?_
  rintro en w1 ⟨rfl, S1⟩
  go_wp2_with fail
  go_ret2
  exact ⟨rfl, S1⟩
set_option maxRecDepth 100000 in
theorem cNewest_none (w : World) (p : Value) (a b : Int) (h : Nobody w p) : Calls Try.prog 67 #[p, .int .i64 a, .int .i64 b] w (RetSame (.int .i64 0) w) := by
  have HW := hid (cWithin_none w p a b h)
  obtain ⟨q, rfl⟩ : ∃ q, p = .pointer q := by
    rcases h with h | ⟨pb, h, _⟩
    · exact ⟨_, h⟩
    · exact ⟨_, h⟩
  by_cases g : 0 ≤ a ∧ a ≤ b ∧ b ≤ 0
  · rw [decide_eq_true g] at HW
    obtain rfl : a = 0 := by omega
    obtain rfl : b = 0 := by omega
    clear g h
    go_enter Try.func67, Try.ntmps67
    go_wp2_with fail
    refine HW.out.mono ?_
    rintro en w1 ⟨rfl, S1⟩
    have S1 := hid S1
    go_wp2_with fail
    go_loopg [7, 9] 0 (fun gk m i wr => m = .int .i64 0 ∧ i = .int .i64 0 ∧ Same w wr)
    case atStart => exact ⟨rfl, rfl, S1.out.alloc _⟩
    case round =>
      obtain ⟨rfl, rfl, Z⟩ := hrel
      have Z := hid Z
      go_wp2_with fail
      go_ret
      exact ⟨rfl, Z.out⟩
  · rw [decide_eq_false g] at HW
    clear g h
    go_enter Try.func67, Try.ntmps67
    go_wp2_with fail
    refine HW.out.mono ?_
    rintro en w1 ⟨rfl, S1⟩
    go_wp2_with fail
    go_ret
    exact ⟨rfl, S1⟩
theorem NoScroll.boxed (w : World) : NoScroll (w.alloc (.cells #[.pointer none, .int .i64 0, .int .i64 0, .int .i64 0, .int .i64 0, .int .i64 0, .int .i64 0, .slice none 0 0, .bool false] 108)) (.pointer (some ⟨w.heap.size, 0, none⟩)) :=
  .inr ⟨_, rfl, (Box9.cells (Box9.new w _ _ _ _ _ _ _ _ _)).1⟩
set_option maxHeartbeats 6400000 in
set_option maxRecDepth 100000 in
theorem scrollNobodyWalk (w : World) (v : Value) (e : TypeId) (a b' : Int) (b : List UInt8) (hb : Bytes w e v b) :
    Calls Try.prog 16 #[v, .int .i64 a, .int .i64 b'] w (RetSame (.bool true) w) := by
  have H1 := hid cOpen_none
  have H2 := hid cNewest_none
  have H3 := hid (fun w' => show Calls Try.prog 22 #[v, .int .i64 90] w' _ from r01Cut0 w w' e v b 90 hb)
  have H4 := hid cAppend_none
  have H5 := hid cRecords_none
  have H6 := hid cUsed_none
  have H9 := hid cLives
  have HB := hid Nobody.boxed
  have HC := hid NoScroll.boxed
  obtain ⟨av, cv, rfl, _, _⟩ := hb.form
  clear hb
  go_enter Try.func16, Try.ntmps16
  go_wp2_with fail
  go_loopw [7] (fun i wr => ∃ k : Nat, k ≤ 2 ∧ i = .int .i64 k ∧ Same w wr) (fun i _ => 2 - (intOf i).toNat)
  case atStart => exact ⟨0, by omega, rfl, Same.refl w⟩
  case round =>
    obtain ⟨k, hk, rfl, S⟩ := hrel
    have S := hid S
    match k, hk with
    | 2, _ =>
      go_wp2_with fail
      refine (H9.out _).mono ?_
      rintro en w3 ⟨rfl, S3⟩
      go_wp2_with fail
      go_ret
      exact ⟨rfl, S.out.trans S3⟩
    | 0, _ =>
      have N0 : Hid (Nobody wr (.pointer none)) := .inl rfl
      have N1 : Hid (NoScroll wr (.pointer none)) := .inl rfl
      go_wp2_with fail
      refine (H1.out _ _ _ _ _ _ N0.out).mono ?_
      rintro en w1 ⟨rfl, S1⟩
      have T1 := hid S1
      clear S1
      go_wp2_with fail
      refine (H2.out _ _ _ _ (N0.out.same T1.out)).mono ?_
      rintro en w2 ⟨rfl, S2⟩
      have T2 := hid (T1.out.trans S2)
      clear S2
      go_wp2_with fail
      refine (H3.out _).mono ?_
      rintro en w2' ⟨v3, rfl, B3, rfl⟩
      obtain ⟨a3, c3, rfl, _, _⟩ := B3.form
      clear B3
      go_wp2_with fail
      refine (H4.out _ _ _ (N1.out.same T2.out)).mono ?_
      rintro en w3 ⟨rfl, S3⟩
      have T3 := hid (T2.out.trans S3)
      clear S3
      go_wp2_with fail
      refine (H5.out _ _ (N1.out.same T3.out)).mono ?_
      rintro en w4 ⟨rfl, S4⟩
      have T4 := hid (T3.out.trans S4)
      clear S4
      go_wp2_with fail
      refine (H6.out _ _ (N1.out.same T4.out)).mono ?_
      rintro en w5 ⟨rfl, S5⟩
      have T5 := hid (T4.out.trans S5)
      clear S5
      go_wp2_with fail
      go_roundw
      case rel => exact ⟨1, by omega, rfl, S.out.trans T5.out⟩
      case measure => simp [intOf]
    | 1, _ =>
      have N1 := hid ((HC.out wr).same ((Same.refl _).alloc (.cells #[.bool false, .bool false, .int .i64 0, .slice none 0 0, .slice none 0 0, .int .i64 0] 55)))
      have N0 := hid (HB.out (wr.alloc (.cells #[.pointer none, .int .i64 0, .int .i64 0, .int .i64 0, .int .i64 0, .int .i64 0, .int .i64 0, .slice none 0 0, .bool false] 108)))
      have Z0 := hid (((Same.refl wr).alloc (.cells #[.pointer none, .int .i64 0, .int .i64 0, .int .i64 0, .int .i64 0, .int .i64 0, .int .i64 0, .slice none 0 0, .bool false] 108)).alloc (.cells #[.bool false, .bool false, .int .i64 0, .slice none 0 0, .slice none 0 0, .int .i64 0] 55))
      simp only [World.size_alloc] at N0
      go_wp2_with fail
      refine (H1.out _ _ _ _ _ _ N0.out).mono ?_
      rintro en w1 ⟨rfl, S1⟩
      have T1 := hid S1
      clear S1
      go_wp2_with fail
      refine (H2.out _ _ _ _ (N0.out.same T1.out)).mono ?_
      rintro en w2 ⟨rfl, S2⟩
      have T2 := hid (T1.out.trans S2)
      clear S2
      go_wp2_with fail
      refine (H3.out _).mono ?_
      rintro en w2' ⟨v3, rfl, B3, rfl⟩
      obtain ⟨a3, c3, rfl, _, _⟩ := B3.form
      clear B3
      go_wp2_with fail
      refine (H4.out _ _ _ (N1.out.same T2.out)).mono ?_
      rintro en w3 ⟨rfl, S3⟩
      have T3 := hid (T2.out.trans S3)
      clear S3
      go_wp2_with fail
      refine (H5.out _ _ (N1.out.same T3.out)).mono ?_
      rintro en w4 ⟨rfl, S4⟩
      have T4 := hid (T3.out.trans S4)
      clear S4
      go_wp2_with fail
      refine (H6.out _ _ (N1.out.same T4.out)).mono ?_
      rintro en w5 ⟨rfl, S5⟩
      have T5 := hid (T4.out.trans S5)
      clear S5
      go_wp2_with fail
      go_roundw
      case rel => exact ⟨2, by omega, rfl, (S.out.trans Z0.out).trans T5.out⟩
      case measure => simp [intOf]
end Go.Proofs.Ytlhnpicmjjddeaa
namespace Go.Proofs.Ytlhnpicmjjddeaa
open Go.RowKit

/-- A vault. -/
structure Vt where
  each : Int
  life : Int
  era : Int
  state : List UInt8
  dead : Bool
  S : Sc
/-- a box of seven cells: a vault -/
def Box7 (w : World) (b : Nat) (c0 c1 c2 c3 c4 c5 c6 : Value) : Prop := w.heap[b]? = some (.cells #[c0, c1, c2, c3, c4, c5, c6] 122 (0, 0))
section
variable {w w' : World} {b : Nat} {c0 c1 c2 c3 c4 c5 c6 : Value}
theorem Box7.lt (h : Box7 w b c0 c1 c2 c3 c4 c5 c6) : b < w.heap.size := (Array.getElem?_eq_some_iff.1 h).1
theorem Box7.keep {M : Nat → Prop} (h : Box7 w b c0 c1 c2 c3 c4 c5 c6) (K : Keep M w w') (hm : ¬ M b) : Box7 w' b c0 c1 c2 c3 c4 c5 c6 := (K.block b h.lt hm).trans h
theorem Box7.same (h : Box7 w b c0 c1 c2 c3 c4 c5 c6) (S : Same w w') : Box7 w' b c0 c1 c2 c3 c4 c5 c6 := h.keep S fun x => x
theorem Box7.new (w : World) (c0 c1 c2 c3 c4 c5 c6 : Value) : Box7 (w.alloc (.cells #[c0, c1, c2, c3, c4, c5, c6] 122)) w.heap.size c0 c1 c2 c3 c4 c5 c6 := heap_alloc_new w _
theorem Box7.cells (h : Box7 w b c0 c1 c2 c3 c4 c5 c6) :
    w.cell? ⟨b, 0, none⟩ = some c0 ∧ w.cell? ⟨b, 1, none⟩ = some c1 ∧ w.cell? ⟨b, 2, none⟩ = some c2 ∧ w.cell? ⟨b, 3, none⟩ = some c3 ∧ w.cell? ⟨b, 4, none⟩ = some c4 ∧ w.cell? ⟨b, 5, none⟩ = some c5 ∧
    w.cell? ⟨b, 6, none⟩ = some c6 := by
  refine ⟨?_, ?_, ?_, ?_, ?_, ?_, ?_⟩
  all_goals (rw [cell_of_row w b _ _ 122 _ h]; rfl)
theorem Box7.free (h : Box7 w b c0 c1 c2 c3 c4 c5 c6) (o : Nat) : w.frozen? ⟨b, o, none⟩ = false := by
  unfold World.frozen?
  rw [h]
  by_cases h0 : 0 ≤ o <;> simp
theorem Box7.set0 (h : Box7 w b c0 c1 c2 c3 c4 c5 c6) (u : Value) : Box7 (w.setCell ⟨b, 0, none⟩ u) b u c1 c2 c3 c4 c5 c6 := heap_setCell_same w b 0 _ 122 u h
theorem Box7.set6 (h : Box7 w b c0 c1 c2 c3 c4 c5 c6) (u : Value) : Box7 (w.setCell ⟨b, 6, none⟩ u) b c0 c1 c2 c3 c4 c5 u := heap_setCell_same w b 6 _ 122 u h
theorem Box7.set543 (h : Box7 w b c0 c1 c2 c3 c4 c5 c6) (u5 u4 u3 : Value) : Box7 (((w.setCell ⟨b, 5, none⟩ u5).setCell ⟨b, 4, none⟩ u4).setCell ⟨b, 3, none⟩ u3) b c0 c1 c2 u3 u4 u5 c6 := by
  have h0 := heap_setCell_same w b 5 _ 122 u5 h
  have h1 := heap_setCell_same _ b 4 _ 122 u4 h0
  exact heap_setCell_same _ b 3 _ 122 u3 h1
end
theorem Bytes.apart7 {w : World} {u : Value} {l : List UInt8} (h : Bytes w 5 u l) {b : Nat} {c0 c1 c2 c3 c4 c5 c6 : Value} (hb : Box7 w b c0 c1 c2 c3 c4 c5 c6) : homeOf u ≠ some b := by
  intro e
  obtain ⟨c, fr, hc⟩ := bytes_block h e
  unfold Box7 at hb
  rw [hb] at hc
  simp at hc
def vtBox (w : World) (b : Nat) (sp p : Value) (V : Vt) (sv : Value) : Prop := Box7 w b sp p (.int .i64 V.each) (.int .i64 V.life) (.int .i64 V.era) sv (.bool V.dead)
structure Vt.Ok (V : Vt) : Prop where
  each : 1 ≤ V.each ∧ 2 * V.each ≤ 2048
  life : 1 ≤ V.life ∧ V.life ≤ 16777214
  era : 0 ≤ V.era ∧ V.era ≤ 16777215
  state : V.state.length ≤ 30000
/-- The pointer v is a vault of the drive p that reads as V; all its blocks lie in F. -/
def IsVt (w : World) (v p : Value) (F : Nat → Prop) (V : Vt) : Prop :=
  ∃ b sp sv FS, v = .pointer (some ⟨b, 0, none⟩) ∧ vtBox w b sp p V sv ∧ IsSc w sp p FS V.S ∧ (∀ i, FS i → F i) ∧ F b ∧ ¬ FS b ∧ Bytes w 5 sv V.state ∧ (∀ g, homeOf sv = some g → F g ∧ ¬ FS g) ∧ V.Ok
theorem IsVt.keep {w w' : World} {v p : Value} {F M : Nat → Prop} {V : Vt} (h : IsVt w v p F V) (k : Keep M w w') (hd : ∀ i, F i → ¬ M i) : IsVt w' v p F V :=
  let ⟨b, sp, sv, FS, h1, h2, h3, h4, h5, h6, h7, h8, h9⟩ := h
  ⟨b, sp, sv, FS, h1, h2.keep k (hd b h5), h3.keep k (fun i hi => hd i (h4 i hi)), h4, h5, h6, h7.keep k (fun g hg => hd g (h8 g hg).1), h8, h9⟩
theorem IsVt.same {w w' : World} {v p : Value} {F : Nat → Prop} {V : Vt} (h : IsVt w v p F V) (k : Same w w') : IsVt w' v p F V := h.keep k fun _ _ x => x
theorem IsVt.ok {w : World} {v p : Value} {F : Nat → Prop} {V : Vt} (h : IsVt w v p F V) : V.Ok := let ⟨_, _, _, _, _, _, _, _, _, _, _, _, h9⟩ := h; h9
theorem IsVt.ptr {w : World} {v p : Value} {F : Nat → Prop} {V : Vt} (h : IsVt w v p F V) : ∃ b, v = .pointer (some ⟨b, 0, none⟩) := let ⟨b, _, _, _, h1, _⟩ := h; ⟨b, h1⟩
theorem vOk (w : World) (v p : Value) (F : Nat → Prop) (V : Vt) (hV : IsVt w v p F V) : Calls Try.prog 110 #[v] w (RetSame (.bool true) w) := by
  obtain ⟨b, sp, sv, FS, rfl, hB, hS, _⟩ := hV
  obtain ⟨sb, rfl⟩ := hS.ptr
  obtain ⟨c0, c1, c2, c3, c4, c5, c6⟩ := Box7.cells hB
  clear hB hS
  go_enter Try.func110, Try.ntmps110
  go_wp2_with fail
  go_ret
  exact ⟨rfl, Same.refl _⟩
/-- a vault that no call made -/
def NoVault (w : World) (v : Value) : Prop := v = .pointer none ∨ ∃ b, v = .pointer (some ⟨b, 0, none⟩) ∧ w.cell? ⟨b, 0, none⟩ = some (.pointer none)
theorem NoVault.same {w w' : World} {v : Value} (h : NoVault w v) (S : Same w w') : NoVault w' v := by
  rcases h with h | ⟨b, h, c⟩
  · exact .inl h
  · exact .inr ⟨b, h, (S.cell (p := ⟨b, 0, none⟩) (World.block_lt_of_cell? w _ c)).trans c⟩
theorem vOk_none (w : World) (v : Value) (h : NoVault w v) : Calls Try.prog 110 #[v] w (RetSame (.bool false) w) := by
  rcases h with rfl | ⟨b, rfl, c0⟩
  all_goals
    go_enter Try.func110, Try.ntmps110
    go_wp2_with fail
    go_ret
    exact ⟨rfl, Same.refl _⟩
theorem vReady_none (w : World) (v : Value) (h : NoVault w v) : Calls Try.prog 112 #[v] w (RetSame (.int .i64 1) w) := by
  have H := hid vOk_none
  go_enter Try.func112, Try.ntmps112
  go_wp2_with fail
  refine (H.out _ _ h).mono ?_
  rintro en w1 ⟨rfl, S1⟩
  go_wp2_with fail
  go_ret
  exact ⟨rfl, S1⟩
theorem vAppend_none (w : World) (v u : Value) (h : NoVault w v) : Calls Try.prog 74 #[v, u] w (RetSame (.int .i64 1) w) := by
  have H := hid vReady_none
  go_enter Try.func74, Try.ntmps74
  go_wp2_with fail
  refine (H.out _ _ h).mono ?_
  rintro en w1 ⟨rfl, S1⟩
  go_wp2_with fail
  go_ret
  exact ⟨rfl, S1⟩
theorem vCompact_none (w : World) (v u : Value) (h : NoVault w v) : Calls Try.prog 75 #[v, u] w (RetSame (.int .i64 1) w) := by
  have H := hid vReady_none
  go_enter Try.func75, Try.ntmps75
  go_wp2_with fail
  refine (H.out _ _ h).mono ?_
  rintro en w1 ⟨rfl, S1⟩
  go_wp2_with fail
  go_ret
  exact ⟨rfl, S1⟩
theorem vRecords_none (w : World) (v : Value) (h : NoVault w v) : Calls Try.prog 76 #[v] w (RetSame (.slice none 0 0) w) := by
  have H := hid vOk_none
  go_enter Try.func76, Try.ntmps76
  go_wp2_with fail
  refine (H.out _ _ h).mono ?_
  rintro en w1 ⟨rfl, S1⟩
  go_wp2_with fail
  go_ret
  exact ⟨rfl, S1⟩
theorem vEra_none (w : World) (v : Value) (h : NoVault w v) : Calls Try.prog 77 #[v] w (RetSame (.int .i64 0) w) := by
  have H := hid vOk_none
  go_enter Try.func77, Try.ntmps77
  go_wp2_with fail
  refine (H.out _ _ h).mono ?_
  rintro en w1 ⟨rfl, S1⟩
  go_wp2_with fail
  go_ret
  exact ⟨rfl, S1⟩
theorem vLeft_none (w : World) (v : Value) (h : NoVault w v) : Calls Try.prog 78 #[v] w (RetSame (.int .i64 0) w) := by
  have H := hid vOk_none
  go_enter Try.func78, Try.ntmps78
  go_wp2_with fail
  refine (H.out _ _ h).mono ?_
  rintro en w1 ⟨rfl, S1⟩
  go_wp2_with fail
  go_ret
  exact ⟨rfl, S1⟩
theorem vState_none (w : World) (v : Value) (h : NoVault w v) : Calls Try.prog 72 #[v] w (RetSame (.tuple #[.slice none 0 0, .bool false]) w) := by
  have H := hid vOk_none
  go_enter Try.func72, Try.ntmps72
  go_wp2_with fail
  refine (H.out _ _ h).mono ?_
  rintro en w1 ⟨rfl, S1⟩
  go_wp2_with fail
  go_ret2
  exact ⟨rfl, S1⟩
theorem vOpen_none (w : World) (p : Value) (each : Int) (h : Nobody w p) : Calls Try.prog 73 #[p, .int .i64 each] w (RetSame (.tuple #[.pointer none, .int .i64 1]) w) := by
  have H := hid dSize_none
  go_enter Try.func73, Try.ntmps73
  go_wp2_with fail
  refine (H.out _ _ h).mono ?_
  rintro en w1 ⟨rfl, S1⟩
  go_wp2_with fail
  go_ret2
  exact ⟨rfl, S1⟩
/-- ready -/
def Vt.ready (V : Vt) (D : Dv) : Int := if V.dead || D.off then 9 else 0
theorem vReady (w : World) (v p : Value) (F FD : Nat → Prop) (V : Vt) (D : Dv) (hV : IsVt w v p F V) (hD : IsDv w p FD D) : Calls Try.prog 112 #[v] w (RetSame (.int .i64 (V.ready D)) w) := by
  have HOk := hid (vOk w v p F V hV)
  have HLv := hid (fun w' (Z : Same w w') => dLiveD w' p FD D (hD.same Z))
  obtain ⟨pb, rfl⟩ := hD.ptr
  obtain ⟨b, sp, sv, FS, rfl, hB, hS, _⟩ := hV
  have HB := hid hB
  have hr : V.ready D = if V.dead || D.off then 9 else 0 := rfl
  have HR := hid hr
  clear hB hS hD hr
  generalize V.ready D = r at *
  go_enter Try.func112, Try.ntmps112
  go_wp2_with fail
  refine HOk.out.mono ?_
  rintro en w1 ⟨rfl, S1⟩
  have S1 := hid S1
  obtain ⟨c0, c1, c2, c3, c4, c5, c6⟩ := Box7.cells (HB.out.same S1.out)
  clear c0 c2 c3 c4 c5
  cases hd : V.dead
  · rw [hd] at c6 HR
    clear hd
    go_wp2_with fail
    refine (HLv.out _ S1.out).mono ?_
    rintro en w2 ⟨rfl, S2⟩
    have S2 := hid (S1.out.trans S2)
    cases ho : D.off
    · rw [ho] at HR
      have HR : Hid (r = 0) := HR
      clear ho
      go_wp2_with fail
      go_ret
      rw [HR.out]
      exact ⟨rfl, S2.out⟩
    · rw [ho] at HR
      have HR : Hid (r = 9) := HR
      clear ho
      go_wp2_with fail
      go_ret
      rw [HR.out]
      exact ⟨rfl, S2.out⟩
  · rw [hd] at c6 HR
    have HR : Hid (r = 9) := HR
    clear hd
    go_wp2_with fail
    go_ret
    rw [HR.out]
    exact ⟨rfl, S1.out⟩
/-- note -/
theorem vNote (w : World) (v p : Value) (F : Nat → Prop) (V : Vt) (e : Int) (hV : IsVt w v p F V) : Calls Try.prog 113 #[v, .int .i64 e] w fun en w' =>
    en = .returned (.int .i64 e) ∧ Keep F w w' ∧ (∀ FD D, IsDv w p FD D → (∀ i, FD i → ¬ F i) → IsDv w' p FD D) ∧ IsVt w' v p F { V with dead := V.dead || e == 9 } := by
  obtain ⟨b, sp, sv, FS, rfl, hB, hS, h4, h5, h6, h7, h8, h9⟩ := hV
  obtain ⟨c0, c1, c2, c3, c4, c5, c6⟩ := Box7.cells hB
  have z6 := Box7.free hB 6
  have HB := hid hB
  have HS := hid hS
  have H7 := hid h7
  have H8 := hid h8
  have H4 := hid h4
  have H5 := hid h5
  have H6 := hid h6
  have H9 := hid h9
  clear hB hS h4 h5 h6 h7 h8 h9 c0 c1 c2 c3 c4 c5
  have fin : ∀ u : Bool, u = (V.dead || e == 9) → ∀ w', w' = w.setCell ⟨b, 6, none⟩ (.bool u) → Keep F w w' ∧ (∀ FD D, IsDv w p FD D → (∀ i, FD i → ¬ F i) → IsDv w' p FD D) ∧ IsVt w' (.pointer (some ⟨b, 0, none⟩)) p F { V with dead := V.dead || e == 9 } := by
    rintro u rfl w' rfl
    have K : Keep (fun k => k = b) w (w.setCell ⟨b, 6, none⟩ (.bool (V.dead || e == 9))) := (Keep.refl (fun k => k = b) w).setCell (p := ⟨b, 6, none⟩) (.inl rfl) _
    have KF : Keep F w _ := K.weak' (fun i hi => by subst hi; exact H5.out)
    obtain ⟨o1, o2, o3, o4⟩ := H9.out
    exact ⟨KF, fun FD D hD hd => hD.keep KF hd, b, sp, sv, FS, rfl, Box7.set6 HB.out _, HS.out.keep K (fun i hi e => by subst e; exact H6.out hi), H4.out, H5.out, H6.out, H7.out.keep K (fun g hg e => H7.out.apart7 HB.out (by rw [hg, e])), H8.out, ⟨o1, o2, o3, o4⟩⟩
  have Fin := hid fin
  clear fin
  cases hd : V.dead
  · rw [hd] at c6 Fin
    by_cases he : e = 9
    · subst he
      clear hd
      go_enter Try.func113, Try.ntmps113
      go_wp2_with fail
      go_ret
      exact ⟨rfl, Fin.out true rfl _ rfl⟩
    · have hb : (e == 9) = false := by rw [beq_eq_false_iff_ne]; exact he
      rw [hb] at Fin
      clear hd he
      go_enter Try.func113, Try.ntmps113
      go_wp2_with fail
      go_ret
      rw [hb]
      exact ⟨rfl, Fin.out false rfl _ rfl⟩
  · rw [hd] at c6 Fin
    clear hd
    go_enter Try.func113, Try.ntmps113
    go_wp2_with fail
    go_ret
    exact ⟨rfl, Fin.out true rfl _ rfl⟩
theorem vRecords (w : World) (v p : Value) (F : Nat → Prop) (V : Vt) (hV : IsVt w v p F V) (hp : ∃ pb, p = .pointer (some ⟨pb, 0, none⟩)) : Calls Try.prog 76 #[v] w (RetRows V.S.all w) := by
  have HOk := hid (vOk w v p F V hV)
  obtain ⟨b, sp, sv, FS, rfl, hB, hS, _⟩ := hV
  have HR := hid (fun w' (Z : Same w w') => cRecords w' sp p FS V.S (hS.same Z) hp)
  obtain ⟨sb, rfl⟩ := hS.ptr
  have HB := hid hB
  clear hB hS hp
  go_enter Try.func76, Try.ntmps76
  go_wp2_with fail
  refine HOk.out.mono ?_
  rintro en w1 ⟨rfl, S1⟩
  have S1 := hid S1
  obtain ⟨c0, c1, c2, c3, c4, c5, c6⟩ := Box7.cells (HB.out.same S1.out)
  clear c1 c2 c3 c4 c5 c6
  go_wp2_with fail
  refine (HR.out _ S1.out).mono ?_
  rintro en w2 ⟨v2, rfl, O2, S2⟩
  obtain ⟨a2, c2, rfl, _, _⟩ := O2.rows.form
  have O2 := hid O2
  have S2 := hid S2
  go_wp2_with fail
  go_ret
  exact ⟨_, rfl, O2.out.mono S1.out.size, S1.out.trans S2.out⟩
theorem vEra (w : World) (v p : Value) (F : Nat → Prop) (V : Vt) (hV : IsVt w v p F V) : Calls Try.prog 77 #[v] w (RetSame (.int .i64 V.era) w) := by
  have HOk := hid (vOk w v p F V hV)
  obtain ⟨b, sp, sv, FS, rfl, hB, hS, _⟩ := hV
  have HB := hid hB
  clear hB hS
  go_enter Try.func77, Try.ntmps77
  go_wp2_with fail
  refine HOk.out.mono ?_
  rintro en w1 ⟨rfl, S1⟩
  have S1 := hid S1
  obtain ⟨c0, c1, c2, c3, c4, c5, c6⟩ := Box7.cells (HB.out.same S1.out)
  clear c0 c1 c2 c3 c5 c6
  go_wp2_with fail
  go_ret
  exact ⟨rfl, S1.out⟩
set_option maxHeartbeats 1600000 in
theorem vState (w : World) (v p : Value) (F : Nat → Prop) (V : Vt) (hV : IsVt w v p F V) : Calls Try.prog 72 #[v] w fun en w' =>
    ∃ u, en = .returned (.tuple #[u, .bool (decide (0 < V.era))]) ∧ OwnB w' w.heap.size u V.state ∧ Same w w' := by
  have HOk := hid (vOk w v p F V hV)
  obtain ⟨b, sp, sv, FS, rfl, hB, hS, _, _, _, h7, _, h9⟩ := hV
  have HB := hid hB
  have hst := h9.state
  have HBl := hid (fun w' (Z : Same w w') => bClone w' 5 sv V.state (h7.same Z) (show V.state.length ≤ 1000000 by omega))
  obtain ⟨av, cv, rfl, _, _⟩ := h7.form
  clear hB hS h7 h9 hst
  go_enter Try.func72, Try.ntmps72
  go_wp2_with fail
  refine HOk.out.mono ?_
  rintro en w1 ⟨rfl, S1⟩
  have S1 := hid S1
  obtain ⟨c0, c1, c2, c3, c4, c5, c6⟩ := Box7.cells (HB.out.same S1.out)
  have HBk := hid (HBl.out w1.drew S1.out.drew)
  clear c0 c1 c2 c3 c6
  go_wp2_with fail
  go_region_held3 (fun w' => w'.cell? ⟨b, 4, none⟩ = some (.int .i64 V.era) ∧ w'.cell? ⟨b, 5, none⟩ = some (.slice av V.state.length cv))
    (first | with_reducible exact ⟨by assumption, by assumption⟩ | go_keep)
    (first | (go_at_call 99; (with_reducible refine HBk.out.mono ?_); rintro en w2 ⟨v2, rfl, O2, S2⟩; obtain ⟨a2, q2, rfl, _, _⟩ := O2.bytes.form; obtain ⟨m0, m1, m2, m3, m4, m5, m6⟩ := Box7.cells (HB.out.same (S1.out.drew.trans S2))))
  have O2 := hid O2
  have S2 := hid S2
  go_wp2_with fail
  go_ret2
  exact ⟨_, rfl, O2.out.mono S1.out.drew.size, S1.out.drew.trans S2.out⟩
end Go.Proofs.Ytlhnpicmjjddeaa
namespace Go.Proofs.Ytlhnpicmjjddeaa

/-- the scroll is what the drive says; nothing of its own life stands behind it -/
structure KsA (D : Dv) (S : Sc) : Prop where
  on : D.off = false
  alive : S.dead = false
  fit : 0 ≤ S.from_ ∧ S.from_ ≤ S.at_ ∧ S.at_ ≤ S.till ∧ S.till ≤ D.C.length
  low : ∀ i : Int, (decF (D.sector i)).right = true → (decF (D.sector i)).life ≤ S.life
  low2 : ∀ i : Int, S.at_ ≤ i → (decF (D.sector i)).right = true → (decF (D.sector i)).life < S.life
  reads : D.read S.till S.era S.from_ 1 0 = (S.all, S.at_, S.last)
  lastL : S.last ≤ S.life
theorem read_last {D : Dv} {till era L : Int} (h : ∀ i : Int, (decF (D.sector i)).right = true → (decF (D.sector i)).life ≤ L) : ∀ (f : Nat) (a n last : Int), till - a ≤ f → last ≤ L → (D.read till era a n last).2.2 ≤ L := by
  intro f
  induction f with
  | zero =>
    intro a n last h1 h2
    have : D.recAt till era a n last = false := by
      cases e : D.recAt till era a n last
      · rfl
      · have := (recAt_iff.1 e).1
        omega
    rw [read_no this]
    exact h2
  | succ f ih =>
    intro a n last h1 h2
    cases e : D.recAt till era a n last
    · rw [read_no e]; exact h2
    · have hp := recAt_parts e
      rw [read_yes e]
      refine ih _ _ _ (by omega) ?_
      have := hp.2.2.2 0 (by omega)
      rw [show a + ((0 : Nat) : Int) = a by simp] at this
      exact h _ this
theorem open_zero {D : Dv} {from_ till life era : Int} (hf : 0 ≤ from_ ∧ from_ ≤ till ∧ till ≤ D.C.length) (hl : 1 ≤ life ∧ life ≤ 16777215) (he : 0 ≤ era ∧ era ≤ 16777215)
    (h : ∀ i : Int, (decF (D.sector i)).right = true → (decF (D.sector i)).life < life) : D.openE from_ till life era = 0 := by
  unfold Dv.openE
  rw [if_pos ⟨by unfold Dv.within; rw [decide_eq_true_eq]; exact hf, hl.1, hl.2, he.1, he.2, newest_lt h hl.1⟩]
theorem KsA.opened {D : Dv} {from_ till life era : Int} (ho : D.off = false) (hf : 0 ≤ from_ ∧ from_ ≤ till ∧ till ≤ D.C.length) (hl : 1 ≤ life)
    (h : ∀ i : Int, (decF (D.sector i)).right = true → (decF (D.sector i)).life < life) : KsA D (D.opened from_ till life era) :=
  ⟨ho, rfl, ⟨hf.1, read_from D till era from_ 1 0, read_le D till era from_ 1 0 hf.2.1, hf.2.2⟩, fun i hr => Int.le_of_lt (h i hr), fun i _ hr => h i hr, rfl,
    read_last (fun i hr => Int.le_of_lt (h i hr)) (till - from_).toNat from_ 1 0 (by omega) (by omega)⟩
theorem KsA.of_C {D D' : Dv} {S : Sc} (h : KsA D S) (hC : D'.C = D.C) (ho : D'.off = false) : KsA D' S := by
  have hs := sector_C hC
  refine ⟨ho, h.alive, by rw [hC]; exact h.fit, fun i hr => ?_, fun i hi hr => ?_, ?_, h.lastL⟩
  · rw [hs] at hr ⊢; exact h.low i hr
  · rw [hs] at hr ⊢; exact h.low2 i hi hr
  · have := read_prefix (D := D) (D' := D') S.till S.era (S.till - S.from_).toNat S.from_ 1 0 (by omega) (fun i _ _ => hs i)
    rw [this, read_no (D := D')]
    · simp only [List.append_nil]; exact h.reads
    · have := read_stop D S.till S.era S.from_ 1 0
      rwa [(recAt_congr (hs _) (fun i _ => hs _)).1]
/-- what is left of a record under way -/
structure KsB (D D' : Dv) (S : Sc) (b : List UInt8) : Prop where
  len : D'.C.length = D.C.length
  low : ∀ i : Int, (decF (D'.sector i)).right = true → (decF (D'.sector i)).life ≤ S.life
  out : ∀ i : Int, i < S.from_ → D'.sector i = D.sector i
  reads : (D'.read S.till S.era S.from_ 1 0).1 = S.all ∨ (D'.read S.till S.era S.from_ 1 0).1 = S.all ++ [b]
theorem KsA.append {D : Dv} {S : Sc} {b : List UInt8} (h : KsA D S) (hc : cutE S.life S.era (S.all.length + 1) b = 0) :
    S.append D b = (10, S, D) ∨
    ((S.append D b).1 = 0 ∧ KsA (S.append D b).2.2 (S.append D b).2.1 ∧ (∃ a, (S.append D b).2.1 = { S with all := S.all ++ [b], at_ := a, last := S.life }) ∧ (S.append D b).2.2.C.length = D.C.length ∧ ∀ i : Int, i < S.from_ → (S.append D b).2.2.sector i = D.sector i) ∨
    ((S.append D b).1 = 9 ∧ (S.append D b).2.2.off = true ∧ KsB D (S.append D b).2.2 S b ∧ (S.append D b).2.1 = { S with dead := true }) := by
  obtain ⟨f1, f2, f3, f4⟩ := h.fit
  have hlen := cutL_length S.life S.era (S.all.length + 1) b
  have hpos := nparts_pos b.length
  by_cases hfull : S.till - S.at_ < (cutL S.life S.era (S.all.length + 1) b).length
  · left
    unfold Sc.append
    rw [if_neg (by rw [h.alive, h.on]; simp), if_neg (by rw [hc]; exact fun x => x rfl), if_pos hfull]
  right
  obtain ⟨A, hA⟩ : ∃ A : Nat, S.at_ = (A : Int) := ⟨S.at_.toNat, by omega⟩
  have hbad : D.bad A (cutL S.life S.era (S.all.length + 1) b) = false := by
    unfold Dv.bad
    rw [cutL_long hc, decide_eq_false (by omega), decide_eq_false (by omega), decide_eq_false (by omega)]
    rfl
  have hw : D.write S.at_ (cutL S.life S.era (S.all.length + 1) b) = (if D.blown then 9 else 0, D.wrote A (cutL S.life S.era (S.all.length + 1) b)) := by
    unfold Dv.write
    rw [hA, h.on, hbad, if_neg (by decide), if_neg (by decide), if_neg (by intro e; rw [e] at hlen; simp at hlen; omega)]
  have ht := D.tornS (at_ := A) (life := S.life) (era := S.era) (seq := S.all.length + 1) (b := b) (by omega)
  have hl2 : (D.wrote A (cutL S.life S.era (S.all.length + 1) b)).C.length = D.C.length := by unfold Dv.wrote; exact landed_length _ _ _ _ _
  have hS : S.append D b = if D.blown then (9, { S with dead := true }, D.wrote A (cutL S.life S.era (S.all.length + 1) b))
      else (0, { S with all := S.all ++ [b], at_ := S.at_ + (cutL S.life S.era (S.all.length + 1) b).length, last := S.life }, D.wrote A (cutL S.life S.era (S.all.length + 1) b)) := by
    unfold Sc.append
    rw [if_neg (by rw [h.alive, h.on]; simp), if_neg (by rw [hc]; exact fun x => x rfl), if_neg hfull, hw]
    cases D.blown
    · rfl
    · rfl
  rw [hS]
  have hoff : (D.wrote A (cutL S.life S.era (S.all.length + 1) b)).off = D.blown := rfl
  clear hS hw hbad
  generalize D.wrote A (cutL S.life S.era (S.all.length + 1) b) = D' at *
  rw [hlen] at hfull ⊢
  have hr := h.reads
  have hstop := read_stop D S.till S.era S.from_ 1 0
  have hpre := read_prefix (D := D) (D' := D') S.till S.era (S.till - S.from_).toNat S.from_ 1 0 (by omega) (fun i h1 h2 => ht.2 i fun k hk _ e => by rw [hr] at h2; simp only at h2; omega)
  rw [hr] at hstop hpre
  simp only at hstop hpre
  rw [show (1 : Int) + (S.all.length : Int) = (S.all.length : Int) + 1 by omega, hA] at hstop hpre
  have hout : ∀ i : Int, i < S.from_ → D'.sector i = D.sector i := fun i hi => ht.2 i fun k hk _ e => by omega
  have hlow : ∀ i : Int, (decF (D'.sector i)).right = true → (decF (D'.sector i)).life ≤ S.life := by
    intro i hr
    by_cases hx : ∃ k : Nat, k < nparts b.length ∧ D.keeps k = true ∧ i = (A : Int) + k
    · obtain ⟨k, hk, hs, rfl⟩ := hx
      rw [ht.new hc hk hs]
      exact Int.le_refl _
    · have e := ht.2 i fun k hk hs e => hx ⟨k, hk, hs, e⟩
      rw [e] at hr ⊢
      exact h.low i hr
  have hlow2 : ∀ i : Int, (A : Int) ≤ i → (decF (D.sector i)).right = true → (decF (D.sector i)).life < S.life := fun i hi => h.low2 i (by omega)
  cases hB : D.blown
  · left
    rw [if_neg (by decide)]
    have hw := read_whole (till := S.till) (last := S.last) ht hc (by omega) h.lastL hlow2 (fun i _ => by unfold Dv.keeps; rw [hB]; rfl)
    rw [hw] at hpre
    refine ⟨rfl, ⟨by rw [hoff, hB], h.alive, ⟨f1, by show S.from_ ≤ S.at_ + _; omega, by show S.at_ + _ ≤ S.till; omega, by rw [hl2]; exact f4⟩, hlow, fun i hi hr => ?_, ?_, Int.le_refl _⟩, ⟨_, rfl⟩, hl2, hout⟩
    · have hi' : S.at_ + (nparts b.length : Int) ≤ i := hi
      rw [ht.2 i fun k hk _ e => by omega] at hr ⊢
      exact h.low2 i (by omega) hr
    · show D'.read S.till S.era S.from_ 1 0 = (S.all ++ [b], S.at_ + (nparts b.length : Int), S.life)
      rw [hpre, hA]
  · right
    rw [if_pos rfl]
    refine ⟨rfl, by rw [hoff, hB], ⟨hl2, hlow, hout, ?_⟩, rfl⟩
    rcases read_torn (till := S.till) (last := S.last) ht hc (by omega) h.lastL hlow2 hstop with e | e
    · right; rw [hpre, e]
    · left; rw [hpre, e]; simp
theorem Sc.append_dead {S : Sc} {D : Dv} {b : List UInt8} (h : S.dead = true ∨ D.off = true) : S.append D b = (9, S, D) := by unfold Sc.append; rw [if_pos h]
end Go.Proofs.Ytlhnpicmjjddeaa
namespace Go.Proofs.Ytlhnpicmjjddeaa
open Go.RowKit

/-- behind turn -/
def Vt.turned (V : Vt) (D : Dv) : Vt := { V with S := D.opened (2 * V.each) D.C.length V.life V.era }
set_option maxHeartbeats 6400000 in
set_option maxRecDepth 100000 in
theorem vTurn (w : World) (b : Nat) (sp p sv : Value) (FD : Nat → Prop) (V : Vt) (D : Dv) (hB : vtBox w b sp p V sv) (hsp : ∃ q, sp = .pointer q) (hD : IsDv w p FD D) (hF : ∀ k, FD k → k < w.heap.size) (hb : ¬ FD b) (hs : Bytes w 5 sv V.state)
    (hok : V.Ok) (hE : D.openE (2 * V.each) D.C.length V.life V.era = 0) : Calls Try.prog 111 #[.pointer (some ⟨b, 0, none⟩)] w fun en w' =>
      ∃ sp' FS', en = .returned (.int .i64 0) ∧ Keep (fun k => k = b) w w' ∧ vtBox w' b sp' p (V.turned D) sv ∧ IsSc w' sp' p FS' (V.turned D).S ∧ Bnd FS' w.heap.size w'.heap.size ∧ IsDv w' p FD D ∧ Bytes w' 5 sv V.state := by
  have HSz := hid (fun w' (Z : Same w w') => dSizeD w' p FD D (hD.same Z))
  have HO := hid (fun w' (Z : Same w w') => cOpen w' p FD D (2 * V.each) D.C.length V.life V.era (hD.same Z) (fun k hk => Nat.lt_of_lt_of_le (hF k hk) Z.size))
  have HD := hid hD
  have HB := hid hB
  have HS := hid hs
  have HE := hid hE
  have Hb := hid hb
  have he := hok.each
  have hlen := hD.ok.1
  obtain ⟨pb, rfl⟩ := hD.ptr
  obtain ⟨q, rfl⟩ := hsp
  obtain ⟨av, cv, rfl, _, _⟩ := hs.form
  have hbl : b < w.heap.size := Box7.lt hB
  obtain ⟨c0, c1, c2, c3, c4, c5, c6⟩ := Box7.cells hB
  have HSk := hid (HSz.out w.drew (Same.refl w).drew)
  have HOk := hid (fun w' (Z : Same w.drew w') => HO.out w' ((Same.refl w).drew.trans Z))
  have hw1 : IntKind.i64.wrap (2 * V.each) = 2 * V.each := by rw [IntKind.wrap_i64]; omega
  clear hB hs hE hD hF hb c0 c5 c6
  go_enter Try.func111, Try.ntmps111
  go_wp2_with fail
  go_region_held3 (fun w' => w'.cell? ⟨b, 1, none⟩ = some (.pointer (some ⟨pb, 0, none⟩)) ∧ w'.cell? ⟨b, 2, none⟩ = some (.int .i64 V.each) ∧ w'.cell? ⟨b, 3, none⟩ = some (.int .i64 V.life) ∧ w'.cell? ⟨b, 4, none⟩ = some (.int .i64 V.era))
    (first | with_reducible exact ⟨by assumption, by assumption, by assumption, by assumption⟩ | go_keep)
    (first
      | (go_at_call 42; (with_reducible refine HSk.out.mono ?_); rintro en w2 ⟨rfl, S2⟩; obtain ⟨m0, m1, m2, m3, m4, m5, m6⟩ := Box7.cells (HB.out.same ((Same.refl w).drew.trans S2)))
      | (go_at_call 61; (with_reducible refine (HOk.out w2 S2).mono ?_); rintro en w3 hr; obtain ⟨sp', FS', rfl, I3, S3, B3⟩ := hr.good HE.out; obtain ⟨n0, n1, n2, n3, n4, n5, n6⟩ := Box7.cells (HB.out.same (((Same.refl w).drew.trans S2).trans S3))))
  have S3' := hid (((Same.refl w).drew.trans S2).trans S3)
  have z0 := Box7.free (HB.out.same S3'.out) 0
  have I3 := hid I3
  have B3 : Hid (Bnd FS' w.heap.size w3.heap.size) := fun k hk => ⟨Nat.le_trans ((Same.refl w).drew.trans S2).size (B3 k hk).1, (B3 k hk).2⟩
  obtain ⟨sb, rfl⟩ := I3.out.ptr
  clear c1 c2 c3 c4 m0 m1 m2 m3 m4 m5 m6 n1 n2 n3 n4 n5 n6
  go_wp2_with fail
  go_ret
  have K : Keep (fun k => k = b) w3 (w3.setCell ⟨b, 0, none⟩ (.pointer (some ⟨sb, 0, none⟩))) := (Keep.refl (fun k => k = b) w3).setCell (p := ⟨b, 0, none⟩) (.inl rfl) _
  have hbF : ∀ i, FS' i → ¬ i = b := fun i hi e => by have := (B3.out i hi).1; omega
  refine ⟨_, FS', rfl, (S3'.out.keep _).trans K, Box7.set0 (HB.out.same S3'.out) _, I3.out.keep K hbF, B3.out.mono K.size, (HD.out.same S3'.out).keep K (fun i hi e => by subst e; exact Hb.out hi), (HS.out.same S3'.out).keep K (fun g hg e => (HS.out.apart7 HB.out) (by rw [hg, e]))⟩

def Dv.vopenE (D : Dv) (each : Int) : Int := if each < 1 ∨ (D.C.length : Int) ≤ each ∨ (D.C.length : Int) ≤ 2 * each then 2 else if 16777214 ≤ D.newest 0 D.C.length then 10 else 0
def Dv.vopened (D : Dv) (each : Int) : Vt :=
  ⟨each, D.newest 0 D.C.length + 1, (D.loadR 0 each).1, (D.loadR 0 each).2.1, false, D.opened (2 * each) D.C.length (D.newest 0 D.C.length + 1) (D.loadR 0 each).1⟩
theorem era_bound (b : List UInt8) : 0 ≤ (decF b).era ∧ (decF b).era ≤ 16777215 := by
  by_cases hr : (decF b).right = true
  · have := stampOk_iff.1 (Fr.right_iff.1 hr).1; omega
  · rw [decF_wrong hr]; exact ⟨by decide, by decide⟩
theorem place_bound' (D : Dv) (a each odd : Int) : 0 ≤ (D.place a each odd).1 ∧ (D.place a each odd).1 ≤ 16777215 ∧ (D.place a each odd).2.length ≤ 30000 := by
  unfold Dv.place
  split
  · have := era_bound (D.sector a)
    refine ⟨this.1, this.2, ?_⟩
    have hs := small_frs D a (decF (D.sector a)).parts.toNat
    have hj := joined_length _ (fun f hf => (hs f hf).2.2)
    rw [D.frs_length] at hj
    have := (small_decF (D.sector a))
    show (joined _).length ≤ 30000
    omega
  · exact ⟨by decide, by decide, by simp⟩
theorem loadR_bound (D : Dv) (a each : Int) : 0 ≤ (D.loadR a each).1 ∧ (D.loadR a each).1 ≤ 16777215 ∧ (D.loadR a each).2.1.length ≤ 30000 := by
  have key : ∀ x : Int × List UInt8, 0 ≤ x.1 ∧ x.1 ≤ 16777215 ∧ x.2.length ≤ 30000 → 0 ≤ (if x.1 = 0 then ((0 : Int), ([] : List UInt8), (11 : Int)) else (x.1, x.2, 0)).1 ∧ (if x.1 = 0 then ((0 : Int), ([] : List UInt8), (11 : Int)) else (x.1, x.2, 0)).1 ≤ 16777215 ∧ (if x.1 = 0 then ((0 : Int), ([] : List UInt8), (11 : Int)) else (x.1, x.2, 0)).2.1.length ≤ 30000 := by
    intro x hx
    by_cases h : x.1 = 0
    · rw [if_pos h]; exact ⟨Int.le_refl _, by show (0 : Int) ≤ 16777215; omega, by simp⟩
    · rw [if_neg h]; exact hx
  have hl : 0 ≤ (D.load a each).1 ∧ (D.load a each).1 ≤ 16777215 ∧ (D.load a each).2.length ≤ 30000 := by
    unfold Dv.load
    split
    · exact place_bound' D (a + each) each 1
    · exact place_bound' D a each 0
  unfold Dv.loadR
  split
  · exact key _ hl
  · exact ⟨Int.le_refl _, by show (0 : Int) ≤ 16777215; omega, by simp⟩
theorem most_mono {D : Dv} {L : Int} (h : ∀ i : Int, (decF (D.sector i)).right = true → 0 ≤ i → i < D.C.length → (decF (D.sector i)).life < L) (hL : 1 ≤ L) {from_ : Int} (hf : 0 ≤ from_) : ∀ k : Nat, from_ + k ≤ D.C.length → D.most from_ k < L := by
  intro k
  induction k with
  | zero => intro _; show (0 : Int) < L; omega
  | succ k ih =>
    intro hk
    have := ih (by omega)
    show max _ _ < L
    by_cases hr : (decF (D.sector (from_ + k))).right = true
    · have := h _ hr (by omega) (by omega); omega
    · rw [decF_wrong hr]
      have : Fr.zero.life = 0 := rfl
      omega
theorem most_ge (D : Dv) (from_ : Int) : ∀ (k j : Nat), j < k → (decF (D.sector (from_ + j))).life ≤ D.most from_ k := by
  intro k
  induction k with
  | zero => intro j hj; omega
  | succ k ih =>
    intro j hj
    show _ ≤ max _ _
    rcases Nat.lt_or_ge j k with h | h
    · have := ih j h; omega
    · obtain rfl : j = k := by omega
      omega
/-- every frame on the drive is of a life that the newest is not below -/
theorem newest_all {D : Dv} : ∀ i : Int, (decF (D.sector i)).right = true → (decF (D.sector i)).life < D.newest 0 D.C.length + 1 := by
  intro i hr
  have hi : 0 ≤ i ∧ i < D.C.length := by
    by_cases h0 : 0 ≤ i
    · refine ⟨h0, ?_⟩
      rcases Int.lt_or_le i D.C.length with h | h
      · exact h
      · exfalso
        have : D.sector i = [] := by
          unfold Dv.sector
          rw [if_pos h0, List.getD_eq_getElem?_getD, List.getElem?_eq_none (by omega)]; rfl
        rw [this, decF_nil] at hr
        cases hr
    · exfalso
      have : D.sector i = [] := by unfold Dv.sector; rw [if_neg h0]
      rw [this, decF_nil] at hr
      cases hr
  unfold Dv.newest
  rw [if_pos (by unfold Dv.within; rw [decide_eq_true_eq]; omega)]
  have := most_ge D 0 (((D.C.length : Int) - 0).toNat) i.toNat (by omega)
  rw [show (0 : Int) + (i.toNat : Int) = i by omega] at this
  omega
theorem vopen_turn {D : Dv} {each : Int} (h : D.vopenE each = 0) : D.openE (2 * each) D.C.length (D.newest 0 D.C.length + 1) (D.loadR 0 each).1 = 0 := by
  unfold Dv.vopenE at h
  split at h
  · cases h
  split at h
  · cases h
  have hb := newest_bound D 0 D.C.length
  have hl := loadR_bound D 0 each
  exact open_zero ⟨by omega, by omega, Int.le_refl _⟩ ⟨by omega, by omega⟩ ⟨hl.1, hl.2.1⟩ newest_all
def RetVOpen (D : Dv) (p : Value) (each : Int) (w : World) (en : Ending) (w' : World) : Prop :=
  (D.vopenE each ≠ 0 ∧ en = .returned (.tuple #[.pointer none, .int .i64 (D.vopenE each)]) ∧ Same w w') ∨
  (D.vopenE each = 0 ∧ ∃ v F, en = .returned (.tuple #[v, .int .i64 0]) ∧ IsVt w' v p F (D.vopened each) ∧ Same w w' ∧ Bnd F w.heap.size w'.heap.size)
set_option maxHeartbeats 6400000 in
set_option maxRecDepth 100000 in
theorem vOpen (w : World) (p : Value) (FD : Nat → Prop) (D : Dv) (each : Int) (hD : IsDv w p FD D) (hF : ∀ k, FD k → k < w.heap.size) (he : -9223372036854775808 ≤ each ∧ each ≤ 9223372036854775807) :
    Calls Try.prog 73 #[p, .int .i64 each] w (RetVOpen D p each w) := by
  have HSz := hid (dSizeD w p FD D hD)
  have HN := hid (fun w' (Z : Same w w') => cNewest w' p FD D 0 D.C.length (hD.same Z))
  have HL := hid (fun w' (Z : Same w w') => sLoad w' p FD D 0 each (hD.same Z) he)
  have HT := hid vTurn
  have HD := hid hD
  have HF := hid hF
  have hn1 := hD.ok.2.1
  have hn2 := hD.ok.1
  have hzn : ((D.C.length : Int) == 0) = false := by rw [beq_eq_false_iff_ne]; omega
  have hzn' : (D.C.length == 0) = false := by rw [beq_eq_false_iff_ne]; omega
  have hzn'' : ¬ D.C.length = 0 := by omega
  obtain ⟨pb, rfl⟩ := hD.ptr
  have hVE : D.vopenE each = if each < 1 ∨ (D.C.length : Int) ≤ each ∨ (D.C.length : Int) ≤ 2 * each then 2 else if 16777214 ≤ D.newest 0 D.C.length then 10 else 0 := rfl
  have HVE := hid hVE
  have hvt := hid (@vopen_turn D each)
  have hlb := loadR_bound D 0 each
  have hnb := newest_bound D 0 D.C.length
  have hvo : Hid (D.vopened each = ⟨each, D.newest 0 D.C.length + 1, (D.loadR 0 each).1, (D.loadR 0 each).2.1, false, D.opened (2 * each) D.C.length (D.newest 0 D.C.length + 1) (D.loadR 0 each).1⟩) := rfl
  clear hD hF hVE
  by_cases g : each < 1 ∨ (D.C.length : Int) ≤ each ∨ (D.C.length : Int) ≤ 2 * each
  case pos =>
    have h2 : Hid (D.vopenE each = 2) := HVE.out.trans (if_pos g)
    have hcl : Hid (∀ w', Same w w' → RetVOpen D (.pointer (some ⟨pb, 0, none⟩)) each w (.returned (.tuple #[.pointer none, .int .i64 2])) w') := fun w' Z => .inl ⟨by rw [h2.out]; decide, by rw [h2.out], Z⟩
    clear HN HL HT hvt hlb hnb hvo HD HF HVE
    generalize D.C.length = n at *
    by_cases g1 : each < 1
    · have e1 : decide (each < 1) = true := by simpa using g1
      clear g g1
      go_enter Try.func73, Try.ntmps73
      go_wp2_with fail
      refine HSz.out.mono ?_
      rintro en w1 ⟨rfl, S1⟩
      have S1 := hid S1
      go_wp2_with fail
      go_ret2
      exact hcl.out _ S1.out
    have e1 : decide (each < 1) = false := by simpa using g1
    by_cases g2 : (n : Int) ≤ each
    · have e2 : decide ((n : Int) ≤ each) = true := by simpa using g2
      clear g g1
      go_enter Try.func73, Try.ntmps73
      go_wp2_with fail
      refine HSz.out.mono ?_
      rintro en w1 ⟨rfl, S1⟩
      have S1 := hid S1
      go_wp2_with fail
      go_ret2
      exact hcl.out _ S1.out
    have e2 : decide ((n : Int) ≤ each) = false := by simpa using g2
    have e3 : decide ((n : Int) ≤ 2 * each) = true := by rw [decide_eq_true_eq]; omega
    have hbd : 1 ≤ each ∧ each ≤ 2048 := by omega
    clear g g1 g2
    go_enter Try.func73, Try.ntmps73
    go_wp2_with fail
    refine HSz.out.mono ?_
    rintro en w1 ⟨rfl, S1⟩
    have S1 := hid S1
    go_wp2_with fail
    go_ret2
    exact hcl.out _ S1.out
  case neg =>
    have e1 : decide (each < 1) = false := by rw [decide_eq_false_iff_not]; omega
    have e2 : decide ((D.C.length : Int) ≤ each) = false := by rw [decide_eq_false_iff_not]; omega
    have e3 : decide ((D.C.length : Int) ≤ 2 * each) = false := by rw [decide_eq_false_iff_not]; omega
    have hbd : 1 ≤ each ∧ 2 * each ≤ 2048 := by omega
    have HV2 := hid (HVE.out.trans (if_neg g))
    clear g HVE
    by_cases g2 : 16777214 ≤ D.newest 0 D.C.length
    case pos =>
      have h2 : Hid (D.vopenE each = 10) := HV2.out.trans (if_pos g2)
      have hcl : Hid (∀ w', Same w w' → RetVOpen D (.pointer (some ⟨pb, 0, none⟩)) each w (.returned (.tuple #[.pointer none, .int .i64 10])) w') := fun w' Z => .inl ⟨by rw [h2.out]; decide, by rw [h2.out], Z⟩
      have e4 : decide (16777214 ≤ D.newest 0 D.C.length) = true := by simpa using g2
      clear g2 HL HT hvt hlb hvo HD HF HV2
      go_enter Try.func73, Try.ntmps73
      go_wp2_with fail
      refine HSz.out.mono ?_
      rintro en w1 ⟨rfl, S1⟩
      have S1 := hid S1
      go_wp2_with fail
      refine (HN.out _ S1.out).mono ?_
      rintro en w2 ⟨rfl, S2⟩
      have S2 := hid (S1.out.trans S2)
      go_wp2_with fail
      go_ret2
      exact hcl.out _ S2.out
    case neg =>
      have h0 : D.vopenE each = 0 := HV2.out.trans (if_neg g2)
      have H0 := hid h0
      have hE := hid (hvt.out h0)
      have e4 : decide (16777214 ≤ D.newest 0 D.C.length) = false := by simpa using g2
      have hnb2 : D.newest 0 D.C.length + 1 ≤ 16777214 := by omega
      clear g2 HV2 hvt h0
      go_enter Try.func73, Try.ntmps73
      go_wp2_with fail
      refine HSz.out.mono ?_
      rintro en w1 ⟨rfl, S1⟩
      have S1 := hid S1
      go_wp2_with fail
      refine (HN.out _ S1.out).mono ?_
      rintro en w2 ⟨rfl, S2⟩
      have S2 := hid (S1.out.trans S2)
      go_wp2_with fail
      refine (HL.out _ S2.out).mono ?_
      rintro en w3 ⟨v3, rfl, O3, S3⟩
      have S3' := hid (S2.out.trans S3)
      have O3 := hid (O3.mono S2.out.size)
      clear S3 HL HN HSz
      generalize D.newest 0 D.C.length = L at *
      generalize D.loadR 0 each = R at *
      obtain ⟨era, st, le⟩ := R
      simp only at hlb hE hvo O3
      simp only
      obtain ⟨a3, q3, rfl, _, _⟩ := O3.out.bytes.form
      have B4 := hid (Box7.new w3 (.pointer none) (.pointer (some ⟨pb, 0, none⟩)) (.int .i64 each) (.int .i64 (L + 1)) (.int .i64 era) (.slice a3 st.length q3) (.bool false))
      have S4 := hid (S3'.out.alloc (.cells #[.pointer none, .pointer (some ⟨pb, 0, none⟩), .int .i64 each, .int .i64 (L + 1), .int .i64 era, .slice a3 st.length q3, .bool false] 122))
      have O4 := hid (O3.out.alloc (.cells #[.pointer none, .pointer (some ⟨pb, 0, none⟩), .int .i64 each, .int .i64 (L + 1), .int .i64 era, .slice a3 st.length q3, .bool false] 122))
      have hO3 : Hid (∀ g, homeOf (.slice a3 st.length q3) = some g → w.heap.size ≤ g ∧ g < w3.heap.size) := fun g hg => O3.out.lt g (home_own hg)
      go_wp2_with fail
      generalize hw4 : (w3.alloc (.cells #[.pointer none, .pointer (some ⟨pb, 0, none⟩), .int .i64 each, .int .i64 (L + 1), .int .i64 era, .slice a3 st.length q3, .bool false] 122)) = w4 at *
      have hsz4 : Hid (w4.heap.size = w3.heap.size + 1) := by rw [← hw4]; simp [Hid]
      clear hw4
      have hV4 : Hid (Vt.Ok ⟨each, L + 1, era, st, false, D.opened (2 * each) D.C.length (L + 1) era⟩) := ⟨hbd, ⟨by show 1 ≤ L + 1; omega, hnb2⟩, ⟨hlb.1, hlb.2.1⟩, hlb.2.2⟩
      have hw3 := S3'.out.size
      refine (HT.out w4 w3.heap.size (.pointer none) (.pointer (some ⟨pb, 0, none⟩)) (.slice a3 st.length q3) FD ⟨each, L + 1, era, st, false, D.opened (2 * each) D.C.length (L + 1) era⟩ D B4.out ⟨_, rfl⟩ (HD.out.same S4.out) (fun k hk => Nat.lt_of_lt_of_le (HF.out k hk) S4.out.size) (fun h => by have := HF.out _ h; omega) O4.out.bytes hV4.out hE.out).mono ?_
      rintro en w5 ⟨sp', FS', rfl, K5, B5, I5, N5, D5, Y5⟩
      have hk5 := K5.size
      go_wp2_with fail
      go_ret2
      refine .inr ⟨H0.out, _, fun k => FS' k ∨ (w.heap.size ≤ k ∧ k < w4.heap.size), rfl, ?_, S4.out.keepOwn K5 (fun k hk => by subst hk; exact S3'.out.size), fun k hk => ?_⟩
      · rw [hvo.out]
        refine ⟨w3.heap.size, sp', _, FS', rfl, B5, I5, fun i hi => .inl hi, .inr ⟨S3'.out.size, by rw [hsz4.out]; omega⟩, fun h => by have := (N5 _ h).1; have := hsz4.out; omega, Y5, fun g hg => ?_, ?_⟩
        · have h1 := hO3.out g hg
          have h2 := hsz4.out
          exact ⟨.inr ⟨h1.1, by omega⟩, fun h => by have := (N5 g h).1; omega⟩
        · obtain ⟨o1, o2, o3, o4⟩ := hV4.out
          exact ⟨o1, o2, o3, o4⟩
      · rcases hk with hk | hk
        · have h1 := N5 k hk
          have h2 := S4.out.size
          exact ⟨by omega, h1.2⟩
        · exact ⟨hk.1, by omega⟩
end Go.Proofs.Ytlhnpicmjjddeaa
namespace Go.Proofs.Ytlhnpicmjjddeaa
open Go.RowKit

def Vt.append (V : Vt) (D : Dv) (b : List UInt8) : Int × Vt × Dv :=
  if V.ready D ≠ 0 then (9, V, D) else ((V.S.append D b).1, { V with S := (V.S.append D b).2.1, dead := V.dead || (V.S.append D b).1 == 9 }, (V.S.append D b).2.2)
def Vt.saved (V : Vt) (b : List UInt8) : Vt := { V with state := b, era := V.era + 1, life := V.life + 1 }
def Vt.compact (V : Vt) (D : Dv) (b : List UInt8) : Int × Vt × Dv :=
  if V.ready D ≠ 0 then (9, V, D)
  else if 16777214 ≤ V.life then (10, V, D)
  else if (D.save 0 V.each V.life (V.era + 1) b).1 ≠ 0 then ((D.save 0 V.each V.life (V.era + 1) b).1, { V with dead := V.dead || (D.save 0 V.each V.life (V.era + 1) b).1 == 9 }, (D.save 0 V.each V.life (V.era + 1) b).2)
  else (0, (V.saved b).turned (D.save 0 V.each V.life (V.era + 1) b).2, (D.save 0 V.each V.life (V.era + 1) b).2)
theorem ready_cases (V : Vt) (D : Dv) : V.ready D = 0 ∨ V.ready D = 9 := by
  unfold Vt.ready
  split
  · exact .inr rfl
  · exact .inl rfl
def RetV (r : Int × Vt × Dv) (v p : Value) (FD F : Nat → Prop) (w : World) (en : Ending) (w' : World) : Prop :=
  ∃ F', en = .returned (.int .i64 r.1) ∧ Keep (fun k => FD k ∨ F k) w w' ∧ IsDv w' p FD r.2.2 ∧ IsVt w' v p F' r.2.1 ∧ Grow F F' w w'
set_option maxHeartbeats 6400000 in
set_option maxRecDepth 100000 in
theorem vAppend (w : World) (v p u : Value) (FD F : Nat → Prop) (D : Dv) (V : Vt) (b : List UInt8) (e : TypeId) (hD : IsDv w p FD D) (hV : IsVt w v p F V) (hx : ∀ i, FD i → ¬ F i) (hF : ∀ k, FD k → k < w.heap.size) (hG : ∀ k, F k → k < w.heap.size)
    (hb : Bytes w e u b) (hl : b.length ≤ 20000) (hnb : ∀ g, homeOf u = some g → ¬ FD g) : Calls Try.prog 74 #[v, u] w (RetV (V.append D b) v p FD F w) := by
  have HR := hid (vReady w v p F FD V D hV hD)
  have HV := hid hV
  have HD := hid hD
  have HNt := hid vNote
  have HA0 : Hid (V.ready D ≠ 0 → V.append D b = (9, V, D)) := fun h => if_pos h
  have HA1 : Hid (V.ready D = 0 → V.append D b = ((V.S.append D b).1, { V with S := (V.S.append D b).2.1, dead := V.dead || (V.S.append D b).1 == 9 }, (V.S.append D b).2.2)) := fun h => if_neg (by rw [h]; exact fun x => x rfl)
  obtain ⟨vb, sp, sv, FS, rfl, hB, hS, h4, h5, h6, h7, h8, h9⟩ := hV
  have HAp := hid (fun w' (Z : Same w w') => cAppend w' sp p u FD FS D V.S b e (hD.same Z) (hS.same Z) (fun i hi hn => hx i hi (h4 i hn)) (fun k hk => Nat.lt_of_lt_of_le (hF k hk) Z.size) (hb.same Z) hl hnb)
  obtain ⟨pb, rfl⟩ := hD.ptr
  obtain ⟨sb, rfl⟩ := hS.ptr
  obtain ⟨au, cu, rfl, _, _⟩ := hb.form
  have HB := hid hB
  have H4 := hid h4
  have H5 := hid h5
  have H6 := hid h6
  have H7 := hid h7
  have H8 := hid h8
  have H9 := hid h9
  have Hx := hid hx
  have HG := hid hG
  have HF := hid hF
  clear hB hS h4 h5 h6 h7 h8 h9 hD hx hF hG hb hnb
  go_enter Try.func74, Try.ntmps74
  go_wp2_with fail
  refine HR.out.mono ?_
  rintro en w1 ⟨rfl, S1⟩
  have S1 := hid S1
  rcases ready_cases V D with hr | hr
  case inr =>
    have hz := hid (HA0.out (by rw [hr]; decide))
    rw [hr]
    clear hr
    go_wp2_with fail
    go_ret
    rw [hz.out]
    exact ⟨F, rfl, S1.out.keep _, HD.out.same S1.out, HV.out.same S1.out, Grow.refl _ _ _⟩
  have hz := hid (HA1.out hr)
  rw [hr]
  obtain ⟨c0, c1, c2, c3, c4, c5, c6⟩ := Box7.cells (HB.out.same S1.out)
  clear hr c1 c2 c3 c4 c5 c6 HA0 HA1
  go_wp2_with fail
  refine (HAp.out _ S1.out).mono ?_
  rintro en w2 ⟨FS2, rfl, K2, D2, I2, G2⟩
  generalize V.S.append D b = R at *
  obtain ⟨re, S', D'⟩ := R
  simp only at K2 D2 I2 hz
  have hvb : ¬ (FD vb ∨ FS vb) := fun h => by
    rcases h with h | h
    · exact Hx.out vb h H5.out
    · exact H6.out h
  have hnew : ∀ g, F g → ¬ FS g → ¬ FS2 g := fun g hg hn h2 => by
    rcases G2 g h2 with x | x
    · exact hn x
    · have h1 := HG.out g hg; have h3 := S1.out.size; omega
  have I3 : Hid (IsVt w2 (.pointer (some ⟨vb, 0, none⟩)) (.pointer (some ⟨pb, 0, none⟩)) (fun i => F i ∨ FS2 i) { V with S := S' }) := by
    refine ⟨vb, _, sv, FS2, rfl, Box7.keep (HB.out.same S1.out) K2 hvb, I2, fun i hi => .inr hi, .inl H5.out, hnew vb H5.out H6.out, (H7.out.same S1.out).keep K2 (fun g hg h => ?_), fun g hg => ⟨.inl (H8.out g hg).1, hnew g (H8.out g hg).1 (H8.out g hg).2⟩, ?_⟩
    · rcases h with h | h
      · exact Hx.out g h (H8.out g hg).1
      · exact (H8.out g hg).2 h
    · obtain ⟨o1, o2, o3, o4⟩ := H9.out
      exact ⟨o1, o2, o3, o4⟩
  have hG2 : Hid (Grow F (fun i => F i ∨ FS2 i) w w2) := fun i hi => by
    rcases hi with hi | hi
    · exact .inl hi
    · rcases G2 i hi with x | x
      · exact .inl (H4.out i x)
      · have h3 := S1.out.size; exact .inr ⟨by omega, x.2⟩
  have K2 : Hid (Keep (fun k => FD k ∨ F k) w w2) := (S1.out.keep _).trans (K2.weak' fun i hi => hi.imp id (H4.out i))
  have D2 := hid D2
  have hxx : Hid (∀ i, FD i → ¬ (F i ∨ FS2 i)) := fun i hi h => by
    rcases h with h | h
    · exact Hx.out i hi h
    · rcases G2 i h with x | x
      · exact Hx.out i hi (H4.out i x)
      · have h1 := HF.out i hi; have h3 := S1.out.size; omega
  clear G2 I2 hvb hnew
  go_wp2_with fail
  refine (HNt.out w2 _ _ _ _ re I3.out).mono ?_
  rintro en w3 ⟨rfl, K3, hk3, I4⟩
  have hD3 := hk3 FD D' D2.out hxx.out
  go_wp2_with fail
  go_ret
  rw [hz.out]
  refine ⟨fun i => F i ∨ FS2 i, rfl, K2.out.trans' K3 (fun i hi h => ?_), hD3, I4, fun i hi => ?_⟩
  · rcases h with h | h
    · exact .inr h
    · rcases hG2.out i (.inr h) with x | x
      · exact .inr x
      · omega
  · exact (hG2.out i hi).imp id fun x => ⟨x.1, Nat.lt_of_lt_of_le x.2 K3.size⟩

set_option maxHeartbeats 12800000 in
set_option maxRecDepth 100000 in
theorem vCompact (w : World) (v p u : Value) (FD F : Nat → Prop) (D : Dv) (V : Vt) (b : List UInt8) (e : TypeId) (hD : IsDv w p FD D) (hV : IsVt w v p F V) (hx : ∀ i, FD i → ¬ F i) (hF : ∀ k, FD k → k < w.heap.size) (hG : ∀ k, F k → k < w.heap.size)
    (hb : Bytes w e u b) (hl : b.length ≤ 20000) (hnb : ∀ g, homeOf u = some g → ¬ FD g)
    (hE : V.ready D = 0 → V.life < 16777214 → (D.save 0 V.each V.life (V.era + 1) b).1 = 0 → V.era + 1 ≤ 16777215 ∧ (D.save 0 V.each V.life (V.era + 1) b).2.openE (2 * V.each) (D.save 0 V.each V.life (V.era + 1) b).2.C.length (V.life + 1) (V.era + 1) = 0) :
    Calls Try.prog 75 #[v, u] w (RetV (V.compact D b) v p FD F w) := by
  have HR := hid (vReady w v p F FD V D hV hD)
  have HV := hid hV
  have HD := hid hD
  have HNt := hid vNote
  have HTn := hid vTurn
  have HBl := hid bClone
  have HA0 : Hid (V.ready D ≠ 0 → V.compact D b = (9, V, D)) := fun h => if_pos h
  have HA1 : Hid (V.ready D = 0 → 16777214 ≤ V.life → V.compact D b = (10, V, D)) := fun h h2 => by
    show _ = _
    unfold Vt.compact; rw [if_neg (by rw [h]; exact fun x => x rfl), if_pos h2]
  have HA2 : Hid (V.ready D = 0 → ¬ 16777214 ≤ V.life → (D.save 0 V.each V.life (V.era + 1) b).1 ≠ 0 → V.compact D b = ((D.save 0 V.each V.life (V.era + 1) b).1, { V with dead := V.dead || (D.save 0 V.each V.life (V.era + 1) b).1 == 9 }, (D.save 0 V.each V.life (V.era + 1) b).2)) := fun h h2 h3 => by
    show _ = _
    unfold Vt.compact; rw [if_neg (by rw [h]; exact fun x => x rfl), if_neg h2, if_pos h3]
  have HA3 : Hid (V.ready D = 0 → ¬ 16777214 ≤ V.life → (D.save 0 V.each V.life (V.era + 1) b).1 = 0 → V.compact D b = (0, (V.saved b).turned (D.save 0 V.each V.life (V.era + 1) b).2, (D.save 0 V.each V.life (V.era + 1) b).2)) := fun h h2 h3 => by
    show _ = _
    unfold Vt.compact; rw [if_neg (by rw [h]; exact fun x => x rfl), if_neg h2, if_neg (by rw [h3]; exact fun x => x rfl)]
  have HE := hid hE
  obtain ⟨vb, sp, sv, FS, rfl, hB, hS, h4, h5, h6, h7, h8, h9⟩ := hV
  have hoe := h9.each
  have hol := h9.life
  have hor := h9.era
  have HSv := hid (fun w' (Z : Same w w') => sSave w' p u FD D 0 V.each V.life (V.era + 1) b e (hD.same Z) (fun k hk => Nat.lt_of_lt_of_le (hF k hk) Z.size) (hb.same Z) (by omega) (by omega) (by omega))
  obtain ⟨pb, rfl⟩ := hD.ptr
  obtain ⟨sb, rfl⟩ := hS.ptr
  obtain ⟨au, cu, rfl, _, _⟩ := hb.form
  have HB := hid hB
  have HS := hid hS
  have H4 := hid h4
  have H5 := hid h5
  have H6 := hid h6
  have H7 := hid h7
  have H8 := hid h8
  have H9 := hid h9
  have Hx := hid hx
  have HG := hid hG
  have HF := hid hF
  have HBy := hid hb
  have HNb := hid hnb
  have Hl := hid hl
  clear hB hS h4 h5 h6 h7 h8 h9 hD hx hF hG hb hnb hE hl
  go_enter Try.func75, Try.ntmps75
  go_wp2_with fail
  refine HR.out.mono ?_
  rintro en w1 ⟨rfl, S1⟩
  have S1 := hid S1
  rcases ready_cases V D with hr | hr
  case inr =>
    have hz := hid (HA0.out (by rw [hr]; decide))
    rw [hr]
    clear hr
    go_wp2_with fail
    go_ret
    rw [hz.out]
    exact ⟨F, rfl, S1.out.keep _, HD.out.same S1.out, HV.out.same S1.out, Grow.refl _ _ _⟩
  have Hr := hid hr
  rw [hr]
  clear hr HA0
  obtain ⟨c0, c1, c2, c3, c4, c5, c6⟩ := Box7.cells (HB.out.same S1.out)
  by_cases hfl : 16777214 ≤ V.life
  case pos =>
    have hz := hid (HA1.out Hr.out hfl)
    have hd : decide (16777214 ≤ V.life) = true := by simpa using hfl
    clear hfl
    go_wp2_with fail
    go_ret
    rw [hz.out]
    exact ⟨F, rfl, S1.out.keep _, HD.out.same S1.out, HV.out.same S1.out, Grow.refl _ _ _⟩
  have hd : decide (16777214 ≤ V.life) = false := by simpa using hfl
  have HA2' := hid (HA2.out Hr.out (by omega))
  have HA3' := hid (HA3.out Hr.out (by omega))
  have HE' := hid (HE.out Hr.out (by omega))
  have HSk := hid (HSv.out w1.drew S1.out.drew)
  have hw1 : IntKind.i64.wrap (V.era + 1) = V.era + 1 := by rw [IntKind.wrap_i64]; omega
  have hw2 : IntKind.i64.wrap (V.life + 1) = V.life + 1 := by rw [IntKind.wrap_i64]; omega
  have hvb : Hid (¬ FD vb) := fun h => Hx.out vb h H5.out
  have hlt := hfl
  clear hfl HA1 HA2 HA3 HE HSv HR
  generalize D.save 0 V.each V.life (V.era + 1) b = R at *
  obtain ⟨re, D'⟩ := R
  simp only at HA2' HA3' HE'
  go_wp2_with fail
  go_region_held3 (fun w' => w'.cell? ⟨vb, 1, none⟩ = some (.pointer (some ⟨pb, 0, none⟩)) ∧ w'.cell? ⟨vb, 2, none⟩ = some (.int .i64 V.each) ∧ w'.cell? ⟨vb, 3, none⟩ = some (.int .i64 V.life) ∧ w'.cell? ⟨vb, 4, none⟩ = some (.int .i64 V.era))
    (first | with_reducible exact ⟨by assumption, by assumption, by assumption, by assumption⟩ | go_keep)
    (first | (go_at_call 56; (with_reducible refine HSk.out.mono ?_); rintro en w2 ⟨rfl, K2, D2⟩; obtain ⟨m0, m1, m2, m3, m4, m5, m6⟩ := Box7.cells (Box7.keep (HB.out.same S1.out.drew) K2 hvb.out)))
  have K2 := hid ((S1.out.drew.keep FD).trans K2)
  have D2 := hid D2
  have hsb : ∀ i, FS i → ¬ FD i := fun i hi hn => Hx.out i hn (H4.out i hi)
  have I2 : Hid (IsVt w2 (.pointer (some ⟨vb, 0, none⟩)) (.pointer (some ⟨pb, 0, none⟩)) F V) := HV.out.keep K2.out (fun i hi hn => Hx.out i hn hi)
  have B2 := hid (Box7.keep HB.out K2.out hvb.out)
  clear c0 c1 c2 c3 c4 c5 c6 HSk hsb
  by_cases hre : re = 0
  case neg =>
    have hz := hid (HA2'.out hre)
    have hnz : (re != 0) = true := by rw [bne_iff_ne]; exact hre
    clear hre HA2' HA3' HE'
    go_wp2_with fail
    refine (HNt.out w2 _ _ _ _ re I2.out).mono ?_
    rintro en w3 ⟨rfl, K3, hk3, I3⟩
    have hD3 := hk3 FD D' D2.out Hx.out
    go_wp2_with fail
    go_ret
    rw [hz.out]
    exact ⟨F, rfl, (K2.out.weak' fun i hi => .inl hi).trans (K3.weak' fun i hi => .inr hi), hD3, I3, Grow.refl _ _ _⟩
  subst hre
  have hz := hid (HA3'.out rfl)
  obtain ⟨hE1, hE2⟩ := HE'.out rfl
  have hE2 := hid hE2
  clear HA2' HA3' HE' m0 m1 m2 m5 m6
  go_upto_region 9 with fail
  have B7 := B2
  have HCl := hid (HBl.out w2.drew e _ b ((HBy.out.keep K2.out HNb.out).same (Same.refl w2).drew) (show b.length ≤ 1000000 by have := Hl.out; omega))
  obtain ⟨SS, hSS⟩ : ∃ SS : Bool → World → Prop, ∀ bz wz, SS bz wz ↔ (bz = false → wz.cell? ⟨vb, 4, none⟩ = some (.int .i64 V.era) ∧ wz.cell? ⟨vb, 3, none⟩ = some (.int .i64 V.life)) := ⟨_, fun _ _ => Iff.rfl⟩
  have HSS := hid hSS
  clear hSS
  generalize w2 = w7 at *
  refine wp_region_B 17 SS (by kernel_rfl) ((HSS.out _ _).2 fun _ => ⟨m4, m3⟩) (fun hHeld => ?_)
  clear m3 m4
  refine' wpAnyB_take (i := 0) (b := false) rfl (by kernel_rfl) (by kernel_rfl) (by kernel_rfl) (by decide) (by kernel_rfl) (fun _ _ _ h => h) (by assumption) (.inl ⟨by rfl, ?_⟩) ?_
  rotate_left
  · (intro wz hSw; go_simp; try with_reducible rfl)
  try simp only [Act.put, List.setIfInBounds_toArray, List.set_cons_zero, List.set_cons_succ]
  refine' wpAnyB_take (i := 1) (b := false) rfl (by kernel_rfl) (by kernel_rfl) (by kernel_rfl) (by decide) (by kernel_rfl) (fun _ _ _ h => h) (by assumption) (.inl ⟨by rfl, ?_⟩) ?_
  rotate_left
  · (intro wz hSw; go_simp; try with_reducible rfl)
  try simp only [Act.put, List.setIfInBounds_toArray, List.set_cons_zero, List.set_cons_succ]
  refine' wpAnyB_take (i := 2) (b := false) rfl (by kernel_rfl) (by kernel_rfl) (by kernel_rfl) (by decide) (by kernel_rfl) (fun _ _ _ h => h) (by assumption) (.inl ⟨by rfl, ?_⟩) ?_
  rotate_left
  · (intro wz hSw; go_simp; try with_reducible rfl)
  try simp only [Act.put, List.setIfInBounds_toArray, List.set_cons_zero, List.set_cons_succ]
  refine' wpAnyB_take (i := 3) (b := false) rfl (by kernel_rfl) (by kernel_rfl) (by kernel_rfl) (by decide) (by kernel_rfl) (fun _ _ _ h => h) (by assumption) (.inl ⟨by rfl, ?_⟩) ?_
  rotate_left
  · (intro wz hSw; go_simp; try with_reducible rfl)
  try simp only [Act.put, List.setIfInBounds_toArray, List.set_cons_zero, List.set_cons_succ]
  refine' wpAnyB_take (i := 5) (b := false) rfl (by kernel_rfl) (by kernel_rfl) (by kernel_rfl) (by decide) (by kernel_rfl) (fun _ _ _ h => h) (by assumption) (.inl ⟨by rfl, ?_⟩) ?_
  rotate_left
  · (intro wz hSw; go_simp; try with_reducible rfl)
  try simp only [Act.put, List.setIfInBounds_toArray, List.set_cons_zero, List.set_cons_succ]
  refine' wpAnyB_take (i := 6) (b := false) rfl (by kernel_rfl) (by kernel_rfl) (by kernel_rfl) (by decide) (by kernel_rfl) (fun _ _ _ h => h) (by assumption) (.inl ⟨by rfl, ?_⟩) ?_
  rotate_left
  · (intro wz hSw; go_simp; try with_reducible rfl)
  try simp only [Act.put, List.setIfInBounds_toArray, List.set_cons_zero, List.set_cons_succ]
  refine' wpAnyB_take (i := 7) (b := false) rfl (by kernel_rfl) (by kernel_rfl) (by kernel_rfl) (by decide) (by kernel_rfl) (fun _ _ _ h => h) (by assumption) (.inl ⟨by rfl, ?_⟩) ?_
  rotate_left
  · (intro wz hSw; go_simp; try with_reducible rfl)
  try simp only [Act.put, List.setIfInBounds_toArray, List.set_cons_zero, List.set_cons_succ]
  refine' wpAnyB_early (i := 8) rfl (by kernel_rfl) (by kernel_rfl) (by kernel_rfl) (by decide) (by kernel_rfl) (by kernel_rfl) (fun _ _ _ h => h) (by assumption) (.inl ⟨by rfl, ?_⟩) ?_
  rotate_left
  · (intro wz hSw; obtain ⟨h4, h3⟩ := (HSS.out _ _).1 hSw rfl; go_simp; try with_reducible rfl)
  try simp only [Act.put, List.setIfInBounds_toArray, List.set_cons_zero, List.set_cons_succ]
  refine' wpAnyB_take (i := 9) (b := false) rfl (by kernel_rfl) (by kernel_rfl) (by kernel_rfl) (by decide) (by kernel_rfl) (fun _ _ _ h => h) (by assumption) (.inl ⟨by rfl, ?_⟩) ?_
  rotate_left
  · (intro wz hSw; go_simp; try with_reducible rfl)
  try simp only [Act.put, List.setIfInBounds_toArray, List.set_cons_zero, List.set_cons_succ]
  refine' wpAnyB_take (i := 10) (b := false) rfl (by kernel_rfl) (by kernel_rfl) (by kernel_rfl) (by decide) (by kernel_rfl) (fun _ _ _ h => h) (by assumption) (.inl ⟨by rfl, ?_⟩) ?_
  rotate_left
  · (intro wz hSw; go_simp; try with_reducible rfl)
  try simp only [Act.put, List.setIfInBounds_toArray, List.set_cons_zero, List.set_cons_succ]
  refine' wpAnyB_take (i := 11) (b := false) rfl (by kernel_rfl) (by kernel_rfl) (by kernel_rfl) (by decide) (by kernel_rfl) (fun _ _ _ h => h) (by assumption) (.inl ⟨by rfl, ?_⟩) ?_
  rotate_left
  · (intro wz hSw; go_simp; try with_reducible rfl)
  try simp only [Act.put, List.setIfInBounds_toArray, List.set_cons_zero, List.set_cons_succ]
  refine' wpAnyB_take (i := 12) (b := false) rfl (by kernel_rfl) (by kernel_rfl) (by kernel_rfl) (by decide) (by kernel_rfl) (fun _ _ _ h => h) (by assumption) (.inl ⟨by rfl, ?_⟩) ?_
  rotate_left
  · (intro wz hSw; go_simp; try with_reducible rfl)
  try simp only [Act.put, List.setIfInBounds_toArray, List.set_cons_zero, List.set_cons_succ]
  refine' wpAnyB_early (i := 13) rfl (by kernel_rfl) (by kernel_rfl) (by kernel_rfl) (by decide) (by kernel_rfl) (by kernel_rfl) (fun _ _ _ h => h) (by assumption) (.inl ⟨by rfl, ?_⟩) ?_
  rotate_left
  · (intro wz hSw; obtain ⟨h4, h3⟩ := (HSS.out _ _).1 hSw rfl; go_simp; try with_reducible rfl)
  try simp only [Act.put, List.setIfInBounds_toArray, List.set_cons_zero, List.set_cons_succ]
  refine' wpAnyB_take (i := 14) (b := false) rfl (by kernel_rfl) (by kernel_rfl) (by kernel_rfl) (by decide) (by kernel_rfl) (fun _ _ _ h => h) (by assumption) (.inl ⟨by rfl, ?_⟩) ?_
  rotate_left
  · (intro wz hSw; go_simp; try with_reducible rfl)
  try simp only [Act.put, List.setIfInBounds_toArray, List.set_cons_zero, List.set_cons_succ]
  refine wpAnyB_only (i := 4) (b := false) rfl (by kernel_rfl) (by kernel_rfl) (fun K hK => ?_)
  go_simp
  go_at_call 99
  refine HCl.out.mono ?_
  rintro en w8 ⟨v8, rfl, O8, Z8⟩
  obtain ⟨a8, q8, rfl, _, _⟩ := O8.bytes.form
  have O8 := hid O8
  have Z8 := hid ((Same.refl w7).drew.trans Z8)
  have B8 := hid (B7.out.same Z8.out)
  obtain ⟨c0, c1, c2, c3, c4, c5, c6⟩ := Box7.cells B8.out
  have z5 := Box7.free B8.out 5
  have z4 := Box7.free B8.out 4
  have z3 := Box7.free B8.out 3
  refine hK.out _ _ ((HSS.out _ _).2 fun _ => ⟨c4, c3⟩) (fun hHeld => ?_)
  clear hK K
  try simp only [Act.put, List.setIfInBounds_toArray, List.set_cons_zero, List.set_cons_succ]
  refine' wpAnyB_take (i := 15) (b := false) rfl (by kernel_rfl) (by kernel_rfl) (by kernel_rfl) (by decide) (by kernel_rfl) (fun _ _ _ h => h) (by assumption) (.inl ⟨by rfl, ?_⟩) ?_
  rotate_left
  · (intro wz hSw; go_simp; try with_reducible rfl)
  try simp only [Act.put, List.setIfInBounds_toArray, List.set_cons_zero, List.set_cons_succ]
  refine' wpAnyB_take (i := 16) (b := false) rfl (by kernel_rfl) (by kernel_rfl) (by kernel_rfl) (by decide) (by kernel_rfl) (fun _ _ _ h => h) (by assumption) (.inl ⟨by rfl, ?_⟩) ?_
  rotate_left
  · (intro wz hSw; go_simp; try with_reducible rfl)
  try simp only [Act.put, List.setIfInBounds_toArray, List.set_cons_zero, List.set_cons_succ]
  refine wpAnyB_only (i := 17) (b := true) rfl (by kernel_rfl) (by kernel_rfl) (fun K hK => ?_)
  go_simp
  refine hK.out _ _ ((HSS.out _ _).2 fun h => Bool.noConfusion h) (fun hHeld => ?_)
  clear hK K
  try simp only [Act.put, List.setIfInBounds_toArray, List.set_cons_zero, List.set_cons_succ]
  refine' wpAnyB_take (i := 18) (b := true) rfl (by kernel_rfl) (by kernel_rfl) (by kernel_rfl) (by decide) (by kernel_rfl) (fun _ _ _ h => h) (by assumption) (.inl ⟨by rfl, ?_⟩) ?_
  rotate_left
  · (intro wz hSw; go_simp; try with_reducible rfl)
  try simp only [Act.put, List.setIfInBounds_toArray, List.set_cons_zero, List.set_cons_succ]
  refine' wpAnyB_take (i := 19) (b := true) rfl (by kernel_rfl) (by kernel_rfl) (by kernel_rfl) (by decide) (by kernel_rfl) (fun _ _ _ h => h) (by assumption) (.inl ⟨by rfl, ?_⟩) ?_
  rotate_left
  · (intro wz hSw; go_simp; try with_reducible rfl)
  try simp only [Act.put, List.setIfInBounds_toArray, List.set_cons_zero, List.set_cons_succ]
  refine wpAnyB_only (i := 20) (b := true) rfl (by kernel_rfl) (by kernel_rfl) (fun K hK => ?_)
  go_simp
  refine hK.out _ _ ((HSS.out _ _).2 fun h => Bool.noConfusion h) (fun hHeld => ?_)
  clear hK K
  try simp only [Act.put, List.setIfInBounds_toArray, List.set_cons_zero, List.set_cons_succ]
  refine' wpAnyB_take (i := 21) (b := true) rfl (by kernel_rfl) (by kernel_rfl) (by kernel_rfl) (by decide) (by kernel_rfl) (fun _ _ _ h => h) (by assumption) (.inl ⟨by rfl, ?_⟩) ?_
  rotate_left
  · (intro wz hSw; go_simp; try with_reducible rfl)
  try simp only [Act.put, List.setIfInBounds_toArray, List.set_cons_zero, List.set_cons_succ]
  refine' wpAnyB_take (i := 22) (b := true) rfl (by kernel_rfl) (by kernel_rfl) (by kernel_rfl) (by decide) (by kernel_rfl) (fun _ _ _ h => h) (by assumption) (.inl ⟨by rfl, ?_⟩) ?_
  rotate_left
  · (intro wz hSw; go_simp; try with_reducible rfl)
  try simp only [Act.put, List.setIfInBounds_toArray, List.set_cons_zero, List.set_cons_succ]
  refine wpAnyB_only (i := 23) (b := true) rfl (by kernel_rfl) (by kernel_rfl) (fun K hK => ?_)
  go_simp
  refine hK.out _ _ ((HSS.out _ _).2 fun h => Bool.noConfusion h) (fun hHeld => ?_)
  clear hK K
  try simp only [Act.put, List.setIfInBounds_toArray, List.set_cons_zero, List.set_cons_succ]
  refine wpAnyB_done (by kernel_rfl) ?_ _
  clear c0 c1 c2 c3 c4 c5 c6 z3 z4 z5
  have K9 : Keep (fun k => k = vb) w8 (((w8.setCell ⟨vb, 5, none⟩ (.slice a8 b.length q8)).setCell ⟨vb, 4, none⟩ (.int .i64 (V.era + 1))).setCell ⟨vb, 3, none⟩ (.int .i64 (V.life + 1))) :=
    (((Keep.refl (fun k => k = vb) w8).setCell (p := ⟨vb, 5, none⟩) (.inl rfl) _).setCell (p := ⟨vb, 4, none⟩) (.inl rfl) _).setCell (p := ⟨vb, 3, none⟩) (.inl rfl) _
  have K9 := hid K9
  have B9 := hid (Box7.set543 B8.out (.slice a8 b.length q8) (.int .i64 (V.era + 1)) (.int .i64 (V.life + 1)))
  have hz7 := K2.out.size
  have hz8 := Z8.out.size
  have hz9 := K9.out.size
  have D9 := hid ((D2.out.same Z8.out).keep K9.out (fun i hi e => by subst e; exact hvb.out hi))
  have Y9 := hid (O8.out.bytes.keep K9.out (fun g hg e => O8.out.bytes.apart7 B8.out (by rw [hg, e])))
  have hO8 : Hid (∀ g, homeOf (.slice a8 b.length q8) = some g → w.heap.size ≤ g ∧ g < w8.heap.size) := fun g hg => by
    have h1 := O8.out.lt g (home_own hg)
    simp at h1
    exact ⟨by omega, h1.2⟩
  go_wp2_with fail
  generalize (((w8.setCell ⟨vb, 5, none⟩ (.slice a8 b.length q8)).setCell ⟨vb, 4, none⟩ (.int .i64 (V.era + 1))).setCell ⟨vb, 3, none⟩ (.int .i64 (V.life + 1))) = w9 at *
  have hok9 : Hid (Vt.Ok (V.saved b)) := ⟨hoe, ⟨by show 1 ≤ V.life + 1; omega, by show V.life + 1 ≤ 16777214; omega⟩, ⟨by show 0 ≤ V.era + 1; omega, hE1⟩, by show b.length ≤ 30000; have := Hl.out; omega⟩
  refine (HTn.out w9 vb _ _ _ FD (V.saved b) D' B9.out ⟨_, rfl⟩ D9.out (fun k hk => by have := HF.out k hk; omega) hvb.out Y9.out hok9.out hE2.out).mono ?_
  rintro en w10 ⟨sp', FS', rfl, K10, B10, I10, N10, D10, Y10⟩
  have hz10 := K10.size
  go_wp2_with fail
  go_ret
  rw [hz.out]
  refine ⟨fun i => F i ∨ FS' i ∨ (w.heap.size ≤ i ∧ i < w10.heap.size), rfl, ?_, D10, ⟨vb, sp', _, FS', rfl, B10, I10, fun i hi => .inr (.inl hi), .inl H5.out, fun h => ?_, Y10, fun g hg => ?_, ?_⟩, fun i hi => ?_⟩
  · exact (((K2.out.weak' fun i hi => .inl hi).trans (Z8.out.keep _)).trans (K9.out.weak' fun i hi => by subst hi; exact .inr H5.out)).trans (K10.weak' fun i hi => by subst hi; exact .inr H5.out)
  · have h1 := (N10 _ h).1; have h2 := HG.out vb H5.out; omega
  · have h1 := hO8.out g hg
    exact ⟨.inr (.inr ⟨h1.1, by omega⟩), fun h => by have h2 := (N10 _ h).1; omega⟩
  · obtain ⟨o1, o2, o3, o4⟩ := hok9.out
    exact ⟨o1, o2, o3, o4⟩
  · rcases hi with hi | hi | hi
    · exact .inl hi
    · have h1 := N10 i hi; exact .inr ⟨by omega, h1.2⟩
    · exact .inr hi
end Go.Proofs.Ytlhnpicmjjddeaa
