/- SCROLL: Append. SCROLL's reference: Same of two rows of records. SCROLL: lives of layer 8; a scroll that no call made; the walk of ScrollNobody. -/
import Derived.Test.YtlhnpicmjjddeaaGrp4
import Derived.Test.YtlhnpicmjjddeaaGrp3
namespace Go.Proofs.Ytlhnpicmjjddeaa
open Go.RowKit

/-- what Append leaves -/
def RetApp (r : Int × Sc × Dv) (s p : Value) (FD FS : Nat → Prop) (w : World) (en : Ending) (w' : World) : Prop :=
  ∃ FS', en = .returned (.int .i64 r.1) ∧ Keep (fun k => FD k ∨ FS k) w w' ∧ IsDv w' p FD r.2.2 ∧ IsSc w' s p FS' r.2.1 ∧ Grow FS FS' w w'
theorem append_dead {S : Sc} {D : Dv} {b : List UInt8} (h : S.dead = true ∨ D.off = true) : S.append D b = (9, S, D) := if_pos h
theorem append_cut {S : Sc} {D : Dv} {b : List UInt8} (h : ¬ (S.dead = true ∨ D.off = true)) (h2 : cutE S.life S.era (S.all.length + 1) b ≠ 0) : S.append D b = (cutE S.life S.era (S.all.length + 1) b, S, D) := by
  unfold Sc.append; rw [if_neg h, if_pos h2]
theorem append_full {S : Sc} {D : Dv} {b : List UInt8} (h : ¬ (S.dead = true ∨ D.off = true)) (h2 : cutE S.life S.era (S.all.length + 1) b = 0) (h3 : S.till - S.at_ < (cutL S.life S.era (S.all.length + 1) b).length) : S.append D b = (10, S, D) := by
  unfold Sc.append; rw [if_neg h, if_neg (by rw [h2]; exact fun x => x rfl), if_pos h3]
theorem append_bad {S : Sc} {D : Dv} {b : List UInt8} (h : ¬ (S.dead = true ∨ D.off = true)) (h2 : cutE S.life S.era (S.all.length + 1) b = 0) (h3 : ¬ S.till - S.at_ < (cutL S.life S.era (S.all.length + 1) b).length) (h4 : (D.write S.at_ (cutL S.life S.era (S.all.length + 1) b)).1 ≠ 0) :
    S.append D b = ((D.write S.at_ (cutL S.life S.era (S.all.length + 1) b)).1, { S with dead := true }, (D.write S.at_ (cutL S.life S.era (S.all.length + 1) b)).2) := by
  unfold Sc.append; rw [if_neg h, if_neg (by rw [h2]; exact fun x => x rfl), if_neg h3, if_pos h4]
theorem append_good {S : Sc} {D : Dv} {b : List UInt8} (h : ¬ (S.dead = true ∨ D.off = true)) (h2 : cutE S.life S.era (S.all.length + 1) b = 0) (h3 : ¬ S.till - S.at_ < (cutL S.life S.era (S.all.length + 1) b).length) (h4 : (D.write S.at_ (cutL S.life S.era (S.all.length + 1) b)).1 = 0) :
    S.append D b = (0, { S with all := S.all ++ [b], at_ := S.at_ + (cutL S.life S.era (S.all.length + 1) b).length, last := S.life }, (D.write S.at_ (cutL S.life S.era (S.all.length + 1) b)).2) := by
  unfold Sc.append; rw [if_neg h, if_neg (by rw [h2]; exact fun x => x rfl), if_neg h3, if_neg (by rw [h4]; exact fun x => x rfl)]
set_option maxHeartbeats 12800000 in
set_option maxRecDepth 100000 in
theorem cAppend (w : World) (s p v : Value) (FD FS : Nat → Prop) (D : Dv) (S : Sc) (b : List UInt8) (e : TypeId) (hD : IsDv w p FD D) (hS : IsSc w s p FS S) (hx : ∀ i, FD i → ¬ FS i) (hF : ∀ k, FD k → k < w.heap.size)
    (hb : Bytes w e v b) (hl : b.length ≤ 20000) (hnb : ∀ g, homeOf v = some g → ¬ FD g) : Calls Try.prog 69 #[s, v] w (RetApp (S.append D b) s p FD FS w) := by
  have HOk := hid (cOk w s p FS S hS hD.ptr)
  have HLv := hid (fun w' (Z : Same w w') => dLiveD w' p FD D (hD.same Z))
  have HS0 := hid hS
  have HD := hid hD
  have hok := hS.ok
  have HCut := hid (fun w' (Z : Same w w') => fCut w' e v S.life S.era (S.all.length + 1) b (hb.same Z) (by omega))
  have HBy := hid hb
  have Hl := hid hl
  have HNb := hid hnb
  have HF := hid hF
  have Hx := hid hx
  have HBl := hid bClone
  obtain ⟨pb, rfl⟩ := hD.ptr
  obtain ⟨sb, rv, rfl, hB, hFb, hQ, _⟩ := hS
  obtain ⟨av, cv, rfl, f1, f2⟩ := hQ.rows.form
  obtain ⟨ab, cb, rfl, _, _⟩ := hb.form
  have HB := hid hB
  have HQ := hid hQ
  have HFb := hid hFb
  have Hok := hid hok
  have HStop : Hid (∀ r, S.append D b = (r, S, D) → ∀ w', Same w w' → RetApp (S.append D b) (.pointer (some ⟨sb, 0, none⟩)) (.pointer (some ⟨pb, 0, none⟩)) FD FS w (.returned (.int .i64 r)) w') := fun r h w' Z => by
    rw [h]
    exact ⟨FS, rfl, Z.keep _, HD.out.same Z, HS0.out.same Z, Grow.refl _ _ _⟩
  have HA1 := hid (@append_dead S D b)
  have HA2 := hid (@append_cut S D b)
  have HA3 := hid (@append_full S D b)
  have HA4 := hid (@append_bad S D b)
  have HA5 := hid (@append_good S D b)
  have hfit := hok.fit
  have hfew : S.all.length ≤ 2048 := by have := hok.few; omega
  clear hD hb hl hnb hF hx hB hFb hQ hok f1
  go_enter Try.func69, Try.ntmps69
  go_wp2_with fail
  refine HOk.out.mono ?_
  rintro en w1 ⟨rfl, S1⟩
  have S1 := hid S1
  obtain ⟨c0, c1, c2, c3, c4, c5, c6, c7, c8⟩ := Box9.cells (HB.out.same S1.out)
  cases hdead : S.dead
  case true =>
    have hz := hid (HA1.out (.inl hdead))
    rw [hdead] at c8
    clear hdead
    go_wp2_with fail
    go_ret
    exact HStop.out _ hz.out _ S1.out
  rw [hdead] at c8
  have Hdead := hid hdead
  clear hdead
  go_wp2_with fail
  refine (HLv.out _ S1.out).mono ?_
  rintro en w2 ⟨rfl, S2⟩
  have S2 := hid (S1.out.trans S2)
  clear c0 c1 c2 c3 c4 c5 c6 c7 c8
  cases hoff : D.off
  case true =>
    have hz := hid (HA1.out (.inr hoff))
    clear hoff
    go_wp2_with fail
    go_ret
    exact HStop.out _ hz.out _ S2.out
  have Hno : Hid (¬ (S.dead = true ∨ D.off = true)) := by
    show ¬ _
    rw [Hdead.out, hoff]; simp
  clear hoff
  obtain ⟨c0, c1, c2, c3, c4, c5, c6, c7, c8⟩ := Box9.cells (HB.out.same S2.out)
  have HC2 := hid (HCut.out w2.drew S2.out.drew)
  have hw1 : IntKind.i64.wrap ((S.all.length : Int) + 1) = (S.all.length : Int) + 1 := by rw [IntKind.wrap_i64]; omega
  go_wp2_with fail
  go_region_held3 (fun w' => w'.cell? ⟨sb, 3, none⟩ = some (.int .i64 S.life) ∧ w'.cell? ⟨sb, 2, none⟩ = some (.int .i64 S.till) ∧ w'.cell? ⟨sb, 4, none⟩ = some (.int .i64 S.era) ∧ w'.cell? ⟨sb, 7, none⟩ = some (.slice av S.all.length cv))
    (first | with_reducible exact ⟨by assumption, by assumption, by assumption, by assumption⟩ | go_keep)
    (first | (go_at_call 52; (with_reducible refine HC2.out.mono ?_); rintro en w3 ⟨v3, rfl, O3, S3⟩; obtain ⟨a3, q3, rfl, _, _⟩ := O3.rows.form; obtain ⟨m0, m1, m2, m3, m4, m5, m6, m7, m8⟩ := Box9.cells (HB.out.same (S2.out.drew.trans S3))))
  have S3 := hid (S2.out.drew.trans S3)
  clear c0 c1 c2 c3 c4 c5 c6 c7 c8 HC2 HCut
  by_cases hce : cutE S.life S.era (S.all.length + 1) b = 0
  case neg =>
    have hz := hid (HA2.out Hno.out hce)
    have hnz : (cutE S.life S.era (S.all.length + 1) b != 0) = true := by rw [bne_iff_ne]; exact hce
    clear hce
    generalize cutE S.life S.era (S.all.length + 1) b = ce at *
    go_wp2_with fail
    go_ret
    exact HStop.out _ hz.out _ S3.out
  have hca : cutAll S.life S.era (S.all.length + 1) b = cutL S.life S.era (S.all.length + 1) b := by unfold cutAll; rw [if_pos hce]
  have Hce := hid hce
  rw [hca] at O3 ⊢
  rw [hce]
  have hll := cutL_length S.life S.era (S.all.length + 1) b
  have hlp := nparts_pos b.length
  have hlb : nparts b.length ≤ 255 := (cutE_zero.1 hce).1
  clear hce hca
  have HA3' := hid (HA3.out Hno.out Hce.out)
  have HA4' := hid (HA4.out Hno.out Hce.out)
  have HA5' := hid (HA5.out Hno.out Hce.out)
  clear HA1 HA2 HA3 HA4 HA5
  generalize cutL S.life S.era (S.all.length + 1) b = ls at *
  rw [← hll] at hlp hlb
  clear hll
  by_cases hfu : S.till - S.at_ < ls.length
  case pos =>
    have hz := hid (HA3'.out hfu)
    have hd : decide (S.till - S.at_ < (ls.length : Int)) = true := by simpa using hfu
    clear hfu
    go_wp2_with fail
    go_quiet (fail)
    go_wp2_with fail
    go_ret
    exact HStop.out _ hz.out _ (S3.out.drewN _)
  have Hfu := hid hfu
  have hd : decide (S.till - S.at_ < (ls.length : Int)) = false := by simpa using hfu
  have HA4'' := hid (HA4'.out (Int.not_lt.1 hfu))
  have HA5'' := hid (HA5'.out (Int.not_lt.1 hfu))
  clear hfu HA3' HA4' HA5'
  go_wp2_with fail
  go_quiet (fail)
  have S4 := hid (S3.out.drewN nq)
  have O4 := hid (O3.same ((Same.refl w3).drewN nq))
  clear m0 m1 m2 m3 m4 m5 m6 m7 m8 O3 hd
  generalize w3.drewN nq = w4 at *
  have RN := hid (O4.out.rows2N (M := FD) (fun k hk => by have h1 := HF.out k hk; have h2 := S2.out.size; simp; omega))
  have HW := hid (dWrite w4.drew _ FD D S.at_ 23 _ ls (HD.out.same S4.out.drew) (RN.out.keep ((Same.refl w4).drew.keep FD)))
  have hsb : Hid (¬ FD sb) := fun h => Hx.out sb h HFb.out
  obtain ⟨c0, c1, c2, c3, c4, c5, c6, c7, c8⟩ := Box9.cells (HB.out.same S4.out)
  generalize D.write S.at_ ls = R at *
  obtain ⟨re, D'⟩ := R
  simp only at HA4'' HA5''
  go_wp2_with fail
  go_region_held3 (fun w' => w'.cell? ⟨sb, 0, none⟩ = some (.pointer (some ⟨pb, 0, none⟩)) ∧ w'.cell? ⟨sb, 6, none⟩ = some (.int .i64 S.at_))
    (first | with_reducible exact ⟨by assumption, by assumption⟩ | go_keep)
    (first | (go_at_call 34; (with_reducible refine HW.out.mono ?_); rintro en w5 ⟨rfl, K5, D5⟩; obtain ⟨m0, m1, m2, m3, m4, m5, m6, m7, m8⟩ := Box9.cells (Box9.keep (HB.out.same S4.out.drew) K5 hsb.out)))
  have K5 := hid (((Same.keep S4.out.drew FD)).trans K5)
  have D5 := hid D5
  have B5 := hid (Box9.keep HB.out K5.out hsb.out)
  have Q5 := hid (HQ.out.keep K5.out (fun i hi hn => Hx.out i hn hi))
  clear c0 c1 c2 c3 c4 c5 c6 c7 c8 HW RN O4
  by_cases hre : re = 0
  case neg =>
    have hz := hid (HA4''.out hre)
    have hnz : (re != 0) = true := by rw [bne_iff_ne]; exact hre
    have z8 := B5.out.free 8
    clear hre
    go_wp2_with fail
    go_ret
    rw [hz.out]
    have K6 : Keep (fun k => k = sb) w5 (w5.setCell ⟨sb, 8, none⟩ (.bool true)) := (Keep.refl (fun k => k = sb) w5).setCell (p := ⟨sb, 8, none⟩) (.inl rfl) _
    refine ⟨FS, rfl, (K5.out.weak' fun i hi => .inl hi).trans (K6.weak' fun i hi => by subst hi; exact .inr HFb.out), D5.out.keep K6 (fun i hi e => by subst e; exact hsb.out hi), ⟨sb, _, rfl, Box9.set8 B5.out _, HFb.out, Q5.out.box9 B5.out K6, ?_⟩, Grow.refl _ _ _⟩
    obtain ⟨o1, o2, o3, o4, o5, o6⟩ := Hok.out
    exact ⟨o1, o2, o3, o4, o5, o6⟩
  subst hre
  have HZ := hid (HA5''.out rfl)
  clear HA4'' HA5''
  go_upto_region 14 with fail
  have HK7 := K5
  have B7 := B5
  have Q7 := Q5
  have HCl := hid (HBl.out w5.drew e _ b ((HBy.out.keep K5.out HNb.out).same (Same.refl w5).drew) (show b.length ≤ 1000000 by have := Hl.out; omega))
  have hlq : Hid (S.all.length ≤ 1000000) := show _ ≤ _ by omega
  obtain ⟨SS, hSS⟩ : ∃ SS : Bool → World → Prop, ∀ bz wz, SS bz wz ↔ (bz = false → wz.cell? ⟨sb, 7, none⟩ = some (.slice av S.all.length cv) ∧ wz.cell? ⟨sb, 6, none⟩ = some (.int .i64 S.at_) ∧ wz.cell? ⟨sb, 3, none⟩ = some (.int .i64 S.life)) := ⟨_, fun _ _ => Iff.rfl⟩
  have HSS := hid hSS
  have hw : IntKind.i64.wrap (S.at_ + (ls.length : Int)) = S.at_ + (ls.length : Int) := by rw [IntKind.wrap_i64]; have := Hfu.out; omega
  clear hSS m0 m1 m2 m4 m5 m8
  generalize w5 = w7 at *
  refine wp_region_B 24 SS (by kernel_rfl) ((HSS.out _ _).2 fun _ => ⟨m7, m6, m3⟩) (fun hHeld => ?_)
  clear m3 m6 m7
  refine' wpAnyB_take (i := 0) (b := false) rfl (by kernel_rfl) (by kernel_rfl) (by kernel_rfl) (by decide) (by kernel_rfl) (fun _ _ _ h => h) (by assumption) (.inl ⟨by rfl, ?_⟩) ?_
  rotate_left
  · (intro wz hSw; go_simp; try with_reducible rfl)
  try simp only [Act.put, List.setIfInBounds_toArray, List.set_cons_zero, List.set_cons_succ]
  refine' wpAnyB_take (i := 1) (b := false) rfl (by kernel_rfl) (by kernel_rfl) (by kernel_rfl) (by decide) (by kernel_rfl) (fun _ _ _ h => h) (by assumption) (.inl ⟨by rfl, ?_⟩) ?_
  rotate_left
  · (intro wz hSw; go_simp; try with_reducible rfl)
  try simp only [Act.put, List.setIfInBounds_toArray, List.set_cons_zero, List.set_cons_succ]
  refine' wpAnyB_take (i := 2) (b := false) rfl (by kernel_rfl) (by kernel_rfl) (by kernel_rfl) (by decide) (by kernel_rfl) (fun _ _ _ h => h) (by assumption) (.inl ⟨by rfl, ?_⟩) ?_
  rotate_left
  · (intro wz hSw; go_simp; try with_reducible rfl)
  try simp only [Act.put, List.setIfInBounds_toArray, List.set_cons_zero, List.set_cons_succ]
  refine' wpAnyB_take (i := 3) (b := false) rfl (by kernel_rfl) (by kernel_rfl) (by kernel_rfl) (by decide) (by kernel_rfl) (fun _ _ _ h => h) (by assumption) (.inl ⟨by rfl, ?_⟩) ?_
  rotate_left
  · (intro wz hSw; go_simp; try with_reducible rfl)
  try simp only [Act.put, List.setIfInBounds_toArray, List.set_cons_zero, List.set_cons_succ]
  refine' wpAnyB_take (i := 4) (b := false) rfl (by kernel_rfl) (by kernel_rfl) (by kernel_rfl) (by decide) (by kernel_rfl) (fun _ _ _ h => h) (by assumption) (.inl ⟨by rfl, ?_⟩) ?_
  rotate_left
  · (intro wz hSw; go_simp; try with_reducible rfl)
  try simp only [Act.put, List.setIfInBounds_toArray, List.set_cons_zero, List.set_cons_succ]
  refine' wpAnyB_take (i := 5) (b := false) rfl (by kernel_rfl) (by kernel_rfl) (by kernel_rfl) (by decide) (by kernel_rfl) (fun _ _ _ h => h) (by assumption) (.inl ⟨by rfl, ?_⟩) ?_
  rotate_left
  · (intro wz hSw; go_simp; try with_reducible rfl)
  try simp only [Act.put, List.setIfInBounds_toArray, List.set_cons_zero, List.set_cons_succ]
  refine' wpAnyB_early (i := 6) rfl (by kernel_rfl) (by kernel_rfl) (by kernel_rfl) (by decide) (by kernel_rfl) (by kernel_rfl) (fun _ _ _ h => h) (by assumption) (.inl ⟨by rfl, ?_⟩) ?_
  rotate_left
  · (intro wz hSw; obtain ⟨h7, h6, h3⟩ := (HSS.out _ _).1 hSw rfl; go_simp; try with_reducible rfl)
  try simp only [Act.put, List.setIfInBounds_toArray, List.set_cons_zero, List.set_cons_succ]
  refine' wpAnyB_take (i := 7) (b := false) rfl (by kernel_rfl) (by kernel_rfl) (by kernel_rfl) (by decide) (by kernel_rfl) (fun _ _ _ h => h) (by assumption) (.inl ⟨by rfl, ?_⟩) ?_
  rotate_left
  · (intro wz hSw; go_simp; try with_reducible rfl)
  try simp only [Act.put, List.setIfInBounds_toArray, List.set_cons_zero, List.set_cons_succ]
  refine' wpAnyB_take (i := 11) (b := false) rfl (by kernel_rfl) (by kernel_rfl) (by kernel_rfl) (by decide) (by kernel_rfl) (fun _ _ _ h => h) (by assumption) (.inl ⟨by rfl, ?_⟩) ?_
  rotate_left
  · (intro wz hSw; go_simp; try with_reducible rfl)
  try simp only [Act.put, List.setIfInBounds_toArray, List.set_cons_zero, List.set_cons_succ]
  refine' wpAnyB_take (i := 12) (b := false) rfl (by kernel_rfl) (by kernel_rfl) (by kernel_rfl) (by decide) (by kernel_rfl) (fun _ _ _ h => h) (by assumption) (.inl ⟨by rfl, ?_⟩) ?_
  rotate_left
  · (intro wz hSw; go_simp; try with_reducible rfl)
  try simp only [Act.put, List.setIfInBounds_toArray, List.set_cons_zero, List.set_cons_succ]
  refine' wpAnyB_take (i := 13) (b := false) rfl (by kernel_rfl) (by kernel_rfl) (by kernel_rfl) (by decide) (by kernel_rfl) (fun _ _ _ h => h) (by assumption) (.inl ⟨by rfl, ?_⟩) ?_
  rotate_left
  · (intro wz hSw; go_simp; try with_reducible rfl)
  try simp only [Act.put, List.setIfInBounds_toArray, List.set_cons_zero, List.set_cons_succ]
  refine' wpAnyB_early (i := 14) rfl (by kernel_rfl) (by kernel_rfl) (by kernel_rfl) (by decide) (by kernel_rfl) (by kernel_rfl) (fun _ _ _ h => h) (by assumption) (.inl ⟨by rfl, ?_⟩) ?_
  rotate_left
  · (intro wz hSw; obtain ⟨h7, h6, h3⟩ := (HSS.out _ _).1 hSw rfl; go_simp; try with_reducible rfl)
  try simp only [Act.put, List.setIfInBounds_toArray, List.set_cons_zero, List.set_cons_succ]
  refine' wpAnyB_take (i := 15) (b := false) rfl (by kernel_rfl) (by kernel_rfl) (by kernel_rfl) (by decide) (by kernel_rfl) (fun _ _ _ h => h) (by assumption) (.inl ⟨by rfl, ?_⟩) ?_
  rotate_left
  · (intro wz hSw; go_simp; try with_reducible rfl)
  try simp only [Act.put, List.setIfInBounds_toArray, List.set_cons_zero, List.set_cons_succ]
  refine' wpAnyB_take (i := 16) (b := false) rfl (by kernel_rfl) (by kernel_rfl) (by kernel_rfl) (by decide) (by kernel_rfl) (fun _ _ _ h => h) (by assumption) (.inl ⟨by rfl, ?_⟩) ?_
  rotate_left
  · (intro wz hSw; go_simp; try with_reducible rfl)
  try simp only [Act.put, List.setIfInBounds_toArray, List.set_cons_zero, List.set_cons_succ]
  refine' wpAnyB_take (i := 17) (b := false) rfl (by kernel_rfl) (by kernel_rfl) (by kernel_rfl) (by decide) (by kernel_rfl) (fun _ _ _ h => h) (by assumption) (.inl ⟨by rfl, ?_⟩) ?_
  rotate_left
  · (intro wz hSw; go_simp; try with_reducible rfl)
  try simp only [Act.put, List.setIfInBounds_toArray, List.set_cons_zero, List.set_cons_succ]
  refine' wpAnyB_take (i := 18) (b := false) rfl (by kernel_rfl) (by kernel_rfl) (by kernel_rfl) (by decide) (by kernel_rfl) (fun _ _ _ h => h) (by assumption) (.inl ⟨by rfl, ?_⟩) ?_
  rotate_left
  · (intro wz hSw; go_simp; try with_reducible rfl)
  try simp only [Act.put, List.setIfInBounds_toArray, List.set_cons_zero, List.set_cons_succ]
  refine' wpAnyB_take (i := 19) (b := false) rfl (by kernel_rfl) (by kernel_rfl) (by kernel_rfl) (by decide) (by kernel_rfl) (fun _ _ _ h => h) (by assumption) (.inl ⟨by rfl, ?_⟩) ?_
  rotate_left
  · (intro wz hSw; go_simp; try with_reducible rfl)
  try simp only [Act.put, List.setIfInBounds_toArray, List.set_cons_zero, List.set_cons_succ]
  refine' wpAnyB_take (i := 20) (b := false) rfl (by kernel_rfl) (by kernel_rfl) (by kernel_rfl) (by decide) (by kernel_rfl) (fun _ _ _ h => h) (by assumption) (.inl ⟨by rfl, ?_⟩) ?_
  rotate_left
  · (intro wz hSw; go_simp; try with_reducible rfl)
  try simp only [Act.put, List.setIfInBounds_toArray, List.set_cons_zero, List.set_cons_succ]
  refine' wpAnyB_early (i := 21) rfl (by kernel_rfl) (by kernel_rfl) (by kernel_rfl) (by decide) (by kernel_rfl) (by kernel_rfl) (fun _ _ _ h => h) (by assumption) (.inl ⟨by rfl, ?_⟩) ?_
  rotate_left
  · (intro wz hSw; obtain ⟨h7, h6, h3⟩ := (HSS.out _ _).1 hSw rfl; go_simp; try with_reducible rfl)
  try simp only [Act.put, List.setIfInBounds_toArray, List.set_cons_zero, List.set_cons_succ]
  refine wpAnyB_only (i := 8) (b := false) rfl (by kernel_rfl) (by kernel_rfl) (fun K hK => ?_)
  go_simp
  go_at_call 99
  refine HCl.out.mono ?_
  rintro en w9 ⟨v9, rfl, O9, Z9⟩
  obtain ⟨a9, q9, rfl, _, _⟩ := O9.bytes.form
  have O9 := hid O9
  have Z9 := hid ((Same.refl w7).drew.trans Z9)
  have B9 := hid (B7.out.same Z9.out)
  obtain ⟨c0, c1, c2, c3, c4, c5, c6, c7, c8⟩ := Box9.cells B9.out
  have Y := hid (show Sl (w9.alloc (.cells #[.slice a9 b.length q9] 23)) 23 1 (.slice (some ⟨w9.heap.size, 0, none⟩) 1 1) 1 [.slice a9 b.length q9] from Sl.made 23 1 w9.heap.size 1 1 _ _ (heap_alloc_new w9 _) (Nat.le_refl _) (by decide) rfl ⟨[], rfl⟩)
  have W9 := hid ((Same.refl w9).alloc (.cells #[.slice a9 b.length q9] 23))
  obtain ⟨F0, hF0⟩ : ∃ F0 : Nat → Prop, F0 = fun k => FS k ∨ (w.heap.size ≤ k ∧ k < w9.heap.size) := ⟨_, rfl⟩
  have HF0 := hid hF0
  clear hF0
  have UB := hid (O9.out.bytes.same W9.out)
  have QX := hid ((Q7.out.same (Z9.out.trans W9.out)).foot (F' := F0) (fun i hi => by rw [HF0.out]; exact .inl hi))
  have UF : Hid (∀ g, homeOf (.slice a9 b.length q9) = some g → F0 g) := fun g hg => by
    rw [HF0.out]
    have h1 := (O9.out.lt g (home_own hg))
    have h2 := HK7.out.size
    simp at h1
    exact .inr ⟨by omega, h1.2⟩
  have B10 := hid (B9.out.same W9.out)
  refine hK.out _ _ ((HSS.out _ _).2 fun _ => ⟨c7, c6, c3⟩) (fun hHeld => ?_)
  clear hK K
  try simp only [Act.put, List.setIfInBounds_toArray, List.set_cons_zero, List.set_cons_succ]
  refine wpAnyB_only (i := 9) (b := false) rfl (by kernel_rfl) (by kernel_rfl) (fun K hK => ?_)
  go_simp
  refine hK.out _ _ ((HSS.out _ _).2 fun _ => ⟨(Box9.cells B10.out).2.2.2.2.2.2.2.1, (Box9.cells B10.out).2.2.2.2.2.2.1, (Box9.cells B10.out).2.2.2.1⟩) (fun hHeld => ?_)
  clear hK K
  try simp only [Act.put, List.setIfInBounds_toArray, List.set_cons_zero, List.set_cons_succ]
  refine wpAnyB_only (i := 10) (b := false) rfl (by kernel_rfl) (by kernel_rfl) (fun K hK => ?_)
  refine step_append_q (by rfl) (.tmp 86) (.tmp 89) 36 tyRows (by rfl) QX.out Y.out UB.out UF.out (by rfl) (by rfl) hlq.out ?_
  intro x8 w8 Q8 K8
  have B8 := B10.out.keep K8 (fun e => QX.out.apart9 B10.out e)
  obtain ⟨m0, m1, m2, m3, m4, m5, m6, m7, m8⟩ := Box9.cells B8
  have z7 := B8.free 7
  have z6 := B8.free 6
  have z5 := B8.free 5
  obtain ⟨a8, q8, rfl, _, _⟩ := Q8.rows.form
  refine hK.out _ _ ((HSS.out _ _).2 fun _ => ⟨m7, m6, m3⟩) (fun hHeld => ?_)
  clear hK K
  try simp only [Act.put, List.setIfInBounds_toArray, List.set_cons_zero, List.set_cons_succ]
  refine' wpAnyB_take (i := 22) (b := false) rfl (by kernel_rfl) (by kernel_rfl) (by kernel_rfl) (by decide) (by kernel_rfl) (fun _ _ _ h => h) (by assumption) (.inl ⟨by rfl, ?_⟩) ?_
  rotate_left
  · (intro wz hSw; go_simp; try with_reducible rfl)
  try simp only [Act.put, List.setIfInBounds_toArray, List.set_cons_zero, List.set_cons_succ]
  refine' wpAnyB_take (i := 23) (b := false) rfl (by kernel_rfl) (by kernel_rfl) (by kernel_rfl) (by decide) (by kernel_rfl) (fun _ _ _ h => h) (by assumption) (.inl ⟨by rfl, ?_⟩) ?_
  rotate_left
  · (intro wz hSw; go_simp; try with_reducible rfl)
  try simp only [Act.put, List.setIfInBounds_toArray, List.set_cons_zero, List.set_cons_succ]
  refine wpAnyB_only (i := 24) (b := true) rfl (by kernel_rfl) (by kernel_rfl) (fun K hK => ?_)
  go_simp
  refine hK.out _ _ ((HSS.out _ _).2 fun h => Bool.noConfusion h) (fun hHeld => ?_)
  clear hK K
  try simp only [Act.put, List.setIfInBounds_toArray, List.set_cons_zero, List.set_cons_succ]
  refine' wpAnyB_take (i := 25) (b := true) rfl (by kernel_rfl) (by kernel_rfl) (by kernel_rfl) (by decide) (by kernel_rfl) (fun _ _ _ h => h) (by assumption) (.inl ⟨by rfl, ?_⟩) ?_
  rotate_left
  · (intro wz hSw; go_simp; try with_reducible rfl)
  try simp only [Act.put, List.setIfInBounds_toArray, List.set_cons_zero, List.set_cons_succ]
  refine' wpAnyB_take (i := 26) (b := true) rfl (by kernel_rfl) (by kernel_rfl) (by kernel_rfl) (by decide) (by kernel_rfl) (fun _ _ _ h => h) (by assumption) (.inl ⟨by rfl, ?_⟩) ?_
  rotate_left
  · (intro wz hSw; go_simp; try with_reducible rfl)
  try simp only [Act.put, List.setIfInBounds_toArray, List.set_cons_zero, List.set_cons_succ]
  refine wpAnyB_only (i := 27) (b := true) rfl (by kernel_rfl) (by kernel_rfl) (fun K hK => ?_)
  go_simp
  refine hK.out _ _ ((HSS.out _ _).2 fun h => Bool.noConfusion h) (fun hHeld => ?_)
  clear hK K
  try simp only [Act.put, List.setIfInBounds_toArray, List.set_cons_zero, List.set_cons_succ]
  refine' wpAnyB_take (i := 28) (b := true) rfl (by kernel_rfl) (by kernel_rfl) (by kernel_rfl) (by decide) (by kernel_rfl) (fun _ _ _ h => h) (by assumption) (.inl ⟨by rfl, ?_⟩) ?_
  rotate_left
  · (intro wz hSw; go_simp; try with_reducible rfl)
  try simp only [Act.put, List.setIfInBounds_toArray, List.set_cons_zero, List.set_cons_succ]
  refine' wpAnyB_take (i := 29) (b := true) rfl (by kernel_rfl) (by kernel_rfl) (by kernel_rfl) (by decide) (by kernel_rfl) (fun _ _ _ h => h) (by assumption) (.inl ⟨by rfl, ?_⟩) ?_
  rotate_left
  · (intro wz hSw; go_simp; try with_reducible rfl)
  try simp only [Act.put, List.setIfInBounds_toArray, List.set_cons_zero, List.set_cons_succ]
  refine wpAnyB_only (i := 30) (b := true) rfl (by kernel_rfl) (by kernel_rfl) (fun K hK => ?_)
  go_simp
  refine hK.out _ _ ((HSS.out _ _).2 fun h => Bool.noConfusion h) (fun hHeld => ?_)
  clear hK K
  try simp only [Act.put, List.setIfInBounds_toArray, List.set_cons_zero, List.set_cons_succ]
  refine wpAnyB_done (by kernel_rfl) ?_ _
  go_wp2_with fail
  go_ret
  rw [HZ.out]
  have K9 : Keep (fun k => k = sb) w8 (((w8.setCell ⟨sb, 7, none⟩ (.slice a8 (S.all.length + 1) q8)).setCell ⟨sb, 6, none⟩ (.int .i64 (S.at_ + ls.length))).setCell ⟨sb, 5, none⟩ (.int .i64 S.life)) :=
    (((Keep.refl (fun k => k = sb) w8).setCell (p := ⟨sb, 7, none⟩) (.inl rfl) _).setCell (p := ⟨sb, 6, none⟩) (.inl rfl) _).setCell (p := ⟨sb, 5, none⟩) (.inl rfl) _
  have Q9 := Q8.box9 B8 K9
  have hlen : (S.all ++ [b]).length = S.all.length + 1 := by simp
  obtain ⟨us, qo, qF, _⟩ := HQ.out
  have hz7 := HK7.out.size
  have hz8 := Z9.out.size
  have hz9 := W9.out.size
  have hz10 := K8.size
  have hz11 := K9.size
  rw [hlen] at Q9
  obtain ⟨F1, Q9, hi1, hi2⟩ : ∃ F1 : Nat → Prop, OwnQ _ F1 (.slice a8 (S.all.length + 1) q8) (S.all ++ [b]) ∧ (∀ i, F0 i → F1 i) ∧ (∀ i, F1 i → F0 i ∨ (w9.heap.size ≤ i ∧ i < w8.heap.size)) := ⟨_, Q9, fun i h => Or.inl h, fun i h => h.imp id fun h => ⟨Nat.le_trans hz9 h.1, h.2⟩⟩
  have KA : Keep FS w7 w8 := ((Z9.out.trans W9.out).keep FS).trans (K8.weak' fun i hi => qF i hi)
  have KB : Keep FS w7 _ := KA.trans (K9.weak' fun i hi => by subst hi; exact HFb.out)
  refine ⟨F1, rfl, (HK7.out.weak' fun i hi => .inl hi).trans (KB.weak' fun i hi => .inr hi), D5.out.keep KB Hx.out, ⟨sb, _, rfl, Box9.set765 B8 _ _ _, hi1 sb (by rw [HF0.out]; exact .inl HFb.out), Q9, ?_⟩, ?_⟩
  · obtain ⟨o1, o2, o3, o4, o5, o6⟩ := Hok.out
    have hfu := Hfu.out
    refine ⟨⟨o1.1, ?_, ?_, o1.2.2.2⟩, ?_, ?_, o4, o5, o4⟩
    · show S.from_ ≤ S.at_ + (ls.length : Int); omega
    · show S.at_ + (ls.length : Int) ≤ S.till; omega
    · show (((S.all ++ [b]).length : Nat) : Int) ≤ S.at_ + (ls.length : Int)
      rw [hlen]; omega
    · intro r hr
      rcases List.mem_append.1 hr with hr | hr
      · exact o3 r hr
      · simp at hr; subst hr; have := Hl.out; omega
  · intro i hi
    rcases hi2 i hi with hi | hi
    · rw [HF0.out] at hi
      rcases hi with hi | hi
      · exact .inl hi
      · exact .inr ⟨hi.1, by omega⟩
    · exact .inr ⟨by omega, by omega⟩
end Go.Proofs.Ytlhnpicmjjddeaa
namespace Go.Proofs.Ytlhnpicmjjddeaa
open Go.RowKit

theorem takeExt {α : Type} {l r : List α} (k : Nat) (h1 : k < l.length) (h2 : k < r.length) (h : l.take k = r.take k) (hk : l[k] = r[k]) : l.take (k + 1) = r.take (k + 1) := by
  rw [List.take_succ_eq_append_getElem h1, List.take_succ_eq_append_getElem h2, h, hk]
theorem neAt {l r : List (List UInt8)} (k : Nat) (h1 : k < l.length) (h2 : k < r.length) (h : l[k] ≠ r[k]) : decide (l = r) = false := by
  apply decide_eq_false
  intro e
  subst e
  exact h rfl
set_option maxHeartbeats 3200000 in
set_option maxRecDepth 100000 in
theorem rSame2 (w : World) (e1 e2 : TypeId) (v1 v2 : Value) (la lb : List (List UInt8)) (h1 : Rows2 w e1 v1 la) (h2 : Rows2 w e2 v2 lb) : Calls Try.prog 64 #[v1, v2] w (RetSame (.bool (decide (la = lb))) w) := by
  obtain ⟨a1, c1, rfl, f1, f2⟩ := h1.form
  obtain ⟨a2, c2, rfl, f3, f4⟩ := h2.form
  unfold maxLen at f2 f4
  have HA := hid h1
  have HB := hid h2
  clear h1 h2
  by_cases hlen : la.length = lb.length
  case neg =>
    have hd : ((la.length : Int) != (lb.length : Int)) = true := by simp; omega
    have HE : Hid (decide (la = lb) = false) := decide_eq_false (fun e => hlen (by rw [e]))
    clear hlen
    go_enter Try.func64, Try.ntmps64
    go_wp2_with fail
    go_ret
    rw [HE.out]
    exact ⟨rfl, Same.refl _⟩
  have hd : ((la.length : Int) != (lb.length : Int)) = false := by simp [hlen]
  have HL := hid hlen
  have hl1 : la.length ≤ lb.length := by omega
  clear hlen
  go_enter Try.func64, Try.ntmps64
  go_wp2_with fail
  go_loopg [5] la.length (fun gk i wr => ∃ k : Nat, k + gk = la.length ∧ i = .int .i64 k ∧ la.take k = lb.take k ∧ Same w wr)
  case atStart => exact ⟨0, by omega, rfl, rfl, Same.refl _⟩
  case round =>
    obtain ⟨k, hk, rfl, ht, Z⟩ := hrel
    have HT := hid ht
    have Z := hid Z
    have hk2 : k ≤ la.length := by omega
    have HK := hid hk
    clear ht hk
    by_cases hlt : k < la.length
    case neg =>
      obtain rfl : k = la.length := by omega
      have HE : Hid (decide (la = lb) = true) := by
        apply decide_eq_true
        have h5 := HT.out
        have := HL.out
        rwa [List.take_of_length_le (Nat.le_refl _), List.take_of_length_le (by omega)] at h5
      go_wp2_with fail
      go_ret
      rw [HE.out]
      exact ⟨rfl, Z.out⟩
    have hlt2 : k < lb.length := by omega
    obtain ⟨g, o, xa, xc, xe, rfl, hcell, hby⟩ := (HA.out.same Z.out).row k hlt
    obtain ⟨g', o', ya, yc, ye, rfl, hcell', hby'⟩ := (HB.out.same Z.out).row k hlt2
    have HX := hid hby
    have HY := hid hby'
    have HNe := hid (fun h => neAt k hlt hlt2 h)
    have HEx := hid (fun h => takeExt k hlt hlt2 HT.out h)
    have hgl := World.block_lt_of_cell? wr _ hcell
    have hgl' := World.block_lt_of_cell? wr _ hcell'
    have hC := hid (fun wz (S : Same wr wz) => (S.cell (p := ⟨g, o + k, none⟩) hgl).trans hcell)
    have hC' := hid (fun wz (S : Same wr wz) => (S.cell (p := ⟨g', o' + k, none⟩) hgl').trans hcell')
    clear hby hby' hgl hgl' HT
    generalize la[k] = xs at *
    generalize lb[k] = ys at *
    obtain ⟨xx, xy, hxf, xf, xg⟩ := HX.out.form
    obtain ⟨yx, yy, hyf, yf, yg⟩ := HY.out.form
    cases hxf
    cases hyf
    unfold maxLen at xg yg
    by_cases hll : xs.length = ys.length
    case neg =>
      have hd2 : ((xs.length : Int) != (ys.length : Int)) = true := by simp; omega
      have hz := hid (HNe.out (fun e => hll (by rw [e])))
      clear hll
      go_wp2_with fail
      go_quiet (fail)
      go_wp2_with fail
      go_ret
      rw [hz.out]
      exact ⟨rfl, Z.out.drewN _⟩
    have hd2 : ((xs.length : Int) != (ys.length : Int)) = false := by simp [hll]
    have HLL := hid hll
    have hle : xs.length ≤ ys.length := by omega
    clear hll
    go_wp2_with fail
    go_quiet (fail)
    go_wp2_with fail
    clear hcell hcell'
    go_loopg [6] xs.length (fun gj j wq => ∃ i : Nat, i + gj = xs.length ∧ j = .int .i64 i ∧ xs.take i = ys.take i ∧ Same wr wq)
    case atStart => exact ⟨0, by omega, rfl, rfl, Same.of_drewN _ _⟩
    case round =>
      rename_i wq
      obtain ⟨i, hi, rfl, ht, Y⟩ := hrel
      have HT := hid ht
      have Y := hid Y
      have hi2 : i ≤ xs.length := by omega
      have HI := hid hi
      clear ht hi
      have hcell := hC.out _ Y.out
      have hcell' := hC'.out _ Y.out
      by_cases hit : i < xs.length
      case neg =>
        obtain rfl : i = xs.length := by omega
        have HE : xs = ys := by
          have h5 := HT.out
          have := HLL.out
          rwa [List.take_of_length_le (Nat.le_refl _), List.take_of_length_le (by omega)] at h5
        have hz := hid (HEx.out HE)
        clear HE
        go_wp2_with fail
        go_roundg (la.length - (k + 1))
        case measure => have := HK.out; omega
        case rel => exact ⟨k + 1, by have := HK.out; omega, by go_num, hz.out, Z.out.trans Y.out⟩
      have hit2 : i < ys.length := by omega
      obtain ⟨bg, bo, rfl, hbc⟩ := (HX.out.same Y.out).cells (by omega)
      obtain ⟨bg', bo', rfl, hbc'⟩ := (HY.out.same Y.out).cells (by omega)
      have q1 := hbc i hit
      have q2 := hbc' i hit2
      clear hbc hbc'
      by_cases hne : xs[i].toNat = ys[i].toNat
      · have hz := hid (takeExt i hit hit2 HT.out (UInt8.toNat_inj.1 hne))
        have hd3 : ((xs[i].toNat : Int) != (ys[i].toNat : Int)) = false := by simp [hne]
        clear hne
        go_wp2_with fail
        go_quiet (fail)
        go_wp2_with fail
        go_roundg (xs.length - (i + 1))
        case measure => have := HI.out; omega
        case rel => exact ⟨i + 1, by omega, by go_num, hz.out, Y.out.drewN _⟩
      · have hz := hid (HNe.out (fun e => hne (by subst e; rfl)))
        have hd3 : ((xs[i].toNat : Int) != (ys[i].toNat : Int)) = true := by simp; omega
        clear hne
        go_wp2_with fail
        go_quiet (fail)
        go_wp2_with fail
        go_ret
        rw [hz.out]
        exact ⟨rfl, (Z.out.trans Y.out).drewN _⟩
end Go.Proofs.Ytlhnpicmjjddeaa
namespace Go.Proofs.Ytlhnpicmjjddeaa
open Go.RowKit

def l8a : Sc := (Dv.new 9).opened 1 9 1 0
def l8b : Int × Sc × Dv := l8a.append (Dv.new 9) [97]
def l8c : Sc := l8b.2.2.opened 1 9 2 0
theorem l8_1 : (Dv.new 9).openE 1 9 1 0 = 0 := by kernel_rfl
theorem l8_2 : l8b.1 = 0 := by kernel_rfl
theorem l8_3 : l8b.2.2.openE 1 9 2 0 = 0 := by kernel_rfl
theorem l8_4 : l8c.all = [[97]] := by kernel_rfl
theorem l8_5 : l8c.at_ - l8c.from_ = 1 := by kernel_rfl
theorem l8_6 : l8b.2.2.newest 0 9 = 1 := by kernel_rfl
theorem RetOpenS.good {D : Dv} {p : Value} {a b life era : Int} {w : World} {en : Ending} {w' : World} (h : RetOpenS D p a b life era w en w') (he : D.openE a b life era = 0) :
    ∃ s FS, en = .returned (.tuple #[s, .int .i64 0]) ∧ IsSc w' s p FS (D.opened a b life era) ∧ Same w w' ∧ Bnd FS w.heap.size w'.heap.size := by
  rcases h with ⟨h, _⟩ | ⟨_, h⟩
  · rw [he] at h; cases h
  · exact h
set_option maxHeartbeats 6400000 in
set_option maxRecDepth 100000 in
theorem cLives (w : World) : Calls Try.prog 63 #[] w (RetSame (.bool true) w) := by
  have HO := hid cOpen
  have HA := hid cAppend
  have HR := hid cRecords
  have HU := hid cUsed
  have HN := hid cNewest
  have HS := hid rSame2
  have A1 := hid l8_1
  have A2 := hid l8_2
  have A3 := hid l8_3
  have A4 := hid l8_4
  have A5 := hid l8_5
  have A6 := hid l8_6
  have kcc := fun (w : World) (C : Array Value) (n c : Nat) => Lib.run_convert_bytes_const (P := Try.prog) w 23 5 C n c Try.underlying23 Try.underlying5
  go_enter Try.func63, Try.ntmps63
  go_wp2_with fail
  refine (dNewD w 9 (by omega) (by omega)).mono ?_
  rintro en w1 ⟨p, F, rfl, S1, D1, B1⟩
  have D1 := hid D1
  have B1 := hid B1
  have S1 := hid S1
  obtain ⟨pb, rfl⟩ := D1.out.ptr
  go_wp2_with fail
  refine (HO.out w1 _ F _ 1 9 1 0 D1.out (fun k hk => (B1.out k hk).2)).mono ?_
  rintro en w2 hr
  obtain ⟨s, FS, rfl, I2, S2, B2⟩ := hr.good A1.out
  clear hr
  obtain ⟨sb, rfl⟩ := I2.ptr
  have S2 := hid S2
  have I2 : Hid (IsSc w2 (.pointer (some ⟨sb, 0, none⟩)) (.pointer (some ⟨pb, 0, none⟩)) FS l8a) := I2
  have B2 := hid B2
  go_wp2_with fail
  have T2 := hid ((Same.refl w2).alloc (.cells #[.int .u8 97] 5 (1, 2)))
  refine (HA.out _ _ _ _ F FS (Dv.new 9) l8a [97] 5 (D1.out.same (S2.out.trans T2.out)) (I2.out.same T2.out) (fun i hi hn => by have h1 := (B1.out i hi).2; have h2 := (B2.out i hn).1; omega) (fun k hk => Nat.lt_of_lt_of_le (B1.out k hk).2 (S2.out.trans T2.out).size) (b1_made' w2 97 (by omega) (1, 2)) (by simp) (fun g hg hn => by simp [homeOf] at hg; have h1 := (B1.out g hn).2; have h2 := S2.out.size; omega)).mono ?_
  rintro en w3 ⟨FS3, rfl, K3, D3, I3, G3⟩
  have e1 : (l8a.append (Dv.new 9) [97]).1 = 0 := A2.out
  rw [e1]
  have D3 : IsDv w3 (.pointer (some ⟨pb, 0, none⟩)) F l8b.2.2 := D3
  have D3 := hid D3
  have S3 : Hid (Same w w3) := (((S1.out.trans S2.out).trans T2.out).keepOwn K3 (fun k hk => by
    rcases hk with hk | hk
    · exact (B1.out k hk).1
    · have h1 := (B2.out k hk).1; have h2 := S1.out.size; omega))
  have hsz3 : Hid (∀ k, F k → k < w3.heap.size) := fun k hk => by have h1 := (B1.out k hk).2; have h2 := (S2.out.trans T2.out).size; have h3 := K3.size; omega
  clear I3 G3 K3 e1 I2
  go_wp2_with fail
  refine (HO.out w3 _ F _ 1 9 2 0 D3.out hsz3.out).mono ?_
  rintro en w4 hr
  obtain ⟨t, FT, rfl, I4, S4, B4⟩ := hr.good A3.out
  clear hr B4
  obtain ⟨tb, rfl⟩ := I4.ptr
  have I4 : Hid (IsSc w4 (.pointer (some ⟨tb, 0, none⟩)) (.pointer (some ⟨pb, 0, none⟩)) FT l8c) := I4
  have S4 := hid S4
  go_wp2_with fail
  refine (HR.out w4 _ _ FT l8c I4.out ⟨pb, rfl⟩).mono ?_
  rintro en w5 ⟨v5, rfl, O5, S5⟩
  rw [A4.out] at O5
  obtain ⟨a5, c5, rfl, _, _⟩ := O5.rows.form
  have O5 := hid O5
  have S5 := hid S5
  simp only [List.length_cons, List.length_nil] at *
  go_wp2_with fail
  have T5 := hid (((Same.refl w5).alloc (.cells #[.int .u8 97] 5 (1, 2))).alloc (.cells #[.slice (some ⟨w5.heap.size, 0, none⟩) 1 1] 23))
  have R5 := hid ((Rows2N.one (F := NoB) (b1_made' w5 97 (by omega) (1, 2)) (fun _ _ x => x) (fun x => x)).rows)
  simp only [World.size_alloc] at R5
  refine (HS.out _ 23 23 _ _ _ _ (O5.out.rows.same T5.out) R5.out).mono ?_
  rintro en w6 ⟨rfl, S6⟩
  have S6 := hid (T5.out.trans S6)
  go_wp2_with fail
  refine (HU.out w6 _ _ FT l8c (I4.out.same (S5.out.trans S6.out)) ⟨pb, rfl⟩).mono ?_
  rintro en w7 ⟨rfl, S7⟩
  rw [A5.out]
  have S7 := hid S7
  go_wp2_with fail
  refine (HN.out w7 _ F _ 0 9 (D3.out.same (((S4.out.trans S5.out).trans S6.out).trans S7.out))).mono ?_
  rintro en w8 ⟨rfl, S8⟩
  rw [A6.out]
  go_wp2_with fail
  go_ret
  exact ⟨rfl, ((((S3.out.trans S4.out).trans S5.out).trans S6.out).trans S7.out).trans S8⟩

theorem cOpen_none (w : World) (p : Value) (a b life era : Int) (h : Nobody w p) : Calls Try.prog 61 #[p, .int .i64 a, .int .i64 b, .int .i64 life, .int .i64 era] w (RetSame (.tuple #[.pointer none, .int .i64 1]) w) := by
  have HS := hid (dSize_none w p h)
  go_enter Try.func61, Try.ntmps61
  go_wp2_with fail
  refine HS.out.mono ?_
  rintro en w1 ⟨rfl, S1⟩
  go_wp2_with fail
  go_ret2
  exact ⟨rfl, S1⟩
set_option maxRecDepth 100000 in
theorem cNewest_none (w : World) (p : Value) (a b : Int) (h : Nobody w p) : Calls Try.prog 67 #[p, .int .i64 a, .int .i64 b] w (RetSame (.int .i64 0) w) := by
  have HW := hid (cWithin_none w p a b h)
  obtain ⟨q, rfl⟩ : ∃ q, p = .pointer q := by
    rcases h with h | ⟨pb, h, _⟩
    · exact ⟨_, h⟩
    · exact ⟨_, h⟩
  by_cases g : 0 ≤ a ∧ a ≤ b ∧ b ≤ 0
  · rw [decide_eq_true g] at HW
    obtain rfl : a = 0 := by omega
    obtain rfl : b = 0 := by omega
    clear g h
    go_enter Try.func67, Try.ntmps67
    go_wp2_with fail
    refine HW.out.mono ?_
    rintro en w1 ⟨rfl, S1⟩
    have S1 := hid S1
    go_wp2_with fail
    go_loopg [7, 9] 0 (fun gk m i wr => m = .int .i64 0 ∧ i = .int .i64 0 ∧ Same w wr)
    case atStart => exact ⟨rfl, rfl, S1.out.alloc _⟩
    case round =>
      obtain ⟨rfl, rfl, Z⟩ := hrel
      have Z := hid Z
      go_wp2_with fail
      go_ret
      exact ⟨rfl, Z.out⟩
  · rw [decide_eq_false g] at HW
    clear g h
    go_enter Try.func67, Try.ntmps67
    go_wp2_with fail
    refine HW.out.mono ?_
    rintro en w1 ⟨rfl, S1⟩
    go_wp2_with fail
    go_ret
    exact ⟨rfl, S1⟩
theorem NoScroll.boxed (w : World) : NoScroll (w.alloc (.cells #[.pointer none, .int .i64 0, .int .i64 0, .int .i64 0, .int .i64 0, .int .i64 0, .int .i64 0, .slice none 0 0, .bool false] 108)) (.pointer (some ⟨w.heap.size, 0, none⟩)) :=
  .inr ⟨_, rfl, (Box9.cells (Box9.new w _ _ _ _ _ _ _ _ _)).1⟩
set_option maxHeartbeats 6400000 in
set_option maxRecDepth 100000 in
theorem scrollNobodyWalk (w : World) (v : Value) (e : TypeId) (a b' : Int) (b : List UInt8) (hb : Bytes w e v b) :
    Calls Try.prog 16 #[v, .int .i64 a, .int .i64 b'] w (RetSame (.bool true) w) := by
  have H1 := hid cOpen_none
  have H2 := hid cNewest_none
  have H3 := hid (fun w' => show Calls Try.prog 22 #[v, .int .i64 90] w' _ from r01Cut0 w w' e v b 90 hb)
  have H4 := hid cAppend_none
  have H5 := hid cRecords_none
  have H6 := hid cUsed_none
  have H9 := hid cLives
  have HB := hid Nobody.boxed
  have HC := hid NoScroll.boxed
  obtain ⟨av, cv, rfl, _, _⟩ := hb.form
  clear hb
  go_enter Try.func16, Try.ntmps16
  go_wp2_with fail
  go_loopw [7] (fun i wr => ∃ k : Nat, k ≤ 2 ∧ i = .int .i64 k ∧ Same w wr) (fun i _ => 2 - (intOf i).toNat)
  case atStart => exact ⟨0, by omega, rfl, Same.refl w⟩
  case round =>
    obtain ⟨k, hk, rfl, S⟩ := hrel
    have S := hid S
    match k, hk with
    | 2, _ =>
      go_wp2_with fail
      refine (H9.out _).mono ?_
      rintro en w3 ⟨rfl, S3⟩
      go_wp2_with fail
      go_ret
      exact ⟨rfl, S.out.trans S3⟩
    | 0, _ =>
      have N0 : Hid (Nobody wr (.pointer none)) := .inl rfl
      have N1 : Hid (NoScroll wr (.pointer none)) := .inl rfl
      go_wp2_with fail
      refine (H1.out _ _ _ _ _ _ N0.out).mono ?_
      rintro en w1 ⟨rfl, S1⟩
      have T1 := hid S1
      clear S1
      go_wp2_with fail
      refine (H2.out _ _ _ _ (N0.out.same T1.out)).mono ?_
      rintro en w2 ⟨rfl, S2⟩
      have T2 := hid (T1.out.trans S2)
      clear S2
      go_wp2_with fail
      refine (H3.out _).mono ?_
      rintro en w2' ⟨v3, rfl, B3, rfl⟩
      obtain ⟨a3, c3, rfl, _, _⟩ := B3.form
      clear B3
      go_wp2_with fail
      refine (H4.out _ _ _ (N1.out.same T2.out)).mono ?_
      rintro en w3 ⟨rfl, S3⟩
      have T3 := hid (T2.out.trans S3)
      clear S3
      go_wp2_with fail
      refine (H5.out _ _ (N1.out.same T3.out)).mono ?_
      rintro en w4 ⟨rfl, S4⟩
      have T4 := hid (T3.out.trans S4)
      clear S4
      go_wp2_with fail
      refine (H6.out _ _ (N1.out.same T4.out)).mono ?_
      rintro en w5 ⟨rfl, S5⟩
      have T5 := hid (T4.out.trans S5)
      clear S5
      go_wp2_with fail
      go_roundw
      case rel => exact ⟨1, by omega, rfl, S.out.trans T5.out⟩
      case measure => simp [intOf]
    | 1, _ =>
      have N1 := hid ((HC.out wr).same ((Same.refl _).alloc (.cells #[.bool false, .bool false, .int .i64 0, .slice none 0 0, .slice none 0 0, .int .i64 0] 55)))
      have N0 := hid (HB.out (wr.alloc (.cells #[.pointer none, .int .i64 0, .int .i64 0, .int .i64 0, .int .i64 0, .int .i64 0, .int .i64 0, .slice none 0 0, .bool false] 108)))
      have Z0 := hid (((Same.refl wr).alloc (.cells #[.pointer none, .int .i64 0, .int .i64 0, .int .i64 0, .int .i64 0, .int .i64 0, .int .i64 0, .slice none 0 0, .bool false] 108)).alloc (.cells #[.bool false, .bool false, .int .i64 0, .slice none 0 0, .slice none 0 0, .int .i64 0] 55))
      simp only [World.size_alloc] at N0
      go_wp2_with fail
      refine (H1.out _ _ _ _ _ _ N0.out).mono ?_
      rintro en w1 ⟨rfl, S1⟩
      have T1 := hid S1
      clear S1
      go_wp2_with fail
      refine (H2.out _ _ _ _ (N0.out.same T1.out)).mono ?_
      rintro en w2 ⟨rfl, S2⟩
      have T2 := hid (T1.out.trans S2)
      clear S2
      go_wp2_with fail
      refine (H3.out _).mono ?_
      rintro en w2' ⟨v3, rfl, B3, rfl⟩
      obtain ⟨a3, c3, rfl, _, _⟩ := B3.form
      clear B3
      go_wp2_with fail
      refine (H4.out _ _ _ (N1.out.same T2.out)).mono ?_
      rintro en w3 ⟨rfl, S3⟩
      have T3 := hid (T2.out.trans S3)
      clear S3
      go_wp2_with fail
      refine (H5.out _ _ (N1.out.same T3.out)).mono ?_
      rintro en w4 ⟨rfl, S4⟩
      have T4 := hid (T3.out.trans S4)
      clear S4
      go_wp2_with fail
      refine (H6.out _ _ (N1.out.same T4.out)).mono ?_
      rintro en w5 ⟨rfl, S5⟩
      have T5 := hid (T4.out.trans S5)
      clear S5
      go_wp2_with fail
      go_roundw
      case rel => exact ⟨2, by omega, rfl, (S.out.trans Z0.out).trans T5.out⟩
      case measure => simp [intOf]
end Go.Proofs.Ytlhnpicmjjddeaa
