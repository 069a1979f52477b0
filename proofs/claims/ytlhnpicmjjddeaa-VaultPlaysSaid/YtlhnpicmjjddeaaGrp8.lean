/- VAULT: turn, Open. VAULT: Append, Compact. VAULT's reference: a vault in memory; Open. SCROLL, plainly: what ScrollKept says. No program in sight. SCROLL's statements: Few. What comes in, opened: rows of structs whose fields lie in one cell each. No further condition. STILL: the walk of StillKept. SCROLL: a drive and a scroll of the walk's own. -/
import Derived.Test.YtlhnpicmjjddeaaGrp7
import Derived.Test.YtlhnpicmjjddeaaGrp4
import Derived.Test.YtlhnpicmjjddeaaGrp1
set_option linter.unusedVariables false
set_option linter.unusedSimpArgs false
namespace Go.Proofs.Ytlhnpicmjjddeaa
open Go.RowKit

/-- behind turn -/
def Vt.turned (V : Vt) (D : Dv) : Vt := { V with S := D.opened (2 * V.each) D.C.length V.life V.era }
set_option maxHeartbeats 6400000 in
set_option maxRecDepth 100000 in
theorem vTurn (w : World) (b : Nat) (sp p sv : Value) (FD : Nat → Prop) (V : Vt) (D : Dv) (hB : vtBox w b sp p V sv) (hsp : ∃ q, sp = .pointer q) (hD : IsDv w p FD D) (hF : ∀ k, FD k → k < w.heap.size) (hb : ¬ FD b) (hs : Bytes w 5 sv V.state)
    (hok : V.Ok) (hE : D.openE (2 * V.each) D.C.length V.life V.era = 0) : Calls Try.prog 111 #[.pointer (some ⟨b, 0, none⟩)] w fun en w' =>
      ∃ sp' FS', en = .returned (.int .i64 0) ∧ Keep (fun k => k = b) w w' ∧ vtBox w' b sp' p (V.turned D) sv ∧ IsSc w' sp' p FS' (V.turned D).S ∧ Bnd FS' w.heap.size w'.heap.size ∧ IsDv w' p FD D ∧ Bytes w' 5 sv V.state := by
  have HSz := hid (fun w' (Z : Same w w') => dSizeD w' p FD D (hD.same Z))
  have HO := hid (fun w' (Z : Same w w') => cOpen w' p FD D (2 * V.each) D.C.length V.life V.era (hD.same Z) (fun k hk => Nat.lt_of_lt_of_le (hF k hk) Z.size))
  have HD := hid hD
  have HB := hid hB
  have HS := hid hs
  have HE := hid hE
  have Hb := hid hb
  have he := hok.each
  have hlen := hD.ok.1
  obtain ⟨pb, rfl⟩ := hD.ptr
  obtain ⟨q, rfl⟩ := hsp
  obtain ⟨av, cv, rfl, _, _⟩ := hs.form
  have hbl : b < w.heap.size := Box7.lt hB
  obtain ⟨c0, c1, c2, c3, c4, c5, c6⟩ := Box7.cells hB
  have HSk := hid (HSz.out w.drew (Same.refl w).drew)
  have HOk := hid (fun w' (Z : Same w.drew w') => HO.out w' ((Same.refl w).drew.trans Z))
  have hw1 : IntKind.i64.wrap (2 * V.each) = 2 * V.each := by rw [IntKind.wrap_i64]; omega
  clear hB hs hE hD hF hb c0 c5 c6
  go_enter Try.func111, Try.ntmps111
  go_wp2_with fail
  go_region_held3 (fun w' => w'.cell? ⟨b, 1, none⟩ = some (.pointer (some ⟨pb, 0, none⟩)) ∧ w'.cell? ⟨b, 2, none⟩ = some (.int .i64 V.each) ∧ w'.cell? ⟨b, 3, none⟩ = some (.int .i64 V.life) ∧ w'.cell? ⟨b, 4, none⟩ = some (.int .i64 V.era))
    (first | with_reducible exact ⟨by assumption, by assumption, by assumption, by assumption⟩ | go_keep)
    (first
      | (go_at_call 42; (with_reducible refine HSk.out.mono ?_); rintro en w2 ⟨rfl, S2⟩; obtain ⟨m0, m1, m2, m3, m4, m5, m6⟩ := Box7.cells (HB.out.same ((Same.refl w).drew.trans S2)))
      | (go_at_call 61; (with_reducible refine (HOk.out w2 S2).mono ?_); rintro en w3 hr; obtain ⟨sp', FS', rfl, I3, S3, B3⟩ := hr.good HE.out; obtain ⟨n0, n1, n2, n3, n4, n5, n6⟩ := Box7.cells (HB.out.same (((Same.refl w).drew.trans S2).trans S3))))
  have S3' := hid (((Same.refl w).drew.trans S2).trans S3)
  have z0 := Box7.free (HB.out.same S3'.out) 0
  have I3 := hid I3
  have B3 : Hid (Bnd FS' w.heap.size w3.heap.size) := fun k hk => ⟨Nat.le_trans ((Same.refl w).drew.trans S2).size (B3 k hk).1, (B3 k hk).2⟩
  obtain ⟨sb, rfl⟩ := I3.out.ptr
  clear c1 c2 c3 c4 m0 m1 m2 m3 m4 m5 m6 n1 n2 n3 n4 n5 n6
  go_wp2_with fail
  go_ret
  have K : Keep (fun k => k = b) w3 (w3.setCell ⟨b, 0, none⟩ (.pointer (some ⟨sb, 0, none⟩))) := (Keep.refl (fun k => k = b) w3).setCell (p := ⟨b, 0, none⟩) (.inl rfl) _
  have hbF : ∀ i, FS' i → ¬ i = b := fun i hi e => by have := (B3.out i hi).1; omega
  refine ⟨_, FS', rfl, (S3'.out.keep _).trans K, Box7.set0 (HB.out.same S3'.out) _, I3.out.keep K hbF, B3.out.mono K.size, (HD.out.same S3'.out).keep K (fun i hi e => by subst e; exact Hb.out hi), (HS.out.same S3'.out).keep K (fun g hg e => (HS.out.apart7 HB.out) (by rw [hg, e]))⟩

def Dv.vopenE (D : Dv) (each : Int) : Int := if each < 1 ∨ (D.C.length : Int) ≤ each ∨ (D.C.length : Int) ≤ 2 * each then 2 else if 16777214 ≤ D.newest 0 D.C.length then 10 else 0
def Dv.vopened (D : Dv) (each : Int) : Vt :=
  ⟨each, D.newest 0 D.C.length + 1, (D.loadR 0 each).1, (D.loadR 0 each).2.1, false, D.opened (2 * each) D.C.length (D.newest 0 D.C.length + 1) (D.loadR 0 each).1⟩
theorem era_bound (b : List UInt8) : 0 ≤ (decF b).era ∧ (decF b).era ≤ 16777215 := by
  by_cases hr : (decF b).right = true
  · have := stampOk_iff.1 (Fr.right_iff.1 hr).1; omega
  · rw [decF_wrong hr]; exact ⟨by decide, by decide⟩
theorem place_bound' (D : Dv) (a each odd : Int) : 0 ≤ (D.place a each odd).1 ∧ (D.place a each odd).1 ≤ 16777215 ∧ (D.place a each odd).2.length ≤ 30000 := by
  unfold Dv.place
  split
  · have := era_bound (D.sector a)
    refine ⟨this.1, this.2, ?_⟩
    have hs := small_frs D a (decF (D.sector a)).parts.toNat
    have hj := joined_length _ (fun f hf => (hs f hf).2.2)
    rw [D.frs_length] at hj
    have := (small_decF (D.sector a))
    show (joined _).length ≤ 30000
    omega
  · exact ⟨by decide, by decide, by simp⟩
theorem loadR_bound (D : Dv) (a each : Int) : 0 ≤ (D.loadR a each).1 ∧ (D.loadR a each).1 ≤ 16777215 ∧ (D.loadR a each).2.1.length ≤ 30000 := by
  have key : ∀ x : Int × List UInt8, 0 ≤ x.1 ∧ x.1 ≤ 16777215 ∧ x.2.length ≤ 30000 → 0 ≤ (if x.1 = 0 then ((0 : Int), ([] : List UInt8), (11 : Int)) else (x.1, x.2, 0)).1 ∧ (if x.1 = 0 then ((0 : Int), ([] : List UInt8), (11 : Int)) else (x.1, x.2, 0)).1 ≤ 16777215 ∧ (if x.1 = 0 then ((0 : Int), ([] : List UInt8), (11 : Int)) else (x.1, x.2, 0)).2.1.length ≤ 30000 := by
    intro x hx
    by_cases h : x.1 = 0
    · rw [if_pos h]; exact ⟨Int.le_refl _, by show (0 : Int) ≤ 16777215; omega, by simp⟩
    · rw [if_neg h]; exact hx
  have hl : 0 ≤ (D.load a each).1 ∧ (D.load a each).1 ≤ 16777215 ∧ (D.load a each).2.length ≤ 30000 := by
    unfold Dv.load
    split
    · exact place_bound' D (a + each) each 1
    · exact place_bound' D a each 0
  unfold Dv.loadR
  split
  · exact key _ hl
  · exact ⟨Int.le_refl _, by show (0 : Int) ≤ 16777215; omega, by simp⟩
theorem most_mono {D : Dv} {L : Int} (h : ∀ i : Int, (decF (D.sector i)).right = true → 0 ≤ i → i < D.C.length → (decF (D.sector i)).life < L) (hL : 1 ≤ L) {from_ : Int} (hf : 0 ≤ from_) : ∀ k : Nat, from_ + k ≤ D.C.length → D.most from_ k < L := by
  intro k
  induction k with
  | zero => intro _; show (0 : Int) < L; omega
  | succ k ih =>
    intro hk
    have := ih (by omega)
    show max _ _ < L
    by_cases hr : (decF (D.sector (from_ + k))).right = true
    · have := h _ hr (by omega) (by omega); omega
    · rw [decF_wrong hr]
      have : Fr.zero.life = 0 := rfl
      omega
theorem most_ge (D : Dv) (from_ : Int) : ∀ (k j : Nat), j < k → (decF (D.sector (from_ + j))).life ≤ D.most from_ k := by
  intro k
  induction k with
  | zero => intro j hj; omega
  | succ k ih =>
    intro j hj
    show _ ≤ max _ _
    rcases Nat.lt_or_ge j k with h | h
    · have := ih j h; omega
    · obtain rfl : j = k := by omega
      omega
/-- every frame on the drive is of a life that the newest is not below -/
theorem newest_all {D : Dv} : ∀ i : Int, (decF (D.sector i)).right = true → (decF (D.sector i)).life < D.newest 0 D.C.length + 1 := by
  intro i hr
  have hi : 0 ≤ i ∧ i < D.C.length := by
    by_cases h0 : 0 ≤ i
    · refine ⟨h0, ?_⟩
      rcases Int.lt_or_le i D.C.length with h | h
      · exact h
      · exfalso
        have : D.sector i = [] := by
          unfold Dv.sector
          rw [if_pos h0, List.getD_eq_getElem?_getD, List.getElem?_eq_none (by omega)]; rfl
        rw [this, decF_nil] at hr
        cases hr
    · exfalso
      have : D.sector i = [] := by unfold Dv.sector; rw [if_neg h0]
      rw [this, decF_nil] at hr
      cases hr
  unfold Dv.newest
  rw [if_pos (by unfold Dv.within; rw [decide_eq_true_eq]; omega)]
  have := most_ge D 0 (((D.C.length : Int) - 0).toNat) i.toNat (by omega)
  rw [show (0 : Int) + (i.toNat : Int) = i by omega] at this
  omega
theorem vopen_turn {D : Dv} {each : Int} (h : D.vopenE each = 0) : D.openE (2 * each) D.C.length (D.newest 0 D.C.length + 1) (D.loadR 0 each).1 = 0 := by
  unfold Dv.vopenE at h
  split at h
  · cases h
  split at h
  · cases h
  have hb := newest_bound D 0 D.C.length
  have hl := loadR_bound D 0 each
  exact open_zero ⟨by omega, by omega, Int.le_refl _⟩ ⟨by omega, by omega⟩ ⟨hl.1, hl.2.1⟩ newest_all
def RetVOpen (D : Dv) (p : Value) (each : Int) (w : World) (en : Ending) (w' : World) : Prop :=
  (D.vopenE each ≠ 0 ∧ en = .returned (.tuple #[.pointer none, .int .i64 (D.vopenE each)]) ∧ Same w w') ∨
  (D.vopenE each = 0 ∧ ∃ v F, en = .returned (.tuple #[v, .int .i64 0]) ∧ IsVt w' v p F (D.vopened each) ∧ Same w w' ∧ Bnd F w.heap.size w'.heap.size)
set_option maxHeartbeats 6400000 in
set_option maxRecDepth 100000 in
theorem vOpen (w : World) (p : Value) (FD : Nat → Prop) (D : Dv) (each : Int) (hD : IsDv w p FD D) (hF : ∀ k, FD k → k < w.heap.size) (he : -9223372036854775808 ≤ each ∧ each ≤ 9223372036854775807) :
    Calls Try.prog 73 #[p, .int .i64 each] w (RetVOpen D p each w) := by
  have HSz := hid (dSizeD w p FD D hD)
  have HN := hid (fun w' (Z : Same w w') => cNewest w' p FD D 0 D.C.length (hD.same Z))
  have HL := hid (fun w' (Z : Same w w') => sLoad w' p FD D 0 each (hD.same Z) he)
  have HT := hid vTurn
  have HD := hid hD
  have HF := hid hF
  have hn1 := hD.ok.2.1
  have hn2 := hD.ok.1
  have hzn : ((D.C.length : Int) == 0) = false := by rw [beq_eq_false_iff_ne]; omega
  have hzn' : (D.C.length == 0) = false := by rw [beq_eq_false_iff_ne]; omega
  have hzn'' : ¬ D.C.length = 0 := by omega
  obtain ⟨pb, rfl⟩ := hD.ptr
  have hVE : D.vopenE each = if each < 1 ∨ (D.C.length : Int) ≤ each ∨ (D.C.length : Int) ≤ 2 * each then 2 else if 16777214 ≤ D.newest 0 D.C.length then 10 else 0 := rfl
  have HVE := hid hVE
  have hvt := hid (@vopen_turn D each)
  have hlb := loadR_bound D 0 each
  have hnb := newest_bound D 0 D.C.length
  have hvo : Hid (D.vopened each = ⟨each, D.newest 0 D.C.length + 1, (D.loadR 0 each).1, (D.loadR 0 each).2.1, false, D.opened (2 * each) D.C.length (D.newest 0 D.C.length + 1) (D.loadR 0 each).1⟩) := rfl
  clear hD hF hVE
  by_cases g : each < 1 ∨ (D.C.length : Int) ≤ each ∨ (D.C.length : Int) ≤ 2 * each
  case pos =>
    have h2 : Hid (D.vopenE each = 2) := HVE.out.trans (if_pos g)
    have hcl : Hid (∀ w', Same w w' → RetVOpen D (.pointer (some ⟨pb, 0, none⟩)) each w (.returned (.tuple #[.pointer none, .int .i64 2])) w') := fun w' Z => .inl ⟨by rw [h2.out]; decide, by rw [h2.out], Z⟩
    clear HN HL HT hvt hlb hnb hvo HD HF HVE
    generalize D.C.length = n at *
    by_cases g1 : each < 1
    · have e1 : decide (each < 1) = true := by simpa using g1
      clear g g1
      go_enter Try.func73, Try.ntmps73
      go_wp2_with fail
      refine HSz.out.mono ?_
      rintro en w1 ⟨rfl, S1⟩
      have S1 := hid S1
      go_wp2_with fail
      go_ret2
      exact hcl.out _ S1.out
    have e1 : decide (each < 1) = false := by simpa using g1
    by_cases g2 : (n : Int) ≤ each
    · have e2 : decide ((n : Int) ≤ each) = true := by simpa using g2
      clear g g1
      go_enter Try.func73, Try.ntmps73
      go_wp2_with fail
      refine HSz.out.mono ?_
      rintro en w1 ⟨rfl, S1⟩
      have S1 := hid S1
      go_wp2_with fail
      go_ret2
      exact hcl.out _ S1.out
    have e2 : decide ((n : Int) ≤ each) = false := by simpa using g2
    have e3 : decide ((n : Int) ≤ 2 * each) = true := by rw [decide_eq_true_eq]; omega
    have hbd : 1 ≤ each ∧ each ≤ 2048 := by omega
    clear g g1 g2
    go_enter Try.func73, Try.ntmps73
    go_wp2_with fail
    refine HSz.out.mono ?_
    rintro en w1 ⟨rfl, S1⟩
    have S1 := hid S1
    go_wp2_with fail
    go_ret2
    exact hcl.out _ S1.out
  case neg =>
    have e1 : decide (each < 1) = false := by rw [decide_eq_false_iff_not]; omega
    have e2 : decide ((D.C.length : Int) ≤ each) = false := by rw [decide_eq_false_iff_not]; omega
    have e3 : decide ((D.C.length : Int) ≤ 2 * each) = false := by rw [decide_eq_false_iff_not]; omega
    have hbd : 1 ≤ each ∧ 2 * each ≤ 2048 := by omega
    have HV2 := hid (HVE.out.trans (if_neg g))
    clear g HVE
    by_cases g2 : 16777214 ≤ D.newest 0 D.C.length
    case pos =>
      have h2 : Hid (D.vopenE each = 10) := HV2.out.trans (if_pos g2)
      have hcl : Hid (∀ w', Same w w' → RetVOpen D (.pointer (some ⟨pb, 0, none⟩)) each w (.returned (.tuple #[.pointer none, .int .i64 10])) w') := fun w' Z => .inl ⟨by rw [h2.out]; decide, by rw [h2.out], Z⟩
      have e4 : decide (16777214 ≤ D.newest 0 D.C.length) = true := by simpa using g2
      clear g2 HL HT hvt hlb hvo HD HF HV2
      go_enter Try.func73, Try.ntmps73
      go_wp2_with fail
      refine HSz.out.mono ?_
      rintro en w1 ⟨rfl, S1⟩
      have S1 := hid S1
      go_wp2_with fail
      refine (HN.out _ S1.out).mono ?_
      rintro en w2 ⟨rfl, S2⟩
      have S2 := hid (S1.out.trans S2)
      go_wp2_with fail
      go_ret2
      exact hcl.out _ S2.out
    case neg =>
      have h0 : D.vopenE each = 0 := HV2.out.trans (if_neg g2)
      have H0 := hid h0
      have hE := hid (hvt.out h0)
      have e4 : decide (16777214 ≤ D.newest 0 D.C.length) = false := by simpa using g2
      have hnb2 : D.newest 0 D.C.length + 1 ≤ 16777214 := by omega
      clear g2 HV2 hvt h0
      go_enter Try.func73, Try.ntmps73
      go_wp2_with fail
      refine HSz.out.mono ?_
      rintro en w1 ⟨rfl, S1⟩
      have S1 := hid S1
      go_wp2_with fail
      refine (HN.out _ S1.out).mono ?_
      rintro en w2 ⟨rfl, S2⟩
      have S2 := hid (S1.out.trans S2)
      go_wp2_with fail
      refine (HL.out _ S2.out).mono ?_
      rintro en w3 ⟨v3, rfl, O3, S3⟩
      have S3' := hid (S2.out.trans S3)
      have O3 := hid (O3.mono S2.out.size)
      clear S3 HL HN HSz
      generalize D.newest 0 D.C.length = L at *
      generalize D.loadR 0 each = R at *
      obtain ⟨era, st, le⟩ := R
      simp only at hlb hE hvo O3
      simp only
      obtain ⟨a3, q3, rfl, _, _⟩ := O3.out.bytes.form
      have B4 := hid (Box7.new w3 (.pointer none) (.pointer (some ⟨pb, 0, none⟩)) (.int .i64 each) (.int .i64 (L + 1)) (.int .i64 era) (.slice a3 st.length q3) (.bool false))
      have S4 := hid (S3'.out.alloc (.cells #[.pointer none, .pointer (some ⟨pb, 0, none⟩), .int .i64 each, .int .i64 (L + 1), .int .i64 era, .slice a3 st.length q3, .bool false] 122))
      have O4 := hid (O3.out.alloc (.cells #[.pointer none, .pointer (some ⟨pb, 0, none⟩), .int .i64 each, .int .i64 (L + 1), .int .i64 era, .slice a3 st.length q3, .bool false] 122))
      have hO3 : Hid (∀ g, homeOf (.slice a3 st.length q3) = some g → w.heap.size ≤ g ∧ g < w3.heap.size) := fun g hg => O3.out.lt g (home_own hg)
      go_wp2_with fail
      generalize hw4 : (w3.alloc (.cells #[.pointer none, .pointer (some ⟨pb, 0, none⟩), .int .i64 each, .int .i64 (L + 1), .int .i64 era, .slice a3 st.length q3, .bool false] 122)) = w4 at *
      have hsz4 : Hid (w4.heap.size = w3.heap.size + 1) := by rw [← hw4]; simp [Hid]
      clear hw4
      have hV4 : Hid (Vt.Ok ⟨each, L + 1, era, st, false, D.opened (2 * each) D.C.length (L + 1) era⟩) := ⟨hbd, ⟨by show 1 ≤ L + 1; omega, hnb2⟩, ⟨hlb.1, hlb.2.1⟩, hlb.2.2⟩
      have hw3 := S3'.out.size
      refine (HT.out w4 w3.heap.size (.pointer none) (.pointer (some ⟨pb, 0, none⟩)) (.slice a3 st.length q3) FD ⟨each, L + 1, era, st, false, D.opened (2 * each) D.C.length (L + 1) era⟩ D B4.out ⟨_, rfl⟩ (HD.out.same S4.out) (fun k hk => Nat.lt_of_lt_of_le (HF.out k hk) S4.out.size) (fun h => by have := HF.out _ h; omega) O4.out.bytes hV4.out hE.out).mono ?_
      rintro en w5 ⟨sp', FS', rfl, K5, B5, I5, N5, D5, Y5⟩
      have hk5 := K5.size
      go_wp2_with fail
      go_ret2
      refine .inr ⟨H0.out, _, fun k => FS' k ∨ (w.heap.size ≤ k ∧ k < w4.heap.size), rfl, ?_, S4.out.keepOwn K5 (fun k hk => by subst hk; exact S3'.out.size), fun k hk => ?_⟩
      · rw [hvo.out]
        refine ⟨w3.heap.size, sp', _, FS', rfl, B5, I5, fun i hi => .inl hi, .inr ⟨S3'.out.size, by rw [hsz4.out]; omega⟩, fun h => by have := (N5 _ h).1; have := hsz4.out; omega, Y5, fun g hg => ?_, ?_⟩
        · have h1 := hO3.out g hg
          have h2 := hsz4.out
          exact ⟨.inr ⟨h1.1, by omega⟩, fun h => by have := (N5 g h).1; omega⟩
        · obtain ⟨o1, o2, o3, o4⟩ := hV4.out
          exact ⟨o1, o2, o3, o4⟩
      · rcases hk with hk | hk
        · have h1 := N5 k hk
          have h2 := S4.out.size
          exact ⟨by omega, h1.2⟩
        · exact ⟨hk.1, by omega⟩
end Go.Proofs.Ytlhnpicmjjddeaa
namespace Go.Proofs.Ytlhnpicmjjddeaa
open Go.RowKit

def Vt.append (V : Vt) (D : Dv) (b : List UInt8) : Int × Vt × Dv :=
  if V.ready D ≠ 0 then (9, V, D) else ((V.S.append D b).1, { V with S := (V.S.append D b).2.1, dead := V.dead || (V.S.append D b).1 == 9 }, (V.S.append D b).2.2)
def Vt.saved (V : Vt) (b : List UInt8) : Vt := { V with state := b, era := V.era + 1, life := V.life + 1 }
def Vt.compact (V : Vt) (D : Dv) (b : List UInt8) : Int × Vt × Dv :=
  if V.ready D ≠ 0 then (9, V, D)
  else if 16777214 ≤ V.life then (10, V, D)
  else if (D.save 0 V.each V.life (V.era + 1) b).1 ≠ 0 then ((D.save 0 V.each V.life (V.era + 1) b).1, { V with dead := V.dead || (D.save 0 V.each V.life (V.era + 1) b).1 == 9 }, (D.save 0 V.each V.life (V.era + 1) b).2)
  else (0, (V.saved b).turned (D.save 0 V.each V.life (V.era + 1) b).2, (D.save 0 V.each V.life (V.era + 1) b).2)
theorem ready_cases (V : Vt) (D : Dv) : V.ready D = 0 ∨ V.ready D = 9 := by
  unfold Vt.ready
  split
  · exact .inr rfl
  · exact .inl rfl
def RetV (r : Int × Vt × Dv) (v p : Value) (FD F : Nat → Prop) (w : World) (en : Ending) (w' : World) : Prop :=
  ∃ F', en = .returned (.int .i64 r.1) ∧ Keep (fun k => FD k ∨ F k) w w' ∧ IsDv w' p FD r.2.2 ∧ IsVt w' v p F' r.2.1 ∧ Grow F F' w w'
set_option maxHeartbeats 6400000 in
set_option maxRecDepth 100000 in
theorem vAppend (w : World) (v p u : Value) (FD F : Nat → Prop) (D : Dv) (V : Vt) (b : List UInt8) (e : TypeId) (hD : IsDv w p FD D) (hV : IsVt w v p F V) (hx : ∀ i, FD i → ¬ F i) (hF : ∀ k, FD k → k < w.heap.size) (hG : ∀ k, F k → k < w.heap.size)
    (hb : Bytes w e u b) (hl : b.length ≤ 20000) (hnb : ∀ g, homeOf u = some g → ¬ FD g) : Calls Try.prog 74 #[v, u] w (RetV (V.append D b) v p FD F w) := by
  have HR := hid (vReady w v p F FD V D hV hD)
  have HV := hid hV
  have HD := hid hD
  have HNt := hid vNote
  have HA0 : Hid (V.ready D ≠ 0 → V.append D b = (9, V, D)) := fun h => if_pos h
  have HA1 : Hid (V.ready D = 0 → V.append D b = ((V.S.append D b).1, { V with S := (V.S.append D b).2.1, dead := V.dead || (V.S.append D b).1 == 9 }, (V.S.append D b).2.2)) := fun h => if_neg (by rw [h]; exact fun x => x rfl)
  obtain ⟨vb, sp, sv, FS, rfl, hB, hS, h4, h5, h6, h7, h8, h9⟩ := hV
  have HAp := hid (fun w' (Z : Same w w') => cAppend w' sp p u FD FS D V.S b e (hD.same Z) (hS.same Z) (fun i hi hn => hx i hi (h4 i hn)) (fun k hk => Nat.lt_of_lt_of_le (hF k hk) Z.size) (hb.same Z) hl hnb)
  obtain ⟨pb, rfl⟩ := hD.ptr
  obtain ⟨sb, rfl⟩ := hS.ptr
  obtain ⟨au, cu, rfl, _, _⟩ := hb.form
  have HB := hid hB
  have H4 := hid h4
  have H5 := hid h5
  have H6 := hid h6
  have H7 := hid h7
  have H8 := hid h8
  have H9 := hid h9
  have Hx := hid hx
  have HG := hid hG
  have HF := hid hF
  clear hB hS h4 h5 h6 h7 h8 h9 hD hx hF hG hb hnb
  go_enter Try.func74, Try.ntmps74
  go_wp2_with fail
  refine HR.out.mono ?_
  rintro en w1 ⟨rfl, S1⟩
  have S1 := hid S1
  rcases ready_cases V D with hr | hr
  case inr =>
    have hz := hid (HA0.out (by rw [hr]; decide))
    rw [hr]
    clear hr
    go_wp2_with fail
    go_ret
    rw [hz.out]
    exact ⟨F, rfl, S1.out.keep _, HD.out.same S1.out, HV.out.same S1.out, Grow.refl _ _ _⟩
  have hz := hid (HA1.out hr)
  rw [hr]
  obtain ⟨c0, c1, c2, c3, c4, c5, c6⟩ := Box7.cells (HB.out.same S1.out)
  clear hr c1 c2 c3 c4 c5 c6 HA0 HA1
  go_wp2_with fail
  refine (HAp.out _ S1.out).mono ?_
  rintro en w2 ⟨FS2, rfl, K2, D2, I2, G2⟩
  generalize V.S.append D b = R at *
  obtain ⟨re, S', D'⟩ := R
  simp only at K2 D2 I2 hz
  have hvb : ¬ (FD vb ∨ FS vb) := fun h => by
    rcases h with h | h
    · exact Hx.out vb h H5.out
    · exact H6.out h
  have hnew : ∀ g, F g → ¬ FS g → ¬ FS2 g := fun g hg hn h2 => by
    rcases G2 g h2 with x | x
    · exact hn x
    · have h1 := HG.out g hg; have h3 := S1.out.size; omega
  have I3 : Hid (IsVt w2 (.pointer (some ⟨vb, 0, none⟩)) (.pointer (some ⟨pb, 0, none⟩)) (fun i => F i ∨ FS2 i) { V with S := S' }) := by
    refine ⟨vb, _, sv, FS2, rfl, Box7.keep (HB.out.same S1.out) K2 hvb, I2, fun i hi => .inr hi, .inl H5.out, hnew vb H5.out H6.out, (H7.out.same S1.out).keep K2 (fun g hg h => ?_), fun g hg => ⟨.inl (H8.out g hg).1, hnew g (H8.out g hg).1 (H8.out g hg).2⟩, ?_⟩
    · rcases h with h | h
      · exact Hx.out g h (H8.out g hg).1
      · exact (H8.out g hg).2 h
    · obtain ⟨o1, o2, o3, o4⟩ := H9.out
      exact ⟨o1, o2, o3, o4⟩
  have hG2 : Hid (Grow F (fun i => F i ∨ FS2 i) w w2) := fun i hi => by
    rcases hi with hi | hi
    · exact .inl hi
    · rcases G2 i hi with x | x
      · exact .inl (H4.out i x)
      · have h3 := S1.out.size; exact .inr ⟨by omega, x.2⟩
  have K2 : Hid (Keep (fun k => FD k ∨ F k) w w2) := (S1.out.keep _).trans (K2.weak' fun i hi => hi.imp id (H4.out i))
  have D2 := hid D2
  have hxx : Hid (∀ i, FD i → ¬ (F i ∨ FS2 i)) := fun i hi h => by
    rcases h with h | h
    · exact Hx.out i hi h
    · rcases G2 i h with x | x
      · exact Hx.out i hi (H4.out i x)
      · have h1 := HF.out i hi; have h3 := S1.out.size; omega
  clear G2 I2 hvb hnew
  go_wp2_with fail
  refine (HNt.out w2 _ _ _ _ re I3.out).mono ?_
  rintro en w3 ⟨rfl, K3, hk3, I4⟩
  have hD3 := hk3 FD D' D2.out hxx.out
  go_wp2_with fail
  go_ret
  rw [hz.out]
  refine ⟨fun i => F i ∨ FS2 i, rfl, K2.out.trans' K3 (fun i hi h => ?_), hD3, I4, fun i hi => ?_⟩
  · rcases h with h | h
    · exact .inr h
    · rcases hG2.out i (.inr h) with x | x
      · exact .inr x
      · omega
  · exact (hG2.out i hi).imp id fun x => ⟨x.1, Nat.lt_of_lt_of_le x.2 K3.size⟩

set_option maxHeartbeats 12800000 in
set_option maxRecDepth 100000 in
theorem vCompact (w : World) (v p u : Value) (FD F : Nat → Prop) (D : Dv) (V : Vt) (b : List UInt8) (e : TypeId) (hD : IsDv w p FD D) (hV : IsVt w v p F V) (hx : ∀ i, FD i → ¬ F i) (hF : ∀ k, FD k → k < w.heap.size) (hG : ∀ k, F k → k < w.heap.size)
    (hb : Bytes w e u b) (hl : b.length ≤ 20000) (hnb : ∀ g, homeOf u = some g → ¬ FD g)
    (hE : V.ready D = 0 → V.life < 16777214 → (D.save 0 V.each V.life (V.era + 1) b).1 = 0 → V.era + 1 ≤ 16777215 ∧ (D.save 0 V.each V.life (V.era + 1) b).2.openE (2 * V.each) (D.save 0 V.each V.life (V.era + 1) b).2.C.length (V.life + 1) (V.era + 1) = 0) :
    Calls Try.prog 75 #[v, u] w (RetV (V.compact D b) v p FD F w) := by
  have HR := hid (vReady w v p F FD V D hV hD)
  have HV := hid hV
  have HD := hid hD
  have HNt := hid vNote
  have HTn := hid vTurn
  have HBl := hid bClone
  have HA0 : Hid (V.ready D ≠ 0 → V.compact D b = (9, V, D)) := fun h => if_pos h
  have HA1 : Hid (V.ready D = 0 → 16777214 ≤ V.life → V.compact D b = (10, V, D)) := fun h h2 => by
    show _ = _
    unfold Vt.compact; rw [if_neg (by rw [h]; exact fun x => x rfl), if_pos h2]
  have HA2 : Hid (V.ready D = 0 → ¬ 16777214 ≤ V.life → (D.save 0 V.each V.life (V.era + 1) b).1 ≠ 0 → V.compact D b = ((D.save 0 V.each V.life (V.era + 1) b).1, { V with dead := V.dead || (D.save 0 V.each V.life (V.era + 1) b).1 == 9 }, (D.save 0 V.each V.life (V.era + 1) b).2)) := fun h h2 h3 => by
    show _ = _
    unfold Vt.compact; rw [if_neg (by rw [h]; exact fun x => x rfl), if_neg h2, if_pos h3]
  have HA3 : Hid (V.ready D = 0 → ¬ 16777214 ≤ V.life → (D.save 0 V.each V.life (V.era + 1) b).1 = 0 → V.compact D b = (0, (V.saved b).turned (D.save 0 V.each V.life (V.era + 1) b).2, (D.save 0 V.each V.life (V.era + 1) b).2)) := fun h h2 h3 => by
    show _ = _
    unfold Vt.compact; rw [if_neg (by rw [h]; exact fun x => x rfl), if_neg h2, if_neg (by rw [h3]; exact fun x => x rfl)]
  have HE := hid hE
  obtain ⟨vb, sp, sv, FS, rfl, hB, hS, h4, h5, h6, h7, h8, h9⟩ := hV
  have hoe := h9.each
  have hol := h9.life
  have hor := h9.era
  have HSv := hid (fun w' (Z : Same w w') => sSave w' p u FD D 0 V.each V.life (V.era + 1) b e (hD.same Z) (fun k hk => Nat.lt_of_lt_of_le (hF k hk) Z.size) (hb.same Z) (by omega) (by omega) (by omega))
  obtain ⟨pb, rfl⟩ := hD.ptr
  obtain ⟨sb, rfl⟩ := hS.ptr
  obtain ⟨au, cu, rfl, _, _⟩ := hb.form
  have HB := hid hB
  have HS := hid hS
  have H4 := hid h4
  have H5 := hid h5
  have H6 := hid h6
  have H7 := hid h7
  have H8 := hid h8
  have H9 := hid h9
  have Hx := hid hx
  have HG := hid hG
  have HF := hid hF
  have HBy := hid hb
  have HNb := hid hnb
  have Hl := hid hl
  clear hB hS h4 h5 h6 h7 h8 h9 hD hx hF hG hb hnb hE hl
  go_enter Try.func75, Try.ntmps75
  go_wp2_with fail
  refine HR.out.mono ?_
  rintro en w1 ⟨rfl, S1⟩
  have S1 := hid S1
  rcases ready_cases V D with hr | hr
  case inr =>
    have hz := hid (HA0.out (by rw [hr]; decide))
    rw [hr]
    clear hr
    go_wp2_with fail
    go_ret
    rw [hz.out]
    exact ⟨F, rfl, S1.out.keep _, HD.out.same S1.out, HV.out.same S1.out, Grow.refl _ _ _⟩
  have Hr := hid hr
  rw [hr]
  clear hr HA0
  obtain ⟨c0, c1, c2, c3, c4, c5, c6⟩ := Box7.cells (HB.out.same S1.out)
  by_cases hfl : 16777214 ≤ V.life
  case pos =>
    have hz := hid (HA1.out Hr.out hfl)
    have hd : decide (16777214 ≤ V.life) = true := by simpa using hfl
    clear hfl
    go_wp2_with fail
    go_ret
    rw [hz.out]
    exact ⟨F, rfl, S1.out.keep _, HD.out.same S1.out, HV.out.same S1.out, Grow.refl _ _ _⟩
  have hd : decide (16777214 ≤ V.life) = false := by simpa using hfl
  have HA2' := hid (HA2.out Hr.out (by omega))
  have HA3' := hid (HA3.out Hr.out (by omega))
  have HE' := hid (HE.out Hr.out (by omega))
  have HSk := hid (HSv.out w1.drew S1.out.drew)
  have hw1 : IntKind.i64.wrap (V.era + 1) = V.era + 1 := by rw [IntKind.wrap_i64]; omega
  have hw2 : IntKind.i64.wrap (V.life + 1) = V.life + 1 := by rw [IntKind.wrap_i64]; omega
  have hvb : Hid (¬ FD vb) := fun h => Hx.out vb h H5.out
  have hlt := hfl
  clear hfl HA1 HA2 HA3 HE HSv HR
  generalize D.save 0 V.each V.life (V.era + 1) b = R at *
  obtain ⟨re, D'⟩ := R
  simp only at HA2' HA3' HE'
  go_wp2_with fail
  go_region_held3 (fun w' => w'.cell? ⟨vb, 1, none⟩ = some (.pointer (some ⟨pb, 0, none⟩)) ∧ w'.cell? ⟨vb, 2, none⟩ = some (.int .i64 V.each) ∧ w'.cell? ⟨vb, 3, none⟩ = some (.int .i64 V.life) ∧ w'.cell? ⟨vb, 4, none⟩ = some (.int .i64 V.era))
    (first | with_reducible exact ⟨by assumption, by assumption, by assumption, by assumption⟩ | go_keep)
    (first | (go_at_call 56; (with_reducible refine HSk.out.mono ?_); rintro en w2 ⟨rfl, K2, D2⟩; obtain ⟨m0, m1, m2, m3, m4, m5, m6⟩ := Box7.cells (Box7.keep (HB.out.same S1.out.drew) K2 hvb.out)))
  have K2 := hid ((S1.out.drew.keep FD).trans K2)
  have D2 := hid D2
  have hsb : ∀ i, FS i → ¬ FD i := fun i hi hn => Hx.out i hn (H4.out i hi)
  have I2 : Hid (IsVt w2 (.pointer (some ⟨vb, 0, none⟩)) (.pointer (some ⟨pb, 0, none⟩)) F V) := HV.out.keep K2.out (fun i hi hn => Hx.out i hn hi)
  have B2 := hid (Box7.keep HB.out K2.out hvb.out)
  clear c0 c1 c2 c3 c4 c5 c6 HSk hsb
  by_cases hre : re = 0
  case neg =>
    have hz := hid (HA2'.out hre)
    have hnz : (re != 0) = true := by rw [bne_iff_ne]; exact hre
    clear hre HA2' HA3' HE'
    go_wp2_with fail
    refine (HNt.out w2 _ _ _ _ re I2.out).mono ?_
    rintro en w3 ⟨rfl, K3, hk3, I3⟩
    have hD3 := hk3 FD D' D2.out Hx.out
    go_wp2_with fail
    go_ret
    rw [hz.out]
    exact ⟨F, rfl, (K2.out.weak' fun i hi => .inl hi).trans (K3.weak' fun i hi => .inr hi), hD3, I3, Grow.refl _ _ _⟩
  subst hre
  have hz := hid (HA3'.out rfl)
  obtain ⟨hE1, hE2⟩ := HE'.out rfl
  have hE2 := hid hE2
  clear HA2' HA3' HE' m0 m1 m2 m5 m6
  go_upto_region 9 with fail
  have B7 := B2
  have HCl := hid (HBl.out w2.drew e _ b ((HBy.out.keep K2.out HNb.out).same (Same.refl w2).drew) (show b.length ≤ 1000000 by have := Hl.out; omega))
  obtain ⟨SS, hSS⟩ : ∃ SS : Bool → World → Prop, ∀ bz wz, SS bz wz ↔ (bz = false → wz.cell? ⟨vb, 4, none⟩ = some (.int .i64 V.era) ∧ wz.cell? ⟨vb, 3, none⟩ = some (.int .i64 V.life)) := ⟨_, fun _ _ => Iff.rfl⟩
  have HSS := hid hSS
  clear hSS
  generalize w2 = w7 at *
  refine wp_region_B 17 SS (by kernel_rfl) ((HSS.out _ _).2 fun _ => ⟨m4, m3⟩) (fun hHeld => ?_)
  clear m3 m4
  refine' wpAnyB_take (i := 0) (b := false) rfl (by kernel_rfl) (by kernel_rfl) (by kernel_rfl) (by decide) (by kernel_rfl) (fun _ _ _ h => h) (by assumption) (.inl ⟨by rfl, ?_⟩) ?_
  rotate_left
  · (intro wz hSw; go_simp; try with_reducible rfl)
  try simp only [Act.put, List.setIfInBounds_toArray, List.set_cons_zero, List.set_cons_succ]
  refine' wpAnyB_take (i := 1) (b := false) rfl (by kernel_rfl) (by kernel_rfl) (by kernel_rfl) (by decide) (by kernel_rfl) (fun _ _ _ h => h) (by assumption) (.inl ⟨by rfl, ?_⟩) ?_
  rotate_left
  · (intro wz hSw; go_simp; try with_reducible rfl)
  try simp only [Act.put, List.setIfInBounds_toArray, List.set_cons_zero, List.set_cons_succ]
  refine' wpAnyB_take (i := 2) (b := false) rfl (by kernel_rfl) (by kernel_rfl) (by kernel_rfl) (by decide) (by kernel_rfl) (fun _ _ _ h => h) (by assumption) (.inl ⟨by rfl, ?_⟩) ?_
  rotate_left
  · (intro wz hSw; go_simp; try with_reducible rfl)
  try simp only [Act.put, List.setIfInBounds_toArray, List.set_cons_zero, List.set_cons_succ]
  refine' wpAnyB_take (i := 3) (b := false) rfl (by kernel_rfl) (by kernel_rfl) (by kernel_rfl) (by decide) (by kernel_rfl) (fun _ _ _ h => h) (by assumption) (.inl ⟨by rfl, ?_⟩) ?_
  rotate_left
  · (intro wz hSw; go_simp; try with_reducible rfl)
  try simp only [Act.put, List.setIfInBounds_toArray, List.set_cons_zero, List.set_cons_succ]
  refine' wpAnyB_take (i := 5) (b := false) rfl (by kernel_rfl) (by kernel_rfl) (by kernel_rfl) (by decide) (by kernel_rfl) (fun _ _ _ h => h) (by assumption) (.inl ⟨by rfl, ?_⟩) ?_
  rotate_left
  · (intro wz hSw; go_simp; try with_reducible rfl)
  try simp only [Act.put, List.setIfInBounds_toArray, List.set_cons_zero, List.set_cons_succ]
  refine' wpAnyB_take (i := 6) (b := false) rfl (by kernel_rfl) (by kernel_rfl) (by kernel_rfl) (by decide) (by kernel_rfl) (fun _ _ _ h => h) (by assumption) (.inl ⟨by rfl, ?_⟩) ?_
  rotate_left
  · (intro wz hSw; go_simp; try with_reducible rfl)
  try simp only [Act.put, List.setIfInBounds_toArray, List.set_cons_zero, List.set_cons_succ]
  refine' wpAnyB_take (i := 7) (b := false) rfl (by kernel_rfl) (by kernel_rfl) (by kernel_rfl) (by decide) (by kernel_rfl) (fun _ _ _ h => h) (by assumption) (.inl ⟨by rfl, ?_⟩) ?_
  rotate_left
  · (intro wz hSw; go_simp; try with_reducible rfl)
  try simp only [Act.put, List.setIfInBounds_toArray, List.set_cons_zero, List.set_cons_succ]
  refine' wpAnyB_early (i := 8) rfl (by kernel_rfl) (by kernel_rfl) (by kernel_rfl) (by decide) (by kernel_rfl) (by kernel_rfl) (fun _ _ _ h => h) (by assumption) (.inl ⟨by rfl, ?_⟩) ?_
  rotate_left
  · (intro wz hSw; obtain ⟨h4, h3⟩ := (HSS.out _ _).1 hSw rfl; go_simp; try with_reducible rfl)
  try simp only [Act.put, List.setIfInBounds_toArray, List.set_cons_zero, List.set_cons_succ]
  refine' wpAnyB_take (i := 9) (b := false) rfl (by kernel_rfl) (by kernel_rfl) (by kernel_rfl) (by decide) (by kernel_rfl) (fun _ _ _ h => h) (by assumption) (.inl ⟨by rfl, ?_⟩) ?_
  rotate_left
  · (intro wz hSw; go_simp; try with_reducible rfl)
  try simp only [Act.put, List.setIfInBounds_toArray, List.set_cons_zero, List.set_cons_succ]
  refine' wpAnyB_take (i := 10) (b := false) rfl (by kernel_rfl) (by kernel_rfl) (by kernel_rfl) (by decide) (by kernel_rfl) (fun _ _ _ h => h) (by assumption) (.inl ⟨by rfl, ?_⟩) ?_
  rotate_left
  · (intro wz hSw; go_simp; try with_reducible rfl)
  try simp only [Act.put, List.setIfInBounds_toArray, List.set_cons_zero, List.set_cons_succ]
  refine' wpAnyB_take (i := 11) (b := false) rfl (by kernel_rfl) (by kernel_rfl) (by kernel_rfl) (by decide) (by kernel_rfl) (fun _ _ _ h => h) (by assumption) (.inl ⟨by rfl, ?_⟩) ?_
  rotate_left
  · (intro wz hSw; go_simp; try with_reducible rfl)
  try simp only [Act.put, List.setIfInBounds_toArray, List.set_cons_zero, List.set_cons_succ]
  refine' wpAnyB_take (i := 12) (b := false) rfl (by kernel_rfl) (by kernel_rfl) (by kernel_rfl) (by decide) (by kernel_rfl) (fun _ _ _ h => h) (by assumption) (.inl ⟨by rfl, ?_⟩) ?_
  rotate_left
  · (intro wz hSw; go_simp; try with_reducible rfl)
  try simp only [Act.put, List.setIfInBounds_toArray, List.set_cons_zero, List.set_cons_succ]
  refine' wpAnyB_early (i := 13) rfl (by kernel_rfl) (by kernel_rfl) (by kernel_rfl) (by decide) (by kernel_rfl) (by kernel_rfl) (fun _ _ _ h => h) (by assumption) (.inl ⟨by rfl, ?_⟩) ?_
  rotate_left
  · (intro wz hSw; obtain ⟨h4, h3⟩ := (HSS.out _ _).1 hSw rfl; go_simp; try with_reducible rfl)
  try simp only [Act.put, List.setIfInBounds_toArray, List.set_cons_zero, List.set_cons_succ]
  refine' wpAnyB_take (i := 14) (b := false) rfl (by kernel_rfl) (by kernel_rfl) (by kernel_rfl) (by decide) (by kernel_rfl) (fun _ _ _ h => h) (by assumption) (.inl ⟨by rfl, ?_⟩) ?_
  rotate_left
  · (intro wz hSw; go_simp; try with_reducible rfl)
  try simp only [Act.put, List.setIfInBounds_toArray, List.set_cons_zero, List.set_cons_succ]
  refine wpAnyB_only (i := 4) (b := false) rfl (by kernel_rfl) (by kernel_rfl) (fun K hK => ?_)
  go_simp
  go_at_call 99
  refine HCl.out.mono ?_
  rintro en w8 ⟨v8, rfl, O8, Z8⟩
  obtain ⟨a8, q8, rfl, _, _⟩ := O8.bytes.form
  have O8 := hid O8
  have Z8 := hid ((Same.refl w7).drew.trans Z8)
  have B8 := hid (B7.out.same Z8.out)
  obtain ⟨c0, c1, c2, c3, c4, c5, c6⟩ := Box7.cells B8.out
  have z5 := Box7.free B8.out 5
  have z4 := Box7.free B8.out 4
  have z3 := Box7.free B8.out 3
  refine hK.out _ _ ((HSS.out _ _).2 fun _ => ⟨c4, c3⟩) (fun hHeld => ?_)
  clear hK K
  try simp only [Act.put, List.setIfInBounds_toArray, List.set_cons_zero, List.set_cons_succ]
  refine' wpAnyB_take (i := 15) (b := false) rfl (by kernel_rfl) (by kernel_rfl) (by kernel_rfl) (by decide) (by kernel_rfl) (fun _ _ _ h => h) (by assumption) (.inl ⟨by rfl, ?_⟩) ?_
  rotate_left
  · (intro wz hSw; go_simp; try with_reducible rfl)
  try simp only [Act.put, List.setIfInBounds_toArray, List.set_cons_zero, List.set_cons_succ]
  refine' wpAnyB_take (i := 16) (b := false) rfl (by kernel_rfl) (by kernel_rfl) (by kernel_rfl) (by decide) (by kernel_rfl) (fun _ _ _ h => h) (by assumption) (.inl ⟨by rfl, ?_⟩) ?_
  rotate_left
  · (intro wz hSw; go_simp; try with_reducible rfl)
  try simp only [Act.put, List.setIfInBounds_toArray, List.set_cons_zero, List.set_cons_succ]
  refine wpAnyB_only (i := 17) (b := true) rfl (by kernel_rfl) (by kernel_rfl) (fun K hK => ?_)
  go_simp
  refine hK.out _ _ ((HSS.out _ _).2 fun h => Bool.noConfusion h) (fun hHeld => ?_)
  clear hK K
  try simp only [Act.put, List.setIfInBounds_toArray, List.set_cons_zero, List.set_cons_succ]
  refine' wpAnyB_take (i := 18) (b := true) rfl (by kernel_rfl) (by kernel_rfl) (by kernel_rfl) (by decide) (by kernel_rfl) (fun _ _ _ h => h) (by assumption) (.inl ⟨by rfl, ?_⟩) ?_
  rotate_left
  · (intro wz hSw; go_simp; try with_reducible rfl)
  try simp only [Act.put, List.setIfInBounds_toArray, List.set_cons_zero, List.set_cons_succ]
  refine' wpAnyB_take (i := 19) (b := true) rfl (by kernel_rfl) (by kernel_rfl) (by kernel_rfl) (by decide) (by kernel_rfl) (fun _ _ _ h => h) (by assumption) (.inl ⟨by rfl, ?_⟩) ?_
  rotate_left
  · (intro wz hSw; go_simp; try with_reducible rfl)
  try simp only [Act.put, List.setIfInBounds_toArray, List.set_cons_zero, List.set_cons_succ]
  refine wpAnyB_only (i := 20) (b := true) rfl (by kernel_rfl) (by kernel_rfl) (fun K hK => ?_)
  go_simp
  refine hK.out _ _ ((HSS.out _ _).2 fun h => Bool.noConfusion h) (fun hHeld => ?_)
  clear hK K
  try simp only [Act.put, List.setIfInBounds_toArray, List.set_cons_zero, List.set_cons_succ]
  refine' wpAnyB_take (i := 21) (b := true) rfl (by kernel_rfl) (by kernel_rfl) (by kernel_rfl) (by decide) (by kernel_rfl) (fun _ _ _ h => h) (by assumption) (.inl ⟨by rfl, ?_⟩) ?_
  rotate_left
  · (intro wz hSw; go_simp; try with_reducible rfl)
  try simp only [Act.put, List.setIfInBounds_toArray, List.set_cons_zero, List.set_cons_succ]
  refine' wpAnyB_take (i := 22) (b := true) rfl (by kernel_rfl) (by kernel_rfl) (by kernel_rfl) (by decide) (by kernel_rfl) (fun _ _ _ h => h) (by assumption) (.inl ⟨by rfl, ?_⟩) ?_
  rotate_left
  · (intro wz hSw; go_simp; try with_reducible rfl)
  try simp only [Act.put, List.setIfInBounds_toArray, List.set_cons_zero, List.set_cons_succ]
  refine wpAnyB_only (i := 23) (b := true) rfl (by kernel_rfl) (by kernel_rfl) (fun K hK => ?_)
  go_simp
  refine hK.out _ _ ((HSS.out _ _).2 fun h => Bool.noConfusion h) (fun hHeld => ?_)
  clear hK K
  try simp only [Act.put, List.setIfInBounds_toArray, List.set_cons_zero, List.set_cons_succ]
  refine wpAnyB_done (by kernel_rfl) ?_ _
  clear c0 c1 c2 c3 c4 c5 c6 z3 z4 z5
  have K9 : Keep (fun k => k = vb) w8 (((w8.setCell ⟨vb, 5, none⟩ (.slice a8 b.length q8)).setCell ⟨vb, 4, none⟩ (.int .i64 (V.era + 1))).setCell ⟨vb, 3, none⟩ (.int .i64 (V.life + 1))) :=
    (((Keep.refl (fun k => k = vb) w8).setCell (p := ⟨vb, 5, none⟩) (.inl rfl) _).setCell (p := ⟨vb, 4, none⟩) (.inl rfl) _).setCell (p := ⟨vb, 3, none⟩) (.inl rfl) _
  have K9 := hid K9
  have B9 := hid (Box7.set543 B8.out (.slice a8 b.length q8) (.int .i64 (V.era + 1)) (.int .i64 (V.life + 1)))
  have hz7 := K2.out.size
  have hz8 := Z8.out.size
  have hz9 := K9.out.size
  have D9 := hid ((D2.out.same Z8.out).keep K9.out (fun i hi e => by subst e; exact hvb.out hi))
  have Y9 := hid (O8.out.bytes.keep K9.out (fun g hg e => O8.out.bytes.apart7 B8.out (by rw [hg, e])))
  have hO8 : Hid (∀ g, homeOf (.slice a8 b.length q8) = some g → w.heap.size ≤ g ∧ g < w8.heap.size) := fun g hg => by
    have h1 := O8.out.lt g (home_own hg)
    simp at h1
    exact ⟨by omega, h1.2⟩
  go_wp2_with fail
  generalize (((w8.setCell ⟨vb, 5, none⟩ (.slice a8 b.length q8)).setCell ⟨vb, 4, none⟩ (.int .i64 (V.era + 1))).setCell ⟨vb, 3, none⟩ (.int .i64 (V.life + 1))) = w9 at *
  have hok9 : Hid (Vt.Ok (V.saved b)) := ⟨hoe, ⟨by show 1 ≤ V.life + 1; omega, by show V.life + 1 ≤ 16777214; omega⟩, ⟨by show 0 ≤ V.era + 1; omega, hE1⟩, by show b.length ≤ 30000; have := Hl.out; omega⟩
  refine (HTn.out w9 vb _ _ _ FD (V.saved b) D' B9.out ⟨_, rfl⟩ D9.out (fun k hk => by have := HF.out k hk; omega) hvb.out Y9.out hok9.out hE2.out).mono ?_
  rintro en w10 ⟨sp', FS', rfl, K10, B10, I10, N10, D10, Y10⟩
  have hz10 := K10.size
  go_wp2_with fail
  go_ret
  rw [hz.out]
  refine ⟨fun i => F i ∨ FS' i ∨ (w.heap.size ≤ i ∧ i < w10.heap.size), rfl, ?_, D10, ⟨vb, sp', _, FS', rfl, B10, I10, fun i hi => .inr (.inl hi), .inl H5.out, fun h => ?_, Y10, fun g hg => ?_, ?_⟩, fun i hi => ?_⟩
  · exact (((K2.out.weak' fun i hi => .inl hi).trans (Z8.out.keep _)).trans (K9.out.weak' fun i hi => by subst hi; exact .inr H5.out)).trans (K10.weak' fun i hi => by subst hi; exact .inr H5.out)
  · have h1 := (N10 _ h).1; have h2 := HG.out vb H5.out; omega
  · have h1 := hO8.out g hg
    exact ⟨.inr (.inr ⟨h1.1, by omega⟩), fun h => by have h2 := (N10 _ h).1; omega⟩
  · obtain ⟨o1, o2, o3, o4⟩ := hok9.out
    exact ⟨o1, o2, o3, o4⟩
  · rcases hi with hi | hi | hi
    · exact .inl hi
    · have h1 := N10 i hi; exact .inr ⟨by omega, h1.2⟩
    · exact .inr hi
end Go.Proofs.Ytlhnpicmjjddeaa
namespace Go.Proofs.Ytlhnpicmjjddeaa
open Go.RowKit

/-- a reference's vault: a box of seven cells -/
def BoxV (w : World) (b : Nat) (c0 c1 c2 c3 c4 c5 c6 : Value) : Prop := w.heap[b]? = some (.cells #[c0, c1, c2, c3, c4, c5, c6] 134 (0, 0))
section
variable {w w' : World} {b : Nat} {c0 c1 c2 c3 c4 c5 c6 : Value}
theorem BoxV.lt (h : BoxV w b c0 c1 c2 c3 c4 c5 c6) : b < w.heap.size := (Array.getElem?_eq_some_iff.1 h).1
theorem BoxV.keep {M : Nat → Prop} (h : BoxV w b c0 c1 c2 c3 c4 c5 c6) (K : Keep M w w') (hm : ¬ M b) : BoxV w' b c0 c1 c2 c3 c4 c5 c6 := (K.block b h.lt hm).trans h
theorem BoxV.same (h : BoxV w b c0 c1 c2 c3 c4 c5 c6) (S : Same w w') : BoxV w' b c0 c1 c2 c3 c4 c5 c6 := h.keep S fun x => x
theorem BoxV.new (w : World) (c0 c1 c2 c3 c4 c5 c6 : Value) : BoxV (w.alloc (.cells #[c0, c1, c2, c3, c4, c5, c6] 134)) w.heap.size c0 c1 c2 c3 c4 c5 c6 := heap_alloc_new w _
theorem BoxV.cells (h : BoxV w b c0 c1 c2 c3 c4 c5 c6) :
    w.cell? ⟨b, 0, none⟩ = some c0 ∧ w.cell? ⟨b, 1, none⟩ = some c1 ∧ w.cell? ⟨b, 2, none⟩ = some c2 ∧ w.cell? ⟨b, 3, none⟩ = some c3 ∧ w.cell? ⟨b, 4, none⟩ = some c4 ∧ w.cell? ⟨b, 5, none⟩ = some c5 ∧ w.cell? ⟨b, 6, none⟩ = some c6 := by
  refine ⟨?_, ?_, ?_, ?_, ?_, ?_, ?_⟩
  all_goals (rw [cell_of_row w b _ _ 134 _ h]; rfl)
theorem BoxV.free (h : BoxV w b c0 c1 c2 c3 c4 c5 c6) (o : Nat) : w.frozen? ⟨b, o, none⟩ = false := by
  unfold World.frozen?
  rw [h]
  by_cases h0 : 0 ≤ o <;> simp
theorem BoxV.set2 (h : BoxV w b c0 c1 c2 c3 c4 c5 c6) (u : Value) : BoxV (w.setCell ⟨b, 2, none⟩ u) b c0 c1 u c3 c4 c5 c6 := heap_setCell_same w b 2 _ 134 u h
theorem BoxV.set3 (h : BoxV w b c0 c1 c2 c3 c4 c5 c6) (u : Value) : BoxV (w.setCell ⟨b, 3, none⟩ u) b c0 c1 c2 u c4 c5 c6 := heap_setCell_same w b 3 _ 134 u h
theorem BoxV.set4 (h : BoxV w b c0 c1 c2 c3 c4 c5 c6) (u : Value) : BoxV (w.setCell ⟨b, 4, none⟩ u) b c0 c1 c2 c3 u c5 c6 := heap_setCell_same w b 4 _ 134 u h
theorem BoxV.set5 (h : BoxV w b c0 c1 c2 c3 c4 c5 c6) (u : Value) : BoxV (w.setCell ⟨b, 5, none⟩ u) b c0 c1 c2 c3 c4 u c6 := heap_setCell_same w b 5 _ 134 u h
theorem BoxV.set6 (h : BoxV w b c0 c1 c2 c3 c4 c5 c6) (u : Value) : BoxV (w.setCell ⟨b, 6, none⟩ u) b c0 c1 c2 c3 c4 c5 u := heap_setCell_same w b 6 _ 134 u h
end
/-- The pointer v is a reference's vault of the drive p that reads as V; it is written in F alone, its bytes lie in N. -/
def IsRv (w : World) (v p : Value) (F N : Nat → Prop) (V : Vt) : Prop :=
  ∃ b sp sv FS e, v = .pointer (some ⟨b, 0, none⟩) ∧ BoxV w b p (.int .i64 V.each) (.int .i64 V.life) (.int .i64 V.era) sv sp (.bool V.dead) ∧ IsRs w sp p FS N V.S ∧ (∀ i, FS i → F i) ∧ F b ∧ ¬ FS b ∧ Bytes w e sv V.state ∧ (∀ g, homeOf sv = some g → N g) ∧ ∀ g, N g → ¬ F g
theorem IsRv.keep {w w' : World} {v p : Value} {F N M : Nat → Prop} {V : Vt} (h : IsRv w v p F N V) (k : Keep M w w') (hd : ∀ i, F i → ¬ M i) (hn : ∀ i, N i → ¬ M i) : IsRv w' v p F N V :=
  let ⟨b, sp, sv, FS, e, h1, h2, h3, h4, h5, h6, h7, h8, h9⟩ := h
  ⟨b, sp, sv, FS, e, h1, h2.keep k (hd b h5), h3.keep k (fun i hi => hd i (h4 i hi)) hn, h4, h5, h6, h7.keep k (fun g hg => hn g (h8 g hg)), h8, h9⟩
theorem IsRv.same {w w' : World} {v p : Value} {F N : Nat → Prop} {V : Vt} (h : IsRv w v p F N V) (k : Same w w') : IsRv w' v p F N V := h.keep k (fun _ _ x => x) fun _ _ x => x
theorem IsRv.ptr {w : World} {v p : Value} {F N : Nat → Prop} {V : Vt} (h : IsRv w v p F N V) : ∃ b, v = .pointer (some ⟨b, 0, none⟩) := let ⟨b, _, _, _, _, h1, _⟩ := h; ⟨b, h1⟩
/-- what Open of the reference leaves -/
def RetVOpenR (D : Dv) (p : Value) (each : Int) (w : World) (en : Ending) (w' : World) : Prop :=
  (D.vopenE each ≠ 0 ∧ en = .returned (.tuple #[.pointer none, .int .i64 (D.vopenE each)]) ∧ Same w w') ∨
  (D.vopenE each = 0 ∧ ∃ v F N, en = .returned (.tuple #[v, .int .i64 0]) ∧ IsRv w' v p F N (D.vopened each) ∧ Same w w' ∧ Bnd F w.heap.size w'.heap.size ∧ Bnd N w.heap.size w'.heap.size)
set_option maxHeartbeats 6400000 in
set_option maxRecDepth 100000 in
theorem rvOpen (w : World) (p : Value) (F : Nat → Prop) (D : Dv) (each : Int) (hD : IsRd w p F D) (hb : -9223372036854775808 ≤ each ∧ each ≤ 9223372036854775807) : Calls Try.prog 80 #[p, .int .i64 each] w (RetVOpenR D p each w) := by
  have hl := hD.ok.1
  have hln : (D.C.length : Int) ≤ 2048 := by omega
  have HLd := hid (fun w' (Z : Same w w') => rLoad w' p F D 0 each (hD.same Z) hb)
  have HOp := hid (fun w' (Z : Same w w') (a b life era : Int) => rOpen w' p F D a b life era (hD.same Z))
  obtain ⟨pb, rv, fz, kv, ks, n, rfl, h1, h2, h3, h4, h5, h6, h7, h8⟩ := hD
  obtain ⟨ra, rc, rfl, _, _⟩ := h3.rows.form
  have HN := hid (show Calls Try.prog 68 #[.pointer (some ⟨pb, 0, none⟩), .int .i64 0, .int .i64 D.C.length] w (RetSame (.int .i64 (D.newest 0 D.C.length)) w) from by
    have e : D.newest 0 D.C.length = D.most 0 D.C.length := by
      have g1 : D.within 0 D.C.length = true := decide_eq_true ⟨by omega, by omega, by omega⟩
      unfold Dv.newest
      rw [if_pos g1, show ((D.C.length : Int) - 0).toNat = D.C.length from by omega]
    rw [e]
    exact rNewest w pb _ _ _ _ _ D 0 D.C.length h1 h3.rows (by omega) (by omega) hl)
  have HE0 : Hid (D.vopenE each = if each < 1 ∨ (D.C.length : Int) ≤ each ∨ (D.C.length : Int) ≤ 2 * each then 2 else if 16777214 ≤ D.newest 0 D.C.length then 10 else 0) := rfl
  have HVo : Hid (D.vopened each = ⟨each, D.newest 0 D.C.length + 1, (D.loadR 0 each).1, (D.loadR 0 each).2.1, false, D.opened (2 * each) D.C.length (D.newest 0 D.C.length + 1) (D.loadR 0 each).1⟩) := rfl
  have HTn := hid (@vopen_turn D each)
  have HNo : Hid (∀ r : Int, D.vopenE each = r → r ≠ 0 → ∀ w', Same w w' → RetVOpenR D (.pointer (some ⟨pb, 0, none⟩)) each w (.returned (.tuple #[.pointer none, .int .i64 r])) w') := fun r h hr w' Z => by subst h; exact .inl ⟨hr, rfl, Z⟩
  have hnb := newest_bound D 0 D.C.length
  obtain ⟨c0, c1, c2, c3, c4⟩ := h1.cells
  clear h1 h2 h3 h4 h5 h6 h7 h8
  generalize D.newest 0 D.C.length = nw at *
  by_cases g0 : each < 1
  case pos =>
    have HZ := hid (HNo.out 2 (by rw [HE0.out, if_pos (.inl g0)]) (by decide) w (Same.refl w))
    have d0 : decide (each < 1) = true := decide_eq_true g0
    clear g0
    go_enter Try.func80, Try.ntmps80
    go_wp2_with fail
    go_ret2
    exact HZ.out
  have d0 : decide (each < 1) = false := decide_eq_false g0
  by_cases g1 : (D.C.length : Int) ≤ each
  case pos =>
    have HZ := hid (HNo.out 2 (by rw [HE0.out, if_pos (.inr (.inl g1))]) (by decide) w (Same.refl w))
    have d1 : decide ((D.C.length : Int) ≤ each) = true := decide_eq_true g1
    clear g0 g1
    go_enter Try.func80, Try.ntmps80
    go_wp2_with fail
    go_ret2
    exact HZ.out
  have d1 : decide ((D.C.length : Int) ≤ each) = false := decide_eq_false g1
  have b1 : 1 ≤ each := by omega
  have b2 : each ≤ 2048 := by omega
  by_cases g2 : (D.C.length : Int) ≤ 2 * each
  case pos =>
    have HZ := hid (HNo.out 2 (by rw [HE0.out, if_pos (.inr (.inr g2))]) (by decide) w (Same.refl w))
    have d2 : decide ((D.C.length : Int) ≤ 2 * each) = true := decide_eq_true g2
    clear g0 g1 g2
    go_enter Try.func80, Try.ntmps80
    go_wp2_with fail
    go_ret2
    exact HZ.out
  have d2 : decide ((D.C.length : Int) ≤ 2 * each) = false := decide_eq_false g2
  rw [if_neg (by omega)] at HE0
  by_cases g3 : 16777214 ≤ nw
  case pos =>
    have HZ := hid (HNo.out 10 (by rw [HE0.out, if_pos g3]) (by decide))
    have d3 : decide (16777214 ≤ nw) = true := decide_eq_true g3
    clear g0 g1 g2 g3
    go_enter Try.func80, Try.ntmps80
    go_wp2_with fail
    refine HN.out.mono ?_
    rintro en w1 ⟨rfl, S1⟩
    have S1 := hid S1
    go_wp2_with fail
    go_ret2
    exact HZ.out _ S1.out
  have d3 : decide (16777214 ≤ nw) = false := decide_eq_false g3
  rw [if_neg g3] at HE0
  have HT := hid (HTn.out HE0.out)
  have hnw : 0 ≤ nw ∧ nw ≤ 16777215 := hnb
  have hnw1 := hnw.1
  have hnw2 := hnw.2
  clear g0 g1 g2 g3 HNo HTn hnb hnw
  go_enter Try.func80, Try.ntmps80
  go_wp2_with fail
  refine HN.out.mono ?_
  rintro en w1 ⟨rfl, S1⟩
  have S1 := hid S1
  go_wp2_with fail
  refine (HLd.out _ S1.out).mono ?_
  rintro en w2 ⟨v2, rfl, O2, S2⟩
  obtain ⟨a2, q2, rfl, _, _⟩ := O2.bytes.form
  have O2 := hid O2
  have S2 := hid (S1.out.trans S2)
  have HLo := hid O2.out.lt
  clear c0 c1 c2 c3 c4
  generalize hR : D.loadR 0 each = R at *
  obtain ⟨er, st, re⟩ := R
  simp only at *
  have BV := hid (BoxV.new w2 (.pointer (some ⟨pb, 0, none⟩)) (.int .i64 each) (.int .i64 (nw + 1)) (.int .i64 er) (.slice a2 st.length q2) (.pointer none) (.bool false))
  have S3 := hid ((Same.refl w2).alloc (.cells #[.pointer (some ⟨pb, 0, none⟩), .int .i64 each, .int .i64 (nw + 1), .int .i64 er, .slice a2 st.length q2, .pointer none, .bool false] 134))
  have hz3 : (w2.alloc (.cells #[.pointer (some ⟨pb, 0, none⟩), .int .i64 each, .int .i64 (nw + 1), .int .i64 er, .slice a2 st.length q2, .pointer none, .bool false] 134)).heap.size = w2.heap.size + 1 := by simp
  have Hz3 := hid hz3
  clear hz3
  go_upto_region 9 with fail
  generalize w2.alloc (.cells #[.pointer (some ⟨pb, 0, none⟩), .int .i64 each, .int .i64 (nw + 1), .int .i64 er, .slice a2 st.length q2, .pointer none, .bool false] 134) = w3 at *
  have HOk := hid (HOp.out w3 (S2.out.trans S3.out) (2 * each) D.C.length (nw + 1) er)
  have hb2 : w2.heap.size < w3.heap.size := by rw [Hz3.out]; omega
  have Hb2 := hid hb2
  clear hb2 Hz3
  generalize hbx : w2.heap.size = bx at *
  have Hbx := hid hbx
  clear hbx
  obtain ⟨y0, y1, y2, y3, y4, y5, y6⟩ := BV.out.cells
  go_wp2_with fail
  refine HOk.out.mono ?_
  rintro en w4 (⟨e, _⟩ | ⟨_, s, FS, NS, rfl, I4, S4, B4, N4⟩)
  · have h0 := HT.out
    rw [e] at h0
    cases h0
  obtain ⟨sb, rfl⟩ := I4.ptr
  have B5 := hid (BV.out.same S4)
  have z5 := B5.out.free 5
  obtain ⟨x0, x1, x2, x3, x4, x5, x6⟩ := B5.out.cells
  have X4 := hid (And.intro I4 (And.intro S4 (And.intro B4 N4)))
  clear I4 S4 B4 N4 y0 y1 y2 y3 y4 y5 y6
  go_wp2_with fail
  go_ret2
  obtain ⟨I4, S4, B4, N4⟩ := X4.out
  have K : Keep (fun k => k = bx) w4 (w4.setCell ⟨bx, 5, none⟩ (.pointer (some ⟨sb, 0, none⟩))) := (Keep.refl (fun k => k = bx) w4).setCell (p := ⟨bx, 5, none⟩) (.inl rfl) _
  have hsz : (w4.setCell ⟨bx, 5, none⟩ (.pointer (some ⟨sb, 0, none⟩))).heap.size = w4.heap.size := by simp
  have hb2 := Hb2.out
  have hs4 := S4.size
  have hs2 := S2.out.size
  rw [Hbx.out] at hs2
  have hol : ∀ g, homeOf (.slice a2 st.length q2) = some g → w.heap.size ≤ g ∧ g < bx := fun g hg => by
    have h1 := HLo.out g (home_own hg)
    have h2 := S1.out.size
    omega
  have hbw : ∀ i, FS i → i ≠ bx := fun i hi e => by have := (B4 i hi).1; omega
  have hbn : ∀ i, NS i → i ≠ bx := fun i hi e => by have := (N4 i hi).1; omega
  have hnf : ∀ g, NS g → ¬ FS g := by obtain ⟨_, _, _, _, _, _, h⟩ := I4; exact h
  refine .inr ⟨HE0.out, _, (fun i => i = bx ∨ FS i), (fun g => NS g ∨ homeOf (.slice a2 st.length q2) = some g), rfl, ?_, ?_, fun i hi => ?_, fun g hg => ?_⟩
  · rw [HVo.out]
    have I5 := I4.keep K hbw hbn
    refine ⟨bx, .pointer (some ⟨sb, 0, none⟩), .slice a2 st.length q2, FS, 5, rfl, B5.out.set5 _, ?_, fun i hi => .inr hi, .inl rfl, fun hi => hbw bx hi rfl, ?_, fun g hg => .inr hg, fun g hg hf => ?_⟩
    · obtain ⟨b', v', q1, q2', q3, q4, q5⟩ := I5
      refine ⟨b', v', q1, q2', q3, q4.foot (fun i hi => hi) (fun i hi => .inl hi), fun g hg hf => ?_⟩
      rcases hg with hg | hg
      · exact hnf g hg hf
      · have := (hol g hg).2; have := (B4 g hf).1; omega
    · exact (O2.out.bytes.same (S3.out.trans S4)).keep K fun g hg e => by have := (hol g hg).2; omega
    · rcases hg with hg | hg
      · rcases hf with hf | hf
        · exact hbn g hg hf
        · exact hnf g hg hf
      · have h1 := (hol g hg).2
        rcases hf with hf | hf
        · omega
        · have := (B4 g hf).1; omega
  · exact (S2.out.trans (S3.out.trans S4)).setCell (p := ⟨bx, 5, none⟩) (by show w.heap.size ≤ bx; omega) _
  · rw [hsz]
    rcases hi with rfl | hi
    · omega
    · have := B4 i hi; omega
  · rw [hsz]
    rcases hg with hg | hg
    · have := N4 g hg; omega
    · have := hol g hg; omega
end Go.Proofs.Ytlhnpicmjjddeaa
namespace Go.Proofs.Ytlhnpicmjjddeaa

structure Kt (D : Dv) (S : Sc) (L : Int) (was mb : List (List UInt8)) : Prop where
  len : D.C.length = 30
  from_ : S.from_ = 2
  till : S.till = 30
  life : S.life = L
  era : S.era = 7
  low : ∀ i : Int, (decF (D.sector i)).right = true → (decF (D.sector i)).life ≤ L
  state : (KsA D S ∧ S.all = was) ∨ (D.off = true ∧ ((D.read 30 7 2 1 0).1 = was ∨ (D.read 30 7 2 1 0).1 = mb))
theorem cutE_250 {b : List UInt8} (h : b.length ≤ 250) {life era seq : Int} (h1 : 1 ≤ life ∧ life ≤ 16777215) (h2 : 0 ≤ era ∧ era ≤ 16777215) (h3 : 1 ≤ seq ∧ seq ≤ 4294967295) : cutE life era seq b = 0 := by
  refine cutE_zero.2 ⟨by unfold nparts; omega, stampOk_iff.2 ⟨h1.1, h1.2, h2.1, h2.2, h3.1, h3.2⟩⟩
theorem read_new (n : Nat) (till era a : Int) (he : 0 ≤ era) : (Dv.new n).read till era a 1 0 = ([], a, 0) := by
  apply read_no
  cases e : (Dv.new n).recAt till era a 1 0
  · rfl
  · obtain ⟨_, ⟨_, h, _⟩, _⟩ := recAt_iff.1 e
    rw [decF_new] at h
    cases h
theorem new_low (n : Nat) (L : Int) : ∀ i : Int, (decF ((Dv.new n).sector i)).right = true → (decF ((Dv.new n).sector i)).life < L := fun i h => by rw [decF_new] at h; cases h
theorem Kt.new : (Dv.new 30).openE 2 30 1 7 = 0 ∧ Kt (Dv.new 30) ((Dv.new 30).opened 2 30 1 7) 1 [] [] := by
  have hl : (Dv.new 30).C.length = 30 := by simp [Dv.new]
  have hf : (0 : Int) ≤ 2 ∧ (2 : Int) ≤ 30 ∧ (30 : Int) ≤ (Dv.new 30).C.length := by rw [hl]; omega
  refine ⟨open_zero hf (by omega) (by omega) (new_low 30 1), hl, rfl, rfl, rfl, rfl, fun i h => Int.le_of_lt (new_low 30 1 i h), .inl ⟨KsA.opened rfl hf (by omega) (new_low 30 1), ?_⟩⟩
  show ((Dv.new 30).read 30 7 2 1 0).1 = []
  rw [read_new _ _ _ _ (by omega)]
theorem Kt.append {D : Dv} {S : Sc} {L : Int} {was mb b : List (List UInt8)} {x : List UInt8} (h : Kt D S L was mb) (hx : x.length ≤ 250) (hL : 1 ≤ L ∧ L ≤ 100) (hn : S.all.length ≤ 2048) :
    (D.off = true ∧ S.append D x = (9, S, D)) ∨ (D.off = false ∧ S.append D x = (10, S, D)) ∨
    (D.off = false ∧ (S.append D x).1 = 0 ∧ Kt (S.append D x).2.2 (S.append D x).2.1 L (was ++ [x]) (was ++ [x])) ∨
    (D.off = false ∧ (S.append D x).1 = 9 ∧ Kt (S.append D x).2.2 (S.append D x).2.1 L was (was ++ [x])) := by
  rcases h.state with ⟨hA, hall⟩ | ⟨ho, _⟩
  · right
    have hc : cutE S.life S.era (S.all.length + 1) x = 0 := cutE_250 hx (by rw [h.life]; omega) (by rw [h.era]; omega) (by omega)
    rcases hA.append hc with e | ⟨e1, e2, ⟨a, e3⟩, e4, _⟩ | ⟨e1, e2, e3, e4⟩
    · exact .inl ⟨hA.on, e⟩
    · right; left
      refine ⟨hA.on, e1, e4.trans h.len, ?_, ?_, ?_, ?_, ?_, .inl ⟨e2, ?_⟩⟩
      · rw [e3]; exact h.from_
      · rw [e3]; exact h.till
      · rw [e3]; exact h.life
      · rw [e3]; exact h.era
      · have := e2.low
        rw [e3] at this
        rw [← h.life]; exact this
      · rw [e3, ← hall]
    · right; right
      refine ⟨hA.on, e1, e3.len.trans h.len, ?_, ?_, ?_, ?_, ?_, .inr ⟨e2, ?_⟩⟩
      · rw [e4]; exact h.from_
      · rw [e4]; exact h.till
      · rw [e4]; exact h.life
      · rw [e4]; exact h.era
      · rw [← h.life]; exact e3.low
      · have := e3.reads
        rw [h.till, h.era, h.from_, hall] at this
        exact this
  · exact .inl ⟨ho, Sc.append_dead (.inr ho)⟩
theorem Kt.fuse {D D' : Dv} {S : Sc} {L : Int} {was mb : List (List UInt8)} (h : Kt D S L was mb) (hC : D'.C = D.C) (ho : D'.off = D.off) : Kt D' S L was mb := by
  have hs := sector_C hC
  refine ⟨by rw [hC]; exact h.len, h.from_, h.till, h.life, h.era, fun i hr => ?_, ?_⟩
  · rw [hs] at hr ⊢; exact h.low i hr
  · rcases h.state with ⟨hA, hall⟩ | ⟨h1, h2⟩
    · exact .inl ⟨hA.of_C hC (ho.trans hA.on), hall⟩
    · refine .inr ⟨ho.trans h1, ?_⟩
      have : D'.read 30 7 2 1 0 = D.read 30 7 2 1 0 := by
        have := read_prefix (D := D) (D' := D') 30 7 28 2 1 0 (by omega) (fun i _ _ => hs i)
        rw [this, read_no (D := D')]
        · simp only [List.append_nil]
        · have := read_stop D 30 7 2 1 0
          rwa [(recAt_congr (hs _) (fun i _ => hs _)).1]
      rw [this]; exact h2
theorem fuse_C (D : Dv) (m : Int) (ks : List Int) : (D.fuse m ks).2.C = D.C ∧ (D.fuse m ks).2.off = D.off := by
  unfold Dv.fuse
  split <;> exact ⟨rfl, rfl⟩
theorem Kt.start {D : Dv} {S : Sc} {L : Int} {was mb : List (List UInt8)} (h : Kt D S L was mb) (hL : 1 ≤ L ∧ L ≤ 100) :
    D.start.openE 2 30 (L + 1) 7 = 0 ∧ Kt D.start (D.start.opened 2 30 (L + 1) 7) (L + 1) (D.start.opened 2 30 (L + 1) 7).all (D.start.opened 2 30 (L + 1) 7).all ∧
      ((D.start.opened 2 30 (L + 1) 7).all = was ∨ (D.start.opened 2 30 (L + 1) 7).all = mb) := by
  have hs : ∀ i, D.start.sector i = D.sector i := fun i => rfl
  have hl : D.start.C.length = 30 := h.len
  have hf : (0 : Int) ≤ 2 ∧ (2 : Int) ≤ 30 ∧ (30 : Int) ≤ D.start.C.length := by rw [hl]; omega
  have hlow : ∀ i : Int, (decF (D.start.sector i)).right = true → (decF (D.start.sector i)).life < L + 1 := fun i hr => by have := h.low i hr; rw [hs]; omega
  refine ⟨open_zero hf (by omega) (by omega) hlow, ⟨hl, rfl, rfl, rfl, rfl, fun i hr => Int.le_of_lt (hlow i hr), .inl ⟨KsA.opened rfl hf (by omega) hlow, rfl⟩⟩, ?_⟩
  have hrd : D.start.read 30 7 2 1 0 = D.read 30 7 2 1 0 := by
    have := read_prefix (D := D) (D' := D.start) 30 7 28 2 1 0 (by omega) (fun i _ _ => hs i)
    rw [this, read_no (D := D.start)]
    · simp only [List.append_nil]
    · have := read_stop D 30 7 2 1 0
      rwa [(recAt_congr (D' := D.start) (hs _) (fun i _ => hs _)).1]
  show (D.start.read 30 7 2 1 0).1 = was ∨ (D.start.read 30 7 2 1 0).1 = mb
  rw [hrd]
  rcases h.state with ⟨hA, hall⟩ | ⟨_, h2⟩
  · left
    have := hA.reads
    rw [h.till, h.era, h.from_] at this
    rw [this]; exact hall
  · exact h2
end Go.Proofs.Ytlhnpicmjjddeaa
namespace Go.Proofs.Ytlhnpicmjjddeaa
open Go.RowKit

theorem lFew (w : World) (e : TypeId) (v : Value) (l : List Int) (h : Ints w e v l) : Calls Try.prog 58 #[v] w (RetI (l.take 20) e w) := by
  obtain ⟨ao, cap, rfl, h1, h2⟩ := h.form
  unfold maxLen at h2
  by_cases hl : 20 < l.length
  · have H := hid (h.head 20 (by omega))
    go_enter Try.func58, Try.ntmps58
    go_wp2_with fail
    go_ret
    exact ⟨_, rfl, H.out, rfl⟩
  · have H := hid h
    have ht : Hid (l.take 20 = l) := List.take_of_length_le (by omega)
    go_enter Try.func58, Try.ntmps58
    go_wp2_with fail
    go_ret
    exact ⟨_, rfl, by rw [ht.out]; exact H.out, rfl⟩
end Go.Proofs.Ytlhnpicmjjddeaa
namespace Go.Proofs.Ytlhnpicmjjddeaa
open Go.RowKit Go.ChangeShapes Go.WideShapes Go.Deep

section
variable {H : Type} {enc : TypeId × Value → H} {w : World} {base : Nat} {held : Bool}
theorem addr_add_add' (a : Addr) (m n : Nat) : (a.add m).add n = a.add (m + n) := by
  unfold Addr.add
  by_cases hm : m = 0
  · subst hm; simp
  · by_cases hn : n = 0
    · subst hn; simp [hm]
    · simp [hm, hn, Nat.add_assoc]
/-- a row of structs: each cell reads by its field's type -/
theorem open_structs {spare : Nat → Bool} {t e : TypeId} {fs : Array Field} {size : Nat} {fuel : Nat} {a1 : Option Addr} {len1 cap1 : Nat} {x : DataW H × List MemPlace} (ht : Try.prog.underlying t = some (.slice e)) (hs : Try.prog.underlying e = some (.struct fs))
    (hone : oneCellFields Try.prog fs = true) (hz : fs.size = size) (hC : Try.prog.cellsOf e = size) (hpos : 0 < size)
    (h : DataW.trod enc Try.prog w base spare held fuel t (Value.cells (.slice a1 len1 cap1)).toList = some x) :
    len1 ≤ cap1 ∧ cap1 ≤ maxLen ∧ (a1 = none → cap1 = 0) ∧ (len1 = 0 ∨ ∃ g o, a1 = some ⟨g, o, none⟩ ∧ ∀ i, i < len1 → ∃ n, ∀ (j : Nat) (f : Field), fs[j]? = some f → ∃ v y, w.cell? ⟨g, o + i * size + j, none⟩ = some v ∧ DataW.trod enc Try.prog w base spare held n f.type [v] = some y) := by
  rcases open_slice ht h with ⟨hcs, _⟩ | ⟨a, len, cap, m, n, D, Pl, hcs, hb, hl, hm, hmm, _, hel⟩
  · simp [Value.cells] at hcs
    obtain ⟨rfl, rfl, rfl⟩ := hcs
    exact ⟨Nat.le_refl _, Nat.zero_le _, fun _ => rfl, .inl rfl⟩
  · simp [Value.cells] at hcs
    obtain ⟨rfl, rfl, rfl⟩ := hcs
    have hlm : len1 ≤ m := by rw [hmm]; split <;> omega
    refine ⟨hl, hm, (fun x => nomatch x), ?_⟩
    rcases Nat.eq_zero_or_pos len1 with h0 | h0
    · exact .inl h0
    right
    have each : ∀ i, i < len1 → ∃ n, ∀ (j : Nat) (f : Field), fs[j]? = some f → ∃ v y, w.cell? (a.add (i * size + j)) = some v ∧ DataW.trod enc Try.prog w base spare held n f.type [v] = some y := by
      intro i hi
      obtain ⟨cs', hc, hr⟩ := hel i (by omega)
      rw [hC] at hc
      obtain ⟨_, hlen, hcell⟩ := World.cells?_some hc
      obtain ⟨n', hn'⟩ := struct_cells hs hone hr (by rw [hz]; exact hlen)
      refine ⟨n', fun j f hj => ?_⟩
      obtain ⟨v, y, h1, h2⟩ := hn' j f hj
      have hj' : j < size := by rw [← hz]; exact (Array.getElem?_eq_some_iff.1 hj).1
      refine ⟨v, y, ?_, h2⟩
      have hcj := hcell j hj'
      rw [addr_add_add'] at hcj
      rw [hcj, ← h1]
    obtain ⟨n0, hn0⟩ := each 0 h0
    obtain ⟨v0, y0, hc0, _⟩ := hn0 0 fs[0] (Array.getElem?_eq_getElem (by omega))
    have ha : a.add (0 * size + 0) = a := by simp [Addr.add]
    rw [ha] at hc0
    obtain ⟨cur, e', fr, hbk, hsp, _⟩ := block_of_cell hc0
    obtain ⟨b, o, sp⟩ := a
    simp only at hsp hbk
    subst hsp
    refine ⟨b, o, rfl, fun i hi => ?_⟩
    obtain ⟨n', hn'⟩ := each i hi
    refine ⟨n', fun j f hj => ?_⟩
    obtain ⟨v, y, h1, h2⟩ := hn' j f hj
    have hadd : (⟨b, o, none⟩ : Addr).add (i * size + j) = ⟨b, o + i * size + j, none⟩ := by unfold Addr.add; split <;> simp_all <;> omega
    rw [hadd] at h1
    exact ⟨v, y, h1, h2⟩
theorem ints_cell {n : Nat} {v : Value} {y : DataW H × List MemPlace} {spare : Nat → Bool} (h : DataW.trod enc Try.prog w base spare held n 37 [v] = some y) : ∃ e l, Ints w e v l ∧ ∀ k ∈ l, -9223372036854775808 ≤ k ∧ k ≤ 9223372036854775807 := by
  have hv : ∃ ao len cap, v = .slice ao len cap := by
    rcases open_slice (show Try.prog.underlying 37 = some (.slice 3) by kernel_rfl) h with ⟨hcs, _⟩ | ⟨a, len, cap, m, n, D, Pl, hcs, _⟩
    · cases hcs; exact ⟨_, _, _, rfl⟩
    · cases hcs; exact ⟨_, _, _, rfl⟩
  obtain ⟨ao, len, cap, rfl⟩ := hv
  obtain ⟨e, l, h1, h2⟩ := open_intl (t := 37) (by kernel_rfl) (show DataW.trod enc Try.prog w base spare held n 37 (Value.cells (.slice ao len cap)).toList = some y from h)
  exact ⟨e, l, h1, h2⟩

/-! a row of still's steps -/
structure SDo where
  (kind n at_ each life era : Int)
  (b : List UInt8)
  (keep : List Int)
def SDoAt (w : World) (g o : Nat) (d : SDo) : Prop :=
  ∃ ab cb eb ak ck ek, w.cell? ⟨g, o, none⟩ = some (.int .i64 d.kind) ∧ w.cell? ⟨g, o + 1, none⟩ = some (.int .i64 d.n) ∧ w.cell? ⟨g, o + 2, none⟩ = some (.int .i64 d.at_) ∧ w.cell? ⟨g, o + 3, none⟩ = some (.int .i64 d.each) ∧
    w.cell? ⟨g, o + 4, none⟩ = some (.int .i64 d.life) ∧ w.cell? ⟨g, o + 5, none⟩ = some (.int .i64 d.era) ∧ w.cell? ⟨g, o + 6, none⟩ = some (.slice ab d.b.length cb) ∧ Bytes w eb (.slice ab d.b.length cb) d.b ∧
    w.cell? ⟨g, o + 7, none⟩ = some (.slice ak d.keep.length ck) ∧ Ints w ek (.slice ak d.keep.length ck) d.keep ∧ ∀ k ∈ d.keep, -9223372036854775808 ≤ k ∧ k ≤ 9223372036854775807
def SDos (w : World) (v : Value) (n : Nat) : Prop := ∃ ao cap, v = .slice ao n cap ∧ n ≤ cap ∧ cap ≤ maxLen ∧ (n = 0 ∨ ∃ g o, ao = some ⟨g, o, none⟩ ∧ ∀ i, i < n → ∃ d, SDoAt w g (o + i * 8) d)
theorem fields86 : Try.prog.underlying 86 = some (.struct (Try.prog.fieldsOf 86)) := by kernel_rfl
theorem one86 : oneCellFields Try.prog (Try.prog.fieldsOf 86) = true := by kernel_rfl
theorem size86 : (Try.prog.fieldsOf 86).size = 8 := by kernel_rfl
theorem types86 : ((Try.prog.fieldsOf 86).toList.map (·.type)) = [3, 3, 3, 3, 3, 3, 23, 37] := by kernel_rfl
theorem cells86 : Try.prog.cellsOf 86 = 8 := by kernel_rfl
theorem slice84 : Try.prog.underlying 84 = some (.slice 86) := by kernel_rfl
theorem Ints.form' {w : World} {e : TypeId} {v : Value} {l : List Int} (h : Ints w e v l) : ∃ ao cap, v = .slice ao l.length cap := by obtain ⟨ao, cap, rfl, _⟩ := h.form; exact ⟨ao, cap, rfl⟩
theorem open_sdos {fuel : Nat} {a1 : Option Addr} {len1 cap1 : Nat} {x : DataW H × List MemPlace}
    (h : DataW.trod enc Try.prog w base (fun _ => true) held fuel 84 (Value.cells (.slice a1 len1 cap1)).toList = some x) : SDos w (.slice a1 len1 cap1) len1 := by
  obtain ⟨h1, h2, _, h3⟩ := open_structs slice84 fields86 one86 size86 cells86 (by omega) h
  refine ⟨a1, cap1, rfl, h1, h2, ?_⟩
  rcases h3 with h3 | ⟨g, o, rfl, h3⟩
  · exact .inl h3
  refine .inr ⟨g, o, rfl, fun i hi => ?_⟩
  obtain ⟨n, hn⟩ := h3 i hi
  have key : ∀ j (hj : j < 8), ∃ v y, w.cell? ⟨g, o + i * 8 + j, none⟩ = some v ∧ DataW.trod enc Try.prog w base (fun _ => true) held n ([3, 3, 3, 3, 3, 3, 23, 37][j]'hj) [v] = some y := by
    intro j hj
    obtain ⟨f, hf, ht⟩ := type_at types86 j hj
    obtain ⟨v, y, h1, h2⟩ := hn j f hf
    rw [ht] at h2
    exact ⟨v, y, h1, h2⟩
  obtain ⟨v0, y0, e0, t0⟩ := key 0 (by omega)
  obtain ⟨v1, y1, e1, t1⟩ := key 1 (by omega)
  obtain ⟨v2, y2, e2, t2⟩ := key 2 (by omega)
  obtain ⟨v3, y3, e3, t3⟩ := key 3 (by omega)
  obtain ⟨v4, y4, e4, t4⟩ := key 4 (by omega)
  obtain ⟨v5, y5, e5, t5⟩ := key 5 (by omega)
  obtain ⟨v6, y6, e6, t6⟩ := key 6 (by omega)
  obtain ⟨v7, y7, e7, t7⟩ := key 7 (by omega)
  obtain ⟨i0, rfl⟩ := int_cell t0
  obtain ⟨i1, rfl⟩ := int_cell t1
  obtain ⟨i2, rfl⟩ := int_cell t2
  obtain ⟨i3, rfl⟩ := int_cell t3
  obtain ⟨i4, rfl⟩ := int_cell t4
  obtain ⟨i5, rfl⟩ := int_cell t5
  obtain ⟨eb, b, hb⟩ := bytes_cell t6
  obtain ⟨ek, ks, hk, hk2⟩ := ints_cell t7
  obtain ⟨ab, cb, rfl, _, _⟩ := hb.form
  obtain ⟨ak, ck, rfl, _, _⟩ := hk.form
  exact ⟨⟨i0, i1, i2, i3, i4, i5, b, ks⟩, ab, cb, eb, ak, ck, ek, e0, e1, e2, e3, e4, e5, e6, hb, e7, hk, hk2⟩
end
end Go.Proofs.Ytlhnpicmjjddeaa
namespace Go.Proofs.Ytlhnpicmjjddeaa
open Go.RowKit

/-- bytes that lie apart from the drive -/
def Apart (F : Nat → Prop) (w : World) (v : Value) (l : List UInt8) : Prop := ∃ e, Bytes w e v l ∧ ∀ g, homeOf v = some g → ¬ F g
theorem Apart.keep {F : Nat → Prop} {w w' : World} {v : Value} {l : List UInt8} (h : Apart F w v l) (k : Keep F w w') : Apart F w' v l := let ⟨e, h1, h2⟩ := h; ⟨e, h1.keep k h2, h2⟩
theorem Apart.same {F : Nat → Prop} {w w' : World} {v : Value} {l : List UInt8} (h : Apart F w v l) (k : Same w w') : Apart F w' v l := let ⟨e, h1, h2⟩ := h; ⟨e, h1.same k, h2⟩
theorem Apart.grow {F F' : Nat → Prop} {w w' : World} {v : Value} {l : List UInt8} (h : Apart F w v l) (k : Keep F w w') (g : Grow F F' w w') : Apart F' w' v l :=
  let ⟨e, h1, h2⟩ := h; ⟨e, h1.keep k h2, fun b hb hm => by
    rcases g b hm with x | x
    · exact h2 b hb x
    · have := Sl.home_lt h1 hb; omega⟩
theorem Apart.low {F : Nat → Prop} {w w' : World} {e : TypeId} {v : Value} {l : List UInt8} (h : Bytes w e v l) (S : Same w w') {c : Nat} (B : Bnd F w.heap.size c) : Apart F w' v l :=
  ⟨e, h.same S, fun g hg hm => by have := Sl.home_lt h hg; have := (B g hm).1; omega⟩
theorem Apart.fresh {F : Nat → Prop} {w : World} {b : Nat} {v : Value} {l : List UInt8} (h : OwnB w b v l) {a : Nat} (B : Bnd F a b) : Apart F w v l :=
  ⟨_, h.bytes, fun g hg hm => by have := h.fresh g hg; have := (B g hm).2; omega⟩
/-- a drive of the walk's own -/
structure Mid (w0 w : World) (p : Value) (F : Nat → Prop) (D : Dv) : Prop where
  dv : IsDv w p F D
  bnd : Bnd F w0.heap.size w.heap.size
  old : Same w0 w
theorem Mid.same {w0 w w' : World} {p : Value} {F : Nat → Prop} {D : Dv} (h : Mid w0 w p F D) (S : Same w w') : Mid w0 w' p F D := ⟨h.dv.same S, h.bnd.mono S.size, h.old.trans S⟩
theorem Mid.fuse {w0 w : World} {p : Value} {F : Nat → Prop} {D : Dv} (h : Mid w0 w p F D) (ho : D.off = false) (v : Value) (e : TypeId) (m : Int) (ks : List Int) (hk : Ints w e v ks) (hl : ks.length ≤ 1000) (hm : -9223372036854775808 ≤ m ∧ m ≤ 9223372036854775807) :
    Calls Try.prog 35 #[p, .int .i64 m, v] w fun en w' => ∃ F' D', en = .returned (.int .i64 0) ∧ Keep F w w' ∧ Grow F F' w w' ∧ Mid w0 w' p F' D' ∧ D'.C = D.C ∧ D'.off = false := by
  have hf : D.fuse m ks = (0, { D with fused := decide (0 ≤ m), left := m, keep := ks }) := by unfold Dv.fuse; rw [ho]; rfl
  refine (dFuseD w p v F D m ks e h.dv hk hl hm).mono ?_
  rintro en w' ⟨F', rfl, K, I, G⟩
  rw [hf] at I ⊢
  exact ⟨F', _, rfl, K, G, ⟨I, h.bnd.grow G K.size h.old.size, h.old.keepOwn K (fun k hk => (h.bnd k hk).1)⟩, rfl, ho⟩
theorem Mid.save {w0 w : World} {p : Value} {F : Nat → Prop} {D : Dv} (h : Mid w0 w p F D) {E L : Int} {was : List UInt8} (hK : Kp D E L was) (he : 0 ≤ E ∧ E ≤ 50) (hL : 1 ≤ L ∧ L ≤ 50) (v : Value) (e : TypeId) (b : List UInt8) (hb : Bytes w e v b) (hl : b.length ≤ 700) :
    Calls Try.prog 56 #[p, .int .i64 2, .int .i64 9, .int .i64 L, .int .i64 (E + 1), v] w fun en w' => ∃ r D', en = .returned (.int .i64 r) ∧ Keep F w w' ∧ Mid w0 w' p F D' ∧
      ((r = 0 ∧ Kp D'.start (E + 1) (L + 1) b) ∨ (r = 9 ∧ (Kp D'.start E (L + 1) was ∨ Kp D'.start (E + 1) (L + 1) b))) := by
  refine (sSave w p v F D 2 9 L (E + 1) b e h.dv (fun k hk => (h.bnd k hk).2) hb (by omega) (by omega) (by omega)).mono ?_
  rintro en w' ⟨rfl, K, I⟩
  exact ⟨_, _, rfl, K, ⟨I, h.bnd.mono K.size, h.old.keepOwn K (fun k hk => (h.bnd k hk).1)⟩, hK.save he hL hl⟩
theorem Mid.start {w0 w : World} {p : Value} {F : Nat → Prop} {D : Dv} (h : Mid w0 w p F D) :
    Calls Try.prog 41 #[p] w fun en w' => en = .returned (.int .i64 0) ∧ Keep F w w' ∧ Mid w0 w' p F D.start := by
  refine (dStartD w p F D h.dv).mono ?_
  rintro en w' ⟨rfl, K, I⟩
  exact ⟨rfl, K, ⟨I, h.bnd.mono K.size, h.old.keepOwn K (fun k hk => (h.bnd k hk).1)⟩⟩
theorem Kp.load' {D : Dv} {era life : Int} {was : List UInt8} (h : Kp D era life was) (he : 0 ≤ era) : D.loadR 2 9 = (era, was, if era = 0 then 11 else 0) := by
  rw [h.load he]
  by_cases h0 : era = 0
  · rw [if_pos h0, if_pos h0, h.nought h0, h0]
  · rw [if_neg h0, if_neg h0]
theorem Mid.load {w0 w : World} {p : Value} {F : Nat → Prop} {D : Dv} (h : Mid w0 w p F D) {E L : Int} {was : List UInt8} (hK : Kp D E L was) (he : 0 ≤ E) :
    Calls Try.prog 55 #[p, .int .i64 2, .int .i64 9] w fun en w' => ∃ a c, en = .returned (.tuple #[.int .i64 E, .slice a was.length c, .int .i64 (if E = 0 then 11 else 0)]) ∧ Apart F w' (.slice a was.length c) was ∧ Mid w0 w' p F D ∧ Same w w' := by
  refine (sLoad w p F D 2 9 h.dv (by omega)).mono ?_
  rw [hK.load' he]
  rintro en w' ⟨v, rfl, O, S⟩
  obtain ⟨a, c, rfl, _, _⟩ := O.bytes.form
  exact ⟨a, c, rfl, Apart.fresh O h.bnd, h.same S, S⟩
theorem Apart.form {F : Nat → Prop} {w : World} {v : Value} {l : List UInt8} (h : Apart F w v l) : ∃ a c, v = .slice a l.length c := by obtain ⟨e, h1, _⟩ := h; obtain ⟨a, c, rfl, _, _⟩ := h1.form; exact ⟨a, c, rfl⟩
theorem Apart.eqs {F : Nat → Prop} {w : World} {v1 v2 : Value} {l : List UInt8} (h1 : Apart F w v1 l) (h2 : Apart F w v2 l) : Calls Try.prog 29 #[v1, v2] w (RetSame (.bool true) w) := by
  obtain ⟨e1, q1, _⟩ := h1
  obtain ⟨e2, q2, _⟩ := h2
  have := r01SameS w e1 e2 v1 v2 l l q1 q2
  simpa using this

set_option maxHeartbeats 12800000 in
set_option maxRecDepth 100000 in
theorem stillKeptWalk (w : World) (v : Value) (n : Nat) (hv : SDos w v n) : Calls Try.prog 14 #[v] w (RetSame (.bool true) w) := by
  have H9 := hid sLives
  have HCt := hid r01Cut0
  have HFe := hid lFew
  obtain ⟨ao, cap, rfl, hn1, hn2, hrows⟩ := hv
  unfold maxLen at hn2
  have HRows := hid hrows
  clear hrows
  go_enter Try.func14, Try.ntmps14
  go_wp2_with fail
  refine (dNewD w 20 (by omega) (by omega)).mono ?_
  rintro en w1 ⟨p, F, rfl, S1, D1, B1⟩
  have M1 : Hid (Mid w w1 p F (Dv.new 20)) := ⟨D1, B1, S1⟩
  obtain ⟨pb, hp⟩ : ∃ b, p = .pointer (some ⟨b, 0, none⟩) := by obtain ⟨b, _, _, _, e, _⟩ := D1; exact ⟨b, e⟩
  subst hp
  clear D1 B1 S1
  go_wp2_with fail
  go_loopw [5, 6, 7, 8, 9] (fun era life wv mb i wr => ∃ (k E : Nat) (F : Nat → Prop) (D : Dv) (wb : List UInt8), k ≤ 30 ∧ E ≤ k ∧ i = .int .i64 k ∧ era = .int .i64 E ∧ life = .int .i64 ((k : Int) + 1) ∧ Mid w wr (.pointer (some ⟨pb, 0, none⟩)) F D ∧ Kp D E ((k : Int) + 1) wb ∧ Apart F wr wv wb) (fun _ _ _ _ i _ => 30 - (intOf i).toNat)
  case atStart => exact ⟨0, 0, F, _, [], by omega, by omega, rfl, rfl, rfl, M1.out, Kp.new, ⟨23, Bytes.nil _ _, fun g hg => by cases hg⟩⟩
  case round =>
    obtain ⟨k, E, F, D, wb, hk, hE, rfl, rfl, rfl, M, KP, AW⟩ := hrel
    have M := hid M
    have KP := hid KP
    obtain ⟨wa, wc, rfl⟩ := AW.form
    have AW := hid AW
    by_cases hlt : k < n
    case neg =>
      go_wp2_with fail
      refine (H9.out _).mono ?_
      rintro en w3 ⟨rfl, S3⟩
      go_wp2_with fail
      go_ret
      exact ⟨rfl, M.out.old.trans S3⟩
    by_cases hlt2 : k < 30
    case neg =>
      go_wp2_with fail
      refine (H9.out _).mono ?_
      rintro en w3 ⟨rfl, S3⟩
      go_wp2_with fail
      go_ret
      exact ⟨rfl, M.out.old.trans S3⟩
    obtain ⟨g, o, hao, hall⟩ : ∃ g o, ao = some ⟨g, o, none⟩ ∧ ∀ i, i < n → ∃ d, SDoAt w g (o + i * 8) d := by
      rcases HRows.out with h0 | h0
      · omega
      · exact h0
    subst hao
    obtain ⟨d, ab, cb, eb, ak, ck, ek, c0, _, _, _, _, _, c6, hb, c7, hks, hks2⟩ := hall k hlt
    have hg0 := World.block_lt_of_cell? w _ c0
    have C0 := hid (fun (wz : World) (S : Same w wz) => (S.cell (p := ⟨g, o + k * 8, none⟩) hg0).trans c0)
    have C7 := hid (fun (wz : World) (S : Same w wz) => (S.cell (p := ⟨g, o + k * 8 + 7, none⟩) hg0).trans c7)
    have c6' : wr.cell? ⟨g, o + k * 8 + 6, none⟩ = _ := (M.out.old.cell (p := ⟨g, o + k * 8 + 6, none⟩) hg0).trans c6
    have HB := hid hb
    have HK := hid hks
    have hgr : g < wr.heap.size := Nat.lt_of_lt_of_le hg0 M.out.old.size
    clear hall c0 c6 c7 hb hks hks2
    go_wp2_with fail
    refine (show Calls Try.prog 22 #[_, .int .i64 700] wr _ from HCt.out w wr eb _ d.b 700 HB.out).mono ?_
    rintro en w1' ⟨v1, rfl, B1, rfl⟩
    have hle : (d.b.take 700).length ≤ 700 := by rw [List.length_take]; omega
    have B1 := hid B1
    clear c6' HB
    generalize d.b.take 700 = b at *
    obtain ⟨a1, c1, rfl, _, _⟩ := B1.out.form
    have hoff := KP.out.on
    go_wp2_with fail
    refine (M.out.fuse hoff _ 3 (-1) [] (Ints.nil _ _) (by simp) (by omega)).mono ?_
    rintro en w2 ⟨F2, D2, rfl, K2, G2, M2, hC2, ho2⟩
    have M2 := hid M2
    have KP2 := hid (KP.out.of_C hC2 ho2)
    have AW2 := hid (AW.out.grow K2 G2)
    clear M KP AW K2 G2 hC2 hoff
    have c0 := C0.out w2 M2.out.old
    have hgr : g < w2.heap.size := Nat.lt_of_lt_of_le hg0 M2.out.old.size
    by_cases hk1 : d.kind = 1
    case pos =>
      rw [hk1] at c0
      have c7 := C7.out w2 M2.out.old
      clear C0 C7 hk1
      go_wp2_with fail
      refine (HFe.out w2 ek _ d.keep (HK.out.same M2.out.old)).mono ?_
      rintro en w2' ⟨kv, rfl, HKI, rfl⟩
      have hlk : (d.keep.take 20).length ≤ 1000 := by rw [List.length_take]; omega
      generalize d.keep.take 20 = ks at *
      obtain ⟨ka, kc, rfl, _, _⟩ := HKI.form
      have HKI := hid HKI
      go_wp2_with fail
      refine (M2.out.fuse ho2 _ ek 0 ks HKI.out hlk (by omega)).mono ?_
      rintro en w3 ⟨F3, D3, rfl, K3, G3, M3, hC3, ho3⟩
      have M3 := hid M3
      have KP3 := hid (KP2.out.of_C hC3 ho3)
      have AW3 := hid (AW2.out.grow K3 G3)
      clear M2 KP2 AW2 K3 G3 hC3 ho2 ho3 c0 c7 HK HKI
      go_wp2_with fail
      have AB := hid (Apart.low B1.out M3.out.old M3.out.bnd)
      refine (M3.out.save KP3.out (by omega) (by omega) _ _ b (B1.out.same M3.out.old) hle).mono ?_
      rintro en w4 ⟨r, D4, rfl, K4, M4, hR⟩
      have M4 := hid M4
      have AW4 := hid (AW3.out.keep K4)
      have AB4 := hid (AB.out.keep K4)
      clear M3 KP3 AW3 AB K4
      rcases hR with ⟨rfl, hK⟩ | ⟨rfl, hK | hK⟩
      · have KP4 := hid hK
        clear hK
        go_wp2_with fail
        refine M4.out.start.mono ?_
        rintro en w5 ⟨rfl, K5, M5⟩
        have M5 := hid M5
        have AW5 := hid (AW4.out.keep K5)
        have AB5 := hid (AB4.out.keep K5)
        clear M4 AW4 AB4 K5
        go_wp2_with fail
        refine (M5.out.load KP4.out (by omega)).mono ?_
        rintro en w6 ⟨la, lc, rfl, AL6, M6, S6⟩
        have M6 := hid M6
        have AL6 := hid AL6
        have AW6 := hid (AW5.out.same S6)
        have AB6 := hid (AB5.out.same S6)
        clear M5 AW5 AB5 S6
        rw [if_neg (by omega : ¬ (E : Int) + 1 = 0)]
        have x1 : ((E : Int) + 1 == (E : Int) + 1 + 1) = false := by rw [beq_eq_false_iff_ne]; omega
        have x2 : decide ((0 : Int) < (E : Int) + 1) = true := by rw [decide_eq_true_eq]; omega
        go_wp2_with fail
        refine (AL6.out.eqs AB6.out).mono ?_
        rintro en w7 ⟨rfl, S7⟩
        go_wp2_with fail
        go_roundw
        case rel => exact ⟨k + 1, E + 1, _, _, b, by omega, by omega, by go_num, by go_num, by go_num, M6.out.same S7, KP4.out, AB6.out.same S7⟩
        case measure => simp [intOf]; omega
      · have KP4 := hid hK
        clear hK
        go_wp2_with fail
        refine M4.out.start.mono ?_
        rintro en w5 ⟨rfl, K5, M5⟩
        have M5 := hid M5
        have AW5 := hid (AW4.out.keep K5)
        have AB5 := hid (AB4.out.keep K5)
        clear M4 AW4 AB4 K5
        go_wp2_with fail
        refine (M5.out.load KP4.out (by omega)).mono ?_
        rintro en w6 ⟨la, lc, rfl, AL6, M6, S6⟩
        have M6 := hid M6
        have AL6 := hid AL6
        have AW6 := hid (AW5.out.same S6)
        have AB6 := hid (AB5.out.same S6)
        clear M5 AW5 AB5 S6
        have x1 : ((E : Int) == (E : Int) + 1) = false := by rw [beq_eq_false_iff_ne]; omega
        by_cases hE0 : (E : Int) = 0
        case pos =>
          rw [if_pos hE0]
          obtain rfl : E = 0 := by omega
          clear x1 hE0
          go_wp2_with fail
          refine (AL6.out.eqs AW6.out).mono ?_
          rintro en w7 ⟨rfl, S7⟩
          go_wp2_with fail
          go_roundw
          case rel => exact ⟨k + 1, 0, _, _, wb, by omega, by omega, by go_num, rfl, by go_num, M6.out.same S7, KP4.out, AW6.out.same S7⟩
          case measure => simp [intOf]; omega
        case neg =>
          rw [if_neg hE0]
          have x2 : decide ((0 : Int) < (E : Int)) = true := by rw [decide_eq_true_eq]; omega
          have x3 : decide (0 < E) = true := by rw [decide_eq_true_eq]; omega
          have x4 : 0 < E := by omega
          go_wp2_with fail
          refine (AL6.out.eqs AW6.out).mono ?_
          rintro en w7 ⟨rfl, S7⟩
          go_wp2_with fail
          go_roundw
          case rel => exact ⟨k + 1, E, _, _, wb, by omega, by omega, by go_num, rfl, by go_num, M6.out.same S7, KP4.out, AW6.out.same S7⟩
          case measure => simp [intOf]; omega
      · have KP4 := hid hK
        clear hK
        go_wp2_with fail
        refine M4.out.start.mono ?_
        rintro en w5 ⟨rfl, K5, M5⟩
        have M5 := hid M5
        have AW5 := hid (AW4.out.keep K5)
        have AB5 := hid (AB4.out.keep K5)
        clear M4 AW4 AB4 K5
        go_wp2_with fail
        refine (M5.out.load KP4.out (by omega)).mono ?_
        rintro en w6 ⟨la, lc, rfl, AL6, M6, S6⟩
        have M6 := hid M6
        have AL6 := hid AL6
        have AW6 := hid (AW5.out.same S6)
        have AB6 := hid (AB5.out.same S6)
        clear M5 AW5 AB5 S6
        rw [if_neg (by omega : ¬ (E : Int) + 1 = 0)]
        have y1 : ((E : Int) + 1 == (E : Int) + 1 + 1) = false := by rw [beq_eq_false_iff_ne]; omega
        have x2 : decide ((0 : Int) < (E : Int) + 1) = true := by rw [decide_eq_true_eq]; omega
        go_wp2_with fail
        refine (AL6.out.eqs AB6.out).mono ?_
        rintro en w7 ⟨rfl, S7⟩
        have M7 := hid (M6.out.same S7)
        have AL7 := hid (AL6.out.same S7)
        clear M6 AL6 AW6 AB6 S7
        go_wp2_with fail
        refine (AL7.out.eqs AL7.out).mono ?_
        rintro en w8 ⟨rfl, S8⟩
        go_wp2_with fail
        go_roundw
        case rel => exact ⟨k + 1, E + 1, _, _, b, by omega, by omega, by go_num, by go_num, by go_num, M7.out.same S8, KP4.out, AL7.out.same S8⟩
        case measure => simp [intOf]; omega
    case neg =>
      have hk2 : (d.kind == 1) = false := by rw [beq_eq_false_iff_ne]; exact hk1
      clear C0 C7 hk1 HK
      go_wp2_with fail
      have AB := hid (Apart.low B1.out M2.out.old M2.out.bnd)
      refine (M2.out.save KP2.out (by omega) (by omega) _ _ b (B1.out.same M2.out.old) hle).mono ?_
      rintro en w4 ⟨r, D4, rfl, K4, M4, hR⟩
      have M4 := hid M4
      have AW4 := hid (AW2.out.keep K4)
      have AB4 := hid (AB.out.keep K4)
      clear M2 KP2 AW2 AB K4
      rcases hR with ⟨rfl, hK⟩ | ⟨rfl, hK | hK⟩
      · have KP4 := hid hK
        clear hK
        go_wp2_with fail
        refine M4.out.start.mono ?_
        rintro en w5 ⟨rfl, K5, M5⟩
        have M5 := hid M5
        have AW5 := hid (AW4.out.keep K5)
        have AB5 := hid (AB4.out.keep K5)
        clear M4 AW4 AB4 K5
        go_wp2_with fail
        refine (M5.out.load KP4.out (by omega)).mono ?_
        rintro en w6 ⟨la, lc, rfl, AL6, M6, S6⟩
        have M6 := hid M6
        have AL6 := hid AL6
        have AW6 := hid (AW5.out.same S6)
        have AB6 := hid (AB5.out.same S6)
        clear M5 AW5 AB5 S6
        rw [if_neg (by omega : ¬ (E : Int) + 1 = 0)]
        have x1 : ((E : Int) + 1 == (E : Int) + 1 + 1) = false := by rw [beq_eq_false_iff_ne]; omega
        have x2 : decide ((0 : Int) < (E : Int) + 1) = true := by rw [decide_eq_true_eq]; omega
        go_wp2_with fail
        refine (AL6.out.eqs AB6.out).mono ?_
        rintro en w7 ⟨rfl, S7⟩
        go_wp2_with fail
        go_roundw
        case rel => exact ⟨k + 1, E + 1, _, _, b, by omega, by omega, by go_num, by go_num, by go_num, M6.out.same S7, KP4.out, AB6.out.same S7⟩
        case measure => simp [intOf]; omega
      · have KP4 := hid hK
        clear hK
        go_wp2_with fail
        refine M4.out.start.mono ?_
        rintro en w5 ⟨rfl, K5, M5⟩
        have M5 := hid M5
        have AW5 := hid (AW4.out.keep K5)
        have AB5 := hid (AB4.out.keep K5)
        clear M4 AW4 AB4 K5
        go_wp2_with fail
        refine (M5.out.load KP4.out (by omega)).mono ?_
        rintro en w6 ⟨la, lc, rfl, AL6, M6, S6⟩
        have M6 := hid M6
        have AL6 := hid AL6
        have AW6 := hid (AW5.out.same S6)
        have AB6 := hid (AB5.out.same S6)
        clear M5 AW5 AB5 S6
        have x1 : ((E : Int) == (E : Int) + 1) = false := by rw [beq_eq_false_iff_ne]; omega
        by_cases hE0 : (E : Int) = 0
        case pos =>
          rw [if_pos hE0]
          obtain rfl : E = 0 := by omega
          clear x1 hE0
          go_wp2_with fail
          refine (AL6.out.eqs AW6.out).mono ?_
          rintro en w7 ⟨rfl, S7⟩
          go_wp2_with fail
          go_roundw
          case rel => exact ⟨k + 1, 0, _, _, wb, by omega, by omega, by go_num, rfl, by go_num, M6.out.same S7, KP4.out, AW6.out.same S7⟩
          case measure => simp [intOf]; omega
        case neg =>
          rw [if_neg hE0]
          have x2 : decide ((0 : Int) < (E : Int)) = true := by rw [decide_eq_true_eq]; omega
          have x3 : decide (0 < E) = true := by rw [decide_eq_true_eq]; omega
          have x4 : 0 < E := by omega
          go_wp2_with fail
          refine (AL6.out.eqs AW6.out).mono ?_
          rintro en w7 ⟨rfl, S7⟩
          go_wp2_with fail
          go_roundw
          case rel => exact ⟨k + 1, E, _, _, wb, by omega, by omega, by go_num, rfl, by go_num, M6.out.same S7, KP4.out, AW6.out.same S7⟩
          case measure => simp [intOf]; omega
      · have KP4 := hid hK
        clear hK
        go_wp2_with fail
        refine M4.out.start.mono ?_
        rintro en w5 ⟨rfl, K5, M5⟩
        have M5 := hid M5
        have AW5 := hid (AW4.out.keep K5)
        have AB5 := hid (AB4.out.keep K5)
        clear M4 AW4 AB4 K5
        go_wp2_with fail
        refine (M5.out.load KP4.out (by omega)).mono ?_
        rintro en w6 ⟨la, lc, rfl, AL6, M6, S6⟩
        have M6 := hid M6
        have AL6 := hid AL6
        have AW6 := hid (AW5.out.same S6)
        have AB6 := hid (AB5.out.same S6)
        clear M5 AW5 AB5 S6
        rw [if_neg (by omega : ¬ (E : Int) + 1 = 0)]
        have y1 : ((E : Int) + 1 == (E : Int) + 1 + 1) = false := by rw [beq_eq_false_iff_ne]; omega
        have x2 : decide ((0 : Int) < (E : Int) + 1) = true := by rw [decide_eq_true_eq]; omega
        go_wp2_with fail
        refine (AL6.out.eqs AB6.out).mono ?_
        rintro en w7 ⟨rfl, S7⟩
        have M7 := hid (M6.out.same S7)
        have AL7 := hid (AL6.out.same S7)
        clear M6 AL6 AW6 AB6 S7
        go_wp2_with fail
        refine (AL7.out.eqs AL7.out).mono ?_
        rintro en w8 ⟨rfl, S8⟩
        go_wp2_with fail
        go_roundw
        case rel => exact ⟨k + 1, E + 1, _, _, b, by omega, by omega, by go_num, by go_num, by go_num, M7.out.same S8, KP4.out, AL7.out.same S8⟩
        case measure => simp [intOf]; omega
end Go.Proofs.Ytlhnpicmjjddeaa
namespace Go.Proofs.Ytlhnpicmjjddeaa
open Go.RowKit

/-- a row of rows of the call's own; its rows lie anywhere but in M, and in no new block -/
def OwnN (w : World) (M : Nat → Prop) (base : Nat) (v : Value) (ls : List (List UInt8)) : Prop :=
  ∃ us, w.ownsRow base 23 1 v ls.length us ∧ ∀ i (h : i < ls.length) u, us[i]? = some u → (∃ e', Bytes w e' u ls[i]) ∧ ∀ g, homeOf u = some g → ¬ M g ∧ g < base
theorem OwnN.nil (w : World) (M : Nat → Prop) (base : Nat) : OwnN w M base (.slice none 0 0) [] := ⟨[], World.ownsRow_nil w base 23 1, fun _ h => absurd h (Nat.not_lt_zero _)⟩
theorem OwnN.same {w w' : World} {M : Nat → Prop} {base : Nat} {v : Value} {ls : List (List UInt8)} (h : OwnN w M base v ls) (S : Same w w') : OwnN w' M base v ls :=
  let ⟨us, h1, h2⟩ := h; ⟨us, owns_keep h1 S fun _ _ x => x, fun i hi u hu => let ⟨⟨e', hb⟩, hn⟩ := h2 i hi u hu; ⟨⟨e', hb.same S⟩, hn⟩⟩
theorem OwnN.lt {w : World} {M : Nat → Prop} {base : Nat} {v : Value} {ls : List (List UInt8)} (h : OwnN w M base v ls) : ∀ k, v.ownBlock = some k → base ≤ k ∧ k < w.heap.size := fun k e => let ⟨_, h1, _⟩ := h; World.ownsRow.lt h1 k e
theorem OwnN.rows2N {w : World} {M : Nat → Prop} {base : Nat} {v : Value} {ls : List (List UInt8)} (h : OwnN w M base v ls) (hM : ∀ k, M k → k < base) : Rows2N M w 23 v ls := by
  obtain ⟨us, h1, h2⟩ := h
  refine ⟨us, by have := h1.1; omega, Sl.of_owns h1, fun g hg hm => ?_, fun i hi u hu => ⟨(h2 i hi u hu).1, fun g hg => ((h2 i hi u hu).2 g hg).1⟩⟩
  have := (World.ownsRow.lt h1 g (home_own hg)).1
  have := hM g hm
  omega
theorem wpList_append_n {P : Program} {w : World} {ops : Array Oper} {rest : List Oper} {o : Oper} {a : Act} {Q : Exit → Act → World → Prop} (hgd : o.guard = none) (s x : Operand)
    (t : TypeId) (T : RowTy P t 23 1 24 (.slice none 0 0)) (ho : o.op = .call { callee := .builtin .append, args := #[s, x], argTypes := #[t, t] })
    {M : Nat → Prop} {base : Nat} {v : Value} {ls : List (List UInt8)} (hown : OwnN w M base v ls) {e' : TypeId} {y : Value} {us : List Value} {rs : List (List UInt8)} (hy : Sl w e' 1 y rs.length us)
    (hr : ∀ i (h : i < rs.length) u, us[i]? = some u → (∃ e2, Bytes w e2 u rs[i]) ∧ ∀ g, homeOf u = some g → ¬ M g ∧ g < base) (hs : a.eval s = v) (hx : a.eval x = y)
    (hb : ls.length + rs.length ≤ 1000000) (hbase : base ≤ w.heap.size)
    (h : ∀ v' w', OwnN w' M base v' (ls ++ rs) → Keep (fun k => v.ownBlock = some k) w w' → wpList P ops Q rest (a.put o.dst v') w') : wpList P ops Q (o :: rest) a w := by
  obtain ⟨us0, h1, h2⟩ := id hown
  have hul : us.length = rs.length := by have := hy.1; omega
  refine wpList_append_sl hgd s x T ho h1 hy hs hx ?_ (by unfold maxLen; omega) (by omega) hbase ?_
  · intro u hu
    obtain ⟨i, hi, rfl⟩ := List.mem_iff_getElem.1 hu
    obtain ⟨⟨e2, hb2⟩, _⟩ := hr i (by omega) _ (List.getElem?_eq_getElem hi)
    exact hb2.one
  · intro v' w' h3 h4
    have K : Keep (fun k => v.ownBlock = some k) w w' := (Keep.refl _ w).grown h4 fun k e => .inl e
    refine h v' w' ⟨us0 ++ us, by rw [List.length_append]; exact h3, ?_⟩ K
    have h0 : us0.length = ls.length := by have := h1.1; omega
    intro i hi u hu
    rw [List.length_append] at hi
    rcases Nat.lt_or_ge i ls.length with hl | hl
    · rw [List.getElem?_append_left (by omega)] at hu
      rw [List.getElem_append_left hl]
      obtain ⟨⟨e2, q1⟩, q2⟩ := h2 i hl u hu
      exact ⟨⟨e2, q1.keep K fun g hg hm => by have := (q2 g hg).2; have := (hown.lt g hm).1; omega⟩, q2⟩
    · rw [List.getElem?_append_right (by omega), h0] at hu
      rw [List.getElem_append_right hl]
      obtain ⟨⟨e2, q1⟩, q2⟩ := hr (i - ls.length) (by omega) u hu
      exact ⟨⟨e2, q1.keep K fun g hg hm => by have := (q2 g hg).2; have := (hown.lt g hm).1; omega⟩, q2⟩
/-- rows that lie apart, as a source of an append -/
theorem Rows2N.src {w : World} {M : Nat → Prop} {e : TypeId} {v : Value} {rs : List (List UInt8)} (h : Rows2N M w e v rs) {base : Nat} (hb : w.heap.size ≤ base) :
    ∃ us, Sl w e 1 v rs.length us ∧ ∀ i (h : i < rs.length) u, us[i]? = some u → (∃ e2, Bytes w e2 u rs[i]) ∧ ∀ g, homeOf u = some g → ¬ M g ∧ g < base :=
  let ⟨us, _, h2, _, h4⟩ := h
  ⟨us, h2, fun i hi u hu => ⟨(h4 i hi u hu).1, fun g hg => ⟨(h4 i hi u hu).2 g hg, by obtain ⟨e2, hb2⟩ := (h4 i hi u hu).1; have := Sl.home_lt hb2 hg; omega⟩⟩⟩
theorem Rows2N.same {M : Nat → Prop} {w w' : World} {e : TypeId} {v : Value} {ls : List (List UInt8)} (h : Rows2N M w e v ls) (S : Same w w') : Rows2N M w' e v ls := h.keep (S.keep M)
theorem Rows2N.nil (M : Nat → Prop) (w : World) (e : TypeId) : Rows2N M w e (.slice none 0 0) [] := ⟨[], rfl, Sl.nil w e 1, (fun g h => by simp [homeOf] at h), fun i h => absurd h (Nat.not_lt_zero i)⟩

/-- a drive and a scroll of the walk's own -/
structure MidS (w0 w : World) (p s : Value) (F : Nat → Prop) (D : Dv) (S : Sc) : Prop where
  parts : ∃ FD FS, IsDv w p FD D ∧ IsSc w s p FS S ∧ (∀ i, FD i → ¬ FS i) ∧ (∀ i, F i ↔ (FD i ∨ FS i))
  bnd : Bnd F w0.heap.size w.heap.size
  old : Same w0 w
theorem MidS.same {w0 w w' : World} {p s : Value} {F : Nat → Prop} {D : Dv} {S : Sc} (h : MidS w0 w p s F D S) (Z : Same w w') : MidS w0 w' p s F D S :=
  let ⟨FD, FS, h1, h2, h3, h4⟩ := h.parts; ⟨⟨FD, FS, h1.same Z, h2.same Z, h3, h4⟩, h.bnd.mono Z.size, h.old.trans Z⟩
theorem MidS.ok {w0 w : World} {p s : Value} {F : Nat → Prop} {D : Dv} {S : Sc} (h : MidS w0 w p s F D S) : S.Ok := let ⟨_, _, _, h2, _⟩ := h.parts; h2.ok
theorem MidS.dok {w0 w : World} {p s : Value} {F : Nat → Prop} {D : Dv} {S : Sc} (h : MidS w0 w p s F D S) : D.Ok := let ⟨_, _, h1, _⟩ := h.parts; h1.ok
theorem MidS.sptr {w0 w : World} {p s : Value} {F : Nat → Prop} {D : Dv} {S : Sc} (h : MidS w0 w p s F D S) : ∃ b, s = .pointer (some ⟨b, 0, none⟩) := let ⟨_, _, _, h2, _⟩ := h.parts; h2.ptr
theorem MidS.append {w0 w : World} {p s : Value} {F : Nat → Prop} {D : Dv} {S : Sc} (h : MidS w0 w p s F D S) (v : Value) (e : TypeId) (b : List UInt8) (hb : Bytes w e v b) (hl : b.length ≤ 20000) (hnb : ∀ g, homeOf v = some g → ¬ F g) :
    Calls Try.prog 69 #[s, v] w fun en w' => ∃ F', en = .returned (.int .i64 (S.append D b).1) ∧ Keep F w w' ∧ Grow F F' w w' ∧ MidS w0 w' p s F' (S.append D b).2.2 (S.append D b).2.1 := by
  obtain ⟨FD, FS, h1, h2, h3, h4⟩ := h.parts
  refine (cAppend w s p v FD FS D S b e h1 h2 h3 (fun k hk => (h.bnd k ((h4 k).2 (.inl hk))).2) hb hl (fun g hg hn => hnb g hg ((h4 g).2 (.inl hn)))).mono ?_
  rintro en w' ⟨FS', rfl, K, I, J, G⟩
  have K' : Keep F w w' := K.weak' fun i hi => (h4 i).2 hi
  have G' : Grow F (fun i => FD i ∨ FS' i) w w' := fun i hi => by
    rcases hi with hi | hi
    · exact .inl ((h4 i).2 (.inl hi))
    · exact (G i hi).imp (fun x => (h4 i).2 (.inr x)) id
  refine ⟨fun i => FD i ∨ FS' i, rfl, K', G', ⟨FD, FS', I, J, fun i hi hn => ?_, fun i => Iff.rfl⟩, h.bnd.grow G' K.size h.old.size, h.old.keepOwn K' fun k hk => (h.bnd k hk).1⟩
  rcases G i hn with x | x
  · exact h3 i hi x
  · have := (h.bnd i ((h4 i).2 (.inl hi))).2; omega
theorem MidS.fuse {w0 w : World} {p s : Value} {F : Nat → Prop} {D : Dv} {S : Sc} (h : MidS w0 w p s F D S) (v : Value) (e : TypeId) (m : Int) (ks : List Int) (hk : Ints w e v ks) (hl : ks.length ≤ 1000) (hm : -9223372036854775808 ≤ m ∧ m ≤ 9223372036854775807) :
    Calls Try.prog 35 #[p, .int .i64 m, v] w fun en w' => ∃ F', en = .returned (.int .i64 (D.fuse m ks).1) ∧ Keep F w w' ∧ Grow F F' w w' ∧ MidS w0 w' p s F' (D.fuse m ks).2 S := by
  obtain ⟨FD, FS, h1, h2, h3, h4⟩ := h.parts
  refine (dFuseD w p v FD D m ks e h1 hk hl hm).mono ?_
  rintro en w' ⟨FD', rfl, K, I, G⟩
  have K' : Keep F w w' := K.weak' fun i hi => (h4 i).2 (.inl hi)
  have G' : Grow F (fun i => FD' i ∨ FS i) w w' := fun i hi => by
    rcases hi with hi | hi
    · exact (G i hi).imp (fun x => (h4 i).2 (.inl x)) id
    · exact .inl ((h4 i).2 (.inr hi))
  refine ⟨fun i => FD' i ∨ FS i, rfl, K', G', ⟨FD', FS, I, h2.keep K (fun i hi hn => h3 i hn hi), fun i hi hn => ?_, fun i => Iff.rfl⟩, h.bnd.grow G' K.size h.old.size, h.old.keepOwn K' fun k hk => (h.bnd k hk).1⟩
  rcases G i hi with x | x
  · exact h3 i x hn
  · have := (h.bnd i ((h4 i).2 (.inr hn))).2; omega
theorem MidS.start {w0 w : World} {p s : Value} {F : Nat → Prop} {D : Dv} {S : Sc} (h : MidS w0 w p s F D S) :
    Calls Try.prog 41 #[p] w fun en w' => en = .returned (.int .i64 0) ∧ Keep F w w' ∧ MidS w0 w' p s F D.start S := by
  obtain ⟨FD, FS, h1, h2, h3, h4⟩ := h.parts
  refine (dStartD w p FD D h1).mono ?_
  rintro en w' ⟨rfl, K, I⟩
  have K' : Keep F w w' := K.weak' fun i hi => (h4 i).2 (.inl hi)
  exact ⟨rfl, K', ⟨FD, FS, I, h2.keep K (fun i hi hn => h3 i hn hi), h3, h4⟩, h.bnd.mono K.size, h.old.keepOwn K' fun k hk => (h.bnd k hk).1⟩
theorem MidS.open {w0 w : World} {p s : Value} {F : Nat → Prop} {D : Dv} {S : Sc} (h : MidS w0 w p s F D S) (a b life era : Int) (hE : D.openE a b life era = 0) :
    Calls Try.prog 61 #[p, .int .i64 a, .int .i64 b, .int .i64 life, .int .i64 era] w fun en w' => ∃ s' F', en = .returned (.tuple #[s', .int .i64 0]) ∧ Same w w' ∧ Grow F F' w w' ∧ MidS w0 w' p s' F' D (D.opened a b life era) := by
  obtain ⟨FD, FS, h1, h2, h3, h4⟩ := h.parts
  refine (cOpen w p FD D a b life era h1 (fun k hk => (h.bnd k ((h4 k).2 (.inl hk))).2)).mono ?_
  rintro en w' hr
  obtain ⟨s', FS', rfl, I, Z, B⟩ := hr.good hE
  have G' : Grow F (fun i => FD i ∨ FS' i) w w' := fun i hi => by
    rcases hi with hi | hi
    · exact .inl ((h4 i).2 (.inl hi))
    · exact .inr (B i hi)
  exact ⟨s', fun i => FD i ∨ FS' i, rfl, Z, G', ⟨FD, FS', h1.same Z, I, fun i hi hn => by have h5 := (h.bnd i ((h4 i).2 (.inl hi))).2; have h6 := (B i hn).1; omega, fun i => Iff.rfl⟩, h.bnd.grow G' Z.size h.old.size, h.old.trans Z⟩
theorem MidS.first {w0 w : World} {p : Value} {F : Nat → Prop} {D : Dv} (h : Mid w0 w p F D) (a b life era : Int) (hE : D.openE a b life era = 0) :
    Calls Try.prog 61 #[p, .int .i64 a, .int .i64 b, .int .i64 life, .int .i64 era] w fun en w' => ∃ s' F', en = .returned (.tuple #[s', .int .i64 0]) ∧ Same w w' ∧ MidS w0 w' p s' F' D (D.opened a b life era) := by
  refine (cOpen w p F D a b life era h.dv (fun k hk => (h.bnd k hk).2)).mono ?_
  rintro en w' hr
  obtain ⟨s', FS', rfl, I, Z, B⟩ := hr.good hE
  have G' : Grow F (fun i => F i ∨ FS' i) w w' := fun i hi => hi.imp id (B i)
  exact ⟨s', fun i => F i ∨ FS' i, rfl, Z, ⟨F, FS', h.dv.same Z, I, fun i hi hn => by have h5 := (h.bnd i hi).2; have h6 := (B i hn).1; omega, fun i => Iff.rfl⟩, h.bnd.grow G' Z.size h.old.size, h.old.trans Z⟩
theorem MidS.records {w0 w : World} {p s : Value} {F : Nat → Prop} {D : Dv} {S : Sc} (h : MidS w0 w p s F D S) :
    Calls Try.prog 65 #[s] w fun en w' => ∃ a c, en = .returned (.slice a S.all.length c) ∧ Rows2N F w' 23 (.slice a S.all.length c) S.all ∧ Same w w' := by
  obtain ⟨FD, FS, h1, h2, h3, h4⟩ := h.parts
  refine (cRecords w s p FS S h2 h1.ptr).mono ?_
  rintro en w' ⟨v, rfl, O, Z⟩
  obtain ⟨a, c, rfl, _, _⟩ := O.rows.form
  exact ⟨a, c, rfl, O.rows2N fun k hk => (h.bnd k hk).2, Z⟩
theorem MidS.live {w0 w : World} {p s : Value} {F : Nat → Prop} {D : Dv} {S : Sc} (h : MidS w0 w p s F D S) : Calls Try.prog 37 #[p] w (RetSame (.bool !D.off) w) := by
  obtain ⟨FD, FS, h1, _⟩ := h.parts
  exact dLiveD w p FD D h1
theorem Rows2N.sames {M M' : Nat → Prop} {w : World} {e e' : TypeId} {v v' : Value} {ls ls' : List (List UInt8)} (h : Rows2N M w e v ls) (h' : Rows2N M' w e' v' ls') : Calls Try.prog 64 #[v, v'] w (RetSame (.bool (decide (ls = ls'))) w) :=
  rSame2 w e e' v v' ls ls' h.rows h'.rows
theorem Rows2N.form {M : Nat → Prop} {w : World} {e : TypeId} {v : Value} {ls : List (List UInt8)} (h : Rows2N M w e v ls) : ∃ a c, v = .slice a ls.length c := let ⟨a, c, h1, _⟩ := h.rows.form; ⟨a, c, h1⟩
end Go.Proofs.Ytlhnpicmjjddeaa
