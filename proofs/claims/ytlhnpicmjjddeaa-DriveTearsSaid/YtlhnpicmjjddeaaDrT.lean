/- DISK: the walk of DriveTears. -/
import Derived.Test.YtlhnpicmjjddeaaL06b
import Derived.Test.YtlhnpicmjjddeaaOpen
namespace Go.Proofs.Ytlhnpicmjjddeaa
open Go.RowKit

/-- what stands in place i after the first write -/
def wasAt (A : List (List UInt8)) (at_ i : Nat) : List UInt8 := if at_ ≤ i ∧ i - at_ < A.length then A.getD (i - at_) [] else nought
theorem Dv.sector_of {D : Dv} {i : Nat} {c : List UInt8} (h : D.C[i]? = some c) : D.sector i = c := by
  unfold Dv.sector
  rw [if_pos (by omega), Int.toNat_natCast, List.getD_eq_getElem?_getD, h]; rfl
theorem new_at (n i : Nat) (hi : i < n) : (Dv.new n).C[i]? = some nought := by simp [Dv.new, nought, hi]
theorem not_bad (D : Dv) (at_ : Nat) (A : List (List UInt8)) (h : at_ + A.length ≤ D.C.length) (h96 : ∀ c ∈ A, c.length = 96) : D.bad at_ A = false := by
  unfold Dv.bad
  have e : A.any isLong = false := List.any_eq_false.2 fun c hc => by simp [isLong, h96 c hc]
  rw [e]
  simp
  omega
/-- what a write on a live, unfused drive leaves -/
theorem write_live (D : Dv) (at_ : Nat) (A : List (List UInt8)) (ho : D.off = false) (hf : D.fused = false) (h : at_ + A.length ≤ D.C.length) (h96 : ∀ c ∈ A, c.length = 96) :
    D.write at_ A = (0, { D with C := landed D.C at_ A (fun _ => true) A.length }) := by
  have hb : D.blown = false := by unfold Dv.blown; rw [hf]; rfl
  have hk : D.keeps = fun _ => true := by funext i; unfold Dv.keeps; rw [hb]; rfl
  unfold Dv.write
  rw [ho, if_neg (by simp), not_bad D at_ A h h96, if_neg (by simp)]
  split
  · rename_i e
    subst e
    congr 1
    rw [List.length_nil, landed_zero]
    obtain ⟨C, off, fused, left, keep⟩ := D
    simp only at ho hf
    subst ho hf
    rfl
  · rw [hb, if_neg (by simp)]
    congr 1
    unfold Dv.wrote
    rw [hb, hf, hk, Int.toNat_natCast]
    obtain ⟨C, off, fused, left, keep⟩ := D
    simp only at ho hf
    subst ho hf
    rfl
theorem tear1 (A : List (List UInt8)) (at_ : Nat) (hat : at_ ≤ 10) (hA : A.length ≤ 40) (h96 : ∀ c ∈ A, c.length = 96) :
    ∃ D1, (Dv.new 50).write at_ A = (0, D1) ∧ D1.C.length = 50 ∧ D1.off = false ∧ ∀ i, i < 50 → D1.C[i]? = some (wasAt A at_ i) := by
  have hl : (Dv.new 50).C.length = 50 := by simp [Dv.new]
  refine ⟨_, write_live _ _ _ rfl rfl (by omega) h96, by rw [landed_length]; exact hl, rfl, fun i hi => ?_⟩
  simp only
  rw [landed_at]
  unfold wasAt
  by_cases h : at_ ≤ i ∧ i - at_ < A.length
  · rw [if_pos ⟨h.1, by omega, rfl, by omega⟩, if_pos h, List.getD_eq_getElem?_getD, List.getElem?_eq_getElem h.2]; rfl
  · rw [if_neg (by omega), if_neg h, new_at 50 i hi]
theorem tear3 (D1 : Dv) (A B : List (List UInt8)) (K : List Int) (at_ : Nat) (hl : D1.C.length = 50) (ho : D1.off = false) (hw : ∀ i, i < 50 → D1.C[i]? = some (wasAt A at_ i)) (hat : at_ ≤ 10) (hB : B.length ≤ 40)
    (h96 : ∀ c ∈ B, c.length = 96) (hne : B ≠ []) :
    ∃ D3, (D1.fuse 0 K).2.write at_ B = (9, D3) ∧ D3.C.length = 50 ∧ D3.off = true ∧ ∀ i, i < 50 → D3.C[i]? = some (wasAt A at_ i) ∨ (at_ ≤ i ∧ i - at_ < B.length ∧ D3.C[i]? = B[i - at_]?) := by
  have e : D1.fuse 0 K = (0, { D1 with fused := true, left := 0, keep := K }) := by unfold Dv.fuse; rw [ho]; rfl
  rw [e]
  have hb : Dv.blown { D1 with fused := true, left := 0, keep := K } = true := rfl
  refine ⟨Dv.wrote { D1 with fused := true, left := 0, keep := K } at_ B, ?_, ?_, ?_, ?_⟩
  · unfold Dv.write
    rw [if_neg (by simp [ho]), not_bad _ at_ B (by show at_ + _ ≤ D1.C.length; omega) h96, if_neg (by simp), if_neg hne, hb]
    rfl
  · unfold Dv.wrote; simp only; rw [landed_length]; exact hl
  · exact hb
  · intro i hi
    unfold Dv.wrote
    simp only
    rw [Int.toNat_natCast, landed_at]
    split
    · rename_i h; exact .inr ⟨h.1, by omega, rfl⟩
    · exact .inl (hw i hi)
theorem tear3_none (D1 : Dv) (K : List Int) (at_ : Nat) (hl : D1.C.length = 50) (ho : D1.off = false) (hat : at_ ≤ 10) : (D1.fuse 0 K).2.write at_ [] = (0, (D1.fuse 0 K).2) ∧ (D1.fuse 0 K).2.off = false := by
  have e : D1.fuse 0 K = (0, { D1 with fused := true, left := 0, keep := K }) := by unfold Dv.fuse; rw [ho]; rfl
  rw [e]
  refine ⟨?_, ho⟩
  unfold Dv.write
  rw [if_neg (by simp [ho]), not_bad _ at_ [] (by show at_ + _ ≤ D1.C.length; simp; omega) (fun c hc => by simp at hc), if_neg (by simp), if_pos rfl]
theorem fuse_err (D1 : Dv) (K : List Int) (ho : D1.off = false) : (D1.fuse 0 K).1 = 0 := by unfold Dv.fuse; rw [ho]; rfl
/-- what a sector of the torn drive is -/
def Torn (A B : List (List UInt8)) (at_ i : Nat) (c : List UInt8) : Prop := c = wasAt A at_ i ∨ (at_ ≤ i ∧ ∃ h : i - at_ < B.length, c = B[i - at_])
theorem zeros96_bytes (w : World) : Bytes (w.alloc (.cells (zeros 96) 5)) 5 (.slice (some ⟨w.heap.size, 0, none⟩) 96 96) nought := (OwnB.zeros w 96 (by omega)).bytes

set_option maxHeartbeats 3200000 in
set_option maxRecDepth 100000 in
theorem driveTearsWalk (w : World) (n : Int) (v1 v2 v3 : Value) (e1 e2 e3 : TypeId) (fs sc : List (List UInt8)) (ld : List Int) (h1 : Rows2 w e1 v1 fs) (h2 : Rows2 w e2 v2 sc) (h3 : Ints w e3 v3 ld) :
    Calls Try.prog 7 #[.int .i64 n, v1, v2, v3] w (RetSame (.bool true) w) := by
  have HLv := hid lLives
  have HWas := hid lWas
  obtain ⟨at_, hat, hat10⟩ : ∃ a : Nat, (if n < 0 then 0 else if 10 < n then 10 else n) = (a : Int) ∧ a ≤ 10 := by
    refine ⟨(if n < 0 then 0 else if 10 < n then 10 else n).toNat, ?_, ?_⟩ <;> split <;> (try split) <;> omega
  have HAt : Hid (∀ w, Calls Try.prog 31 #[.int .i64 n, .int .i64 0, .int .i64 10] w fun e w' => e = .returned (.int .i64 at_) ∧ w = w') := fun w => by rw [← hat]; exact r01In w n 0 10
  have HC1 := hid (fun w' (S : Same w w') => lCells w' e1 v1 fs (h1.same S))
  have HC2 := hid (fun w' (S : Same w w') => lCells w' e2 v2 sc (h2.same S))
  have HK := hid (fun w' (S : Same w w') => lKeep w' e3 v3 ld (h3.same S))
  have hA40 : (cellsOf fs).length ≤ 40 := by rw [cellsOf_length]; omega
  have hB40 : (cellsOf sc).length ≤ 40 := by rw [cellsOf_length]; omega
  have HA96 := hid (cellsOf_96 fs)
  have HB96 := hid (cellsOf_96 sc)
  have hK40 : Hid ((ld.take 40).length ≤ 1000) := by show _ ≤ _; rw [List.length_take]; omega
  obtain ⟨ao1, cap1, rfl, _, _⟩ := h1.form
  obtain ⟨ao2, cap2, rfl, _, _⟩ := h2.form
  obtain ⟨ao3, cap3, rfl, _, _⟩ := h3.form
  clear hat h1 h2 h3
  generalize cellsOf fs = A at *
  generalize cellsOf sc = B at *
  generalize ld.take 40 = K at *
  obtain ⟨D1, t1, t2, t3, t4⟩ := tear1 A at_ hat10 hA40 HA96.out
  have T1 := hid t1
  have T3 := hid (fun hne => tear3 D1 A B K at_ t2 t3 t4 hat10 hB40 HB96.out hne)
  have T3n := hid (tear3_none D1 K at_ t2 t3 hat10)
  have TF := hid (fuse_err D1 K t3)
  have hmk := runMake96
  have HZ := hid zeros96_bytes
  clear t1 t2 t3 t4
  go_enter Try.func7, Try.ntmps7
  go_wp2_with fail
  refine (dNewD w 50 (by omega) (by omega)).mono ?_
  rintro en w1 ⟨p, F, rfl, S1, D0, B1⟩
  have D0 := hid D0
  have B1 := hid B1
  obtain ⟨b, hp⟩ : ∃ b, p = .pointer (some ⟨b, 0, none⟩) := by obtain ⟨b, _, _, _, e, _⟩ := D0.out; exact ⟨b, e⟩
  subst hp
  have S1 := hid S1
  go_wp2_with fail
  refine (HC1.out _ S1.out).mono ?_
  rintro en w2 ⟨va, rfl, hA, S2⟩
  have NA := hid (hA.rows2N (M := F) (fun k hk => (B1.out k hk).2))
  obtain ⟨aA, cA, rfl, fA1, fA2⟩ := hA.rows.form
  have S2 := hid S2
  clear hA
  go_wp2_with fail
  refine (HC2.out _ (S1.out.trans S2.out)).mono ?_
  rintro en w3 ⟨vb, rfl, hB, S3⟩
  have NB := hid (hB.rows2N (M := F) (fun k hk => Nat.lt_of_lt_of_le (B1.out k hk).2 S2.out.size))
  obtain ⟨aB, cB, rfl, fB1, fB2⟩ := hB.rows.form
  have NA := hid (NA.out.keep (S3.keep F))
  have T := hid ((S1.out.trans S2.out).trans S3)
  have D0 := hid (D0.out.same (S2.out.trans S3))
  have B1 := hid (B1.out.mono (Nat.le_trans S2.out.size S3.size))
  clear hB S2 S3 S1
  unfold maxLen at fA2 fB2
  go_wp2_with fail
  refine (HAt.out _).mono ?_
  rintro en w1' ⟨rfl, rfl⟩
  go_wp2_with fail
  refine (dWrite _ _ _ _ (at_ : Int) _ _ _ D0.out NA.out).mono ?_
  rintro en w4 ⟨rfl, K4, D4⟩
  rw [T1.out] at D4 ⊢
  have NA := hid (NA.out.keep K4)
  have NB := hid (NB.out.keep K4)
  have T := hid (T.out.keepOwn K4 (fun k hk => (B1.out k hk).1))
  have B1 := hid (B1.out.mono K4.size)
  have D4 := hid D4
  clear K4 D0
  go_wp2_with fail
  refine (HK.out _ T.out).mono ?_
  rintro en w5 ⟨vk, rfl, hK, rfl⟩
  obtain ⟨aK, cK, rfl, fK1, fK2⟩ := hK.form
  have HKI := hid hK
  clear hK
  go_wp2_with fail
  refine (dFuseD _ _ _ _ _ 0 K _ D4.out HKI.out hK40.out (by omega)).mono ?_
  rintro en w6 ⟨F', rfl, K6, D6, G6⟩
  rw [TF.out]
  have NA := hid (NA.out.grow K6 G6)
  have NB := hid (NB.out.grow K6 G6)
  have hT6 := T.out.keepOwn K6 (fun k hk => (B1.out k hk).1)
  have B1 := hid (B1.out.grow G6 K6.size T.out.size)
  have T := hid hT6
  have D6 := hid D6
  clear K6 G6 D4 hT6
  go_wp2_with fail
  refine (dWrite _ _ _ _ (at_ : Int) _ _ _ D6.out NB.out).mono ?_
  rintro en w7 ⟨rfl, K7, D7⟩
  have NA := hid (NA.out.keep K7)
  have NB := hid (NB.out.keep K7)
  have T := hid (T.out.keepOwn K7 (fun k hk => (B1.out k hk).1))
  have B1 := hid (B1.out.mono K7.size)
  have D7 := hid D7
  clear K7 D6
  by_cases hne : B = []
  · subst hne
    rw [T3n.out.1] at D7 ⊢
    have HL := hid (dLiveD _ _ _ _ D7.out)
    rw [T3n.out.2] at HL
    clear D7
    go_wp2_with fail
    refine HL.out.mono ?_
    rintro en w8 ⟨rfl, S8⟩
    go_wp2_with fail
    refine (HLv.out _).mono ?_
    rintro en w9 ⟨rfl, S9⟩
    go_wp2_with fail
    go_ret
    exact ⟨rfl, (T.out.trans S8).trans S9⟩
  · obtain ⟨D3, q1, q2, q3, q4⟩ := T3.out hne
    rw [q1] at D7 ⊢
    have HE : Hid (∀ i : Nat, i < 50 → D3.readE i = 0 ∧ Torn A B at_ i (D3.sector i)) := by
      intro i hi
      refine ⟨by unfold Dv.readE; rw [if_pos (by rw [q2]; omega)], ?_⟩
      rcases q4 i hi with h | ⟨h1, h2, h⟩
      · exact .inl (Dv.sector_of h)
      · rw [List.getElem?_eq_getElem h2] at h
        exact .inr ⟨h1, h2, Dv.sector_of h⟩
    have HO := hid q3
    have hn0 : 0 < B.length := List.length_pos_iff.2 hne
    have hB0 : ((B.length : Int) == 0) = false := by rw [beq_eq_false_iff_ne]; omega
    clear q1 q2 q3 q4 hne
    go_wp2_with fail
    go_loopw [14] (fun i wq => ∃ j : Nat, j ≤ 50 ∧ i = .int .i64 j ∧ Same w7 wq) (fun i _ => 50 - (intOf i).toNat)
    case atStart => exact ⟨0, Nat.zero_le _, rfl, Same.refl _⟩
    case round =>
      obtain ⟨i, hi, rfl, Sq⟩ := hrel
      have Sq := hid Sq
      have Dq := hid (D7.out.same Sq.out)
      by_cases hi50 : i < 50
      · have HR := hid (dReadD _ _ _ _ (i : Int) Dq.out)
        obtain ⟨z1, z2⟩ := HE.out i hi50
        rw [z1] at HR
        have Z2 := hid z2
        clear z1 z2
        generalize D3.sector i = c at *
        go_wp2_with fail
        refine HR.out.mono ?_
        rintro en w4 ⟨v4, e4, rfl, h4, S4, _⟩
        obtain ⟨a4, c4, rfl, f3, f4⟩ := h4.form
        have H4 := hid (h4.same ((Same.refl w4).alloc (.cells (zeros 96) 5)))
        have S4 := hid (Sq.out.trans S4)
        have S5 := hid (S4.out.alloc (.cells (zeros 96) 5))
        clear h4
        by_cases hge : at_ ≤ i
        · by_cases hA : i - at_ < A.length
          · by_cases hB : i - at_ < B.length
            · have hdA : decide ((i : Int) - (at_ : Int) < A.length) = true := by simp; omega
              have hdB : decide ((i : Int) - (at_ : Int) < B.length) = true := by simp; omega
              obtain ⟨ga, oa, aa, ca, ea, rfl, hca, hba⟩ := (NA.out.rows.same S4.out).row (i - at_) hA
              rw [show A[i - at_] = wasAt A at_ i from by unfold wasAt; rw [if_pos ⟨hge, hA⟩, List.getD_eq_getElem?_getD, List.getElem?_eq_getElem hA]; rfl] at hca hba
              have ha1 := World.block_lt_of_cell? w4 _ hca
              have HBa := hid (hba.same ((Same.refl w4).alloc (.cells (zeros 96) 5)))
              obtain ⟨gb, ob, ab, cb, eb, rfl, hcb, hbb⟩ := (NB.out.rows.same S4.out).row (i - at_) hB
              have hb1 := World.block_lt_of_cell? w4 _ hcb
              have HBb := hid (hbb.same ((Same.refl w4).alloc (.cells (zeros 96) 5)))
              have hsub : (i : Int) - (at_ : Int) = ((i - at_ : Nat) : Int) := by omega
              by_cases hE : c = wasAt A at_ i
              · have HS1 := hid (r01SameS _ _ _ _ _ c (wasAt A at_ i) H4.out HBa.out)
                rw [decide_eq_true hE] at HS1
                clear hE
                generalize wasAt A at_ i = wa at *
                generalize B[i - at_] = wb at *
                go_wp2_with fail
                refine HS1.out.mono ?_
                rintro en w8 ⟨rfl, S8⟩
                have HS8 := hid S8
                clear S8
                go_wp2_with fail
                have S5 := hid (S5.out.trans HS8.out)
                go_roundw
                case rel => exact ⟨i + 1, by omega, by go_num, S5.out⟩
                case measure => simp [intOf]; omega
              · have HS1 := hid (r01SameS _ _ _ _ _ c (wasAt A at_ i) H4.out HBa.out)
                rw [decide_eq_false hE] at HS1
                obtain ⟨_, _, hcB⟩ : at_ ≤ i ∧ ∃ h : i - at_ < B.length, c = B[i - at_] := by
                  rcases Z2.out with h | h
                  · exact absurd (by rw [h]) hE
                  · exact h
                have HS2 := hid (fun wz (S : Same (w4.alloc (.cells (zeros 96) 5)) wz) => r01SameS wz _ _ _ _ c B[i - at_] (H4.out.same S) (HBb.out.same S))
                rw [decide_eq_true hcB] at HS2
                have hcb2 := fun wz (S : Same (w4.alloc (.cells (zeros 96) 5)) wz) => (S.cell (p := ⟨gb, ob + (i - at_), none⟩) (by rw [World.size_alloc]; exact Nat.lt_succ_of_lt hb1)).trans ((((Same.refl w4).alloc (.cells (zeros 96) 5)).cell (p := ⟨gb, ob + (i - at_), none⟩) hb1).trans hcb)
                have HC2' := hid hcb2
                clear hcb2 hcB
                clear hE
                generalize wasAt A at_ i = wa at *
                generalize B[i - at_] = wb at *
                go_wp2_with fail
                refine HS1.out.mono ?_
                rintro en w8 ⟨rfl, S8⟩
                have hcb3 := HC2'.out _ S8
                have HS8 := hid S8
                clear S8
                go_wp2_with fail
                refine (HS2.out _ HS8.out).mono ?_
                rintro en w9 ⟨rfl, S9⟩
                have HS8 := hid (HS8.out.trans S9)
                clear S9
                go_wp2_with fail
                have S5 := hid (S5.out.trans HS8.out)
                go_roundw
                case rel => exact ⟨i + 1, by omega, by go_num, S5.out⟩
                case measure => simp [intOf]; omega
            · have hdA : decide ((i : Int) - (at_ : Int) < A.length) = true := by simp; omega
              have hdB : decide ((i : Int) - (at_ : Int) < B.length) = false := by simp; omega
              obtain ⟨ga, oa, aa, ca, ea, rfl, hca, hba⟩ := (NA.out.rows.same S4.out).row (i - at_) hA
              rw [show A[i - at_] = wasAt A at_ i from by unfold wasAt; rw [if_pos ⟨hge, hA⟩, List.getD_eq_getElem?_getD, List.getElem?_eq_getElem hA]; rfl] at hca hba
              have ha1 := World.block_lt_of_cell? w4 _ hca
              have HBa := hid (hba.same ((Same.refl w4).alloc (.cells (zeros 96) 5)))
              have hsub : (i : Int) - (at_ : Int) = ((i - at_ : Nat) : Int) := by omega
              by_cases hE : c = wasAt A at_ i
              · have HS1 := hid (r01SameS _ _ _ _ _ c (wasAt A at_ i) H4.out HBa.out)
                rw [decide_eq_true hE] at HS1
                clear hE
                generalize wasAt A at_ i = wa at *
                go_wp2_with fail
                refine HS1.out.mono ?_
                rintro en w8 ⟨rfl, S8⟩
                have HS8 := hid S8
                clear S8
                go_wp2_with fail
                have S5 := hid (S5.out.trans HS8.out)
                go_roundw
                case rel => exact ⟨i + 1, by omega, by go_num, S5.out⟩
                case measure => simp [intOf]; omega
              · have HS1 := hid (r01SameS _ _ _ _ _ c (wasAt A at_ i) H4.out HBa.out)
                rw [decide_eq_false hE] at HS1
                rcases Z2.out with h | ⟨h, h', _⟩
                · exact absurd (by rw [h]) hE
                · first | exact absurd h' hB | exact absurd h hge
          · by_cases hB : i - at_ < B.length
            · have hdA : decide ((i : Int) - (at_ : Int) < A.length) = false := by simp; omega
              have hdB : decide ((i : Int) - (at_ : Int) < B.length) = true := by simp; omega
              obtain ⟨gb, ob, ab, cb, eb, rfl, hcb, hbb⟩ := (NB.out.rows.same S4.out).row (i - at_) hB
              have hb1 := World.block_lt_of_cell? w4 _ hcb
              have HBb := hid (hbb.same ((Same.refl w4).alloc (.cells (zeros 96) 5)))
              have hsub : (i : Int) - (at_ : Int) = ((i - at_ : Nat) : Int) := by omega
              have hw0 : wasAt A at_ i = nought := by unfold wasAt; rw [if_neg (by omega)]
              by_cases hE : c = wasAt A at_ i
              · rw [hw0] at hE
                have HS1 := hid (r01SameS _ _ _ _ _ c nought H4.out (HZ.out w4))
                rw [decide_eq_true hE] at HS1
                clear hE
                generalize B[i - at_] = wb at *
                go_wp2_with fail
                refine HS1.out.mono ?_
                rintro en w8 ⟨rfl, S8⟩
                have HS8 := hid S8
                clear S8
                go_wp2_with fail
                have S5 := hid (S5.out.trans HS8.out)
                go_roundw
                case rel => exact ⟨i + 1, by omega, by go_num, S5.out⟩
                case measure => simp [intOf]; omega
              · rw [hw0] at hE
                have HS1 := hid (r01SameS _ _ _ _ _ c nought H4.out (HZ.out w4))
                rw [decide_eq_false hE] at HS1
                obtain ⟨_, _, hcB⟩ : at_ ≤ i ∧ ∃ h : i - at_ < B.length, c = B[i - at_] := by
                  rcases Z2.out with h | h
                  · exact absurd (by rw [h, hw0]) hE
                  · exact h
                have HS2 := hid (fun wz (S : Same (w4.alloc (.cells (zeros 96) 5)) wz) => r01SameS wz _ _ _ _ c B[i - at_] (H4.out.same S) (HBb.out.same S))
                rw [decide_eq_true hcB] at HS2
                have hcb2 := fun wz (S : Same (w4.alloc (.cells (zeros 96) 5)) wz) => (S.cell (p := ⟨gb, ob + (i - at_), none⟩) (by rw [World.size_alloc]; exact Nat.lt_succ_of_lt hb1)).trans ((((Same.refl w4).alloc (.cells (zeros 96) 5)).cell (p := ⟨gb, ob + (i - at_), none⟩) hb1).trans hcb)
                have HC2' := hid hcb2
                clear hcb2 hcB
                clear hE
                generalize B[i - at_] = wb at *
                go_wp2_with fail
                refine HS1.out.mono ?_
                rintro en w8 ⟨rfl, S8⟩
                have hcb3 := HC2'.out _ S8
                have HS8 := hid S8
                clear S8
                go_wp2_with fail
                refine (HS2.out _ HS8.out).mono ?_
                rintro en w9 ⟨rfl, S9⟩
                have HS8 := hid (HS8.out.trans S9)
                clear S9
                go_wp2_with fail
                have S5 := hid (S5.out.trans HS8.out)
                go_roundw
                case rel => exact ⟨i + 1, by omega, by go_num, S5.out⟩
                case measure => simp [intOf]; omega
            · have hdA : decide ((i : Int) - (at_ : Int) < A.length) = false := by simp; omega
              have hdB : decide ((i : Int) - (at_ : Int) < B.length) = false := by simp; omega
              have hsub : (i : Int) - (at_ : Int) = ((i - at_ : Nat) : Int) := by omega
              have hw0 : wasAt A at_ i = nought := by unfold wasAt; rw [if_neg (by omega)]
              by_cases hE : c = wasAt A at_ i
              · rw [hw0] at hE
                have HS1 := hid (r01SameS _ _ _ _ _ c nought H4.out (HZ.out w4))
                rw [decide_eq_true hE] at HS1
                clear hE
                go_wp2_with fail
                refine HS1.out.mono ?_
                rintro en w8 ⟨rfl, S8⟩
                have HS8 := hid S8
                clear S8
                go_wp2_with fail
                have S5 := hid (S5.out.trans HS8.out)
                go_roundw
                case rel => exact ⟨i + 1, by omega, by go_num, S5.out⟩
                case measure => simp [intOf]; omega
              · rw [hw0] at hE
                have HS1 := hid (r01SameS _ _ _ _ _ c nought H4.out (HZ.out w4))
                rw [decide_eq_false hE] at HS1
                rcases Z2.out with h | ⟨h, h', _⟩
                · exact absurd (by rw [h, hw0]) hE
                · first | exact absurd h' hB | exact absurd h hge
        · have hw0 : wasAt A at_ i = nought := by unfold wasAt; rw [if_neg (by omega)]
          by_cases hE : c = wasAt A at_ i
          · rw [hw0] at hE
            have HS1 := hid (r01SameS _ _ _ _ _ c nought H4.out (HZ.out w4))
            rw [decide_eq_true hE] at HS1
            clear hE
            go_wp2_with fail
            refine HS1.out.mono ?_
            rintro en w8 ⟨rfl, S8⟩
            have HS8 := hid S8
            clear S8
            go_wp2_with fail
            have S5 := hid (S5.out.trans HS8.out)
            go_roundw
            case rel => exact ⟨i + 1, by omega, by go_num, S5.out⟩
            case measure => simp [intOf]; omega
          · rw [hw0] at hE
            have HS1 := hid (r01SameS _ _ _ _ _ c nought H4.out (HZ.out w4))
            rw [decide_eq_false hE] at HS1
            rcases Z2.out with h | ⟨h, h', _⟩
            · exact absurd (by rw [h, hw0]) hE
            · first | exact absurd h' hB | exact absurd h hge
      · have HL := hid (dLiveD _ _ _ _ Dq.out)
        rw [HO.out] at HL
        have HWr := hid (fun wz (S : Same wr wz) (v : Value) => dWriteOff wz _ _ _ 0 v [] (Dq.out.same S) HO.out)
        have HT := hid (T.out.trans Sq.out)
        have HBq := hid (B1.out.mono Sq.out.size)
        go_wp2_with fail
        refine HL.out.mono ?_
        rintro en w8 ⟨rfl, S8⟩
        go_wp2_with fail
        refine (HWas.out _).mono ?_
        rintro en w9 ⟨v9, rfl, O9, S9⟩
        obtain ⟨a9, c9, rfl, _, _⟩ := O9.bytes.form
        clear O9
        have S10 := hid ((S8.trans S9).alloc (.cells #[.slice a9 nought.length c9] 23))
        clear S8 S9
        go_wp2_with fail
        refine (HWr.out _ S10.out _).mono ?_
        rintro en w11 ⟨rfl, K11, _⟩
        have e9 : (D3.write 0 []).1 = 9 := by unfold Dv.write; rw [HO.out]; rfl
        rw [e9]
        have HT := hid ((HT.out.trans S10.out).keepOwn K11 (fun k hk => (HBq.out k hk).1))
        clear K11
        go_wp2_with fail
        refine (HLv.out _).mono ?_
        rintro en w12 ⟨rfl, S12⟩
        go_wp2_with fail
        go_ret
        exact ⟨rfl, HT.out.trans S12⟩
end Go.Proofs.Ytlhnpicmjjddeaa
