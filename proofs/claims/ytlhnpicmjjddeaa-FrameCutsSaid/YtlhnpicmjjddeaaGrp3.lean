/- Three neighbouring bytes turned: the walk of CrcTurns. FRAME's reference: number, Is. FRAME's reference: Is. FRAME's reference: Encode. FRAME's reference: value. FRAME's reference: Cut. FRAME's reference: Cut of no bytes; Cut. FRAME: the walk of FrameCuts. What comes in, opened: rows of bytes, rows of rows, rows of ints. No further condition. -/
import Derived.Test.YtlhnpicmjjddeaaGrp2
import Derived.BigRegion
import Derived.Test.YtlhnpicmjjddeaaGrp1
import Derived.Test.YtlhnpicmjjddeaaGrp0
import Derived.Deep.Matrix
set_option linter.unusedVariables false
set_option linter.unusedSimpArgs false
namespace Go.Proofs.Ytlhnpicmjjddeaa
open Go.RowKit

theorem sets_zip (s : List UInt8) (i : Nat) (h : i + 3 ≤ s.length) (x y z : UInt8) :
    ((s.set i (s[i]'(by omega) ^^^ x)).set (i + 1) (s[i + 1]'(by omega) ^^^ y)).set (i + 2) (s[i + 2]'(by omega) ^^^ z) =
      List.zipWith (· ^^^ ·) s (List.replicate i 0 ++ [x, y, z] ++ List.replicate (s.length - i - 3) 0) := by
  apply List.ext_getElem
  · simp; omega
  · intro j h1 h2
    simp only [List.getElem_zipWith, List.getElem_set]
    by_cases a : i + 2 = j
    · subst a
      rw [if_pos rfl]
      congr 1
      rw [List.getElem_append_left (by simp), List.getElem_append_right (by simp)]
      simp
    · rw [if_neg a]
      by_cases b : i + 1 = j
      · subst b
        rw [if_pos rfl]
        congr 1
        rw [List.getElem_append_left (by simp), List.getElem_append_right (by simp)]
        simp
      · rw [if_neg b]
        by_cases c : i = j
        · subst c
          rw [if_pos rfl]
          congr 1
          rw [List.getElem_append_left (by simp), List.getElem_append_right (by simp)]
          simp
        · rw [if_neg c]
          have : ∀ u : UInt8, u = 0 → s[j]'(by simpa using h1) = s[j]'(by simpa using h1) ^^^ u := by intro u hu; subst hu; simp
          apply this
          by_cases d : j < i
          · rw [List.getElem_append_left (by simp; omega), List.getElem_append_left (by simp; omega)]
            simp
          · rw [List.getElem_append_right (by simp; omega)]
            simp
def turned (s : List UInt8) (i : Nat) (x y z : UInt8) : List UInt8 := ((s.set i (s.getD i 0 ^^^ x)).set (i + 1) (s.getD (i + 1) 0 ^^^ y)).set (i + 2) (s.getD (i + 2) 0 ^^^ z)
theorem turned_told (l : List UInt8) (i : Nat) (h : i + 3 ≤ (CrcPure.sealed l).length) (x y z : UInt8) (hne : ¬ (x = 0 ∧ y = 0 ∧ z = 0)) : openOk (turned (CrcPure.sealed l) i x y z) = false := by
  unfold turned
  rw [List.getD_eq_getElem?_getD, List.getD_eq_getElem?_getD, List.getD_eq_getElem?_getD, List.getElem?_eq_getElem (by omega), List.getElem?_eq_getElem (by omega), List.getElem?_eq_getElem (by omega)]
  simp only [Option.getD_some]
  rw [sets_zip _ i h]
  apply decide_eq_false
  intro e
  refine CrcPure.told (CrcPure.sealed l) _ i x y z h hne (CrcPure.more_sealed l) rfl ?_
  rw [← e]
  exact CrcPure.more_sealed _
theorem turned_length (s : List UInt8) (i : Nat) (x y z : UInt8) : (turned s i x y z).length = s.length := by simp [turned]

theorem OwnB.store {w : World} {base g n cap : Nat} {l : List UInt8} (h : OwnB w base (.slice (some ⟨g, 0, none⟩) n cap) l) (j : Nat) (x : UInt8) :
    OwnB (w.setCell ⟨g, j, none⟩ (u8 x)) base (.slice (some ⟨g, 0, none⟩) n cap) (l.set j x) := by
  have hn : n = l.length := Bytes.len h.bytes
  subst hn
  have := World.ownsRow.stored h j (u8 x)
  unfold OwnB
  rw [List.length_set, List.map_set]
  exact this.1
theorem OwnB.at {w : World} {base g n cap : Nat} {l : List UInt8} (h : OwnB w base (.slice (some ⟨g, 0, none⟩) n cap) l) (j : Nat) (hj : j < l.length) :
    w.cell? ⟨g, j, none⟩ = some (.int .u8 ((l.getD j 0).toNat : Int)) ∧ w.frozen? ⟨g, j, none⟩ = false := by
  have hn : n = l.length := Bytes.len h.bytes
  subst hn
  have h1 := World.ownsRow.cellAt h j (by omega)
  have h2 := World.ownsRow.frozenAt h j
  refine ⟨?_, h2⟩
  rw [h1, List.getElem?_map, List.getD_eq_getElem?_getD, List.getElem?_eq_getElem hj]
  rfl
theorem OwnB.head {w : World} {base : Nat} {v : Value} {l : List UInt8} (h : OwnB w base v l) (hl : l.length ≠ 0) : ∃ g cap, v = .slice (some ⟨g, 0, none⟩) l.length cap ∧ base ≤ g ∧ l.length ≤ cap ∧ cap ≤ maxLen := by
  obtain ⟨_, h2⟩ := h
  rcases h2 with ⟨_, h2⟩ | ⟨g, cap, cur, a, b, c, d, e, _⟩
  · exact absurd h2 hl
  · exact ⟨g, cap, a, b, d, e⟩

theorem xor_u8 (a b : UInt8) : bits BinOp.xor IntKind.u8 (a.toNat : Int) (b.toNat : Int) = (((a ^^^ b).toNat : Nat) : Int) := by
  rw [u8_xor_nat a.toNat b.toNat (CrcPure.u8_lt a) (CrcPure.u8_lt b), UInt8.toNat_xor]
theorem u8_of_int {n : Int} (h : 0 ≤ n ∧ n < 256) : ∃ x : UInt8, n = (x.toNat : Int) := ⟨UInt8.ofNat n.toNat, by simp; omega⟩
theorem u8_zero (x : UInt8) : x = 0 ↔ (x.toNat : Int) = 0 := by
  constructor
  · intro h; subst h; rfl
  · intro h; apply UInt8.toNat_inj.1; simp; omega

set_option maxHeartbeats 1600000 in
set_option maxRecDepth 100000 in
theorem crcTurnsWalk (va : Value) (e1 : TypeId) (la : List UInt8) (pl : Int) (x y z : UInt8) (w : World) (ha : Bytes w e1 va la) :
    Calls Try.prog 6 #[va, .int .i64 pl, .int .u8 (x.toNat : Int), .int .u8 (y.toNat : Int), .int .u8 (z.toNat : Int)] w (RetSame (.bool true) w) := by
  have H := hid crcLives
  have hx := CrcPure.u8_lt x
  have hy := CrcPure.u8_lt y
  have hz := CrcPure.u8_lt z
  go_enter Try.func6, Try.ntmps6
  go_wp2_with fail
  refine (r01Cut w e1 va la 300 ha).mono ?_
  rintro en w' ⟨v1, rfl, h1, rfl⟩
  have L1 : (la.take 300).length ≤ 300 := by rw [List.length_take]; omega
  generalize la.take 300 = p at *
  go_wp2_with fail
  refine (crcSeal _ e1 _ p h1 (by omega)).mono ?_
  rintro en w1 ⟨v3, rfl, h3, S1⟩
  have HT := fun i h => hid (turned_told p i h x y z)
  have hlen := CrcPure.sealed_length p
  generalize CrcPure.sealed p = s at *
  have hl0 : s.length ≠ 0 := by omega
  obtain ⟨g, cap, rfl, hg1, hg2, hg3⟩ := h3.head hl0
  unfold maxLen at hg3
  have hl3 : 3 ≤ s.length := by omega
  have hl9 : s.length ≤ 303 := by omega
  clear hlen hl0
  go_wp2_with fail
  refine (r01In _ _ _ _).mono ?_
  rintro en w2 ⟨rfl, rfl⟩
  obtain ⟨i, hi, hi3⟩ : ∃ i : Nat, (if pl < 0 then (0 : Int) else if (s.length : Int) - 3 < pl then (s.length : Int) - 3 else pl) = (i : Int) ∧ i + 3 ≤ s.length := by
    split
    · exact ⟨0, rfl, by omega⟩
    · split
      · exact ⟨s.length - 3, by omega, by omega⟩
      · exact ⟨pl.toNat, by omega, by omega⟩
  rw [hi]
  clear hi
  by_cases h0 : x = 0 ∧ y = 0 ∧ z = 0
  · obtain ⟨rfl, rfl, rfl⟩ := h0
    go_wp2_with fail
    refine (H.out _).mono ?_
    rintro en w3 ⟨rfl, S3⟩
    go_wp2_with fail
    go_ret
    exact ⟨rfl, S1.trans S3⟩
  · have HF := hid ((HT i hi3).out h0)
    clear HT
    have hnz : ¬ ((x.toNat : Int) = 0 ∧ (y.toNat : Int) = 0 ∧ (z.toNat : Int) = 0) := by rw [← u8_zero, ← u8_zero, ← u8_zero]; exact h0
    clear h0
    have S0 := Same.refl w1
    have hcase : (((x.toNat : Int) == 0) = true ∧ ((y.toNat : Int) == 0) = true ∧ ((z.toNat : Int) == 0) = false) ∨ (((x.toNat : Int) == 0) = true ∧ ((y.toNat : Int) == 0) = false) ∨ ((x.toNat : Int) == 0) = false := by
      by_cases a : (x.toNat : Int) = 0
      · by_cases b : (y.toNat : Int) = 0
        · exact .inl ⟨beq_iff_eq.2 a, beq_iff_eq.2 b, beq_eq_false_iff_ne.2 fun c => hnz ⟨a, b, c⟩⟩
        · exact .inr (.inl ⟨beq_iff_eq.2 a, beq_eq_false_iff_ne.2 b⟩)
      · exact .inr (.inr (beq_eq_false_iff_ne.2 a))
    clear hnz
    rcases hcase with ⟨b1, b2, b3⟩ | ⟨b1, b2⟩ | b1
    · go_upto_region 9 with (at_builtin; refine wpList_append_bytes rfl (.tmp 37) (.tmp 38) 23 tyBytes rfl (OwnB.nil w1 w1.heap.size) h3.bytes rfl rfl (by simp; omega) (Nat.le_refl _) ?_; intro x1 w2 ho1 hg1; simp only [List.nil_append] at ho1; have S2 := S0.grown_nil hg1)
      obtain ⟨g', cap', rfl, k1, k2, k3⟩ := ho1.head (by omega)
      have c0 := (ho1.at i (by omega)).1
      have c1 := (ho1.at (i + 1) (by omega)).1
      have c2 := (ho1.at (i + 2) (by omega)).1
      have f0 := (ho1.at i (by omega)).2
      have f1 := (ho1.at (i + 1) (by omega)).2
      have f2 := (ho1.at (i + 2) (by omega)).2
      have i1 : (i : Int) < (s.length : Int) := by omega
      have i2 : (i : Int) + 1 < (s.length : Int) := by omega
      have i3 : (i : Int) + 2 < (s.length : Int) := by omega
      have q0 := CrcPure.u8_lt (s.getD i 0)
      have q1 := CrcPure.u8_lt (s.getD (i + 1) 0)
      have q2 := CrcPure.u8_lt (s.getD (i + 2) 0)
      have Z0 := hid (xor_u8 (s.getD i 0) x)
      have Z1 := hid (xor_u8 (s.getD (i + 1) 0) y)
      have Z2 := hid (xor_u8 (s.getD (i + 2) 0) z)
      have HO := hid (((ho1.store i (s.getD i 0 ^^^ x)).store (i + 1) (s.getD (i + 1) 0 ^^^ y)).store (i + 2) (s.getD (i + 2) 0 ^^^ z))
      unfold u8 at HO
      unfold turned at HF
      generalize s.getD i 0 = p0 at *
      generalize s.getD (i + 1) 0 = p1 at *
      generalize s.getD (i + 2) 0 = p2 at *
      go_region
      go_wp2_with fail
      rw [Z0.out, Z1.out, Z2.out]
      refine (crcOpen _ 5 _ _ (HO.out.bytes.same ((Same.refl _).drew)) (by simp; omega)).mono ?_
      rintro en w3 ⟨v9, rfl, h9, S9⟩
      rw [HF.out]
      have S10 := S1.trans (((((S2.setCell (p := ⟨g', i, none⟩) k1 _).setCell (p := ⟨g', i + 1, none⟩) k1 _).setCell (p := ⟨g', i + 2, none⟩) k1 _).drew).trans S9)
      go_wp2_with fail
      refine (H.out _).mono ?_
      rintro en w4 ⟨rfl, S11⟩
      go_wp2_with fail
      go_ret
      exact ⟨rfl, S10.trans S11⟩
    · go_upto_region 9 with (at_builtin; refine wpList_append_bytes rfl (.tmp 37) (.tmp 38) 23 tyBytes rfl (OwnB.nil w1 w1.heap.size) h3.bytes rfl rfl (by simp; omega) (Nat.le_refl _) ?_; intro x1 w2 ho1 hg1; simp only [List.nil_append] at ho1; have S2 := S0.grown_nil hg1)
      obtain ⟨g', cap', rfl, k1, k2, k3⟩ := ho1.head (by omega)
      have c0 := (ho1.at i (by omega)).1
      have c1 := (ho1.at (i + 1) (by omega)).1
      have c2 := (ho1.at (i + 2) (by omega)).1
      have f0 := (ho1.at i (by omega)).2
      have f1 := (ho1.at (i + 1) (by omega)).2
      have f2 := (ho1.at (i + 2) (by omega)).2
      have i1 : (i : Int) < (s.length : Int) := by omega
      have i2 : (i : Int) + 1 < (s.length : Int) := by omega
      have i3 : (i : Int) + 2 < (s.length : Int) := by omega
      have q0 := CrcPure.u8_lt (s.getD i 0)
      have q1 := CrcPure.u8_lt (s.getD (i + 1) 0)
      have q2 := CrcPure.u8_lt (s.getD (i + 2) 0)
      have Z0 := hid (xor_u8 (s.getD i 0) x)
      have Z1 := hid (xor_u8 (s.getD (i + 1) 0) y)
      have Z2 := hid (xor_u8 (s.getD (i + 2) 0) z)
      have HO := hid (((ho1.store i (s.getD i 0 ^^^ x)).store (i + 1) (s.getD (i + 1) 0 ^^^ y)).store (i + 2) (s.getD (i + 2) 0 ^^^ z))
      unfold u8 at HO
      unfold turned at HF
      generalize s.getD i 0 = p0 at *
      generalize s.getD (i + 1) 0 = p1 at *
      generalize s.getD (i + 2) 0 = p2 at *
      go_region
      go_wp2_with fail
      rw [Z0.out, Z1.out, Z2.out]
      refine (crcOpen _ 5 _ _ (HO.out.bytes.same ((Same.refl _).drew)) (by simp; omega)).mono ?_
      rintro en w3 ⟨v9, rfl, h9, S9⟩
      rw [HF.out]
      have S10 := S1.trans (((((S2.setCell (p := ⟨g', i, none⟩) k1 _).setCell (p := ⟨g', i + 1, none⟩) k1 _).setCell (p := ⟨g', i + 2, none⟩) k1 _).drew).trans S9)
      go_wp2_with fail
      refine (H.out _).mono ?_
      rintro en w4 ⟨rfl, S11⟩
      go_wp2_with fail
      go_ret
      exact ⟨rfl, S10.trans S11⟩
    · go_upto_region 9 with (at_builtin; refine wpList_append_bytes rfl (.tmp 37) (.tmp 38) 23 tyBytes rfl (OwnB.nil w1 w1.heap.size) h3.bytes rfl rfl (by simp; omega) (Nat.le_refl _) ?_; intro x1 w2 ho1 hg1; simp only [List.nil_append] at ho1; have S2 := S0.grown_nil hg1)
      obtain ⟨g', cap', rfl, k1, k2, k3⟩ := ho1.head (by omega)
      have c0 := (ho1.at i (by omega)).1
      have c1 := (ho1.at (i + 1) (by omega)).1
      have c2 := (ho1.at (i + 2) (by omega)).1
      have f0 := (ho1.at i (by omega)).2
      have f1 := (ho1.at (i + 1) (by omega)).2
      have f2 := (ho1.at (i + 2) (by omega)).2
      have i1 : (i : Int) < (s.length : Int) := by omega
      have i2 : (i : Int) + 1 < (s.length : Int) := by omega
      have i3 : (i : Int) + 2 < (s.length : Int) := by omega
      have q0 := CrcPure.u8_lt (s.getD i 0)
      have q1 := CrcPure.u8_lt (s.getD (i + 1) 0)
      have q2 := CrcPure.u8_lt (s.getD (i + 2) 0)
      have Z0 := hid (xor_u8 (s.getD i 0) x)
      have Z1 := hid (xor_u8 (s.getD (i + 1) 0) y)
      have Z2 := hid (xor_u8 (s.getD (i + 2) 0) z)
      have HO := hid (((ho1.store i (s.getD i 0 ^^^ x)).store (i + 1) (s.getD (i + 1) 0 ^^^ y)).store (i + 2) (s.getD (i + 2) 0 ^^^ z))
      unfold u8 at HO
      unfold turned at HF
      generalize s.getD i 0 = p0 at *
      generalize s.getD (i + 1) 0 = p1 at *
      generalize s.getD (i + 2) 0 = p2 at *
      go_region
      go_wp2_with fail
      rw [Z0.out, Z1.out, Z2.out]
      refine (crcOpen _ 5 _ _ (HO.out.bytes.same ((Same.refl _).drew)) (by simp; omega)).mono ?_
      rintro en w3 ⟨v9, rfl, h9, S9⟩
      rw [HF.out]
      have S10 := S1.trans (((((S2.setCell (p := ⟨g', i, none⟩) k1 _).setCell (p := ⟨g', i + 1, none⟩) k1 _).setCell (p := ⟨g', i + 2, none⟩) k1 _).drew).trans S9)
      go_wp2_with fail
      refine (H.out _).mono ?_
      rintro en w4 ⟨rfl, S11⟩
      go_wp2_with fail
      go_ret
      exact ⟨rfl, S10.trans S11⟩
end Go.Proofs.Ytlhnpicmjjddeaa
namespace Go.Proofs.Ytlhnpicmjjddeaa
open Go.RowKit

theorem be_drop (s n j : Nat) (hj : j < s) : (be s n).drop j = (n / 256 ^ (s - 1 - j)).toUInt8 :: (be s n).drop (j + 1) := by
  induction s generalizing j with
  | zero => omega
  | succ s ih =>
    cases j with
    | zero => simp [be]
    | succ j =>
      simp only [be, List.drop_succ_cons]
      rw [ih j (by omega), show s + 1 - 1 - (j + 1) = s - 1 - j from by omega]
/-- the number's bytes from j on, noughts before -/
def beFrom (s n j : Nat) : List UInt8 := List.replicate j 0 ++ (be s n).drop j
theorem beFrom_length (s n j : Nat) (hj : j ≤ s) : (beFrom s n j).length = s := by unfold beFrom; rw [List.length_append, List.length_replicate, List.length_drop, be_length]; omega
theorem beFrom_zero (s n : Nat) : beFrom s n 0 = be s n := by simp [beFrom]
theorem beFrom_top (s n : Nat) : beFrom s n s = List.replicate s 0 := by unfold beFrom; rw [List.drop_of_length_le (by rw [be_length]; omega), List.append_nil]
theorem beFrom_step (s n j : Nat) (hj : j < s) : (beFrom s n (j + 1)).set j (n / 256 ^ (s - 1 - j)).toUInt8 = beFrom s n j := by
  unfold beFrom
  rw [be_drop s n j hj, List.replicate_succ', List.append_assoc, List.set_append_right _ _ (by simp)]
  simp
theorem low_u8 (m : Nat) : ((m : Int) % 256) % 256 = ((m.toUInt8).toNat : Int) := by simp
set_option maxHeartbeats 1600000 in
set_option maxRecDepth 100000 in
theorem rNumber (w : World) (n s : Nat) (hs : s ≤ 4) (hn : n < 4294967296) : Calls Try.prog 97 #[.int .i64 n, .int .i64 s] w (RetOwn (be s n) w) := by
  have hmk := runMakeBytes w s (by omega)
  have HZ := hid (OwnB.zeros w s (by omega))
  go_enter Try.func97, Try.ntmps97
  go_wp2_with fail
  go_loopw [0, 6] (fun m i wr => ∃ j k : Nat, j + k = s ∧ i = .int .i64 j ∧ m = .int .i64 (n / 256 ^ k : Nat) ∧ OwnB wr w.heap.size (.slice (some ⟨w.heap.size, 0, none⟩) s s) (beFrom s n j) ∧ Same w wr) (fun _ i _ => (intOf i).toNat)
  case atStart => exact ⟨s, 0, by omega, rfl, by simp, by rw [beFrom_top]; exact HZ.out, (Same.refl w).alloc _⟩
  case round =>
    obtain ⟨j, k, hjk, rfl, rfl, O, S⟩ := hrel
    rcases Nat.eq_zero_or_pos j with h0 | h0
    · subst h0
      rw [beFrom_zero] at O
      have O := hid O
      have S := hid S
      go_wp2_with fail
      go_ret
      exact ⟨_, rfl, O.out, S.out⟩
    · obtain ⟨i, rfl⟩ : ∃ i, j = i + 1 := ⟨j - 1, by omega⟩
      obtain ⟨c0, f0⟩ := O.at i (by rw [beFrom_length _ _ _ (by omega)]; omega)
      have hst := beFrom_step s n i (by omega)
      rw [show s - 1 - i = k from by omega] at hst
      have O2 := O.store i (n / 256 ^ k).toUInt8
      rw [hst] at O2
      have S2 := S.setCell (p := ⟨w.heap.size, i, none⟩) (Nat.le_refl _) (u8 (n / 256 ^ k).toUInt8)
      have hd : n / 256 ^ k / 256 = n / 256 ^ (k + 1) := by rw [Nat.div_div_eq_div_mul, Nat.pow_succ]
      have hlt : n / 256 ^ k < 4294967296 := Nat.lt_of_le_of_lt (Nat.div_le_self _ _) hn
      have O2 := hid O2
      have S2 := hid S2
      have HD := hid hd
      have HL := hid (low_u8 (n / 256 ^ k))
      unfold u8 at O2 S2
      clear hst hd O S
      generalize ((beFrom s n (i + 1)).getD i 0).toNat = z at *
      generalize n / 256 ^ k = n1 at *
      go_wp2_with fail
      go_roundw
      case rel => exact ⟨i, k + 1, by omega, by go_num, by rw [← HD.out]; go_num, O2.out, S2.out⟩
      case measure => simp [intOf]
end Go.Proofs.Ytlhnpicmjjddeaa
namespace Go.Proofs.Ytlhnpicmjjddeaa
open Go.RowKit

set_option maxHeartbeats 3200000 in
set_option maxRecDepth 100000 in
theorem rIs (w : World) (x : Value) (f : Fr) (hx : FrV w x f) : Calls Try.prog 96 #[x] w (RetSame (.bool f.right) w) := by
  obtain ⟨v, e, rfl, hb⟩ := hx
  obtain ⟨ao, cap, rfl, h1, h2⟩ := hb.form
  unfold maxLen at h2
  have S1 := hid ((Same.refl w).alloc (.cells #[.int .i64 f.life, .int .i64 f.era, .int .i64 f.seq, .int .i64 f.part, .int .i64 f.parts, .slice ao f.data.length cap] 59))
  have F1 := hid (@Fr.right_false1 f)
  have F2 := hid (@Fr.right_false2 f)
  have FT := hid (@Fr.right_iff f)
  unfold Fr.agg
  generalize f.right = r at *
  obtain ⟨life, era, seq, part, parts, data⟩ := f
  simp only at *
  generalize data.length = n at *
  by_cases a1 : 1 ≤ life
  case neg =>
    have hr := F1.out (stamp_false (by omega))
    subst hr
    have d : decide (life < 1) = true := by rw [decide_eq_true_eq]; omega
    clear F1 F2 FT
    go_enter Try.func96, Try.ntmps96
    go_wp2_with fail
    go_ret
    exact ⟨rfl, S1.out⟩
  have p1 : decide (life < 1) = false := by rw [decide_eq_false_iff_not]; omega
  by_cases a2 : life ≤ 16777215
  case neg =>
    have hr := F1.out (stamp_false (by omega))
    subst hr
    have d : decide (16777215 < life) = true := by rw [decide_eq_true_eq]; omega
    clear F1 F2 FT
    go_enter Try.func96, Try.ntmps96
    go_wp2_with fail
    go_ret
    exact ⟨rfl, S1.out⟩
  have p2 : decide (16777215 < life) = false := by rw [decide_eq_false_iff_not]; omega
  by_cases a3 : 0 ≤ era
  case neg =>
    have hr := F1.out (stamp_false (by omega))
    subst hr
    have d : decide (era < 0) = true := by rw [decide_eq_true_eq]; omega
    clear F1 F2 FT
    go_enter Try.func96, Try.ntmps96
    go_wp2_with fail
    go_ret
    exact ⟨rfl, S1.out⟩
  have p3 : decide (era < 0) = false := by rw [decide_eq_false_iff_not]; omega
  by_cases a4 : era ≤ 16777215
  case neg =>
    have hr := F1.out (stamp_false (by omega))
    subst hr
    have d : decide (16777215 < era) = true := by rw [decide_eq_true_eq]; omega
    clear F1 F2 FT
    go_enter Try.func96, Try.ntmps96
    go_wp2_with fail
    go_ret
    exact ⟨rfl, S1.out⟩
  have p4 : decide (16777215 < era) = false := by rw [decide_eq_false_iff_not]; omega
  by_cases a5 : 1 ≤ seq
  case neg =>
    have hr := F1.out (stamp_false (by omega))
    subst hr
    have d : decide (seq < 1) = true := by rw [decide_eq_true_eq]; omega
    clear F1 F2 FT
    go_enter Try.func96, Try.ntmps96
    go_wp2_with fail
    go_ret
    exact ⟨rfl, S1.out⟩
  have p5 : decide (seq < 1) = false := by rw [decide_eq_false_iff_not]; omega
  by_cases a6 : seq ≤ 4294967295
  case neg =>
    have hr := F1.out (stamp_false (by omega))
    subst hr
    have d : decide (4294967295 < seq) = true := by rw [decide_eq_true_eq]; omega
    clear F1 F2 FT
    go_enter Try.func96, Try.ntmps96
    go_wp2_with fail
    go_ret
    exact ⟨rfl, S1.out⟩
  have p6 : decide (4294967295 < seq) = false := by rw [decide_eq_false_iff_not]; omega
  by_cases a7 : 1 ≤ parts
  case neg =>
    have hr := F2.out (part_false (by omega))
    subst hr
    have d : decide (0 < parts) = false := by rw [decide_eq_false_iff_not]; omega
    clear F1 F2 FT
    go_enter Try.func96, Try.ntmps96
    go_wp2_with fail
    go_ret
    exact ⟨rfl, S1.out⟩
  have p7 : decide (0 < parts) = true := by rw [decide_eq_true_eq]; omega
  by_cases a8 : parts ≤ 255
  case neg =>
    have hr := F2.out (part_false (by omega))
    subst hr
    have d : decide (parts < 256) = false := by rw [decide_eq_false_iff_not]; omega
    clear F1 F2 FT
    go_enter Try.func96, Try.ntmps96
    go_wp2_with fail
    go_ret
    exact ⟨rfl, S1.out⟩
  have p8 : decide (parts < 256) = true := by rw [decide_eq_true_eq]; omega
  by_cases a9 : 0 ≤ part
  case neg =>
    have hr := F2.out (part_false (by omega))
    subst hr
    have d : decide (0 ≤ part) = false := by rw [decide_eq_false_iff_not]; omega
    clear F1 F2 FT
    go_enter Try.func96, Try.ntmps96
    go_wp2_with fail
    go_ret
    exact ⟨rfl, S1.out⟩
  have p9 : decide (0 ≤ part) = true := by rw [decide_eq_true_eq]; omega
  by_cases a10 : part < parts
  case neg =>
    have hr := F2.out (part_false (by omega))
    subst hr
    have d : decide (part < parts) = false := by rw [decide_eq_false_iff_not]; omega
    clear F1 F2 FT
    go_enter Try.func96, Try.ntmps96
    go_wp2_with fail
    go_ret
    exact ⟨rfl, S1.out⟩
  have p10 : decide (part < parts) = true := by rw [decide_eq_true_eq]; omega
  by_cases a11 : n ≤ 80
  case neg =>
    have hr := F2.out (part_false (by omega))
    subst hr
    have d : decide ((n : Int) < 81) = false := by rw [decide_eq_false_iff_not]; omega
    have d' : decide (n < 81) = false := by rw [decide_eq_false_iff_not]; omega
    clear F1 F2 FT
    go_enter Try.func96, Try.ntmps96
    go_wp2_with fail
    go_ret
    exact ⟨rfl, S1.out⟩
  have p11 : decide ((n : Int) < 81) = true := by rw [decide_eq_true_eq]; omega
  have p' : decide (n < 81) = true := by rw [decide_eq_true_eq]; omega
  have hr := FT.out.2 ⟨stampOk_iff.2 ⟨a1, a2, a3, a4, a5, a6⟩, partOk_iff.2 ⟨a7, a8, a9, a10, a11⟩⟩
  subst hr
  clear F1 F2 FT
  go_enter Try.func96, Try.ntmps96
  go_wp2_with fail
  go_ret
  exact ⟨rfl, S1.out⟩
end Go.Proofs.Ytlhnpicmjjddeaa
namespace Go.Proofs.Ytlhnpicmjjddeaa
open Go.RowKit

theorem box_cells9 (w : World) (a b c d e v : Value) :
    (w.alloc (.cells #[a, b, c, d, e, v] 59)).cell? ⟨w.heap.size, 0, none⟩ = some a ∧ (w.alloc (.cells #[a, b, c, d, e, v] 59)).cell? ⟨w.heap.size, 1, none⟩ = some b ∧ (w.alloc (.cells #[a, b, c, d, e, v] 59)).cell? ⟨w.heap.size, 2, none⟩ = some c ∧
    (w.alloc (.cells #[a, b, c, d, e, v] 59)).cell? ⟨w.heap.size, 3, none⟩ = some d ∧ (w.alloc (.cells #[a, b, c, d, e, v] 59)).cell? ⟨w.heap.size, 4, none⟩ = some e ∧ (w.alloc (.cells #[a, b, c, d, e, v] 59)).cell? ⟨w.heap.size, 5, none⟩ = some v := by
  refine ⟨?_, ?_, ?_, ?_, ?_, ?_⟩ <;> simp
set_option maxHeartbeats 3200000 in
set_option maxRecDepth 100000 in
theorem rEncode (w : World) (x : Value) (f : Fr) (hx : FrV w x f) : Calls Try.prog 46 #[x] w (RetEnc (encOf f) (encE f) w) := by
  have HR := hid (fun w' (S : Same w w') => rIs w' x f (hx.same S))
  obtain ⟨v, e, rfl, hb⟩ := hx
  obtain ⟨ao, cap, rfl, h1, h2⟩ := hb.form
  unfold maxLen at h2
  cases hr : f.right
  · have HE : Hid (encOf f = [] ∧ encE f = 2) := by show _ ∧ _; unfold encOf encE; rw [hr]; exact ⟨rfl, rfl⟩
    rw [hr] at HR
    clear hr hb
    rw [HE.out.1, HE.out.2]
    unfold Fr.agg at HR ⊢
    go_enter Try.func46, Try.ntmps46
    go_wp2_with fail
    refine (HR.out _ ((Same.refl w).alloc _)).mono ?_
    rintro en w1 ⟨rfl, S1⟩
    go_wp2_with fail
    go_ret2
    exact ⟨_, rfl, OwnB.nil _ _, ((Same.refl w).alloc _).trans S1⟩
  · have HE : Hid (encOf f = CrcPure.sealed f.inner ∧ encE f = 0) := by show _ ∧ _; unfold encOf encE; rw [hr]; exact ⟨rfl, rfl⟩
    obtain ⟨q1, q2⟩ := Fr.right_iff.1 hr
    obtain ⟨a1, a2, a3, a4, a5, a6⟩ := stampOk_iff.1 q1
    obtain ⟨b1, b2, b3, b4, b5⟩ := partOk_iff.1 q2
    rw [hr] at HR
    have HI : Hid (f.inner = (be 3 f.life.toNat ++ be 3 f.era.toNat ++ be 4 f.seq.toNat ++ f.more ++ f.data) ++ List.replicate (93 - (be 3 f.life.toNat ++ be 3 f.era.toNat ++ be 4 f.seq.toNat ++ f.more ++ f.data).length) 0) := rfl
    have HM : Hid (f.more = [f.part.toNat.toUInt8, f.parts.toNat.toUInt8, f.data.length.toUInt8]) := rfl
    have HN : Hid (f.inner.length ≤ 900000) := by
      have := Fr.inner_length f b5
      show _ ≤ _
      omega
    clear hr q1 q2
    rw [HE.out.1, HE.out.2]
    unfold Fr.agg at HR ⊢
    obtain ⟨life, era, seq, part, parts, data⟩ := f
    simp only at *
    obtain ⟨life, rfl⟩ := Int.eq_ofNat_of_zero_le (a := life) (by omega)
    obtain ⟨era, rfl⟩ := Int.eq_ofNat_of_zero_le (a := era) (by omega)
    obtain ⟨seq, rfl⟩ := Int.eq_ofNat_of_zero_le (a := seq) (by omega)
    obtain ⟨part, rfl⟩ := Int.eq_ofNat_of_zero_le (a := part) (by omega)
    obtain ⟨parts, rfl⟩ := Int.eq_ofNat_of_zero_le (a := parts) (by omega)
    simp only [Int.toNat_natCast] at HI HM
    have HBx := hid (box_cells9 w (.int .i64 life) (.int .i64 era) (.int .i64 seq) (.int .i64 part) (.int .i64 parts) (.slice ao data.length cap))
    have S1 := hid ((Same.refl w).alloc (.cells #[.int .i64 life, .int .i64 era, .int .i64 seq, .int .i64 part, .int .i64 parts, .slice ao data.length cap] 59))
    have hz1 : (w.alloc (.cells #[.int .i64 life, .int .i64 era, .int .i64 seq, .int .i64 part, .int .i64 parts, .slice ao data.length cap] 59)).heap.size = w.heap.size + 1 := by simp
    have HZ1 := hid hz1
    clear hz1
    have HB0 := hid hb
    have HNu := hid rNumber
    have HSe := hid refSeal
    clear hb
    go_enter Try.func46, Try.ntmps46
    go_wp2_with fail
    refine (HR.out _ S1.out).mono ?_
    rintro en w1 ⟨rfl, S2⟩
    have hcell : ∀ o, w1.cell? ⟨w.heap.size, o, none⟩ = (w.alloc (.cells #[.int .i64 life, .int .i64 era, .int .i64 seq, .int .i64 part, .int .i64 parts, .slice ao data.length cap] 59)).cell? ⟨w.heap.size, o, none⟩ := fun o => S2.cell (p := ⟨w.heap.size, o, none⟩) (by rw [HZ1.out]; exact Nat.lt_succ_self _)
    have hs1 : w.heap.size + 1 ≤ w1.heap.size := by rw [← HZ1.out]; exact S2.size
    have HS1 := hid hs1
    have S2 := hid S2
    obtain ⟨c0, c1, c2, c3, c4, c5⟩ := HBx.out
    have HK : Hid (∀ wz, Keep (fun k => w.heap.size + 1 ≤ k) w1 wz → wz.cell? ⟨w.heap.size, 0, none⟩ = some (.int .i64 life) ∧ wz.cell? ⟨w.heap.size, 1, none⟩ = some (.int .i64 era) ∧ wz.cell? ⟨w.heap.size, 2, none⟩ = some (.int .i64 seq) ∧ wz.cell? ⟨w.heap.size, 3, none⟩ = some (.int .i64 part) ∧ wz.cell? ⟨w.heap.size, 4, none⟩ = some (.int .i64 parts) ∧ wz.cell? ⟨w.heap.size, 5, none⟩ = some (.slice ao data.length cap)) := by
      intro wz K
      have e : ∀ o, wz.cell? ⟨w.heap.size, o, none⟩ = w1.cell? ⟨w.heap.size, o, none⟩ := fun o => cell_keep K (by have := HS1.out; omega) (by omega)
      refine ⟨?_, ?_, ?_, ?_, ?_, ?_⟩
      all_goals (rw [e, hcell]; assumption)
    clear c0 c1 c2 c3 c4 c5 hcell hs1
    have T0 := hid (S1.out.trans S2.out)
    obtain ⟨p1, hp1⟩ : ∃ p, p = be 3 life := ⟨_, rfl⟩
    obtain ⟨p2, hp2⟩ : ∃ p, p = p1 ++ be 3 era := ⟨_, rfl⟩
    obtain ⟨p3, hp3⟩ : ∃ p, p = p2 ++ be 4 seq := ⟨_, rfl⟩
    rw [← hp1, ← hp2, ← hp3] at HI
    have HL1 : Hid (p1.length = 3) := by show _ = _; rw [hp1, be_length]
    have HL2 : Hid (p2.length = 6) := by show _ = _; rw [hp2, List.length_append, HL1.out, be_length]
    have HL3 : Hid (p3.length = 10) := by show _ = _; rw [hp3, List.length_append, HL2.out, be_length]
    have HP1 := hid hp1
    have HP2 := hid hp2
    have HP3 := hid hp3
    clear hp1 hp2 hp3
    have K1 := hid (Keep.refl (fun k => w.heap.size + 1 ≤ k) w1)
    obtain ⟨c0, c1, c2, c3, c4, c5⟩ := HK.out _ K1.out
    go_wp2_with fail
    refine (HNu.out _ life 3 (by omega) (by omega)).mono ?_
    rintro en w2 ⟨v2, rfl, O2, T2⟩
    have O2 := hid O2
    have K2 := hid (K1.out.trans (T2.keep _))
    clear c0 c1 c2 c3 c4 c5 T2
    obtain ⟨c0, c1, c2, c3, c4, c5⟩ := HK.out _ K2.out
    obtain ⟨a2', q2', rfl, _, _⟩ := O2.out.bytes.form
    go_wp2_with (at_builtin; refine wpList_append_bytes rfl (.tmp 8) (.tmp 11) 23 tyBytes rfl (OwnB.nil w2 (w.heap.size + 1)) O2.out.bytes rfl rfl (by rw [be_length]; simp) (Nat.le_trans HS1.out K2.out.size) ?_; intro x1 w3 ho1 hg1; rw [List.nil_append, ← HP1.out] at ho1; have K3 := hid (K2.out.grown hg1 (fun k e => by cases e)); have O3 := hid ho1; obtain ⟨a3', q3', rfl, _, _⟩ := ho1.bytes.form; clear ho1 hg1 c0 c1 c2 c3 c4 c5; obtain ⟨c0, c1, c2, c3, c4, c5⟩ := HK.out _ K3.out)
    refine (HNu.out _ era 3 (by omega) (by omega)).mono ?_
    rintro en w4 ⟨v4, rfl, O4, T4⟩
    have O4 := hid O4
    have K4 := hid (K3.out.trans (T4.keep _))
    have O3b := hid (OwnB.keep (M := fun _ => False) O3.out (T4.keep _) (fun _ _ h => h))
    clear c0 c1 c2 c3 c4 c5 T4 O3 O2
    obtain ⟨c0, c1, c2, c3, c4, c5⟩ := HK.out _ K4.out
    obtain ⟨a4', q4', rfl, _, _⟩ := O4.out.bytes.form
    go_wp2_with (at_builtin; refine wpList_append_bytes rfl (.tmp 13) (.tmp 16) 23 tyBytes rfl O3b.out O4.out.bytes rfl rfl (by rw [HL1.out, be_length]; omega) (Nat.le_trans HS1.out K4.out.size) ?_; intro x2 w5 ho2 hg2; rw [← HP2.out] at ho2; have K5 := hid (K4.out.grown hg2 (fun k e => .inl (O3b.out.lt k e).1)); have O5 := hid ho2; obtain ⟨a5', q5', rfl, _, _⟩ := ho2.bytes.form; clear ho2 hg2 c0 c1 c2 c3 c4 c5; obtain ⟨c0, c1, c2, c3, c4, c5⟩ := HK.out _ K5.out)
    refine (HNu.out _ seq 4 (by omega) (by omega)).mono ?_
    rintro en w6 ⟨v6, rfl, O6, T6⟩
    have O6 := hid O6
    have K6 := hid (K5.out.trans (T6.keep _))
    have O5b := hid (OwnB.keep (M := fun _ => False) O5.out (T6.keep _) (fun _ _ h => h))
    clear c0 c1 c2 c3 c4 c5 T6 O5 O4 O3b
    obtain ⟨c0, c1, c2, c3, c4, c5⟩ := HK.out _ K6.out
    obtain ⟨a6', q6', rfl, _, _⟩ := O6.out.bytes.form
    have HM3 := hid (fun wz => more_made wz part parts data.length (by omega) (by omega) (by omega))
    rw [← HM.out] at HM3
    have hmore : Hid ((Fr.more ⟨life, era, seq, part, parts, data⟩).length = 3) := rfl
    generalize Fr.more ⟨life, era, seq, part, parts, data⟩ = m3 at *
    obtain ⟨p4, hp4⟩ : ∃ p, p = p3 ++ m3 := ⟨_, rfl⟩
    obtain ⟨p5, hp5⟩ : ∃ p, p = p4 ++ data := ⟨_, rfl⟩
    rw [← hp4, ← hp5] at HI
    have HL4 : Hid (p4.length = 13) := by show _ = _; rw [hp4, List.length_append, HL3.out, hmore.out]
    have HL5 : Hid (p5.length = 13 + data.length) := by show _ = _; rw [hp5, List.length_append, HL4.out]
    have HP4 := hid hp4
    have HP5 := hid hp5
    clear hp4 hp5 HM
    go_wp2_with (first
      | (at_builtin; refine wpList_append_bytes rfl (.tmp 18) (.tmp 21) 23 tyBytes rfl O5b.out O6.out.bytes rfl rfl (by rw [HL2.out, be_length]; omega) (Nat.le_trans HS1.out K6.out.size) ?_; intro x3 w7 ho3 hg3; rw [← HP3.out] at ho3; have K7 := hid (K6.out.grown hg3 (fun k e => .inl (O5b.out.lt k e).1)); have O7 := hid ho3; obtain ⟨a7', q7', rfl, _, _⟩ := ho3.bytes.form; clear ho3 hg3 c0 c1 c2 c3 c4 c5; obtain ⟨c0, c1, c2, c3, c4, c5⟩ := HK.out _ K7.out)
      | (at_builtin; refine wpList_append_bytes rfl (.tmp 23) (.tmp 34) 23 tyBytes rfl (O7.out.alloc _) (HM3.out w7) rfl rfl (by rw [HL3.out, hmore.out]; omega) (by have := HS1.out; have := K7.out.size; simp; omega) ?_; intro x4 w8 ho4 hg4
         rw [← HP4.out] at ho4
         have O8 := hid ho4
         have K8 := hid ((K7.out.alloc (.cells #[.int .u8 part, .int .u8 parts, .int .u8 data.length] 5)).grown hg4 (fun k e => .inl (O7.out.lt k e).1))
         have HB8 := hid (HB0.out.same T0.out |>.keep K8.out (fun g hg hm => by have := Sl.home_lt HB0.out hg; omega))
         clear c0 c1 c2 c3 c4 c5 hg4
         obtain ⟨c0, c1, c2, c3, c4, c5⟩ := HK.out _ K8.out
         obtain ⟨a8', q8', rfl, _, _⟩ := ho4.bytes.form
         clear ho4)
      | (at_builtin; refine wpList_append_bytes rfl (.tmp 36) (.tmp 38) 23 tyBytes rfl O8.out HB8.out rfl rfl (by rw [HL4.out]; omega) (by have := HS1.out; have := K8.out.size; omega) ?_; intro x5 w9 ho5 hg5
         rw [← HP5.out] at ho5
         have O9 := hid ho5
         have K9 := hid (K8.out.grown hg5 (fun k e => .inl (O8.out.lt k e).1))
         clear c0 c1 c2 c3 c4 c5 hg5
         obtain ⟨a9', q9', rfl, _, _⟩ := ho5.bytes.form
         clear ho5))
    clear O5b O6 HM3
    have HBy := hid (fun wz => byte_made wz 0 (0 : UInt8) rfl)
    go_loopw [4] (fun b wr => ∃ k : Nat, p5.length + k ≤ 93 ∧ OwnB wr (w.heap.size + 1) b (p5 ++ List.replicate k 0) ∧ Keep (fun k => w.heap.size + 1 ≤ k) w1 wr) (fun b _ => match b with | .slice _ n _ => 93 - n | _ => 0)
    case atStart => exact ⟨0, by have := HL5.out; omega, by simpa using O9.out, K9.out⟩
    case round =>
      obtain ⟨k, hk, O, K⟩ := hrel
      obtain ⟨sa, sc, rfl, _, _⟩ := O.bytes.form
      have hle : (p5 ++ List.replicate k (0 : UInt8)).length = p5.length + k := by simp
      rw [hle] at O ⊢
      have O := hid O
      have K := hid K
      by_cases hlt : p5.length + k < 93
      · have OA := hid (O.out.alloc (.cells #[.int .u8 0] 5))
        have KA := hid (K.out.alloc (.cells #[.int .u8 0] 5))
        have HS := hid (Nat.le_trans HS1.out KA.out.size)
        have HLn := hid hle
        have HLn2 : Hid ((p5 ++ List.replicate (k + 1) (0 : UInt8)).length = p5.length + (k + 1)) := by show _ = _; simp
        have HB1 := hid (HBy.out wr)
        clear hle
        generalize hq : p5.length + k = q at *
        go_wp2_with (at_builtin; refine wpList_append_bytes rfl (.tmp 43) (.tmp 44) 23 tyBytes rfl OA.out HB1.out rfl rfl (by rw [HLn.out]; simp; omega) HS.out ?_; intro x6 w10 ho6 hg6; rw [List.append_assoc, ← List.replicate_succ'] at ho6; obtain ⟨ta, tc, hx6, _, _⟩ := ho6.bytes.form; rw [HLn2.out] at hx6; subst hx6)
        go_roundw
        case rel => exact ⟨k + 1, by omega, ho6, KA.out.grown hg6 (fun g e => .inl (OA.out.lt g e).1)⟩
        case measure =>
          show 93 - (p5.length + (k + 1)) < 93 - q
          omega
      · have hkk : k = 93 - p5.length := by omega
        have HI2 : Hid (Fr.inner ⟨life, era, seq, part, parts, data⟩ = p5 ++ List.replicate k 0) := by
          show _ = _
          rw [hkk]
          exact HI.out
        rw [← HI2.out] at O
        have HO := O
        clear O hkk hle
        generalize p5.length + k = q at *
        go_wp2_with fail
        refine (HSe.out _ 5 _ _ HO.out.bytes HN.out).mono ?_
        rintro en w8 ⟨v8, rfl, O8, S8⟩
        go_wp2_with fail
        go_ret2
        have hs7 := K.out.size
        have hs1 := HS1.out
        exact ⟨_, rfl, O8.mono (by omega), (T0.out.keepOwn K.out (fun k hk => by omega)).trans S8⟩
end Go.Proofs.Ytlhnpicmjjddeaa
namespace Go.Proofs.Ytlhnpicmjjddeaa
open Go.RowKit

set_option maxHeartbeats 1600000 in
set_option maxRecDepth 100000 in
theorem rValue (w : World) (e : TypeId) (v : Value) (l : List UInt8) (hb : Bytes w e v l) (hl : l.length ≤ 4) :
    Calls Try.prog 100 #[v] w fun en w' => en = .returned (.int .i64 (val l)) ∧ w = w' := by
  obtain ⟨ao, cap, rfl, h1, h2⟩ := hb.form
  have HL := hid hl
  have hl' : l.length ≤ 9223372036854775807 := by omega
  clear hl
  go_enter Try.func100, Try.ntmps100
  go_wp2_with fail
  go_loop [3, 4] (fun n i => ∃ k : Nat, k ≤ l.length ∧ i = .int .i64 k ∧ n = .int .i64 (val (l.take k))) (fun _ i => l.length - (intOf i).toNat)
  case atStart => exact ⟨0, Nat.zero_le _, rfl, rfl⟩
  case round =>
    obtain ⟨k, hk, rfl, rfl⟩ := hrel
    by_cases hlt : k < l.length
    · obtain ⟨g, o, rfl, hc⟩ := hb.cells (by omega)
      have c1 := hc k hlt
      have hs := val_snoc (l.take k) l[k]
      rw [← List.take_succ_eq_append_getElem hlt] at hs
      have HS := hid hs
      have hv : val (l.take k) < 16777216 := by
        have := val_lt (l.take k)
        have h2 : (l.take k).length ≤ 3 := by rw [List.length_take]; have := HL.out; omega
        have h3 : 256 ^ (l.take k).length ≤ 256 ^ 3 := Nat.pow_le_pow_right (by omega) h2
        omega
      have hx : l[k].toNat < 256 := l[k].toNat_lt
      clear hc hs
      generalize val (l.take k) = m at *
      generalize l[k].toNat = x at *
      go_wp2_with fail
      go_round
      case rel => exact ⟨k + 1, by omega, by go_num, by rw [HS.out]; go_num⟩
      case measure => simp [intOf]; omega
    · obtain rfl : k = l.length := by omega
      have HT : Hid (l.take l.length = l) := List.take_length
      go_wp2_with fail
      go_ret
      exact ⟨rfl, rfl⟩
end Go.Proofs.Ytlhnpicmjjddeaa
namespace Go.Proofs.Ytlhnpicmjjddeaa
open Go.RowKit

theorem slice_mid (W : World) (g o n q l h : Nat) (h0 : l < h) (h1 : h ≤ q) : (Instr.sliceAt 23 (.slice (some ⟨g, o, none⟩) n q) (some (.int .i64 (l : Int))) (some (.int .i64 (h : Int))) none).run Try.prog W = .ok (.slice (some ⟨g, o + l, none⟩) (h - l) (q - l)) W := by
  rw [run_sliceAt_slice W 23 _ _ _ _ elem23, run_slice_lh W 23 _ n q elem23 .i64 .i64 (l : Int) (h : Int) (by omega) (by omega) (by omega), size23]
  simp only [Result.andThen, sliced]
  rw [if_neg (by rw [Int.toNat_natCast]; omega)]
  simp [Addr.add_mid]
theorem slice_00 (W : World) (a : Option Addr) (q : Nat) : (Instr.sliceAt 23 (.slice a 0 q) (some (.int .i64 0)) (some (.int .i64 0)) none).run Try.prog W = .ok (.slice a 0 q) W := by
  rw [run_sliceAt_slice W 23 _ _ _ _ elem23, run_slice_lh W 23 _ 0 q elem23 .i64 .i64 0 0 (by omega) (by omega) (by omega), size23]
  simp only [Result.andThen, sliced]
  split
  · simp
  · cases a <;> simp [Addr.add]
set_option maxHeartbeats 3200000 in
set_option maxRecDepth 100000 in
theorem rCutGo (w : World) (e : TypeId) (v : Value) (life era seq : Int) (b : List UInt8) (hb : Bytes w e v b) (hl : b.length ≤ 400) (h0 : b.length ≠ 0) :
    Calls Try.prog 53 #[.int .i64 life, .int .i64 era, .int .i64 seq, v] w (RetCut (cutAll life era seq b) (cutE life era seq b) w) := by
  have HBy := hid hb
  obtain ⟨ao, cap, rfl, h1, h2⟩ := hb.form
  unfold maxLen at h2
  have HE := hid rEncode
  obtain ⟨g, o, rfl, _⟩ := hb.cells h0
  clear hb
  have hqn : nparts b.length = (b.length + 79) / 80 := by unfold nparts; omega
  obtain ⟨q, hqd⟩ : ∃ q, nparts b.length = q := ⟨_, rfl⟩
  have hq1 : 1 ≤ q := by rw [← hqd]; exact nparts_pos _
  have hqb : q * 80 < b.length + 80 ∧ b.length ≤ q * 80 := by rw [hqd] at hqn; omega
  have hq : ((b.length : Int) + 79) / 80 = (q : Int) := by rw [hqd] at hqn; omega
  have hq5 : q ≤ 5 := by omega
  have hz : ((q : Int) == 0) = false := by rw [beq_eq_false_iff_ne]; omega
  have hz2 : (q == 0) = false := by rw [beq_eq_false_iff_ne]; omega
  have HQ := hid hqd
  clear hqn hqd h0
  have hd255 : decide (255 < q) = false := by simp; omega
  have hd255' : decide ((255 : Int) < (q : Int)) = false := by simp; omega
  have HSt := hid (fun k (hk : k < nparts b.length) => cutAt_right_eq life era seq b k hk (by rw [HQ.out]; omega))
  have HCE : Hid (cutE life era seq b = if stampOk life era seq = true then 0 else 2) := by
    show _ = _
    unfold cutE
    rw [HQ.out, if_pos (by omega : q ≤ 255)]
  have HLn := hid (cutL_length life era seq b)
  go_enter Try.func53, Try.ntmps53
  go_wp2_with fail
  rw [hq]
  clear hq
  go_loopg [11, 12] q (fun gk out i wr => ∃ k : Nat, k + gk = q ∧ (k = 0 ∨ stampOk life era seq = true) ∧ i = .int .i64 k ∧ OwnR wr w.heap.size out ((cutL life era seq b).take k) ∧ Same w wr)
  case atStart => exact ⟨0, by omega, .inl rfl, rfl, OwnR.nil _ _, Same.refl w⟩
  case round =>
    obtain ⟨k, hk, hks, rfl, hO, S⟩ := hrel
    have HK := hid hk
    have HO := hid hO
    have HS := hid S
    have Hks := hid hks
    have hkq : k ≤ q := by omega
    clear hO S hks hk
    by_cases hlt : k < q
    case neg =>
      obtain rfl : k = q := by omega
      have hst : Hid (stampOk life era seq = true) := by
        rcases Hks.out with h | h
        · omega
        · exact h
      have HR : Hid (cutAll life era seq b = cutL life era seq b ∧ cutE life era seq b = 0) := by
        have h2 : cutE life era seq b = 0 := by rw [HCE.out, hst.out]; rfl
        refine ⟨?_, h2⟩
        unfold cutAll
        rw [if_pos h2]
      have HT : Hid ((cutL life era seq b).take k = cutL life era seq b) := List.take_of_length_le (by rw [HLn.out, HQ.out]; omega)
      go_wp2_with fail
      go_ret2
      rw [HR.out.1, HR.out.2]
      exact ⟨_, rfl, by rw [← HT.out]; exact HO.out, HS.out⟩
    obtain ⟨t, ht1, htA, htB⟩ : ∃ t : Nat, (k * 80 < t ∧ t ≤ b.length ∧ t ≤ k * 80 + 80 ∧ (t = k * 80 + 80 ∨ t = b.length)) ∧ Hid (k * 80 + 80 ≤ b.length → (80 * (k : Int) + 80) = t) ∧ Hid (¬ k * 80 + 80 ≤ b.length → (b.length : Int) = t) := by
      by_cases h : k * 80 + 80 ≤ b.length
      · exact ⟨k * 80 + 80, by omega, fun _ => by omega, fun x => absurd h x⟩
      · exact ⟨b.length, by omega, fun x => absurd x h, fun _ => rfl⟩
    go_upto_if 35 with fail
    go_cut [13] (fun x wz => x = .int .i64 (t : Int) ∧ wz = wr)
    case first =>
      go_wp2_with fail
      · go_meet
        case rel => exact ⟨by rw [htB.out (by omega)], rfl⟩
      · go_meet
        case rel => exact ⟨by rw [htA.out (by omega)], rfl⟩
    case rest =>
      obtain ⟨rfl, rfl⟩ := hcut
      have s1 := fun W => slice_mid W g o b.length cap (k * 80) t (by omega) (by omega)
      obtain ⟨m, hm⟩ : ∃ m, t - k * 80 = m := ⟨_, rfl⟩
      obtain ⟨c', hc'⟩ : ∃ c', cap - k * 80 = c' := ⟨_, rfl⟩
      rw [hm, hc'] at s1
      have hcast : ((k * 80 : Nat) : Int) = 80 * (k : Int) := by omega
      rw [hcast] at s1
      have hB := (HBy.out.same HS.out).part (k * 80) m c' (by omega) (by omega) (by unfold maxLen; omega)
      have hch : (b.drop (k * 80)).take m = chunk b k := by
        unfold chunk
        rcases ht1.2.2.2 with h | h
        · rw [show m = 80 by omega]
        · rw [List.take_of_length_le (by rw [List.length_drop]; omega), List.take_of_length_le (by rw [List.length_drop]; omega)]
      rw [hch] at hB
      have hlm : (chunk b k).length = m := by rw [← hch, List.length_take, List.length_drop]; omega
      have FV : FrV wc (.agg #[.int .i64 life, .int .i64 era, .int .i64 seq, .int .i64 k, .int .i64 q, .slice (some ⟨g, o + k * 80, none⟩) m c']) (cutAt life era seq b k) := ⟨_, e, by unfold Fr.agg cutAt; rw [HQ.out], hB⟩
      have HEk := hid (HE.out wc _ _ FV)
      have HSk := hid (HSt.out k (by rw [HQ.out]; exact hlt))
      have HT := hid (cutL_succ life era seq b k (by rw [HQ.out]; exact hlt))
      have HLk : Hid (((cutL life era seq b).take k).length ≤ 400) := by show _ ≤ _; rw [List.length_take, HLn.out, HQ.out]; omega
      have e1 : encE (cutAt life era seq b k) = if stampOk life era seq = true then 0 else 2 := by unfold encE; rw [HSk.out]
      have e2 : stampOk life era seq = true → encOf (cutAt life era seq b k) = enc (cutAt life era seq b k) := fun h => by unfold encOf; rw [HSk.out, h]; rfl
      have E1 := hid e1
      have E2 := hid e2
      have hk5 : k ≤ 5 := by omega
      clear hB hch hlm FV hcast hc' hm e1 e2 htA htB ht1 HSt HSk
      go_wp2_with fail
      refine HEk.out.mono ?_
      rintro en w2 ⟨v2, rfl, O2, S2⟩
      have O2 := hid O2
      obtain ⟨a2, c2, rfl, _, _⟩ := O2.out.bytes.form
      have S3 := hid (HS.out.trans S2)
      have HO3 := hid (HO.out.same S2)
      have hOf : Hid (∀ g', homeOf (.slice a2 (encOf (cutAt life era seq b k)).length c2) = some g' → w.heap.size ≤ g') := fun g' hg' => Nat.le_trans HS.out.size (O2.out.fresh g' hg')
      rw [E1.out]
      clear S2 s1
      generalize encOf (cutAt life era seq b k) = ec at *
      by_cases hst : stampOk life era seq = true
      · have Hst := hid hst
        have E3 := hid (E2.out hst)
        have hsz : Hid (w.heap.size ≤ (w2.alloc (.cells #[.slice a2 ec.length c2] 23)).heap.size) := (S3.out.alloc _).size
        rw [if_pos hst]
        clear hst
        go_wp2_with (at_builtin; refine wpList_append_rows rfl (.tmp 56) (.tmp 58) 36 tyRows rfl (HO3.out.same ((Same.refl w2).alloc _)) (one_row O2.out.bytes hOf.out).1 (one_row O2.out.bytes hOf.out).2 rfl rfl (by have := HLk.out; simp only [List.length_singleton]; omega) hsz.out ?_; intro x1 w5 ho5 K6)
        go_roundg (q - (k + 1))
        case measure => have := HK.out; omega
        case rel => exact ⟨k + 1, by omega, .inr Hst.out, by go_num, by rw [HT.out, ← E3.out]; exact ho5, (S3.out.alloc _).keepOwn K6 fun j hj => (HO3.out.lt j hj).1⟩
      · have HR : Hid (cutAll life era seq b = [] ∧ cutE life era seq b = 2) := by
          have h2 : cutE life era seq b = 2 := by rw [HCE.out, if_neg hst]
          refine ⟨?_, h2⟩
          unfold cutAll
          rw [h2]
          rfl
        rw [if_neg hst]
        clear hst
        go_wp2_with fail
        go_ret2
        rw [HR.out.1, HR.out.2]
        exact ⟨_, rfl, OwnR.nil _ _, S3.out⟩
end Go.Proofs.Ytlhnpicmjjddeaa
namespace Go.Proofs.Ytlhnpicmjjddeaa
open Go.RowKit

set_option maxHeartbeats 3200000 in
set_option maxRecDepth 100000 in
theorem rCutEmpty (w : World) (e : TypeId) (v : Value) (life era seq : Int) (hb : Bytes w e v []) :
    Calls Try.prog 53 #[.int .i64 life, .int .i64 era, .int .i64 seq, v] w (RetCut (cutAll life era seq []) (cutE life era seq []) w) := by
  have HBy := hid hb
  obtain ⟨ao, cap, rfl, h1, h2⟩ := hb.form
  unfold maxLen at h2
  have HE := hid rEncode
  have HSt := hid (cutAt_right_eq life era seq [] 0 (by decide) (by decide))
  have HCE : Hid (cutE life era seq [] = if stampOk life era seq = true then 0 else 2) := by
    show _ = _
    unfold cutE
    rw [if_pos (by decide)]
  have HLn : Hid (cutL life era seq [] = [enc (cutAt life era seq [] 0)]) := rfl
  have s1 := fun W => slice_00 W ao cap
  simp only [List.length_nil] at *
  clear hb
  go_enter Try.func53, Try.ntmps53
  go_wp2_with fail
  go_loopw [11, 12] (fun out i wr => ∃ k : Nat, k ≤ 1 ∧ (k = 0 ∨ stampOk life era seq = true) ∧ i = .int .i64 k ∧ OwnR wr w.heap.size out ((cutL life era seq []).take k) ∧ Same w wr) (fun _ i _ => 1 - (intOf i).toNat)
  case atStart => exact ⟨0, by omega, .inl rfl, rfl, OwnR.nil _ _, Same.refl w⟩
  case round =>
    obtain ⟨k, hk, hks, rfl, hO, S⟩ := hrel
    have HO := hid hO
    have HS := hid S
    have Hks := hid hks
    clear hO S hks
    match k, hk with
    | 0, _ =>
      have FV : FrV wr (.agg #[.int .i64 life, .int .i64 era, .int .i64 seq, .int .i64 0, .int .i64 1, .slice ao 0 cap]) (cutAt life era seq [] 0) := ⟨_, e, rfl, HBy.out.same HS.out⟩
      have HEk := hid (HE.out wr _ _ FV)
      clear FV
      go_wp2_with fail
      refine HEk.out.mono ?_
      rintro en w2 ⟨v2, rfl, O2, S2⟩
      have O2 := hid O2
      obtain ⟨a2, c2, rfl, _, _⟩ := O2.out.bytes.form
      have S3 := hid (HS.out.trans S2)
      have HO3 := hid (HO.out.same S2)
      have hOf : Hid (∀ g', homeOf (.slice a2 (encOf (cutAt life era seq [] 0)).length c2) = some g' → w.heap.size ≤ g') := fun g' hg' => Nat.le_trans HS.out.size (O2.out.fresh g' hg')
      have e1 : encE (cutAt life era seq [] 0) = if stampOk life era seq = true then 0 else 2 := by unfold encE; rw [HSt.out]
      have e2 : stampOk life era seq = true → encOf (cutAt life era seq [] 0) = enc (cutAt life era seq [] 0) := fun h => by unfold encOf; rw [HSt.out, h]; rfl
      have E2 := hid e2
      rw [e1]
      clear e1 e2 S2
      generalize encOf (cutAt life era seq [] 0) = ec at *
      cases hst : stampOk life era seq
      · have HR : Hid (cutAll life era seq [] = [] ∧ cutE life era seq [] = 2) := by
          have h2 : cutE life era seq [] = 2 := by rw [HCE.out, hst]; rfl
          refine ⟨?_, h2⟩
          unfold cutAll
          rw [h2]
          rfl
        rw [if_neg (by simp)]
        clear hst
        go_wp2_with fail
        go_ret2
        rw [HR.out.1, HR.out.2]
        exact ⟨_, rfl, OwnR.nil _ _, S3.out⟩
      · have Hst := hid hst
        have E3 := hid (E2.out hst)
        rw [if_pos rfl]
        clear hst
        go_wp2_with (at_builtin; refine wpList_append_rows rfl (.tmp 56) (.tmp 58) 36 tyRows rfl (HO3.out.same ((Same.refl w2).alloc _)) (one_row O2.out.bytes hOf.out).1 (one_row O2.out.bytes hOf.out).2 rfl rfl (by simp) (by have := S3.out.size; simp; omega) ?_; intro x1 w5 ho5 K6)
        go_roundw
        case rel => exact ⟨1, by omega, .inr Hst.out, rfl, by rw [HLn.out, ← E3.out]; exact ho5, (S3.out.alloc _).keepOwn K6 fun j hj => (HO3.out.lt j hj).1⟩
        case measure => simp [intOf]
    | 1, _ =>
      have hst : stampOk life era seq = true := by
        rcases Hks.out with h | h
        · omega
        · exact h
      have HR : Hid (cutAll life era seq [] = cutL life era seq [] ∧ cutE life era seq [] = 0) := by
        have h2 : cutE life era seq [] = 0 := by rw [HCE.out, hst]; rfl
        refine ⟨?_, h2⟩
        unfold cutAll
        rw [if_pos h2]
      clear hst
      go_wp2_with fail
      go_ret2
      rw [HR.out.1, HR.out.2]
      exact ⟨_, rfl, HO.out, HS.out⟩
/-- the reference's Cut -/
theorem rCut (w : World) (e : TypeId) (v : Value) (life era seq : Int) (b : List UInt8) (hb : Bytes w e v b) (hl : b.length ≤ 400) :
    Calls Try.prog 53 #[.int .i64 life, .int .i64 era, .int .i64 seq, v] w (RetCut (cutAll life era seq b) (cutE life era seq b) w) := by
  by_cases h0 : b.length = 0
  · obtain rfl := List.eq_nil_of_length_eq_zero h0
    exact rCutEmpty w e v life era seq hb
  · exact rCutGo w e v life era seq b hb hl h0
end Go.Proofs.Ytlhnpicmjjddeaa
namespace Go.Proofs.Ytlhnpicmjjddeaa
open Go.RowKit

set_option maxHeartbeats 3200000 in
set_option maxRecDepth 100000 in
theorem frameCutsWalk (w : World) (v : Value) (e : TypeId) (life era seq : Int) (b : List UInt8) (hb : Bytes w e v b) :
    Calls Try.prog 11 #[.int .i64 life, .int .i64 era, .int .i64 seq, v] w (RetSame (.bool true) w) := by
  have HLv := hid fLives
  have HCt := hid (fun w' => show Calls Try.prog 22 #[v, .int .i64 400] w' _ from r01Cut0 w w' e v b 400 hb)
  have HCu := hid fCut
  have HCr := hid rCut
  have HSB := hid r01SameS
  obtain ⟨av, cv, rfl, _, _⟩ := hb.form
  clear hb
  go_enter Try.func11, Try.ntmps11
  go_wp2_with fail
  refine (HCt.out _).mono ?_
  rintro en w1 ⟨v1, rfl, B1, rfl⟩
  have hle : Hid ((b.take 400).length ≤ 400) := by show _ ≤ _; rw [List.length_take]; omega
  have B1 := hid B1
  generalize b.take 400 = b at *
  obtain ⟨a1, c1, rfl, _, _⟩ := B1.out.form
  go_wp2_with fail
  refine (HCu.out _ _ _ life era seq b B1.out (by have := hle.out; omega)).mono ?_
  rintro en w2 ⟨v2, rfl, O2, S2⟩
  have O2 := hid O2
  have S2 := hid S2
  obtain ⟨a2, c2, rfl, f1, f2⟩ := O2.out.rows.form
  unfold maxLen at f2
  go_wp2_with fail
  refine (HCr.out _ _ _ life era seq b (B1.out.same S2.out) hle.out).mono ?_
  rintro en w3 ⟨v3, rfl, O3, S3⟩
  have R2 := hid (O2.out.rows.same S3)
  have R3 := hid O3.rows
  have S3 := hid (S2.out.trans S3)
  obtain ⟨a3, c3, rfl, f3, f4⟩ := R3.out.form
  unfold maxLen at f4
  clear O2 O3 S2 B1 hle
  generalize cutE life era seq b = ce at *
  generalize cutAll life era seq b = ls at *
  go_wp2_with fail
  go_loopg [13] ls.length (fun gk i wr => ∃ k : Nat, k + gk = ls.length ∧ i = .int .i64 k ∧ Same w3 wr)
  case atStart => exact ⟨0, by omega, rfl, Same.refl _⟩
  case round =>
    obtain ⟨k, hk, rfl, Z⟩ := hrel
    have HK := hid hk
    have Z := hid Z
    have hk2 : k ≤ ls.length := by omega
    clear hk
    by_cases hlt : k < ls.length
    case neg =>
      obtain rfl : k = ls.length := by omega
      go_wp2_with fail
      refine (HLv.out _).mono ?_
      rintro en w4 ⟨rfl, S4⟩
      go_wp2_with fail
      go_ret
      exact ⟨rfl, (S3.out.trans Z.out).trans S4⟩
    obtain ⟨g, o, xa, xc, xe, rfl, hcell, hby⟩ := (R2.out.same Z.out).row k hlt
    obtain ⟨g', o', ya, yc, ye, rfl, hcell', hby'⟩ := (R3.out.same Z.out).row k hlt
    have A1 := hid (fun x : After wr => Calls.after (HSB.out x.to xe ye _ _ _ _ (hby.same x.same) (hby'.same x.same)))
    have x0 := fun x => After.cell hcell x
    have x1 := fun x => After.cell hcell' x
    have q1 : Hid (decide (ls[k] = ls[k]) = true) := decide_eq_true rfl
    clear hcell hcell' hby hby'
    rw [q1.out] at A1
    clear q1
    generalize ls[k] = xs at *
    go_wp2_with fail
    refine wp_region_after (by kernel_rfl) (by kernel_rfl) ?_
    repeat (go_big_quiet_step (first
      | (go_at_call 29; with_reducible exact A1.out _)))
    refine wpQuiet_nil ?_
    intro _ hw'
    obtain ⟨x5, hw''⟩ := hw'
    subst hw''
    clear x0 x1
    have S5 := hid (Z.out.trans x5.same)
    go_wp2_with fail
    go_roundg (ls.length - (k + 1))
    case measure => have := HK.out; omega
    case rel => exact ⟨k + 1, by omega, by go_num, S5.out⟩
end Go.Proofs.Ytlhnpicmjjddeaa
namespace Go.Proofs.Ytlhnpicmjjddeaa
open Go.RowKit Go.ChangeShapes Go.WideShapes

theorem list_of_lt {α : Type} (n : Nat) (R : Nat → α → Prop) (h : ∀ i, i < n → ∃ x, R i x) : ∃ L : List α, L.length = n ∧ ∀ i (hi : i < L.length), R i L[i] := by
  induction n with
  | zero => exact ⟨[], rfl, fun i hi => absurd hi (Nat.not_lt_zero i)⟩
  | succ n ih =>
    obtain ⟨L, hL, hR⟩ := ih fun i hi => h i (by omega)
    obtain ⟨x, hx⟩ := h n (by omega)
    refine ⟨L ++ [x], by simp [hL], fun i hi => ?_⟩
    rw [List.length_append] at hi
    simp only [List.length_singleton] at hi
    rcases Nat.lt_or_ge i L.length with h1 | h1
    · rw [List.getElem_append_left h1]; exact hR i h1
    · obtain rfl : i = L.length := by omega
      rw [List.getElem_append_right (Nat.le_refl _)]
      simpa [hL] using hx
theorem Sl.of_cells0 {w : World} (size : Nat) {a : Addr} {n cap : Nat} {xs : List Value} (hx : xs.length = n * size) (hs : 0 < size) (hn : n ≤ cap) (hm : cap ≤ maxLen)
    (hc : ∀ j u, xs[j]? = some u → w.cell? (a.add j) = some u) : ∃ e, Sl w e size (.slice (some a) n cap) n xs := Sl.of_cells size hx hs hn hm hc

section
variable {H : Type} {enc : TypeId × Value → H} {w : World} {base : Nat} {held : Bool}
theorem open_bytes {fuel : Nat} {a1 : Option Addr} {len1 cap1 : Nat} {x : DataW H × List MemPlace} {t : TypeId} (ht : Try.prog.underlying t = some (.slice 5))
    (h : DataW.trod enc Try.prog w base (fun _ => true) held fuel t (Value.cells (.slice a1 len1 cap1)).toList = some x) : ∃ e l, Bytes w e (.slice a1 len1 cap1) l := by
  rcases open_ints ht Try.underlying5 (by kernel_rfl) h with ⟨hcs, _⟩ | ⟨a, len, cap, zs, hcs, hb, hl, hm, hz, _, hel, hw⟩
  · simp [Value.cells] at hcs
    obtain ⟨rfl, rfl, rfl⟩ := hcs
    exact ⟨0, [], Bytes.nil w 0⟩
  · simp [Value.cells] at hcs
    obtain ⟨rfl, rfl, rfl⟩ := hcs
    simp only [if_true] at hz
    exact Bytes.of_row (.inr ⟨a, rfl, hl, hm, hz, hel, hw⟩)
theorem open_intl {spare : Nat → Bool} {fuel : Nat} {a1 : Option Addr} {len1 cap1 : Nat} {x : DataW H × List MemPlace} {t : TypeId} (ht : Try.prog.underlying t = some (.slice 3))
    (h : DataW.trod enc Try.prog w base spare held fuel t (Value.cells (.slice a1 len1 cap1)).toList = some x) : ∃ e l, Ints w e (.slice a1 len1 cap1) l ∧ ∀ n ∈ l, -9223372036854775808 ≤ n ∧ n ≤ 9223372036854775807 := by
  rcases open_ints ht Try.underlying3 (by kernel_rfl) h with ⟨hcs, _⟩ | ⟨a, len, cap, zs, hcs, hb, hl, hm, hz, _, hel, hw⟩
  · simp [Value.cells] at hcs
    obtain ⟨rfl, rfl, rfl⟩ := hcs
    exact ⟨0, [], Ints.nil w 0, by simp⟩
  · simp [Value.cells] at hcs
    obtain ⟨rfl, rfl, rfl⟩ := hcs
    have hl1 : len1 ≤ zs.length := by rw [hz]; split <;> omega
    have hll : (zs.take len1).length = len1 := by simp; omega
    obtain ⟨e, he⟩ := Sl.of_cells (w := w) 1 (a := a) (n := len1) (cap := cap1) (xs := (zs.take len1).map i64) (by rw [List.length_map, hll]; omega) (by omega) hl hm fun j u hu => by
      have hj : j < len1 := by
        have := (List.getElem?_eq_some_iff.1 hu).1
        rw [List.length_map, hll] at this
        exact this
      have hz' : j < zs.length := by omega
      rw [hel j hz']
      simp [hz', hj] at hu
      subst hu
      simp only [i64, List.getD_eq_getElem?_getD, List.getElem?_eq_getElem hz', Option.getD_some]
    refine ⟨e, zs.take len1, ?_, fun n hn => i64_of_wf (hw n (List.mem_of_mem_take hn))⟩
    unfold Ints
    rw [hll]
    exact he
theorem open_rows {fuel : Nat} {a1 : Option Addr} {len1 cap1 : Nat} {x : DataW H × List MemPlace}
    (h : DataW.trod enc Try.prog w base (fun _ => true) held fuel 36 (Value.cells (.slice a1 len1 cap1)).toList = some x) : ∃ e ls, Rows2 w e (.slice a1 len1 cap1) ls := by
  rcases Deep.open_int_rows Try.underlying36 Try.underlying23 Try.underlying5 (by kernel_rfl) (by kernel_rfl) h with ⟨hcs, _⟩ | ⟨a, len, cap, A, L, C, Z, hcs, hb, hl, hm, _, hel⟩
  · simp [Value.cells] at hcs
    obtain ⟨rfl, rfl, rfl⟩ := hcs
    exact ⟨0, [], Rows2.nil w 0⟩
  · simp [Value.cells] at hcs
    obtain ⟨rfl, rfl, rfl⟩ := hcs
    obtain ⟨Q, hQ, hR⟩ := list_of_lt len1 (fun i (q : Value × List UInt8) => w.cell? (a.add i) = some q.1 ∧ q.1.oneCell' = true ∧ ∃ e', Bytes w e' q.1 q.2) fun i hi => by
      obtain ⟨c1, c2, c3, c4, c5, c6, c7⟩ := hel i (by omega)
      have hrow : IsRow .u8 w (A i) (L i) (C i) (Z i) := by
        cases hA : A i with
        | none => have := c6 hA; exact .inl ⟨rfl, by omega, this, List.eq_nil_of_length_eq_zero (by omega)⟩
        | some a' => exact .inr ⟨a', rfl, c2, c3, c4, fun j hj => (c7 a' hA).2 j (by omega), c5⟩
      obtain ⟨e', l, hb⟩ := Bytes.of_row hrow
      exact ⟨(.slice (A i) (L i) (C i), l), c1, rfl, e', hb⟩
    have hq : (Q.map Prod.snd).length = len1 := by rw [List.length_map, hQ]
    obtain ⟨e, he⟩ := Sl.of_cells (w := w) 1 (a := a) (n := len1) (cap := cap1) (xs := Q.map Prod.fst) (by rw [List.length_map, hQ]; omega) (by omega) hl hm fun j u hu => by
      rw [List.getElem?_map] at hu
      have hj : j < Q.length := by
        rcases Nat.lt_or_ge j Q.length with h | h
        · exact h
        · rw [List.getElem?_eq_none h] at hu; cases hu
      rw [List.getElem?_eq_getElem hj] at hu
      simp only [Option.map_some, Option.some.injEq] at hu
      subst hu
      exact (hR j hj).1
    refine ⟨e, Q.map Prod.snd, Q.map Prod.fst, by simp, by rw [hq]; exact he, fun i hi u hu => ?_⟩
    have hi' : i < Q.length := by simpa using hi
    rw [List.getElem?_map, List.getElem?_eq_getElem hi'] at hu
    simp only [Option.map_some, Option.some.injEq] at hu
    subst hu
    rw [List.getElem_map]
    exact (hR i hi').2.2
end
end Go.Proofs.Ytlhnpicmjjddeaa
