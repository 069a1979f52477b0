/- Three neighbouring bytes turned: the walk of CrcTurns. FRAME's reference: number, Is. FRAME's reference: Is. FRAME's reference: Encode. FRAME's reference: value. FRAME's reference: Cut. FRAME's reference: Decode. A region that draws its order and writes what it has read: an operation may be taken first if it yields its value in every world that is met before a certain store. No program in sight. FRAME's reference: Decode, where a frame may be. FRAME: the walk of FrameEncodes. STILL, plainly: what stands in a place. No program in sight. STILL: frames. -/
import Derived.Test.YtlhnpicmjjddeaaGrp2
import Derived.BigRegion
import Derived.OrdersHeld
import Derived.Deep.RegionHeld
import Derived.Deep.RegionHeld3
import Derived.Test.YtlhnpicmjjddeaaGrp1
import Derived.Deep.RegionLaw
set_option linter.unusedVariables false
set_option linter.unusedSimpArgs false
namespace Go.Proofs.Ytlhnpicmjjddeaa
open Go.RowKit

theorem sets_zip (s : List UInt8) (i : Nat) (h : i + 3 ≤ s.length) (x y z : UInt8) :
    ((s.set i (s[i]'(by omega) ^^^ x)).set (i + 1) (s[i + 1]'(by omega) ^^^ y)).set (i + 2) (s[i + 2]'(by omega) ^^^ z) =
      List.zipWith (· ^^^ ·) s (List.replicate i 0 ++ [x, y, z] ++ List.replicate (s.length - i - 3) 0) := by
  apply List.ext_getElem
  · simp; omega
  · intro j h1 h2
    simp only [List.getElem_zipWith, List.getElem_set]
    by_cases a : i + 2 = j
    · subst a
      rw [if_pos rfl]
      congr 1
      rw [List.getElem_append_left (by simp), List.getElem_append_right (by simp)]
      simp
    · rw [if_neg a]
      by_cases b : i + 1 = j
      · subst b
        rw [if_pos rfl]
        congr 1
        rw [List.getElem_append_left (by simp), List.getElem_append_right (by simp)]
        simp
      · rw [if_neg b]
        by_cases c : i = j
        · subst c
          rw [if_pos rfl]
          congr 1
          rw [List.getElem_append_left (by simp), List.getElem_append_right (by simp)]
          simp
        · rw [if_neg c]
          have : ∀ u : UInt8, u = 0 → s[j]'(by simpa using h1) = s[j]'(by simpa using h1) ^^^ u := by intro u hu; subst hu; simp
          apply this
          by_cases d : j < i
          · rw [List.getElem_append_left (by simp; omega), List.getElem_append_left (by simp; omega)]
            simp
          · rw [List.getElem_append_right (by simp; omega)]
            simp
def turned (s : List UInt8) (i : Nat) (x y z : UInt8) : List UInt8 := ((s.set i (s.getD i 0 ^^^ x)).set (i + 1) (s.getD (i + 1) 0 ^^^ y)).set (i + 2) (s.getD (i + 2) 0 ^^^ z)
theorem turned_told (l : List UInt8) (i : Nat) (h : i + 3 ≤ (CrcPure.sealed l).length) (x y z : UInt8) (hne : ¬ (x = 0 ∧ y = 0 ∧ z = 0)) : openOk (turned (CrcPure.sealed l) i x y z) = false := by
  unfold turned
  rw [List.getD_eq_getElem?_getD, List.getD_eq_getElem?_getD, List.getD_eq_getElem?_getD, List.getElem?_eq_getElem (by omega), List.getElem?_eq_getElem (by omega), List.getElem?_eq_getElem (by omega)]
  simp only [Option.getD_some]
  rw [sets_zip _ i h]
  apply decide_eq_false
  intro e
  refine CrcPure.told (CrcPure.sealed l) _ i x y z h hne (CrcPure.more_sealed l) rfl ?_
  rw [← e]
  exact CrcPure.more_sealed _
theorem turned_length (s : List UInt8) (i : Nat) (x y z : UInt8) : (turned s i x y z).length = s.length := by simp [turned]

theorem OwnB.store {w : World} {base g n cap : Nat} {l : List UInt8} (h : OwnB w base (.slice (some ⟨g, 0, none⟩) n cap) l) (j : Nat) (x : UInt8) :
    OwnB (w.setCell ⟨g, j, none⟩ (u8 x)) base (.slice (some ⟨g, 0, none⟩) n cap) (l.set j x) := by
  have hn : n = l.length := Bytes.len h.bytes
  subst hn
  have := World.ownsRow.stored h j (u8 x)
  unfold OwnB
  rw [List.length_set, List.map_set]
  exact this.1
theorem OwnB.at {w : World} {base g n cap : Nat} {l : List UInt8} (h : OwnB w base (.slice (some ⟨g, 0, none⟩) n cap) l) (j : Nat) (hj : j < l.length) :
    w.cell? ⟨g, j, none⟩ = some (.int .u8 ((l.getD j 0).toNat : Int)) ∧ w.frozen? ⟨g, j, none⟩ = false := by
  have hn : n = l.length := Bytes.len h.bytes
  subst hn
  have h1 := World.ownsRow.cellAt h j (by omega)
  have h2 := World.ownsRow.frozenAt h j
  refine ⟨?_, h2⟩
  rw [h1, List.getElem?_map, List.getD_eq_getElem?_getD, List.getElem?_eq_getElem hj]
  rfl
theorem OwnB.head {w : World} {base : Nat} {v : Value} {l : List UInt8} (h : OwnB w base v l) (hl : l.length ≠ 0) : ∃ g cap, v = .slice (some ⟨g, 0, none⟩) l.length cap ∧ base ≤ g ∧ l.length ≤ cap ∧ cap ≤ maxLen := by
  obtain ⟨_, h2⟩ := h
  rcases h2 with ⟨_, h2⟩ | ⟨g, cap, cur, a, b, c, d, e, _⟩
  · exact absurd h2 hl
  · exact ⟨g, cap, a, b, d, e⟩

theorem xor_u8 (a b : UInt8) : bits BinOp.xor IntKind.u8 (a.toNat : Int) (b.toNat : Int) = (((a ^^^ b).toNat : Nat) : Int) := by
  rw [u8_xor_nat a.toNat b.toNat (CrcPure.u8_lt a) (CrcPure.u8_lt b), UInt8.toNat_xor]
theorem u8_of_int {n : Int} (h : 0 ≤ n ∧ n < 256) : ∃ x : UInt8, n = (x.toNat : Int) := ⟨UInt8.ofNat n.toNat, by simp; omega⟩
theorem u8_zero (x : UInt8) : x = 0 ↔ (x.toNat : Int) = 0 := by
  constructor
  · intro h; subst h; rfl
  · intro h; apply UInt8.toNat_inj.1; simp; omega

set_option maxHeartbeats 1600000 in
set_option maxRecDepth 100000 in
theorem crcTurnsWalk (va : Value) (e1 : TypeId) (la : List UInt8) (pl : Int) (x y z : UInt8) (w : World) (ha : Bytes w e1 va la) :
    Calls Try.prog 6 #[va, .int .i64 pl, .int .u8 (x.toNat : Int), .int .u8 (y.toNat : Int), .int .u8 (z.toNat : Int)] w (RetSame (.bool true) w) := by
  have H := hid crcLives
  have hx := CrcPure.u8_lt x
  have hy := CrcPure.u8_lt y
  have hz := CrcPure.u8_lt z
  go_enter Try.func6, Try.ntmps6
  go_wp2_with fail
  refine (r01Cut w e1 va la 300 ha).mono ?_
  rintro en w' ⟨v1, rfl, h1, rfl⟩
  have L1 : (la.take 300).length ≤ 300 := by rw [List.length_take]; omega
  generalize la.take 300 = p at *
  go_wp2_with fail
  refine (crcSeal _ e1 _ p h1 (by omega)).mono ?_
  rintro en w1 ⟨v3, rfl, h3, S1⟩
  have HT := fun i h => hid (turned_told p i h x y z)
  have hlen := CrcPure.sealed_length p
  generalize CrcPure.sealed p = s at *
  have hl0 : s.length ≠ 0 := by omega
  obtain ⟨g, cap, rfl, hg1, hg2, hg3⟩ := h3.head hl0
  unfold maxLen at hg3
  have hl3 : 3 ≤ s.length := by omega
  have hl9 : s.length ≤ 303 := by omega
  clear hlen hl0
  go_wp2_with fail
  refine (r01In _ _ _ _).mono ?_
  rintro en w2 ⟨rfl, rfl⟩
  obtain ⟨i, hi, hi3⟩ : ∃ i : Nat, (if pl < 0 then (0 : Int) else if (s.length : Int) - 3 < pl then (s.length : Int) - 3 else pl) = (i : Int) ∧ i + 3 ≤ s.length := by
    split
    · exact ⟨0, rfl, by omega⟩
    · split
      · exact ⟨s.length - 3, by omega, by omega⟩
      · exact ⟨pl.toNat, by omega, by omega⟩
  rw [hi]
  clear hi
  by_cases h0 : x = 0 ∧ y = 0 ∧ z = 0
  · obtain ⟨rfl, rfl, rfl⟩ := h0
    go_wp2_with fail
    refine (H.out _).mono ?_
    rintro en w3 ⟨rfl, S3⟩
    go_wp2_with fail
    go_ret
    exact ⟨rfl, S1.trans S3⟩
  · have HF := hid ((HT i hi3).out h0)
    clear HT
    have hnz : ¬ ((x.toNat : Int) = 0 ∧ (y.toNat : Int) = 0 ∧ (z.toNat : Int) = 0) := by rw [← u8_zero, ← u8_zero, ← u8_zero]; exact h0
    clear h0
    have S0 := Same.refl w1
    have hcase : (((x.toNat : Int) == 0) = true ∧ ((y.toNat : Int) == 0) = true ∧ ((z.toNat : Int) == 0) = false) ∨ (((x.toNat : Int) == 0) = true ∧ ((y.toNat : Int) == 0) = false) ∨ ((x.toNat : Int) == 0) = false := by
      by_cases a : (x.toNat : Int) = 0
      · by_cases b : (y.toNat : Int) = 0
        · exact .inl ⟨beq_iff_eq.2 a, beq_iff_eq.2 b, beq_eq_false_iff_ne.2 fun c => hnz ⟨a, b, c⟩⟩
        · exact .inr (.inl ⟨beq_iff_eq.2 a, beq_eq_false_iff_ne.2 b⟩)
      · exact .inr (.inr (beq_eq_false_iff_ne.2 a))
    clear hnz
    rcases hcase with ⟨b1, b2, b3⟩ | ⟨b1, b2⟩ | b1
    · go_upto_region 9 with (at_builtin; refine wpList_append_bytes rfl (.tmp 37) (.tmp 38) 23 tyBytes rfl (OwnB.nil w1 w1.heap.size) h3.bytes rfl rfl (by simp; omega) (Nat.le_refl _) ?_; intro x1 w2 ho1 hg1; simp only [List.nil_append] at ho1; have S2 := S0.grown_nil hg1)
      obtain ⟨g', cap', rfl, k1, k2, k3⟩ := ho1.head (by omega)
      have c0 := (ho1.at i (by omega)).1
      have c1 := (ho1.at (i + 1) (by omega)).1
      have c2 := (ho1.at (i + 2) (by omega)).1
      have f0 := (ho1.at i (by omega)).2
      have f1 := (ho1.at (i + 1) (by omega)).2
      have f2 := (ho1.at (i + 2) (by omega)).2
      have i1 : (i : Int) < (s.length : Int) := by omega
      have i2 : (i : Int) + 1 < (s.length : Int) := by omega
      have i3 : (i : Int) + 2 < (s.length : Int) := by omega
      have q0 := CrcPure.u8_lt (s.getD i 0)
      have q1 := CrcPure.u8_lt (s.getD (i + 1) 0)
      have q2 := CrcPure.u8_lt (s.getD (i + 2) 0)
      have Z0 := hid (xor_u8 (s.getD i 0) x)
      have Z1 := hid (xor_u8 (s.getD (i + 1) 0) y)
      have Z2 := hid (xor_u8 (s.getD (i + 2) 0) z)
      have HO := hid (((ho1.store i (s.getD i 0 ^^^ x)).store (i + 1) (s.getD (i + 1) 0 ^^^ y)).store (i + 2) (s.getD (i + 2) 0 ^^^ z))
      unfold u8 at HO
      unfold turned at HF
      generalize s.getD i 0 = p0 at *
      generalize s.getD (i + 1) 0 = p1 at *
      generalize s.getD (i + 2) 0 = p2 at *
      go_region
      go_wp2_with fail
      rw [Z0.out, Z1.out, Z2.out]
      refine (crcOpen _ 5 _ _ (HO.out.bytes.same ((Same.refl _).drew)) (by simp; omega)).mono ?_
      rintro en w3 ⟨v9, rfl, h9, S9⟩
      rw [HF.out]
      have S10 := S1.trans (((((S2.setCell (p := ⟨g', i, none⟩) k1 _).setCell (p := ⟨g', i + 1, none⟩) k1 _).setCell (p := ⟨g', i + 2, none⟩) k1 _).drew).trans S9)
      go_wp2_with fail
      refine (H.out _).mono ?_
      rintro en w4 ⟨rfl, S11⟩
      go_wp2_with fail
      go_ret
      exact ⟨rfl, S10.trans S11⟩
    · go_upto_region 9 with (at_builtin; refine wpList_append_bytes rfl (.tmp 37) (.tmp 38) 23 tyBytes rfl (OwnB.nil w1 w1.heap.size) h3.bytes rfl rfl (by simp; omega) (Nat.le_refl _) ?_; intro x1 w2 ho1 hg1; simp only [List.nil_append] at ho1; have S2 := S0.grown_nil hg1)
      obtain ⟨g', cap', rfl, k1, k2, k3⟩ := ho1.head (by omega)
      have c0 := (ho1.at i (by omega)).1
      have c1 := (ho1.at (i + 1) (by omega)).1
      have c2 := (ho1.at (i + 2) (by omega)).1
      have f0 := (ho1.at i (by omega)).2
      have f1 := (ho1.at (i + 1) (by omega)).2
      have f2 := (ho1.at (i + 2) (by omega)).2
      have i1 : (i : Int) < (s.length : Int) := by omega
      have i2 : (i : Int) + 1 < (s.length : Int) := by omega
      have i3 : (i : Int) + 2 < (s.length : Int) := by omega
      have q0 := CrcPure.u8_lt (s.getD i 0)
      have q1 := CrcPure.u8_lt (s.getD (i + 1) 0)
      have q2 := CrcPure.u8_lt (s.getD (i + 2) 0)
      have Z0 := hid (xor_u8 (s.getD i 0) x)
      have Z1 := hid (xor_u8 (s.getD (i + 1) 0) y)
      have Z2 := hid (xor_u8 (s.getD (i + 2) 0) z)
      have HO := hid (((ho1.store i (s.getD i 0 ^^^ x)).store (i + 1) (s.getD (i + 1) 0 ^^^ y)).store (i + 2) (s.getD (i + 2) 0 ^^^ z))
      unfold u8 at HO
      unfold turned at HF
      generalize s.getD i 0 = p0 at *
      generalize s.getD (i + 1) 0 = p1 at *
      generalize s.getD (i + 2) 0 = p2 at *
      go_region
      go_wp2_with fail
      rw [Z0.out, Z1.out, Z2.out]
      refine (crcOpen _ 5 _ _ (HO.out.bytes.same ((Same.refl _).drew)) (by simp; omega)).mono ?_
      rintro en w3 ⟨v9, rfl, h9, S9⟩
      rw [HF.out]
      have S10 := S1.trans (((((S2.setCell (p := ⟨g', i, none⟩) k1 _).setCell (p := ⟨g', i + 1, none⟩) k1 _).setCell (p := ⟨g', i + 2, none⟩) k1 _).drew).trans S9)
      go_wp2_with fail
      refine (H.out _).mono ?_
      rintro en w4 ⟨rfl, S11⟩
      go_wp2_with fail
      go_ret
      exact ⟨rfl, S10.trans S11⟩
    · go_upto_region 9 with (at_builtin; refine wpList_append_bytes rfl (.tmp 37) (.tmp 38) 23 tyBytes rfl (OwnB.nil w1 w1.heap.size) h3.bytes rfl rfl (by simp; omega) (Nat.le_refl _) ?_; intro x1 w2 ho1 hg1; simp only [List.nil_append] at ho1; have S2 := S0.grown_nil hg1)
      obtain ⟨g', cap', rfl, k1, k2, k3⟩ := ho1.head (by omega)
      have c0 := (ho1.at i (by omega)).1
      have c1 := (ho1.at (i + 1) (by omega)).1
      have c2 := (ho1.at (i + 2) (by omega)).1
      have f0 := (ho1.at i (by omega)).2
      have f1 := (ho1.at (i + 1) (by omega)).2
      have f2 := (ho1.at (i + 2) (by omega)).2
      have i1 : (i : Int) < (s.length : Int) := by omega
      have i2 : (i : Int) + 1 < (s.length : Int) := by omega
      have i3 : (i : Int) + 2 < (s.length : Int) := by omega
      have q0 := CrcPure.u8_lt (s.getD i 0)
      have q1 := CrcPure.u8_lt (s.getD (i + 1) 0)
      have q2 := CrcPure.u8_lt (s.getD (i + 2) 0)
      have Z0 := hid (xor_u8 (s.getD i 0) x)
      have Z1 := hid (xor_u8 (s.getD (i + 1) 0) y)
      have Z2 := hid (xor_u8 (s.getD (i + 2) 0) z)
      have HO := hid (((ho1.store i (s.getD i 0 ^^^ x)).store (i + 1) (s.getD (i + 1) 0 ^^^ y)).store (i + 2) (s.getD (i + 2) 0 ^^^ z))
      unfold u8 at HO
      unfold turned at HF
      generalize s.getD i 0 = p0 at *
      generalize s.getD (i + 1) 0 = p1 at *
      generalize s.getD (i + 2) 0 = p2 at *
      go_region
      go_wp2_with fail
      rw [Z0.out, Z1.out, Z2.out]
      refine (crcOpen _ 5 _ _ (HO.out.bytes.same ((Same.refl _).drew)) (by simp; omega)).mono ?_
      rintro en w3 ⟨v9, rfl, h9, S9⟩
      rw [HF.out]
      have S10 := S1.trans (((((S2.setCell (p := ⟨g', i, none⟩) k1 _).setCell (p := ⟨g', i + 1, none⟩) k1 _).setCell (p := ⟨g', i + 2, none⟩) k1 _).drew).trans S9)
      go_wp2_with fail
      refine (H.out _).mono ?_
      rintro en w4 ⟨rfl, S11⟩
      go_wp2_with fail
      go_ret
      exact ⟨rfl, S10.trans S11⟩
end Go.Proofs.Ytlhnpicmjjddeaa
namespace Go.Proofs.Ytlhnpicmjjddeaa
open Go.RowKit

theorem be_drop (s n j : Nat) (hj : j < s) : (be s n).drop j = (n / 256 ^ (s - 1 - j)).toUInt8 :: (be s n).drop (j + 1) := by
  induction s generalizing j with
  | zero => omega
  | succ s ih =>
    cases j with
    | zero => simp [be]
    | succ j =>
      simp only [be, List.drop_succ_cons]
      rw [ih j (by omega), show s + 1 - 1 - (j + 1) = s - 1 - j from by omega]
/-- the number's bytes from j on, noughts before -/
def beFrom (s n j : Nat) : List UInt8 := List.replicate j 0 ++ (be s n).drop j
theorem beFrom_length (s n j : Nat) (hj : j ≤ s) : (beFrom s n j).length = s := by unfold beFrom; rw [List.length_append, List.length_replicate, List.length_drop, be_length]; omega
theorem beFrom_zero (s n : Nat) : beFrom s n 0 = be s n := by simp [beFrom]
theorem beFrom_top (s n : Nat) : beFrom s n s = List.replicate s 0 := by unfold beFrom; rw [List.drop_of_length_le (by rw [be_length]; omega), List.append_nil]
theorem beFrom_step (s n j : Nat) (hj : j < s) : (beFrom s n (j + 1)).set j (n / 256 ^ (s - 1 - j)).toUInt8 = beFrom s n j := by
  unfold beFrom
  rw [be_drop s n j hj, List.replicate_succ', List.append_assoc, List.set_append_right _ _ (by simp)]
  simp
theorem low_u8 (m : Nat) : ((m : Int) % 256) % 256 = ((m.toUInt8).toNat : Int) := by simp
set_option maxHeartbeats 1600000 in
set_option maxRecDepth 100000 in
theorem rNumber (w : World) (n s : Nat) (hs : s ≤ 4) (hn : n < 4294967296) : Calls Try.prog 97 #[.int .i64 n, .int .i64 s] w (RetOwn (be s n) w) := by
  have hmk := runMakeBytes w s (by omega)
  have HZ := hid (OwnB.zeros w s (by omega))
  go_enter Try.func97, Try.ntmps97
  go_wp2_with fail
  go_loopw [0, 6] (fun m i wr => ∃ j k : Nat, j + k = s ∧ i = .int .i64 j ∧ m = .int .i64 (n / 256 ^ k : Nat) ∧ OwnB wr w.heap.size (.slice (some ⟨w.heap.size, 0, none⟩) s s) (beFrom s n j) ∧ Same w wr) (fun _ i _ => (intOf i).toNat)
  case atStart => exact ⟨s, 0, by omega, rfl, by simp, by rw [beFrom_top]; exact HZ.out, (Same.refl w).alloc _⟩
  case round =>
    obtain ⟨j, k, hjk, rfl, rfl, O, S⟩ := hrel
    rcases Nat.eq_zero_or_pos j with h0 | h0
    · subst h0
      rw [beFrom_zero] at O
      have O := hid O
      have S := hid S
      go_wp2_with fail
      go_ret
      exact ⟨_, rfl, O.out, S.out⟩
    · obtain ⟨i, rfl⟩ : ∃ i, j = i + 1 := ⟨j - 1, by omega⟩
      obtain ⟨c0, f0⟩ := O.at i (by rw [beFrom_length _ _ _ (by omega)]; omega)
      have hst := beFrom_step s n i (by omega)
      rw [show s - 1 - i = k from by omega] at hst
      have O2 := O.store i (n / 256 ^ k).toUInt8
      rw [hst] at O2
      have S2 := S.setCell (p := ⟨w.heap.size, i, none⟩) (Nat.le_refl _) (u8 (n / 256 ^ k).toUInt8)
      have hd : n / 256 ^ k / 256 = n / 256 ^ (k + 1) := by rw [Nat.div_div_eq_div_mul, Nat.pow_succ]
      have hlt : n / 256 ^ k < 4294967296 := Nat.lt_of_le_of_lt (Nat.div_le_self _ _) hn
      have O2 := hid O2
      have S2 := hid S2
      have HD := hid hd
      have HL := hid (low_u8 (n / 256 ^ k))
      unfold u8 at O2 S2
      clear hst hd O S
      generalize ((beFrom s n (i + 1)).getD i 0).toNat = z at *
      generalize n / 256 ^ k = n1 at *
      go_wp2_with fail
      go_roundw
      case rel => exact ⟨i, k + 1, by omega, by go_num, by rw [← HD.out]; go_num, O2.out, S2.out⟩
      case measure => simp [intOf]
end Go.Proofs.Ytlhnpicmjjddeaa
namespace Go.Proofs.Ytlhnpicmjjddeaa
open Go.RowKit

set_option maxHeartbeats 3200000 in
set_option maxRecDepth 100000 in
theorem rIs (w : World) (x : Value) (f : Fr) (hx : FrV w x f) : Calls Try.prog 96 #[x] w (RetSame (.bool f.right) w) := by
  obtain ⟨v, e, rfl, hb⟩ := hx
  obtain ⟨ao, cap, rfl, h1, h2⟩ := hb.form
  unfold maxLen at h2
  have S1 := hid ((Same.refl w).alloc (.cells #[.int .i64 f.life, .int .i64 f.era, .int .i64 f.seq, .int .i64 f.part, .int .i64 f.parts, .slice ao f.data.length cap] 59))
  have F1 := hid (@Fr.right_false1 f)
  have F2 := hid (@Fr.right_false2 f)
  have FT := hid (@Fr.right_iff f)
  unfold Fr.agg
  generalize f.right = r at *
  obtain ⟨life, era, seq, part, parts, data⟩ := f
  simp only at *
  generalize data.length = n at *
  by_cases a1 : 1 ≤ life
  case neg =>
    have hr := F1.out (stamp_false (by omega))
    subst hr
    have d : decide (life < 1) = true := by rw [decide_eq_true_eq]; omega
    clear F1 F2 FT
    go_enter Try.func96, Try.ntmps96
    go_wp2_with fail
    go_ret
    exact ⟨rfl, S1.out⟩
  have p1 : decide (life < 1) = false := by rw [decide_eq_false_iff_not]; omega
  by_cases a2 : life ≤ 16777215
  case neg =>
    have hr := F1.out (stamp_false (by omega))
    subst hr
    have d : decide (16777215 < life) = true := by rw [decide_eq_true_eq]; omega
    clear F1 F2 FT
    go_enter Try.func96, Try.ntmps96
    go_wp2_with fail
    go_ret
    exact ⟨rfl, S1.out⟩
  have p2 : decide (16777215 < life) = false := by rw [decide_eq_false_iff_not]; omega
  by_cases a3 : 0 ≤ era
  case neg =>
    have hr := F1.out (stamp_false (by omega))
    subst hr
    have d : decide (era < 0) = true := by rw [decide_eq_true_eq]; omega
    clear F1 F2 FT
    go_enter Try.func96, Try.ntmps96
    go_wp2_with fail
    go_ret
    exact ⟨rfl, S1.out⟩
  have p3 : decide (era < 0) = false := by rw [decide_eq_false_iff_not]; omega
  by_cases a4 : era ≤ 16777215
  case neg =>
    have hr := F1.out (stamp_false (by omega))
    subst hr
    have d : decide (16777215 < era) = true := by rw [decide_eq_true_eq]; omega
    clear F1 F2 FT
    go_enter Try.func96, Try.ntmps96
    go_wp2_with fail
    go_ret
    exact ⟨rfl, S1.out⟩
  have p4 : decide (16777215 < era) = false := by rw [decide_eq_false_iff_not]; omega
  by_cases a5 : 1 ≤ seq
  case neg =>
    have hr := F1.out (stamp_false (by omega))
    subst hr
    have d : decide (seq < 1) = true := by rw [decide_eq_true_eq]; omega
    clear F1 F2 FT
    go_enter Try.func96, Try.ntmps96
    go_wp2_with fail
    go_ret
    exact ⟨rfl, S1.out⟩
  have p5 : decide (seq < 1) = false := by rw [decide_eq_false_iff_not]; omega
  by_cases a6 : seq ≤ 4294967295
  case neg =>
    have hr := F1.out (stamp_false (by omega))
    subst hr
    have d : decide (4294967295 < seq) = true := by rw [decide_eq_true_eq]; omega
    clear F1 F2 FT
    go_enter Try.func96, Try.ntmps96
    go_wp2_with fail
    go_ret
    exact ⟨rfl, S1.out⟩
  have p6 : decide (4294967295 < seq) = false := by rw [decide_eq_false_iff_not]; omega
  by_cases a7 : 1 ≤ parts
  case neg =>
    have hr := F2.out (part_false (by omega))
    subst hr
    have d : decide (0 < parts) = false := by rw [decide_eq_false_iff_not]; omega
    clear F1 F2 FT
    go_enter Try.func96, Try.ntmps96
    go_wp2_with fail
    go_ret
    exact ⟨rfl, S1.out⟩
  have p7 : decide (0 < parts) = true := by rw [decide_eq_true_eq]; omega
  by_cases a8 : parts ≤ 255
  case neg =>
    have hr := F2.out (part_false (by omega))
    subst hr
    have d : decide (parts < 256) = false := by rw [decide_eq_false_iff_not]; omega
    clear F1 F2 FT
    go_enter Try.func96, Try.ntmps96
    go_wp2_with fail
    go_ret
    exact ⟨rfl, S1.out⟩
  have p8 : decide (parts < 256) = true := by rw [decide_eq_true_eq]; omega
  by_cases a9 : 0 ≤ part
  case neg =>
    have hr := F2.out (part_false (by omega))
    subst hr
    have d : decide (0 ≤ part) = false := by rw [decide_eq_false_iff_not]; omega
    clear F1 F2 FT
    go_enter Try.func96, Try.ntmps96
    go_wp2_with fail
    go_ret
    exact ⟨rfl, S1.out⟩
  have p9 : decide (0 ≤ part) = true := by rw [decide_eq_true_eq]; omega
  by_cases a10 : part < parts
  case neg =>
    have hr := F2.out (part_false (by omega))
    subst hr
    have d : decide (part < parts) = false := by rw [decide_eq_false_iff_not]; omega
    clear F1 F2 FT
    go_enter Try.func96, Try.ntmps96
    go_wp2_with fail
    go_ret
    exact ⟨rfl, S1.out⟩
  have p10 : decide (part < parts) = true := by rw [decide_eq_true_eq]; omega
  by_cases a11 : n ≤ 80
  case neg =>
    have hr := F2.out (part_false (by omega))
    subst hr
    have d : decide ((n : Int) < 81) = false := by rw [decide_eq_false_iff_not]; omega
    have d' : decide (n < 81) = false := by rw [decide_eq_false_iff_not]; omega
    clear F1 F2 FT
    go_enter Try.func96, Try.ntmps96
    go_wp2_with fail
    go_ret
    exact ⟨rfl, S1.out⟩
  have p11 : decide ((n : Int) < 81) = true := by rw [decide_eq_true_eq]; omega
  have p' : decide (n < 81) = true := by rw [decide_eq_true_eq]; omega
  have hr := FT.out.2 ⟨stampOk_iff.2 ⟨a1, a2, a3, a4, a5, a6⟩, partOk_iff.2 ⟨a7, a8, a9, a10, a11⟩⟩
  subst hr
  clear F1 F2 FT
  go_enter Try.func96, Try.ntmps96
  go_wp2_with fail
  go_ret
  exact ⟨rfl, S1.out⟩
end Go.Proofs.Ytlhnpicmjjddeaa
namespace Go.Proofs.Ytlhnpicmjjddeaa
open Go.RowKit

theorem box_cells9 (w : World) (a b c d e v : Value) :
    (w.alloc (.cells #[a, b, c, d, e, v] 59)).cell? ⟨w.heap.size, 0, none⟩ = some a ∧ (w.alloc (.cells #[a, b, c, d, e, v] 59)).cell? ⟨w.heap.size, 1, none⟩ = some b ∧ (w.alloc (.cells #[a, b, c, d, e, v] 59)).cell? ⟨w.heap.size, 2, none⟩ = some c ∧
    (w.alloc (.cells #[a, b, c, d, e, v] 59)).cell? ⟨w.heap.size, 3, none⟩ = some d ∧ (w.alloc (.cells #[a, b, c, d, e, v] 59)).cell? ⟨w.heap.size, 4, none⟩ = some e ∧ (w.alloc (.cells #[a, b, c, d, e, v] 59)).cell? ⟨w.heap.size, 5, none⟩ = some v := by
  refine ⟨?_, ?_, ?_, ?_, ?_, ?_⟩ <;> simp
set_option maxHeartbeats 3200000 in
set_option maxRecDepth 100000 in
theorem rEncode (w : World) (x : Value) (f : Fr) (hx : FrV w x f) : Calls Try.prog 46 #[x] w (RetEnc (encOf f) (encE f) w) := by
  have HR := hid (fun w' (S : Same w w') => rIs w' x f (hx.same S))
  obtain ⟨v, e, rfl, hb⟩ := hx
  obtain ⟨ao, cap, rfl, h1, h2⟩ := hb.form
  unfold maxLen at h2
  cases hr : f.right
  · have HE : Hid (encOf f = [] ∧ encE f = 2) := by show _ ∧ _; unfold encOf encE; rw [hr]; exact ⟨rfl, rfl⟩
    rw [hr] at HR
    clear hr hb
    rw [HE.out.1, HE.out.2]
    unfold Fr.agg at HR ⊢
    go_enter Try.func46, Try.ntmps46
    go_wp2_with fail
    refine (HR.out _ ((Same.refl w).alloc _)).mono ?_
    rintro en w1 ⟨rfl, S1⟩
    go_wp2_with fail
    go_ret2
    exact ⟨_, rfl, OwnB.nil _ _, ((Same.refl w).alloc _).trans S1⟩
  · have HE : Hid (encOf f = CrcPure.sealed f.inner ∧ encE f = 0) := by show _ ∧ _; unfold encOf encE; rw [hr]; exact ⟨rfl, rfl⟩
    obtain ⟨q1, q2⟩ := Fr.right_iff.1 hr
    obtain ⟨a1, a2, a3, a4, a5, a6⟩ := stampOk_iff.1 q1
    obtain ⟨b1, b2, b3, b4, b5⟩ := partOk_iff.1 q2
    rw [hr] at HR
    have HI : Hid (f.inner = (be 3 f.life.toNat ++ be 3 f.era.toNat ++ be 4 f.seq.toNat ++ f.more ++ f.data) ++ List.replicate (93 - (be 3 f.life.toNat ++ be 3 f.era.toNat ++ be 4 f.seq.toNat ++ f.more ++ f.data).length) 0) := rfl
    have HM : Hid (f.more = [f.part.toNat.toUInt8, f.parts.toNat.toUInt8, f.data.length.toUInt8]) := rfl
    have HN : Hid (f.inner.length ≤ 900000) := by
      have := Fr.inner_length f b5
      show _ ≤ _
      omega
    clear hr q1 q2
    rw [HE.out.1, HE.out.2]
    unfold Fr.agg at HR ⊢
    obtain ⟨life, era, seq, part, parts, data⟩ := f
    simp only at *
    obtain ⟨life, rfl⟩ := Int.eq_ofNat_of_zero_le (a := life) (by omega)
    obtain ⟨era, rfl⟩ := Int.eq_ofNat_of_zero_le (a := era) (by omega)
    obtain ⟨seq, rfl⟩ := Int.eq_ofNat_of_zero_le (a := seq) (by omega)
    obtain ⟨part, rfl⟩ := Int.eq_ofNat_of_zero_le (a := part) (by omega)
    obtain ⟨parts, rfl⟩ := Int.eq_ofNat_of_zero_le (a := parts) (by omega)
    simp only [Int.toNat_natCast] at HI HM
    have HBx := hid (box_cells9 w (.int .i64 life) (.int .i64 era) (.int .i64 seq) (.int .i64 part) (.int .i64 parts) (.slice ao data.length cap))
    have S1 := hid ((Same.refl w).alloc (.cells #[.int .i64 life, .int .i64 era, .int .i64 seq, .int .i64 part, .int .i64 parts, .slice ao data.length cap] 59))
    have hz1 : (w.alloc (.cells #[.int .i64 life, .int .i64 era, .int .i64 seq, .int .i64 part, .int .i64 parts, .slice ao data.length cap] 59)).heap.size = w.heap.size + 1 := by simp
    have HZ1 := hid hz1
    clear hz1
    have HB0 := hid hb
    have HNu := hid rNumber
    have HSe := hid refSeal
    clear hb
    go_enter Try.func46, Try.ntmps46
    go_wp2_with fail
    refine (HR.out _ S1.out).mono ?_
    rintro en w1 ⟨rfl, S2⟩
    have hcell : ∀ o, w1.cell? ⟨w.heap.size, o, none⟩ = (w.alloc (.cells #[.int .i64 life, .int .i64 era, .int .i64 seq, .int .i64 part, .int .i64 parts, .slice ao data.length cap] 59)).cell? ⟨w.heap.size, o, none⟩ := fun o => S2.cell (p := ⟨w.heap.size, o, none⟩) (by rw [HZ1.out]; exact Nat.lt_succ_self _)
    have hs1 : w.heap.size + 1 ≤ w1.heap.size := by rw [← HZ1.out]; exact S2.size
    have HS1 := hid hs1
    have S2 := hid S2
    obtain ⟨c0, c1, c2, c3, c4, c5⟩ := HBx.out
    have HK : Hid (∀ wz, Keep (fun k => w.heap.size + 1 ≤ k) w1 wz → wz.cell? ⟨w.heap.size, 0, none⟩ = some (.int .i64 life) ∧ wz.cell? ⟨w.heap.size, 1, none⟩ = some (.int .i64 era) ∧ wz.cell? ⟨w.heap.size, 2, none⟩ = some (.int .i64 seq) ∧ wz.cell? ⟨w.heap.size, 3, none⟩ = some (.int .i64 part) ∧ wz.cell? ⟨w.heap.size, 4, none⟩ = some (.int .i64 parts) ∧ wz.cell? ⟨w.heap.size, 5, none⟩ = some (.slice ao data.length cap)) := by
      intro wz K
      have e : ∀ o, wz.cell? ⟨w.heap.size, o, none⟩ = w1.cell? ⟨w.heap.size, o, none⟩ := fun o => cell_keep K (by have := HS1.out; omega) (by omega)
      refine ⟨?_, ?_, ?_, ?_, ?_, ?_⟩
      all_goals (rw [e, hcell]; assumption)
    clear c0 c1 c2 c3 c4 c5 hcell hs1
    have T0 := hid (S1.out.trans S2.out)
    obtain ⟨p1, hp1⟩ : ∃ p, p = be 3 life := ⟨_, rfl⟩
    obtain ⟨p2, hp2⟩ : ∃ p, p = p1 ++ be 3 era := ⟨_, rfl⟩
    obtain ⟨p3, hp3⟩ : ∃ p, p = p2 ++ be 4 seq := ⟨_, rfl⟩
    rw [← hp1, ← hp2, ← hp3] at HI
    have HL1 : Hid (p1.length = 3) := by show _ = _; rw [hp1, be_length]
    have HL2 : Hid (p2.length = 6) := by show _ = _; rw [hp2, List.length_append, HL1.out, be_length]
    have HL3 : Hid (p3.length = 10) := by show _ = _; rw [hp3, List.length_append, HL2.out, be_length]
    have HP1 := hid hp1
    have HP2 := hid hp2
    have HP3 := hid hp3
    clear hp1 hp2 hp3
    have K1 := hid (Keep.refl (fun k => w.heap.size + 1 ≤ k) w1)
    obtain ⟨c0, c1, c2, c3, c4, c5⟩ := HK.out _ K1.out
    go_wp2_with fail
    refine (HNu.out _ life 3 (by omega) (by omega)).mono ?_
    rintro en w2 ⟨v2, rfl, O2, T2⟩
    have O2 := hid O2
    have K2 := hid (K1.out.trans (T2.keep _))
    clear c0 c1 c2 c3 c4 c5 T2
    obtain ⟨c0, c1, c2, c3, c4, c5⟩ := HK.out _ K2.out
    obtain ⟨a2', q2', rfl, _, _⟩ := O2.out.bytes.form
    go_wp2_with (at_builtin; refine wpList_append_bytes rfl (.tmp 8) (.tmp 11) 23 tyBytes rfl (OwnB.nil w2 (w.heap.size + 1)) O2.out.bytes rfl rfl (by rw [be_length]; simp) (Nat.le_trans HS1.out K2.out.size) ?_; intro x1 w3 ho1 hg1; rw [List.nil_append, ← HP1.out] at ho1; have K3 := hid (K2.out.grown hg1 (fun k e => by cases e)); have O3 := hid ho1; obtain ⟨a3', q3', rfl, _, _⟩ := ho1.bytes.form; clear ho1 hg1 c0 c1 c2 c3 c4 c5; obtain ⟨c0, c1, c2, c3, c4, c5⟩ := HK.out _ K3.out)
    refine (HNu.out _ era 3 (by omega) (by omega)).mono ?_
    rintro en w4 ⟨v4, rfl, O4, T4⟩
    have O4 := hid O4
    have K4 := hid (K3.out.trans (T4.keep _))
    have O3b := hid (OwnB.keep (M := fun _ => False) O3.out (T4.keep _) (fun _ _ h => h))
    clear c0 c1 c2 c3 c4 c5 T4 O3 O2
    obtain ⟨c0, c1, c2, c3, c4, c5⟩ := HK.out _ K4.out
    obtain ⟨a4', q4', rfl, _, _⟩ := O4.out.bytes.form
    go_wp2_with (at_builtin; refine wpList_append_bytes rfl (.tmp 13) (.tmp 16) 23 tyBytes rfl O3b.out O4.out.bytes rfl rfl (by rw [HL1.out, be_length]; omega) (Nat.le_trans HS1.out K4.out.size) ?_; intro x2 w5 ho2 hg2; rw [← HP2.out] at ho2; have K5 := hid (K4.out.grown hg2 (fun k e => .inl (O3b.out.lt k e).1)); have O5 := hid ho2; obtain ⟨a5', q5', rfl, _, _⟩ := ho2.bytes.form; clear ho2 hg2 c0 c1 c2 c3 c4 c5; obtain ⟨c0, c1, c2, c3, c4, c5⟩ := HK.out _ K5.out)
    refine (HNu.out _ seq 4 (by omega) (by omega)).mono ?_
    rintro en w6 ⟨v6, rfl, O6, T6⟩
    have O6 := hid O6
    have K6 := hid (K5.out.trans (T6.keep _))
    have O5b := hid (OwnB.keep (M := fun _ => False) O5.out (T6.keep _) (fun _ _ h => h))
    clear c0 c1 c2 c3 c4 c5 T6 O5 O4 O3b
    obtain ⟨c0, c1, c2, c3, c4, c5⟩ := HK.out _ K6.out
    obtain ⟨a6', q6', rfl, _, _⟩ := O6.out.bytes.form
    have HM3 := hid (fun wz => more_made wz part parts data.length (by omega) (by omega) (by omega))
    rw [← HM.out] at HM3
    have hmore : Hid ((Fr.more ⟨life, era, seq, part, parts, data⟩).length = 3) := rfl
    generalize Fr.more ⟨life, era, seq, part, parts, data⟩ = m3 at *
    obtain ⟨p4, hp4⟩ : ∃ p, p = p3 ++ m3 := ⟨_, rfl⟩
    obtain ⟨p5, hp5⟩ : ∃ p, p = p4 ++ data := ⟨_, rfl⟩
    rw [← hp4, ← hp5] at HI
    have HL4 : Hid (p4.length = 13) := by show _ = _; rw [hp4, List.length_append, HL3.out, hmore.out]
    have HL5 : Hid (p5.length = 13 + data.length) := by show _ = _; rw [hp5, List.length_append, HL4.out]
    have HP4 := hid hp4
    have HP5 := hid hp5
    clear hp4 hp5 HM
    go_wp2_with (first
      | (at_builtin; refine wpList_append_bytes rfl (.tmp 18) (.tmp 21) 23 tyBytes rfl O5b.out O6.out.bytes rfl rfl (by rw [HL2.out, be_length]; omega) (Nat.le_trans HS1.out K6.out.size) ?_; intro x3 w7 ho3 hg3; rw [← HP3.out] at ho3; have K7 := hid (K6.out.grown hg3 (fun k e => .inl (O5b.out.lt k e).1)); have O7 := hid ho3; obtain ⟨a7', q7', rfl, _, _⟩ := ho3.bytes.form; clear ho3 hg3 c0 c1 c2 c3 c4 c5; obtain ⟨c0, c1, c2, c3, c4, c5⟩ := HK.out _ K7.out)
      | (at_builtin; refine wpList_append_bytes rfl (.tmp 23) (.tmp 34) 23 tyBytes rfl (O7.out.alloc _) (HM3.out w7) rfl rfl (by rw [HL3.out, hmore.out]; omega) (by have := HS1.out; have := K7.out.size; simp; omega) ?_; intro x4 w8 ho4 hg4
         rw [← HP4.out] at ho4
         have O8 := hid ho4
         have K8 := hid ((K7.out.alloc (.cells #[.int .u8 part, .int .u8 parts, .int .u8 data.length] 5)).grown hg4 (fun k e => .inl (O7.out.lt k e).1))
         have HB8 := hid (HB0.out.same T0.out |>.keep K8.out (fun g hg hm => by have := Sl.home_lt HB0.out hg; omega))
         clear c0 c1 c2 c3 c4 c5 hg4
         obtain ⟨c0, c1, c2, c3, c4, c5⟩ := HK.out _ K8.out
         obtain ⟨a8', q8', rfl, _, _⟩ := ho4.bytes.form
         clear ho4)
      | (at_builtin; refine wpList_append_bytes rfl (.tmp 36) (.tmp 38) 23 tyBytes rfl O8.out HB8.out rfl rfl (by rw [HL4.out]; omega) (by have := HS1.out; have := K8.out.size; omega) ?_; intro x5 w9 ho5 hg5
         rw [← HP5.out] at ho5
         have O9 := hid ho5
         have K9 := hid (K8.out.grown hg5 (fun k e => .inl (O8.out.lt k e).1))
         clear c0 c1 c2 c3 c4 c5 hg5
         obtain ⟨a9', q9', rfl, _, _⟩ := ho5.bytes.form
         clear ho5))
    clear O5b O6 HM3
    have HBy := hid (fun wz => byte_made wz 0 (0 : UInt8) rfl)
    go_loopw [4] (fun b wr => ∃ k : Nat, p5.length + k ≤ 93 ∧ OwnB wr (w.heap.size + 1) b (p5 ++ List.replicate k 0) ∧ Keep (fun k => w.heap.size + 1 ≤ k) w1 wr) (fun b _ => match b with | .slice _ n _ => 93 - n | _ => 0)
    case atStart => exact ⟨0, by have := HL5.out; omega, by simpa using O9.out, K9.out⟩
    case round =>
      obtain ⟨k, hk, O, K⟩ := hrel
      obtain ⟨sa, sc, rfl, _, _⟩ := O.bytes.form
      have hle : (p5 ++ List.replicate k (0 : UInt8)).length = p5.length + k := by simp
      rw [hle] at O ⊢
      have O := hid O
      have K := hid K
      by_cases hlt : p5.length + k < 93
      · have OA := hid (O.out.alloc (.cells #[.int .u8 0] 5))
        have KA := hid (K.out.alloc (.cells #[.int .u8 0] 5))
        have HS := hid (Nat.le_trans HS1.out KA.out.size)
        have HLn := hid hle
        have HLn2 : Hid ((p5 ++ List.replicate (k + 1) (0 : UInt8)).length = p5.length + (k + 1)) := by show _ = _; simp
        have HB1 := hid (HBy.out wr)
        clear hle
        generalize hq : p5.length + k = q at *
        go_wp2_with (at_builtin; refine wpList_append_bytes rfl (.tmp 43) (.tmp 44) 23 tyBytes rfl OA.out HB1.out rfl rfl (by rw [HLn.out]; simp; omega) HS.out ?_; intro x6 w10 ho6 hg6; rw [List.append_assoc, ← List.replicate_succ'] at ho6; obtain ⟨ta, tc, hx6, _, _⟩ := ho6.bytes.form; rw [HLn2.out] at hx6; subst hx6)
        go_roundw
        case rel => exact ⟨k + 1, by omega, ho6, KA.out.grown hg6 (fun g e => .inl (OA.out.lt g e).1)⟩
        case measure =>
          show 93 - (p5.length + (k + 1)) < 93 - q
          omega
      · have hkk : k = 93 - p5.length := by omega
        have HI2 : Hid (Fr.inner ⟨life, era, seq, part, parts, data⟩ = p5 ++ List.replicate k 0) := by
          show _ = _
          rw [hkk]
          exact HI.out
        rw [← HI2.out] at O
        have HO := O
        clear O hkk hle
        generalize p5.length + k = q at *
        go_wp2_with fail
        refine (HSe.out _ 5 _ _ HO.out.bytes HN.out).mono ?_
        rintro en w8 ⟨v8, rfl, O8, S8⟩
        go_wp2_with fail
        go_ret2
        have hs7 := K.out.size
        have hs1 := HS1.out
        exact ⟨_, rfl, O8.mono (by omega), (T0.out.keepOwn K.out (fun k hk => by omega)).trans S8⟩
end Go.Proofs.Ytlhnpicmjjddeaa
namespace Go.Proofs.Ytlhnpicmjjddeaa
open Go.RowKit

set_option maxHeartbeats 1600000 in
set_option maxRecDepth 100000 in
theorem rValue (w : World) (e : TypeId) (v : Value) (l : List UInt8) (hb : Bytes w e v l) (hl : l.length ≤ 4) :
    Calls Try.prog 100 #[v] w fun en w' => en = .returned (.int .i64 (val l)) ∧ w = w' := by
  obtain ⟨ao, cap, rfl, h1, h2⟩ := hb.form
  have HL := hid hl
  have hl' : l.length ≤ 9223372036854775807 := by omega
  clear hl
  go_enter Try.func100, Try.ntmps100
  go_wp2_with fail
  go_loop [3, 4] (fun n i => ∃ k : Nat, k ≤ l.length ∧ i = .int .i64 k ∧ n = .int .i64 (val (l.take k))) (fun _ i => l.length - (intOf i).toNat)
  case atStart => exact ⟨0, Nat.zero_le _, rfl, rfl⟩
  case round =>
    obtain ⟨k, hk, rfl, rfl⟩ := hrel
    by_cases hlt : k < l.length
    · obtain ⟨g, o, rfl, hc⟩ := hb.cells (by omega)
      have c1 := hc k hlt
      have hs := val_snoc (l.take k) l[k]
      rw [← List.take_succ_eq_append_getElem hlt] at hs
      have HS := hid hs
      have hv : val (l.take k) < 16777216 := by
        have := val_lt (l.take k)
        have h2 : (l.take k).length ≤ 3 := by rw [List.length_take]; have := HL.out; omega
        have h3 : 256 ^ (l.take k).length ≤ 256 ^ 3 := Nat.pow_le_pow_right (by omega) h2
        omega
      have hx : l[k].toNat < 256 := l[k].toNat_lt
      clear hc hs
      generalize val (l.take k) = m at *
      generalize l[k].toNat = x at *
      go_wp2_with fail
      go_round
      case rel => exact ⟨k + 1, by omega, by go_num, by rw [HS.out]; go_num⟩
      case measure => simp [intOf]; omega
    · obtain rfl : k = l.length := by omega
      have HT : Hid (l.take l.length = l) := List.take_length
      go_wp2_with fail
      go_ret
      exact ⟨rfl, rfl⟩
end Go.Proofs.Ytlhnpicmjjddeaa
namespace Go.Proofs.Ytlhnpicmjjddeaa
open Go.RowKit

theorem slice_mid (W : World) (g o n q l h : Nat) (h0 : l < h) (h1 : h ≤ q) : (Instr.sliceAt 23 (.slice (some ⟨g, o, none⟩) n q) (some (.int .i64 (l : Int))) (some (.int .i64 (h : Int))) none).run Try.prog W = .ok (.slice (some ⟨g, o + l, none⟩) (h - l) (q - l)) W := by
  rw [run_sliceAt_slice W 23 _ _ _ _ elem23, run_slice_lh W 23 _ n q elem23 .i64 .i64 (l : Int) (h : Int) (by omega) (by omega) (by omega), size23]
  simp only [Result.andThen, sliced]
  rw [if_neg (by rw [Int.toNat_natCast]; omega)]
  simp [Addr.add_mid]
theorem slice_00 (W : World) (a : Option Addr) (q : Nat) : (Instr.sliceAt 23 (.slice a 0 q) (some (.int .i64 0)) (some (.int .i64 0)) none).run Try.prog W = .ok (.slice a 0 q) W := by
  rw [run_sliceAt_slice W 23 _ _ _ _ elem23, run_slice_lh W 23 _ 0 q elem23 .i64 .i64 0 0 (by omega) (by omega) (by omega), size23]
  simp only [Result.andThen, sliced]
  split
  · simp
  · cases a <;> simp [Addr.add]
set_option maxHeartbeats 3200000 in
set_option maxRecDepth 100000 in
theorem rCutGo (w : World) (e : TypeId) (v : Value) (life era seq : Int) (b : List UInt8) (hb : Bytes w e v b) (hl : b.length ≤ 400) (h0 : b.length ≠ 0) :
    Calls Try.prog 53 #[.int .i64 life, .int .i64 era, .int .i64 seq, v] w (RetCut (cutAll life era seq b) (cutE life era seq b) w) := by
  have HBy := hid hb
  obtain ⟨ao, cap, rfl, h1, h2⟩ := hb.form
  unfold maxLen at h2
  have HE := hid rEncode
  obtain ⟨g, o, rfl, _⟩ := hb.cells h0
  clear hb
  have hqn : nparts b.length = (b.length + 79) / 80 := by unfold nparts; omega
  obtain ⟨q, hqd⟩ : ∃ q, nparts b.length = q := ⟨_, rfl⟩
  have hq1 : 1 ≤ q := by rw [← hqd]; exact nparts_pos _
  have hqb : q * 80 < b.length + 80 ∧ b.length ≤ q * 80 := by rw [hqd] at hqn; omega
  have hq : ((b.length : Int) + 79) / 80 = (q : Int) := by rw [hqd] at hqn; omega
  have hq5 : q ≤ 5 := by omega
  have hz : ((q : Int) == 0) = false := by rw [beq_eq_false_iff_ne]; omega
  have hz2 : (q == 0) = false := by rw [beq_eq_false_iff_ne]; omega
  have HQ := hid hqd
  clear hqn hqd h0
  have hd255 : decide (255 < q) = false := by simp; omega
  have hd255' : decide ((255 : Int) < (q : Int)) = false := by simp; omega
  have HSt := hid (fun k (hk : k < nparts b.length) => cutAt_right_eq life era seq b k hk (by rw [HQ.out]; omega))
  have HCE : Hid (cutE life era seq b = if stampOk life era seq = true then 0 else 2) := by
    show _ = _
    unfold cutE
    rw [HQ.out, if_pos (by omega : q ≤ 255)]
  have HLn := hid (cutL_length life era seq b)
  go_enter Try.func53, Try.ntmps53
  go_wp2_with fail
  rw [hq]
  clear hq
  go_loopg [11, 12] q (fun gk out i wr => ∃ k : Nat, k + gk = q ∧ (k = 0 ∨ stampOk life era seq = true) ∧ i = .int .i64 k ∧ OwnR wr w.heap.size out ((cutL life era seq b).take k) ∧ Same w wr)
  case atStart => exact ⟨0, by omega, .inl rfl, rfl, OwnR.nil _ _, Same.refl w⟩
  case round =>
    obtain ⟨k, hk, hks, rfl, hO, S⟩ := hrel
    have HK := hid hk
    have HO := hid hO
    have HS := hid S
    have Hks := hid hks
    have hkq : k ≤ q := by omega
    clear hO S hks hk
    by_cases hlt : k < q
    case neg =>
      obtain rfl : k = q := by omega
      have hst : Hid (stampOk life era seq = true) := by
        rcases Hks.out with h | h
        · omega
        · exact h
      have HR : Hid (cutAll life era seq b = cutL life era seq b ∧ cutE life era seq b = 0) := by
        have h2 : cutE life era seq b = 0 := by rw [HCE.out, hst.out]; rfl
        refine ⟨?_, h2⟩
        unfold cutAll
        rw [if_pos h2]
      have HT : Hid ((cutL life era seq b).take k = cutL life era seq b) := List.take_of_length_le (by rw [HLn.out, HQ.out]; omega)
      go_wp2_with fail
      go_ret2
      rw [HR.out.1, HR.out.2]
      exact ⟨_, rfl, by rw [← HT.out]; exact HO.out, HS.out⟩
    obtain ⟨t, ht1, htA, htB⟩ : ∃ t : Nat, (k * 80 < t ∧ t ≤ b.length ∧ t ≤ k * 80 + 80 ∧ (t = k * 80 + 80 ∨ t = b.length)) ∧ Hid (k * 80 + 80 ≤ b.length → (80 * (k : Int) + 80) = t) ∧ Hid (¬ k * 80 + 80 ≤ b.length → (b.length : Int) = t) := by
      by_cases h : k * 80 + 80 ≤ b.length
      · exact ⟨k * 80 + 80, by omega, fun _ => by omega, fun x => absurd h x⟩
      · exact ⟨b.length, by omega, fun x => absurd x h, fun _ => rfl⟩
    go_upto_if 35 with fail
    go_cut [13] (fun x wz => x = .int .i64 (t : Int) ∧ wz = wr)
    case first =>
      go_wp2_with fail
      · go_meet
        case rel => exact ⟨by rw [htB.out (by omega)], rfl⟩
      · go_meet
        case rel => exact ⟨by rw [htA.out (by omega)], rfl⟩
    case rest =>
      obtain ⟨rfl, rfl⟩ := hcut
      have s1 := fun W => slice_mid W g o b.length cap (k * 80) t (by omega) (by omega)
      obtain ⟨m, hm⟩ : ∃ m, t - k * 80 = m := ⟨_, rfl⟩
      obtain ⟨c', hc'⟩ : ∃ c', cap - k * 80 = c' := ⟨_, rfl⟩
      rw [hm, hc'] at s1
      have hcast : ((k * 80 : Nat) : Int) = 80 * (k : Int) := by omega
      rw [hcast] at s1
      have hB := (HBy.out.same HS.out).part (k * 80) m c' (by omega) (by omega) (by unfold maxLen; omega)
      have hch : (b.drop (k * 80)).take m = chunk b k := by
        unfold chunk
        rcases ht1.2.2.2 with h | h
        · rw [show m = 80 by omega]
        · rw [List.take_of_length_le (by rw [List.length_drop]; omega), List.take_of_length_le (by rw [List.length_drop]; omega)]
      rw [hch] at hB
      have hlm : (chunk b k).length = m := by rw [← hch, List.length_take, List.length_drop]; omega
      have FV : FrV wc (.agg #[.int .i64 life, .int .i64 era, .int .i64 seq, .int .i64 k, .int .i64 q, .slice (some ⟨g, o + k * 80, none⟩) m c']) (cutAt life era seq b k) := ⟨_, e, by unfold Fr.agg cutAt; rw [HQ.out], hB⟩
      have HEk := hid (HE.out wc _ _ FV)
      have HSk := hid (HSt.out k (by rw [HQ.out]; exact hlt))
      have HT := hid (cutL_succ life era seq b k (by rw [HQ.out]; exact hlt))
      have HLk : Hid (((cutL life era seq b).take k).length ≤ 400) := by show _ ≤ _; rw [List.length_take, HLn.out, HQ.out]; omega
      have e1 : encE (cutAt life era seq b k) = if stampOk life era seq = true then 0 else 2 := by unfold encE; rw [HSk.out]
      have e2 : stampOk life era seq = true → encOf (cutAt life era seq b k) = enc (cutAt life era seq b k) := fun h => by unfold encOf; rw [HSk.out, h]; rfl
      have E1 := hid e1
      have E2 := hid e2
      have hk5 : k ≤ 5 := by omega
      clear hB hch hlm FV hcast hc' hm e1 e2 htA htB ht1 HSt HSk
      go_wp2_with fail
      refine HEk.out.mono ?_
      rintro en w2 ⟨v2, rfl, O2, S2⟩
      have O2 := hid O2
      obtain ⟨a2, c2, rfl, _, _⟩ := O2.out.bytes.form
      have S3 := hid (HS.out.trans S2)
      have HO3 := hid (HO.out.same S2)
      have hOf : Hid (∀ g', homeOf (.slice a2 (encOf (cutAt life era seq b k)).length c2) = some g' → w.heap.size ≤ g') := fun g' hg' => Nat.le_trans HS.out.size (O2.out.fresh g' hg')
      rw [E1.out]
      clear S2 s1
      generalize encOf (cutAt life era seq b k) = ec at *
      by_cases hst : stampOk life era seq = true
      · have Hst := hid hst
        have E3 := hid (E2.out hst)
        have hsz : Hid (w.heap.size ≤ (w2.alloc (.cells #[.slice a2 ec.length c2] 23)).heap.size) := (S3.out.alloc _).size
        rw [if_pos hst]
        clear hst
        go_wp2_with (at_builtin; refine wpList_append_rows rfl (.tmp 56) (.tmp 58) 36 tyRows rfl (HO3.out.same ((Same.refl w2).alloc _)) (one_row O2.out.bytes hOf.out).1 (one_row O2.out.bytes hOf.out).2 rfl rfl (by have := HLk.out; simp only [List.length_singleton]; omega) hsz.out ?_; intro x1 w5 ho5 K6)
        go_roundg (q - (k + 1))
        case measure => have := HK.out; omega
        case rel => exact ⟨k + 1, by omega, .inr Hst.out, by go_num, by rw [HT.out, ← E3.out]; exact ho5, (S3.out.alloc _).keepOwn K6 fun j hj => (HO3.out.lt j hj).1⟩
      · have HR : Hid (cutAll life era seq b = [] ∧ cutE life era seq b = 2) := by
          have h2 : cutE life era seq b = 2 := by rw [HCE.out, if_neg hst]
          refine ⟨?_, h2⟩
          unfold cutAll
          rw [h2]
          rfl
        rw [if_neg hst]
        clear hst
        go_wp2_with fail
        go_ret2
        rw [HR.out.1, HR.out.2]
        exact ⟨_, rfl, OwnR.nil _ _, S3.out⟩
end Go.Proofs.Ytlhnpicmjjddeaa
namespace Go.Proofs.Ytlhnpicmjjddeaa
open Go.RowKit

/-- a box of six cells that is known whole -/
def BoxR (w : World) (b : Nat) (c0 c1 c2 c3 c4 c5 : Value) : Prop := w.heap[b]? = some (.cells #[c0, c1, c2, c3, c4, c5] 59 (0, 0))
theorem BoxR.lt {w : World} {b : Nat} {c0 c1 c2 c3 c4 c5 : Value} (h : BoxR w b c0 c1 c2 c3 c4 c5) : b < w.heap.size := (Array.getElem?_eq_some_iff.1 h).1
theorem BoxR.keep {w w' : World} {M : Nat → Prop} {b : Nat} {c0 c1 c2 c3 c4 c5 : Value} (h : BoxR w b c0 c1 c2 c3 c4 c5) (K : Keep M w w') (hm : ¬ M b) : BoxR w' b c0 c1 c2 c3 c4 c5 := (K.block b h.lt hm).trans h
theorem BoxR.same {w w' : World} {b : Nat} {c0 c1 c2 c3 c4 c5 : Value} (h : BoxR w b c0 c1 c2 c3 c4 c5) (S : Same w w') : BoxR w' b c0 c1 c2 c3 c4 c5 := h.keep S fun x => x
theorem BoxR.new (w : World) (c0 c1 c2 c3 c4 c5 : Value) : BoxR (w.alloc (.cells #[c0, c1, c2, c3, c4, c5] 59)) w.heap.size c0 c1 c2 c3 c4 c5 := heap_alloc_new w _
theorem BoxR.cells {w : World} {b : Nat} {c0 c1 c2 c3 c4 c5 : Value} (h : BoxR w b c0 c1 c2 c3 c4 c5) :
    w.cell? ⟨b, 0, none⟩ = some c0 ∧ w.cell? ⟨b, 1, none⟩ = some c1 ∧ w.cell? ⟨b, 2, none⟩ = some c2 ∧ w.cell? ⟨b, 3, none⟩ = some c3 ∧ w.cell? ⟨b, 4, none⟩ = some c4 ∧ w.cell? ⟨b, 5, none⟩ = some c5 := by
  refine ⟨?_, ?_, ?_, ?_, ?_, ?_⟩
  all_goals (rw [cell_of_row w b _ _ 59 _ h]; rfl)
theorem BoxR.free {w : World} {b : Nat} {c0 c1 c2 c3 c4 c5 : Value} (h : BoxR w b c0 c1 c2 c3 c4 c5) (o : Nat) : w.frozen? ⟨b, o, none⟩ = false := by
  unfold World.frozen?
  rw [h]
  by_cases h0 : 0 ≤ o <;> simp
/-- six stores into a box -/
theorem BoxR.set {w : World} {b : Nat} {c0 c1 c2 c3 c4 c5 : Value} (h : BoxR w b c0 c1 c2 c3 c4 c5) (u0 u1 u2 u3 u4 u5 : Value) :
    Keep (fun k => k = b) w ((((((w.setCell ⟨b, 0, none⟩ u0).setCell ⟨b, 1, none⟩ u1).setCell ⟨b, 2, none⟩ u2).setCell ⟨b, 3, none⟩ u3).setCell ⟨b, 4, none⟩ u4).setCell ⟨b, 5, none⟩ u5) ∧
    BoxR ((((((w.setCell ⟨b, 0, none⟩ u0).setCell ⟨b, 1, none⟩ u1).setCell ⟨b, 2, none⟩ u2).setCell ⟨b, 3, none⟩ u3).setCell ⟨b, 4, none⟩ u4).setCell ⟨b, 5, none⟩ u5) b u0 u1 u2 u3 u4 u5 := by
  constructor
  · exact ((((((Keep.refl (fun k => k = b) w).setCell (p := ⟨b, 0, none⟩) (.inl rfl) _).setCell (p := ⟨b, 1, none⟩) (.inl rfl) _).setCell (p := ⟨b, 2, none⟩) (.inl rfl) _).setCell (p := ⟨b, 3, none⟩) (.inl rfl) _).setCell (p := ⟨b, 4, none⟩) (.inl rfl) _).setCell (p := ⟨b, 5, none⟩) (.inl rfl) _
  · have h0 := heap_setCell_same w b 0 _ 59 u0 h
    have h1 := heap_setCell_same _ b 1 _ 59 u1 h0
    have h2 := heap_setCell_same _ b 2 _ 59 u2 h1
    have h3 := heap_setCell_same _ b 3 _ 59 u3 h2
    have h4 := heap_setCell_same _ b 4 _ 59 u4 h3
    exact heap_setCell_same _ b 5 _ 59 u5 h4
theorem BoxR.set5 {w : World} {b : Nat} {c0 c1 c2 c3 c4 c5 : Value} (h : BoxR w b c0 c1 c2 c3 c4 c5) (u : Value) : BoxR (w.setCell ⟨b, 5, none⟩ u) b c0 c1 c2 c3 c4 u := heap_setCell_same w b 5 _ 59 u h
theorem dec_not96 {b : List UInt8} (h : b.length ≠ 96) : dec b = none := by
  cases hd : dec b with
  | none => rfl
  | some f =>
    obtain ⟨hr, he⟩ := dec_some.1 hd
    exact absurd (by rw [← he, enc_length _ (partOk_iff.1 (Fr.right_iff.1 hr).2).2.2.2.2]) h
theorem dec_big {b : List UInt8} (h0 : b.length = 96) (h : 80 < (b.getD 12 0).toNat) : dec b = none := by
  rw [dec_is, if_neg]
  intro x
  have h2 := (partOk_iff.1 (Fr.right_iff.1 x.1).2).2.2.2.2
  have e : (fld b).data = (b.drop 13).take (b.getD 12 0).toNat := rfl
  rw [e, List.length_take, List.length_drop] at h2
  omega
set_option maxHeartbeats 1600000 in
set_option maxRecDepth 100000 in
theorem rDecodeEarly (w : World) (e : TypeId) (v : Value) (b : List UInt8) (hb : Bytes w e v b) (h : b.length ≠ 96 ∨ (b.length = 96 ∧ 80 < (b.getD 12 0).toNat)) :
    Calls Try.prog 49 #[v] w (RetDec (decF b) (decE b) w) := by
  have HN : Hid (decF b = Fr.zero ∧ decE b = 3) := by
    rcases h with h | h
    · exact decF_none (dec_not96 h)
    · exact decF_none (dec_big h.1 h.2)
  obtain ⟨ao, cap, rfl, h1, h2⟩ := hb.form
  unfold maxLen at h2
  have S1 := hid ((Same.refl w).alloc (.cells #[.int .i64 0, .int .i64 0, .int .i64 0, .int .i64 0, .int .i64 0, .slice none 0 0] 59))
  rw [HN.out.1, HN.out.2]
  by_cases hn : b.length = 96
  case neg =>
    have hn1 : ((b.length : Int) != 96) = true := by rw [bne_iff_ne]; omega
    clear h hn hb HN
    go_enter Try.func49, Try.ntmps49
    go_wp2_with fail
    refine bodyPost_ret (v := .tuple #[Fr.agg Fr.zero (.slice none 0 0), .int .i64 3]) ?_ rfl ⟨_, rfl, ⟨_, rfl, OwnB.nil _ _⟩, S1.out⟩
    simp [results, Try.results49, go_sem]
    rfl
  · have h3 : 80 < (b.getD 12 0).toNat := by
      rcases h with h | h
      · exact absurd hn h
      · exact h.2
    have e12 : b.getD 12 0 = b[12]'(by omega) := by rw [List.getD_eq_getElem?_getD, List.getElem?_eq_getElem (by omega)]; rfl
    rw [e12] at h3
    have hlt : (b[12]'(by omega)).toNat < 256 := (b[12]'(by omega)).toNat_lt
    obtain ⟨g, o, rfl, hc⟩ := hb.cells (by omega)
    have k12 := hc 12 (by omega)
    have hg := World.block_lt_of_cell? w _ k12
    have k12' := (S1.out.cell (p := ⟨g, o + 12, none⟩) hg).trans k12
    clear hc h e12 hb HN
    rw [hn] at *
    clear hn
    generalize (b[12]'_).toNat = x at *
    have hx : decide ((80 : Int) < (x : Int)) = true := by simp; omega
    go_enter Try.func49, Try.ntmps49
    go_wp2_with fail
    refine bodyPost_ret (v := .tuple #[Fr.agg Fr.zero (.slice none 0 0), .int .i64 3]) ?_ rfl ⟨_, rfl, ⟨_, rfl, OwnB.nil _ _⟩, S1.out⟩
    simp [results, Try.results49, go_sem]
    rfl
end Go.Proofs.Ytlhnpicmjjddeaa
namespace Go.Proofs.Ytlhnpicmjjddeaa

section
variable {P : Program} {ops : Array Oper} {Q : Exit → Act → World → Prop} {md : Region.Mode} {s : Nat} {S : Bool → World → Prop}
/-- any order; behind each operation S holds, told whether the operation s has come up -/
def wpAnyB (P : Program) (md : Region.Mode) (ops : Array Oper) (Q : Exit → Act → World → Prop) (s : Nat) (S : Bool → World → Prop) : Nat → Array Bool → Act → World → Prop
  | 0, listed, a, w => Region.ready md ops listed = [] ∧ Q .normal a w
  | fuel + 1, listed, a, w =>
    (Region.ready md ops listed = [] → Q .normal a w) ∧
    ∀ i ∈ Region.ready md ops listed, wpOp P ops Q i (fun a' w' => S ((listed.setIfInBounds i true).getD s true) w' ∧ wpAnyB P md ops Q s S fuel (listed.setIfInBounds i true) a' w') a w
theorem wpAny_of_B : ∀ (fuel : Nat) (listed : Array Bool) (a : Act) (w : World), wpAnyB P md ops Q s S fuel listed a w → wpAny P md ops Q fuel listed a w
  | 0, _, _, _, h => h
  | fuel + 1, _, _, _, h => ⟨h.1, fun i hi => wpOp_mono (fun a' w' h' => wpAny_of_B fuel _ a' w' h'.2) (h.2 i hi)⟩
theorem wpAnyB_first {T : World → Prop} {inv : Array Bool → Prop} {i : Nat} {oi : Oper} {v : Value} (hi : ops[i]? = some oi) (hsel : ∀ (j : Nat) (o : Oper) cs b, ops[j]? = some o → o.op ≠ .select cs b)
    (hQ : ∀ c a w, Q (.panic c) (a.put oi.dst v) w → Q (.panic c) a w) (his : i ≠ s)
    (hT : ∀ l w, inv l → S (l.getD s true) w → T w) (hinv : ∀ l j, inv l → l.getD i true = false → j ∈ Region.ready md ops l → j ≠ i → inv (l.setIfInBounds j true)) :
    ∀ (fuel : Nat) (listed : Array Bool) (a : Act) (w : World), inv listed →
      (∀ j oj, ops[j]? = some oj → j ≠ i → listed.getD j true = false → (∀ e ∈ oj.after, Region.binds md e = true → e.on ≠ i) → oi.apart ops oj = true) →
      i ∈ Region.ready md ops listed → YieldsIf P ops T oi v a → S (listed.getD s true) w →
      wpAnyB P md ops Q s S fuel (listed.setIfInBounds i true) (a.put oi.dst v) w → wpAnyB P md ops Q s S (fuel + 1) listed a w := by
  intro fuel
  induction fuel with
  | zero =>
    intro listed a w hin _ hr hy hS H
    refine ⟨fun h => (by rw [h] at hr; cases hr), fun j hj => ?_⟩
    by_cases hji : j = i
    · subst hji; exact hy.wpOp hi (hT _ _ hin hS) ⟨by rw [getD_set_ne true his]; exact hS, H⟩
    · have := ready_mono hj hji
      rw [H.1] at this
      cases this
  | succ fuel ih =>
    intro listed a w hin hfree hr hy hS H
    refine ⟨fun h => (by rw [h] at hr; cases hr), fun j hj => ?_⟩
    by_cases hji : j = i
    · subst hji; exact hy.wpOp hi (hT _ _ hin hS) ⟨by rw [getD_set_ne true his]; exact hS, H⟩
    · have h1 := H.2 j (ready_mono hj hji)
      obtain ⟨hjun, oj, hoj, hall⟩ := mem_ready.1 hj
      have h0 := (mem_ready.1 hr).1
      have hnot : ∀ e ∈ oj.after, Region.binds md e = true → e.on ≠ i := fun e he hb heq => by
        have h1 := hall e he hb
        rw [heq] at h1
        rcases Nat.lt_or_ge i listed.size with h' | h'
        · simp [h'] at h0 h1; rw [h0] at h1; cases h1
        · simp [Array.getElem?_eq_none h'] at h1
      have h2 := wpOp_putIf hoj (hfree j oj hoj hji hjun hnot) (fun cs b => hsel i oi cs b hi) (fun cs b => hsel j oj cs b hoj) hQ hy h1
      have hfree' : ∀ k ok, ops[k]? = some ok → k ≠ i → (listed.setIfInBounds j true).getD k true = false →
          (∀ e ∈ ok.after, Region.binds md e = true → e.on ≠ i) → oi.apart ops ok = true := fun k ok hk hki hun hno => by
        refine hfree k ok hk hki ?_ hno
        by_cases hjk : j = k
        · subst hjk; exact hjun
        · rw [getD_set_ne true hjk] at hun; exact hun
      refine wpOp_mono (fun a' w' h3 => ?_) h2
      have hS' : S ((listed.setIfInBounds j true).getD s true) w' := by
        have := h3.2.1
        rwa [Array.setIfInBounds_comm _ _ (Ne.symm hji), getD_set_ne true his] at this
      refine ⟨hS', ih (listed.setIfInBounds j true) a' w' (hinv _ _ hin h0 hj hji) hfree' (ready_mono hr (Ne.symm hji)) h3.1 hS' ?_⟩
      rw [Array.setIfInBounds_comm _ _ hji]
      exact h3.2.2
/-- take number i first, for which s waits: it yields in every world that is met before s -/
theorem wpAnyB_early {i fuel : Nat} {d : Option Tmp} {op : Op} {ty : TypeId} {ps : String} {af : Array Edge} {g : Option (Nat × Bool)} {v : Value} {listed : Array Bool} {a : Act} {w : World}
    (hi : ops[i]? = some { dst := d, op := op, type := ty, pos := ps, after := af, guard := g }) (hs : Region.noSelect ops = true) (hf : Region.free md ops listed i = true) (hr : (Region.ready md ops listed).contains i = true) (his : i ≠ s)
    (hw : ((ops[s]?).map fun o => o.after.any fun e => Region.binds md e && e.on == i) = some true) (hl : listed.getD s true = false)
    (hQ : ∀ c a w, Q (.panic c) (a.put d v) w → Q (.panic c) a w) (hS : S false w) (hy : YieldsIf P ops (S false) { dst := d, op := op, type := ty, pos := ps, after := af, guard := g } v a)
    (h : wpAnyB P md ops Q s S fuel (listed.setIfInBounds i true) (a.put d v) w) : wpAnyB P md ops Q s S (fuel + 1) listed a w := by
  refine wpAnyB_first (T := S false) (inv := fun l => l.getD s true = false) hi (Region.noSelect_spec hs) hQ his (fun l w hl h => by rw [hl] at h; exact h) ?_ fuel listed a w hl (Region.free_spec hi hf) (by simpa using hr) hy (by rw [hl]; exact hS) h
  intro l j hl2 hli hj hji
  have hjs : j ≠ s := by
    intro e
    subst e
    obtain ⟨_, oj, hoj, hall⟩ := mem_ready.1 hj
    rw [hoj] at hw
    simp only [Option.map_some, Option.some.injEq] at hw
    obtain ⟨e, he, hb⟩ := Array.any_eq_true'.1 hw
    simp only [Bool.and_eq_true, beq_iff_eq] at hb
    have h1 := hall e he hb.1
    rw [hb.2] at h1
    rcases Nat.lt_or_ge i l.size with h' | h'
    · simp [h'] at hli h1; rw [hli] at h1; cases h1
    · simp [Array.getElem?_eq_none h'] at h1
  rw [getD_set_ne true hjs]
  exact hl2
/-- take number i first: it yields in every world that is met -/
theorem wpAnyB_take {i fuel : Nat} {d : Option Tmp} {op : Op} {ty : TypeId} {ps : String} {af : Array Edge} {g : Option (Nat × Bool)} {v : Value} {listed : Array Bool} {a : Act} {w : World} {b : Bool}
    (hi : ops[i]? = some { dst := d, op := op, type := ty, pos := ps, after := af, guard := g }) (hs : Region.noSelect ops = true) (hf : Region.free md ops listed i = true) (hr : (Region.ready md ops listed).contains i = true) (his : i ≠ s)
    (hl : listed.getD s true = b)
    (hQ : ∀ c a w, Q (.panic c) (a.put d v) w → Q (.panic c) a w) (hS : S b w) (hy : YieldsIf P ops (fun w => ∃ b, S b w) { dst := d, op := op, type := ty, pos := ps, after := af, guard := g } v a)
    (h : wpAnyB P md ops Q s S fuel (listed.setIfInBounds i true) (a.put d v) w) : wpAnyB P md ops Q s S (fuel + 1) listed a w :=
  wpAnyB_first (T := fun w => ∃ b, S b w) (inv := fun _ => True) hi (Region.noSelect_spec hs) hQ his (fun _ _ _ h => ⟨_, h⟩) (fun _ _ _ _ _ _ => trivial) fuel listed a w trivial (Region.free_spec hi hf) (by simpa using hr) hy (by rw [hl]; exact hS) h
/-- the only one that may come up -/
theorem wpAnyB_only {i fuel : Nat} {d : Option Tmp} {op : Op} {ty : TypeId} {ps : String} {af : Array Edge} {g : Option (Nat × Bool)} {listed : Array Bool} {a : Act} {w : World} {b : Bool}
    (hi : ops[i]? = some { dst := d, op := op, type := ty, pos := ps, after := af, guard := g }) (hr : Region.ready md ops listed = [i]) (hl : (listed.setIfInBounds i true).getD s true = b)
    (h : ∀ K' : Act → World → Prop, Shut (∀ a w, S b w → (S b w → wpAnyB P md ops Q s S fuel (listed.setIfInBounds i true) a w) → K' a w) →
      if Region.wanted { dst := d, op := op, type := ty, pos := ps, after := af, guard := g } (yielded ops a.tmps) = true then Oper.wp P { dst := d, op := op, type := ty, pos := ps, after := af, guard := g } a w K' Q else K' (a.put d undef) w) :
    wpAnyB P md ops Q s S (fuel + 1) listed a w := by
  refine ⟨fun h0 => (by rw [hr] at h0; cases h0), fun j hj => ?_⟩
  rw [hr] at hj
  obtain rfl : j = i := by simpa using hj
  refine wpOp_step hi fun K' hK => h K' (fun a w hS hW => hK a w ⟨by rw [hl]; exact hS, hW hS⟩)
theorem wpAnyB_done {listed : Array Bool} {a : Act} {w : World} (hr : Region.ready md ops listed = []) (h : Q .normal a w) : ∀ fuel, wpAnyB P md ops Q s S fuel listed a w
  | 0 => ⟨hr, h⟩
  | _ + 1 => ⟨fun _ => h, by rw [hr]; simp⟩
end
theorem wp_region_B {P : Program} {ops : Array Oper} {Q : Exit → Act → World → Prop} (s : Nat) (S : Bool → World → Prop) {id : Nat} {a : Act} {w : World} (hm : P.follows .mixedOrders = true) (hS : S false w.drew)
    (h : S false w.drew → wpAnyB P .any ops Q s S ops.size (Array.replicate ops.size false) a w.drew) : (Code.region id ops true).wp P Q a w :=
  wp_region_any hm (wpAny_of_B _ _ _ _ (h hS))
end Go.Proofs.Ytlhnpicmjjddeaa
namespace Go.Proofs.Ytlhnpicmjjddeaa
open Go.RowKit

/-- append of bytes, as a step of a region that draws its order -/
theorem step_append_bytes {P : Program} {w : World} {ops : Array Oper} {o : Oper} {a : Act} {K : Act → World → Prop} {Q : Exit → Act → World → Prop} {E : Prop} (hgd : o.guard = none) (s x : Operand)
    (t : TypeId) (T : RowTy P t 5 1 1 (.int .u8 0)) (ho : o.op = .call { callee := .builtin .append, args := #[s, x], argTypes := #[t, t] })
    {base : Nat} {v : Value} {l : List UInt8} (hown : OwnB w base v l) {e' : TypeId} {y : Value} {r : List UInt8} (hy : Bytes w e' y r) (hs : a.eval s = v) (hx : a.eval x = y)
    (hb : l.length + r.length ≤ 140737488355328) (hbase : base ≤ w.heap.size)
    (h : ∀ v' w', OwnB w' base v' (l ++ r) → w.grownBy w' v.ownBlock → K (a.put o.dst v') w') :
    if Region.wanted o (yielded ops a.tmps) = true then Oper.wp P o a w K Q else E := by
  have hw : Region.wanted o (yielded ops a.tmps) = true := by simp [Region.wanted, hgd]
  rw [if_pos hw]
  obtain ⟨v', w', hr, q1, q2⟩ := run_append_sl (P := P) w T o.type hown hy (bytes_one r) (by unfold maxLen; omega) (by omega) hbase
  have hfin := h v' w' (by unfold OwnB; rw [List.length_append, List.map_append]; exact q1) q2
  unfold Oper.wp execOp
  simp only [ho, resolve, invoke, builtin, Sem.run_bind, Sem.run_pure, Result.andThen_ok, List.map_toArray, List.map_cons, List.map_nil, hs, hx, hr]
  exact hfin
theorem slice_lh4 (W : World) (g o n q l h : Nat) (h0 : l < h) (h1 : h ≤ q) (l' h' : Int) (e1 : l' = l) (e2 : h' = h) : (Instr.sliceAt 23 (.slice (some ⟨g, o, none⟩) n q) (some (.int .i64 l')) (some (.int .i64 h')) none).run Try.prog W = .ok (.slice (some ⟨g, o + l, none⟩) (h - l) (q - l)) W := by
  subst e1 e2
  exact slice_mid W g o n q l h h0 h1
theorem slice_13e (W : World) (g o n q d : Nat) (h1 : 13 + d ≤ q) (h0 : 13 < q) : (Instr.sliceAt 23 (.slice (some ⟨g, o, none⟩) n q) (some (.int .i64 13)) (some (.int .i64 (13 + (d : Int)))) none).run Try.prog W = .ok (.slice (some ⟨g, o + 13, none⟩) d (q - 13)) W := by
  rw [run_sliceAt_slice W 23 _ _ _ _ elem23, run_slice_lh W 23 _ n q elem23 .i64 .i64 13 (13 + (d : Int)) (by omega) (by omega) (by omega), size23]
  simp only [Result.andThen, sliced]
  rw [if_neg (by show ¬ q = 13; omega), show (13 + (d : Int)).toNat = 13 + d from by omega]
  simp [Addr.add_mid]
theorem Bytes.cells2 {w : World} {e : TypeId} {ao : Option Addr} {n cap : Nat} {l : List UInt8} (h : Bytes w e (.slice ao n cap) l) (hn : l.length = n) (h0 : n ≠ 0) :
    ∃ g o, ao = some ⟨g, o, none⟩ ∧ ∀ (j : Nat) (hj : j < l.length), w.cell? ⟨g, o + j, none⟩ = some (.int .u8 l[j].toNat) := by
  subst hn
  exact h.cells h0
set_option maxHeartbeats 6400000 in
set_option maxRecDepth 100000 in
theorem rDecodeLate (w : World) (e : TypeId) (v : Value) (b : List UInt8) (hb : Bytes w e v b) (h2 : b.length = 96) (h3 : (b.getD 12 0).toNat ≤ 80) :
    Calls Try.prog 49 #[v] w (RetDec (decF b) (decE b) w) := by
  have HD := hid (dec_is b)
  have S1 := hid ((Same.refl w).alloc (.cells #[.int .i64 0, .int .i64 0, .int .i64 0, .int .i64 0, .int .i64 0, .slice none 0 0] 59))
  have B1 := hid (BoxR.new w (.int .i64 0) (.int .i64 0) (.int .i64 0) (.int .i64 0) (.int .i64 0) (.slice none 0 0))
  have hsz0 : (w.alloc (.cells #[.int .i64 0, .int .i64 0, .int .i64 0, .int .i64 0, .int .i64 0, .slice none 0 0] 59)).heap.size = w.heap.size + 1 := by simp
  have HSz0 := hid hsz0
  clear hsz0
  have HBw := hid (hb.same S1.out)
  have HB1 := HBw
  obtain ⟨ao, cap, rfl, f1, f2⟩ := hb.form
  unfold maxLen at f2
  obtain ⟨g, o, rfl, _⟩ := hb.cells (by omega)
  have HB0 := hid hb
  clear hb
  have e12 : b.getD 12 0 = b[12]'(by omega) := by rw [List.getD_eq_getElem?_getD, List.getElem?_eq_getElem (by omega)]; rfl
  rw [e12] at h3
  have HF : Hid (fld b = ⟨val (b.take 3), val ((b.drop 3).take 3), val ((b.drop 6).take 4), (b[10]'(by omega)).toNat, (b[11]'(by omega)).toNat, (b.drop 13).take (b[12]'(by omega)).toNat⟩) := by
    show _ = _
    unfold fld
    rw [e12, List.getD_eq_getElem?_getD, List.getElem?_eq_getElem (by omega : 10 < b.length), List.getD_eq_getElem?_getD, List.getElem?_eq_getElem (by omega : 11 < b.length)]
    rfl
  clear e12
  have hEn : ∀ r : List UInt8, r.length = 96 → ∀ (k : Nat) (hk : k < 96) (hk' : k < r.length) (hk2 : k < b.length), r.take k = b.take k → r[k].toNat = b[k].toNat → r.take (k + 1) = b.take (k + 1) := fun r hr k hk hk' hk2 h1 h4 => take_ext k hk' hk2 h1 h4
  have hNe : ∀ r : List UInt8, ∀ (k : Nat) (hk' : k < r.length) (hk2 : k < b.length), ¬ r[k].toNat = b[k].toNat → r ≠ b := fun r k hk' hk2 h1 h4 => by subst h4; exact h1 rfl
  have HEn := hid hEn
  have HNe := hid hNe
  clear hEn hNe
  have HL := hid h2
  rw [h2] at f1 HBw HB0
  rw [h2]
  generalize hw1 : w.alloc (.cells #[.int .i64 0, .int .i64 0, .int .i64 0, .int .i64 0, .int .i64 0, .slice none 0 0] 59) = w1 at *
  obtain ⟨g0, o0, hgo, hc⟩ := HB1.out.cells (by omega)
  obtain ⟨rfl, rfl⟩ : g = g0 ∧ o = o0 := by simp only [Option.some.injEq, Addr.mk.injEq] at hgo; exact ⟨hgo.1, hgo.2.1⟩
  clear hgo
  have k10 := hc 10 (by omega)
  have k11 := hc 11 (by omega)
  have k12 := hc 12 (by omega)
  have hg := World.block_lt_of_cell? w1 _ k10
  have P0 := hid (HB1.out.part 0 3 cap (by omega) (by omega) (by unfold maxLen; omega))
  have P1 := hid (HB1.out.part 3 3 (cap - 3) (by omega) (by omega) (by unfold maxLen; omega))
  have P2 := hid (HB1.out.part 6 4 (cap - 6) (by omega) (by omega) (by unfold maxLen; omega))
  have P3 := hid (HB1.out.part 13 (b[12]'(by omega)).toNat (cap - 13) (by omega) (by omega) (by unfold maxLen; omega))
  rw [Nat.add_zero, List.drop_zero] at P0
  have G0 := hid (fun wz (S : Same w1 wz) => show Calls Try.prog 100 #[.slice (some ⟨g, o, none⟩) 3 cap] wz (fun en w' => en = .returned (.int .i64 (val (b.take 3))) ∧ wz = w') from rValue wz _ _ _ (P0.out.same S) (by rw [List.length_take]; omega))
  have G1 := hid (fun wz (S : Same w1 wz) => show Calls Try.prog 100 #[.slice (some ⟨g, o + 3, none⟩) 3 (cap - 3)] wz (fun en w' => en = .returned (.int .i64 (val ((b.drop 3).take 3))) ∧ wz = w') from rValue wz _ _ _ (P1.out.same S) (by rw [List.length_take]; omega))
  have G2 := hid (fun wz (S : Same w1 wz) => show Calls Try.prog 100 #[.slice (some ⟨g, o + 6, none⟩) 4 (cap - 6)] wz (fun en w' => en = .returned (.int .i64 (val ((b.drop 6).take 4))) ∧ wz = w') from rValue wz _ _ _ (P2.out.same S) (by rw [List.length_take]; omega))
  have hdl : ((b.drop 13).take (b[12]'(by omega)).toNat).length = (b[12]'(by omega)).toNat := by rw [List.length_take, List.length_drop]; omega
  have HDl := hid hdl
  clear hc P0 P1 P2 hdl
  have x10 : (b[10]'(by omega)).toNat < 256 := UInt8.toNat_lt _
  have x11 : (b[11]'(by omega)).toNat < 256 := UInt8.toNat_lt _
  generalize val (b.take 3) = n0 at *
  generalize val ((b.drop 3).take 3) = n1 at *
  generalize val ((b.drop 6).take 4) = n2 at *
  generalize (b[10]'_).toNat = p0 at *
  generalize (b[11]'_).toNat = p1 at *
  generalize hd : (b.drop 13).take (b[12]'_).toNat = dat at *
  clear hd
  generalize (b[12]'_).toNat = dn at *
  have W0 := wrap_small x10
  have W1 := wrap_small x11
  have hx : decide ((80 : Int) < (dn : Int)) = false := by rw [decide_eq_false_iff_not]; omega
  generalize fld b = F at *
  clear h2
  have s0 := fun W => slice_mid W g o 96 cap 0 3 (by omega) (by omega)
  have s1 := fun W => slice_mid W g o 96 cap 3 6 (by omega) (by omega)
  have s2 := fun W => slice_mid W g o 96 cap 6 10 (by omega) (by omega)
  simp only [Nat.add_zero, Nat.sub_zero, Nat.reduceSub, Int.cast_ofNat_Int] at s0 s1 s2
  have hgs : g < w1.heap.size := hg
  go_enter Try.func49, Try.ntmps49
  subst hw1
  go_wp2_with fail
  generalize w.alloc (.cells #[.int .i64 0, .int .i64 0, .int .i64 0, .int .i64 0, .int .i64 0, .slice none 0 0] 59) = w1 at *
  go_region_held3 (fun w' => w'.cell? ⟨g, o + 10, none⟩ = some (.int .u8 p0) ∧ w'.cell? ⟨g, o + 11, none⟩ = some (.int .u8 p1)) (go_keep) (first
    | (go_at_call 100; (with_reducible refine (G0.out _ (by repeat (first | exact Same.refl _ | refine Same.drew ?_ | refine Same.drewN ?_ _ | refine Same.alloc ?_ _))).mono ?_); rintro en w2 ⟨rfl, rfl⟩)
    | (go_at_call 100; (with_reducible refine (G1.out _ (by repeat (first | exact Same.refl _ | refine Same.drew ?_ | refine Same.drewN ?_ _ | refine Same.alloc ?_ _))).mono ?_); rintro en w2 ⟨rfl, rfl⟩)
    | (go_at_call 100; (with_reducible refine (G2.out _ (by repeat (first | exact Same.refl _ | refine Same.drew ?_ | refine Same.drewN ?_ _ | refine Same.alloc ?_ _))).mono ?_); rintro en w2 ⟨rfl, rfl⟩))
  all_goals
    have BF := hid (BoxR.new w1 (.int .i64 n0) (.int .i64 n1) (.int .i64 n2) (.int .i64 p0) (.int .i64 p1) (.slice none 0 0))
    have S2 : Same w1 (w1.alloc (.cells #[.int .i64 n0, .int .i64 n1, .int .i64 n2, .int .i64 p0, .int .i64 p1, .slice none 0 0] 59)).drew := ((Same.refl w1).alloc _).drew
    have S2 := hid S2
    have hsz : (w1.alloc (.cells #[.int .i64 n0, .int .i64 n1, .int .i64 n2, .int .i64 p0, .int .i64 p1, .slice none 0 0] 59)).drew.heap.size = w1.heap.size + 1 := by simp
    have HSz := hid hsz
    have BF := hid (BF.out.same (Same.refl _).drew)
    have k12' := hid ((S2.out.cell (p := ⟨g, o + 12, none⟩) hgs).trans k12)
    have PB := hid (P3.out.same S2.out)
    clear s0 s1 s2 W0 W1 hsz k10 k11 k12 hg
    have W2 : IntKind.i64.wrap (dn : Int) = dn := wrap_small (by omega)
    have W3 : IntKind.i64.wrap (13 + (dn : Int)) = 13 + dn := by rw [IntKind.wrap_i64]; omega
    have hb1 : (0 : Int) ≤ 13 + (dn : Int) := by omega
    have hb2 : (13 : Int) + (dn : Int) ≤ cap := by omega
    have s3 := fun W => slice_13e W g o 96 cap dn (by omega) (by omega)
    generalize (w1.alloc (.cells #[.int .i64 n0, .int .i64 n1, .int .i64 n2, .int .i64 p0, .int .i64 p1, .slice none 0 0] 59)).drew = w2 at *
    have k12 := k12'.out
    obtain ⟨c0, c1, c2, c3, c4, c5⟩ := BF.out.cells
    clear c0 c1 c2 c3 c4
    have z5 := BF.out.free 5
    go_wp2_with fail
    -- region 4
    obtain ⟨SS, hSS⟩ : ∃ SS : Bool → World → Prop, ∀ bz wz, SS bz wz ↔ (bz = false → wz.cell? ⟨g, o + 12, none⟩ = some (.int .u8 dn) ∧ wz.cell? ⟨w1.heap.size, 5, none⟩ = some (.slice none 0 0)) := ⟨fun bz wz => bz = false → wz.cell? ⟨g, o + 12, none⟩ = some (.int .u8 dn) ∧ wz.cell? ⟨w1.heap.size, 5, none⟩ = some (.slice none 0 0), fun _ _ => Iff.rfl⟩
    have HSS := hid hSS
    clear hSS
    refine wp_region_B 11 SS (by kernel_rfl) ((HSS.out _ _).2 fun _ => ⟨k12, c5⟩) (fun hHeld => ?_)
    refine' wpAnyB_take (i := 0) (b := false) rfl (by kernel_rfl) (by kernel_rfl) (by kernel_rfl) (by decide) (by kernel_rfl) (fun _ _ _ h => h) (by assumption) (.inl ⟨by rfl, ?_⟩) ?_
    rotate_left
    · (intro wz hSw; go_simp; try with_reducible rfl)
    try simp only [Act.put, List.setIfInBounds_toArray, List.set_cons_zero, List.set_cons_succ]
    refine' wpAnyB_early (i := 1) rfl (by kernel_rfl) (by kernel_rfl) (by kernel_rfl) (by decide) (by kernel_rfl) (by kernel_rfl) (fun _ _ _ h => h) (by assumption) (.inl ⟨by rfl, ?_⟩) ?_
    rotate_left
    · (intro wz hSw; obtain ⟨h7, h6⟩ := (HSS.out _ _).1 hSw rfl; go_simp; try with_reducible rfl)
    try simp only [Act.put, List.setIfInBounds_toArray, List.set_cons_zero, List.set_cons_succ]
    refine' wpAnyB_take (i := 2) (b := false) rfl (by kernel_rfl) (by kernel_rfl) (by kernel_rfl) (by decide) (by kernel_rfl) (fun _ _ _ h => h) (by assumption) (.inl ⟨by rfl, ?_⟩) ?_
    rotate_left
    · (intro wz hSw; go_simp; try with_reducible rfl)
    try simp only [Act.put, List.setIfInBounds_toArray, List.set_cons_zero, List.set_cons_succ]
    refine' wpAnyB_take (i := 3) (b := false) rfl (by kernel_rfl) (by kernel_rfl) (by kernel_rfl) (by decide) (by kernel_rfl) (fun _ _ _ h => h) (by assumption) (.inl ⟨by rfl, ?_⟩) ?_
    rotate_left
    · (intro wz hSw; go_simp; try with_reducible rfl)
    try simp only [Act.put, List.setIfInBounds_toArray, List.set_cons_zero, List.set_cons_succ]
    refine' wpAnyB_take (i := 4) (b := false) rfl (by kernel_rfl) (by kernel_rfl) (by kernel_rfl) (by decide) (by kernel_rfl) (fun _ _ _ h => h) (by assumption) (.inl ⟨by rfl, ?_⟩) ?_
    rotate_left
    · (intro wz hSw; go_simp; try with_reducible rfl)
    try simp only [Act.put, List.setIfInBounds_toArray, List.set_cons_zero, List.set_cons_succ]
    refine' wpAnyB_early (i := 5) rfl (by kernel_rfl) (by kernel_rfl) (by kernel_rfl) (by decide) (by kernel_rfl) (by kernel_rfl) (fun _ _ _ h => h) (by assumption) (.inl ⟨by rfl, ?_⟩) ?_
    rotate_left
    · (intro wz hSw; obtain ⟨h7, h6⟩ := (HSS.out _ _).1 hSw rfl; go_simp; try with_reducible rfl)
    try simp only [Act.put, List.setIfInBounds_toArray, List.set_cons_zero, List.set_cons_succ]
    refine' wpAnyB_take (i := 6) (b := false) rfl (by kernel_rfl) (by kernel_rfl) (by kernel_rfl) (by decide) (by kernel_rfl) (fun _ _ _ h => h) (by assumption) (.inl ⟨by rfl, ?_⟩) ?_
    rotate_left
    · (intro wz hSw; go_simp; try with_reducible rfl)
    try simp only [Act.put, List.setIfInBounds_toArray, List.set_cons_zero, List.set_cons_succ]
    refine' wpAnyB_take (i := 7) (b := false) rfl (by kernel_rfl) (by kernel_rfl) (by kernel_rfl) (by decide) (by kernel_rfl) (fun _ _ _ h => h) (by assumption) (.inl ⟨by rfl, ?_⟩) ?_
    rotate_left
    · (intro wz hSw; go_simp; try with_reducible rfl)
    try simp only [Act.put, List.setIfInBounds_toArray, List.set_cons_zero, List.set_cons_succ]
    refine' wpAnyB_take (i := 8) (b := false) rfl (by kernel_rfl) (by kernel_rfl) (by kernel_rfl) (by decide) (by kernel_rfl) (fun _ _ _ h => h) (by assumption) (.inl ⟨by rfl, ?_⟩) ?_
    rotate_left
    · (intro wz hSw; go_simp; try with_reducible rfl)
    try simp only [Act.put, List.setIfInBounds_toArray, List.set_cons_zero, List.set_cons_succ]
    refine wpAnyB_only (i := 9) (b := false) rfl (by kernel_rfl) (by kernel_rfl) (fun K hK => ?_)
    refine step_append_bytes (by rfl) (.tmp 37) (.tmp 44) 23 tyBytes (by rfl) (OwnB.nil _ (w1.heap.size + 1)) (PB.out.same (Same.refl w2).drew) (by rfl) (by rfl) (by have := HDl.out; simp; omega) (by have := HSz.out; simp; omega) ?_
    intro x3 w3 ho3 hg3
    have O3 := hid ho3
    have S3 := hid (((Same.refl w2).drew).grown_own (OwnB.nil _ w2.heap.size) (Nat.le_refl _) hg3)
    rw [List.nil_append] at O3
    obtain ⟨a3, q3, rfl, _, _⟩ := O3.out.bytes.form
    have BF3 := hid (BF.out.same S3.out)
    obtain ⟨y0, y1, y2, y3, y4, y5⟩ := BF3.out.cells
    have zz5 := BF3.out.free 5
    have k12n := (S3.out.cell (p := ⟨g, o + 12, none⟩) (World.block_lt_of_cell? w2 _ k12)).trans k12
    clear ho3 hg3
    refine hK.out _ _ ((HSS.out _ _).2 fun _ => ⟨k12n, y5⟩) (fun hHeld => ?_)
    clear hK K
    try simp only [Act.put, List.setIfInBounds_toArray, List.set_cons_zero, List.set_cons_succ]
    refine' wpAnyB_take (i := 10) (b := false) rfl (by kernel_rfl) (by kernel_rfl) (by kernel_rfl) (by decide) (by kernel_rfl) (fun _ _ _ h => h) (by assumption) (.inl ⟨by rfl, ?_⟩) ?_
    rotate_left
    · (intro wz hSw; go_simp; try with_reducible rfl)
    try simp only [Act.put, List.setIfInBounds_toArray, List.set_cons_zero, List.set_cons_succ]
    refine wpAnyB_only (i := 11) (b := true) rfl (by kernel_rfl) (by kernel_rfl) (fun K hK => ?_)
    go_simp
    refine hK.out _ _ ((HSS.out _ _).2 fun h => Bool.noConfusion h) (fun hHeld => ?_)
    clear hK K
    try simp only [Act.put, List.setIfInBounds_toArray, List.set_cons_zero, List.set_cons_succ]
    refine wpAnyB_done (by kernel_rfl) ?_ _
    -- region 4 done
    have hle1 := O3.out.lt
    have K4 := Keep.setCell1 (w := w3) w1.heap.size 5 (.slice a3 dat.length q3)
    have hO3 : ∀ k, Value.ownBlock (.slice a3 dat.length q3) = some k → k ≠ w1.heap.size := fun k hk => by have := (hle1 k hk).1; omega
    have O4 := hid (O3.out.keep K4 (fun k hk e => hO3 k hk e))
    have BF4 := hid (BF3.out.set5 (.slice a3 dat.length q3))
    have S23 := hid (S2.out.trans S3.out)
    have S4 := hid ((S1.out.trans S23.out).keepOwn K4 (fun k e => by subst e; exact S1.out.size))
    have B4 := hid ((B1.out.same S23.out).keep K4 (fun e => by have := HSz0.out; omega))
    have FV : FrV (w3.setCell ⟨w1.heap.size, 5, none⟩ (.slice a3 dat.length q3)) (.agg #[.int .i64 n0, .int .i64 n1, .int .i64 n2, .int .i64 p0, .int .i64 p1, .slice a3 dat.length q3]) F := by
      rw [HF.out]
      exact ⟨_, 5, rfl, O4.out.bytes⟩
    have HE := hid (rEncode _ _ F FV)
    have HFr := hid (show FrO (w3.setCell ⟨w1.heap.size, 5, none⟩ (.slice a3 dat.length q3)) (w1.heap.size + 1) (.agg #[.int .i64 n0, .int .i64 n1, .int .i64 n2, .int .i64 p0, .int .i64 p1, .slice a3 dat.length q3]) F from by
      rw [HF.out]
      exact ⟨_, rfl, O4.out⟩)
    clear y0 y1 y2 y3 y4 y5 zz5 k12n k12 c5 z5 s3 W2 W3 hle1 K4 hO3 FV
    obtain ⟨c0, c1, c2, c3, c4, c5⟩ := BF4.out.cells
    go_wp2_with fail
    refine HE.out.mono ?_
    rintro en w5 ⟨v5, rfl, O5, S5⟩
    obtain ⟨a5, q5, rfl, _, _⟩ := O5.bytes.form
    have B5 := hid (B4.out.same S5)
    have BF5 := hid (BF4.out.same S5)
    have S6 := hid (S4.out.trans S5)
    have HF5 := hid S5
    have R5 := hid O5.bytes
    clear S5 O5 c0 c1 c2 c3 c4 c5
    cases hr : F.right
    · have HN : Hid (decF b = Fr.zero ∧ decE b = 3) := decF_none (by rw [HD.out, if_neg (by rw [hr]; simp)])
      have e1 : encE F = 2 := by unfold encE; rw [hr]; rfl
      rw [e1]
      clear hr e1
      obtain ⟨c0, c1, c2, c3, c4, c5⟩ := B5.out.cells
      have z0 := B5.out.free 0
      have z1 := B5.out.free 1
      have z2 := B5.out.free 2
      have z3 := B5.out.free 3
      have z4 := B5.out.free 4
      have z5 := B5.out.free 5
      go_wp2_with fail
      obtain ⟨K2, B2⟩ := B5.out.set (.int .i64 0) (.int .i64 0) (.int .i64 0) (.int .i64 0) (.int .i64 0) (.slice none 0 0)
      obtain ⟨d0, d1, d2, d3, d4, d5⟩ := B2.cells
      rw [HN.out.1, HN.out.2]
      refine bodyPost_ret (v := .tuple #[Fr.agg Fr.zero (.slice none 0 0), .int .i64 3]) ?_ rfl ⟨_, rfl, ⟨_, rfl, OwnB.nil _ _⟩, S6.out.box K2 (Nat.le_refl _)⟩
      simp [results, Try.results49, go_sem, d0, d1, d2, d3, d4, d5]
      rfl
    · have e1 : encE F = 0 := by unfold encE; rw [hr]; rfl
      have e2 : encOf F = enc F := by unfold encOf; rw [hr]; rfl
      have HEl : Hid ((enc F).length = 96) := enc_length _ (partOk_iff.1 (Fr.right_iff.1 hr).2).2.2.2.2
      have HR := hid hr
      rw [e2] at R5
      rw [e1, e2, HEl.out]
      clear hr e1 e2 HE
      generalize hen : enc F = ef at *
      clear hen
      go_wp2_with fail
      go_loopg [7] 96 (fun gk i wr => ∃ k : Nat, k + gk = 96 ∧ i = .int .i64 k ∧ ef.take k = b.take k ∧ Same w5 wr)
      case atStart => exact ⟨0, by omega, rfl, rfl, Same.refl _⟩
      case round =>
        obtain ⟨k, hk, rfl, ht, Z⟩ := hrel
        have HT := hid ht
        have Z := hid Z
        have HK := hid hk
        have hk2 : k ≤ 96 := by omega
        have S7 := hid (S6.out.trans Z.out)
        have B7 := hid (B5.out.same Z.out)
        clear ht hk
        by_cases hlt : k < 96
        case neg =>
          obtain rfl : k = 96 := by omega
          have hq : ef = b := by
            have h5 := HT.out
            rwa [List.take_of_length_le (by rw [HEl.out]; omega), List.take_of_length_le (by rw [HL.out]; omega)] at h5
          have HN : Hid (decF b = F ∧ decE b = 0) := decF_some (by rw [HD.out, if_pos ⟨HR.out, hq⟩])
          clear hq
          obtain ⟨c0, c1, c2, c3, c4, c5⟩ := B7.out.cells
          have z0 := B7.out.free 0
          have z1 := B7.out.free 1
          have z2 := B7.out.free 2
          have z3 := B7.out.free 3
          have z4 := B7.out.free 4
          have z5 := B7.out.free 5
          obtain ⟨y0, y1, y2, y3, y4, y5⟩ := (BF5.out.same Z.out).cells
          go_wp2_with fail
          obtain ⟨K2, B2⟩ := B7.out.set (.int .i64 n0) (.int .i64 n1) (.int .i64 n2) (.int .i64 p0) (.int .i64 p1) (.slice a3 dat.length q3)
          obtain ⟨d0, d1, d2, d3, d4, d5⟩ := B2.cells
          rw [HN.out.1, HN.out.2]
          obtain ⟨vf, hx, hO⟩ := HFr.out
          refine bodyPost_ret (v := .tuple #[.agg #[.int .i64 n0, .int .i64 n1, .int .i64 n2, .int .i64 p0, .int .i64 p1, .slice a3 dat.length q3], .int .i64 0]) ?_ rfl ⟨_, rfl, ⟨vf, hx, ((hO.keep (HF5.out.trans Z.out) (fun _ _ x => x)).keep K2 (fun k hk e => by have := (hO.lt k hk).1; have := HSz0.out; omega)).mono (by have := HSz0.out; omega)⟩, S7.out.box K2 (Nat.le_refl _)⟩
          simp [results, Try.results49, go_sem, d0, d1, d2, d3, d4, d5]
        obtain ⟨g5, o5, rfl, hc1⟩ := (R5.out.same Z.out).cells (by rw [HEl.out]; omega)
        obtain ⟨g6, o6, hgo, hc2⟩ := (HB0.out.same S7.out).cells2 HL.out (by omega)
        obtain ⟨rfl, rfl⟩ : g = g6 ∧ o = o6 := by simp only [Option.some.injEq, Addr.mk.injEq] at hgo; exact ⟨hgo.1, hgo.2.1⟩
        have hke : k < ef.length := by rw [HEl.out]; exact hlt
        have hkb : k < b.length := by rw [HL.out]; exact hlt
        have k1 := hc1 k hke
        have k2 := hc2 k hkb
        have HX := hid (HEn.out ef HEl.out k hlt hke hkb HT.out)
        have HY := hid (HNe.out ef k hke hkb)
        clear hc1 hc2 hgo HT
        generalize ef[k].toNat = u at *
        generalize b[k].toNat = v at *
        by_cases hne : u = v
        · have hq : ((u : Int) != (v : Int)) = false := by simp [hne]
          have HU := hid (HX.out hne)
          clear hne HX HY hke hkb
          go_wp2_with fail
          go_quiet (fail)
          go_wp2_with fail
          go_roundg (96 - (k + 1))
          case measure => have := HK.out; omega
          case rel => exact ⟨k + 1, by omega, by go_num, HU.out, Z.out.drewN _⟩
        · have hq : ((u : Int) != (v : Int)) = true := by simp; omega
          have hz := HY.out hne
          have HN : Hid (decF b = Fr.zero ∧ decE b = 3) := decF_none (by rw [HD.out, if_neg (fun x => hz x.2)])
          clear hne HX HY hke hkb hz
          go_wp2_with fail
          go_quiet (fail)
          have HBs := hid (fun n => (B7.out.same (w' := wr.drewN n) ((Same.refl _).drewN n)).set (.int .i64 0) (.int .i64 0) (.int .i64 0) (.int .i64 0) (.int .i64 0) (.slice none 0 0))
          obtain ⟨c0, c1, c2, c3, c4, c5⟩ := B7.out.cells
          have z0 := B7.out.free 0
          have z1 := B7.out.free 1
          have z2 := B7.out.free 2
          have z3 := B7.out.free 3
          have z4 := B7.out.free 4
          have z5 := B7.out.free 5
          go_wp2_with fail
          rw [HN.out.1, HN.out.2]
          refine bodyPost_ret (v := .tuple #[Fr.agg Fr.zero (.slice none 0 0), .int .i64 3]) ?_ rfl ⟨_, rfl, ⟨_, rfl, OwnB.nil _ _⟩, (S7.out.drewN _).box (HBs.out _).1 (Nat.le_refl _)⟩
          have d0 := fun n => (HBs.out n).2.cells.1
          have d1 := fun n => (HBs.out n).2.cells.2.1
          have d2 := fun n => (HBs.out n).2.cells.2.2.1
          have d3 := fun n => (HBs.out n).2.cells.2.2.2.1
          have d4 := fun n => (HBs.out n).2.cells.2.2.2.2.1
          have d5 := fun n => (HBs.out n).2.cells.2.2.2.2.2
          simp [results, Try.results49, go_sem, d0, d1, d2, d3, d4, d5]
          rfl
end Go.Proofs.Ytlhnpicmjjddeaa
namespace Go.Proofs.Ytlhnpicmjjddeaa
open Go.RowKit

/-- the reference's Decode -/
theorem rDecode (w : World) (e : TypeId) (v : Value) (b : List UInt8) (hb : Bytes w e v b) : Calls Try.prog 49 #[v] w (RetDec (decF b) (decE b) w) := by
  by_cases h1 : b.length = 96
  · by_cases h2 : (b.getD 12 0).toNat ≤ 80
    · exact rDecodeLate w e v b hb h1 h2
    · exact rDecodeEarly w e v b hb (.inr ⟨h1, by omega⟩)
  · exact rDecodeEarly w e v b hb (.inl h1)
set_option maxHeartbeats 6400000 in
set_option maxRecDepth 100000 in
theorem frameEncodesWalk (w : World) (x v : Value) (e : TypeId) (f : Fr) (b : List UInt8) (hx : FrV w x f) (hb : Bytes w e v b) :
    Calls Try.prog 10 #[x, v] w (RetSame (.bool true) w) := by
  have HLv := hid fLives
  have HSh := hid (fun w' (S : Same w w') => fShort w' x f (hx.same S))
  have HCt := hid (fun w' => show Calls Try.prog 22 #[v, .int .i64 100] w' _ from r01Cut0 w w' e v b 100 hb)
  have HEn := hid fEncode
  have HRn := hid rEncode
  have HDe := hid fDecode
  have HRd := hid rDecode
  have HPl := hid fPlain
  have HSe := hid refSameEq
  have HSB := hid r01SameS
  obtain ⟨xv, xe, rfl, xb⟩ := hx
  obtain ⟨xa, xc, rfl, _, _⟩ := xb.form
  obtain ⟨av, cv, rfl, _, _⟩ := hb.form
  clear xb hb
  unfold Fr.agg at HSh ⊢
  go_enter Try.func10, Try.ntmps10
  go_wp2_with fail
  refine (HSh.out _ ((Same.refl w).alloc _)).mono ?_
  rintro en w1 ⟨x1, rfl, F1, S1⟩
  have S1 := hid (((Same.refl w).alloc (.cells #[.int .i64 f.life, .int .i64 f.era, .int .i64 f.seq, .int .i64 f.part, .int .i64 f.parts, .slice xa f.data.length xc] 59)).trans S1)
  generalize f.cut90 = g at *
  obtain ⟨gv, ge, rfl, gb⟩ := F1
  obtain ⟨ga, gc, rfl, _, _⟩ := gb.form
  have GB := hid gb
  clear gb
  unfold Fr.agg
  go_wp2_with fail
  refine (HCt.out _).mono ?_
  rintro en w1' ⟨v1, rfl, B1, rfl⟩
  have hle : Hid ((b.take 100).length ≤ 100) := by show _ ≤ _; rw [List.length_take]; omega
  have B1 := hid B1
  generalize b.take 100 = b at *
  obtain ⟨a1, c1, rfl, _, _⟩ := B1.out.form
  go_wp2_with fail
  have S2 := hid (S1.out.alloc (.cells #[.int .i64 g.life, .int .i64 g.era, .int .i64 g.seq, .int .i64 g.part, .int .i64 g.parts, .slice ga g.data.length gc] 60))
  have BX := hid (Box6.new w1 (.int .i64 g.life) (.int .i64 g.era) (.int .i64 g.seq) (.int .i64 g.part) (.int .i64 g.parts) (.slice ga g.data.length gc))
  have GV : FrV (w1.alloc (.cells #[.int .i64 g.life, .int .i64 g.era, .int .i64 g.seq, .int .i64 g.part, .int .i64 g.parts, .slice ga g.data.length gc] 60)) (.agg #[.int .i64 g.life, .int .i64 g.era, .int .i64 g.seq, .int .i64 g.part, .int .i64 g.parts, .slice ga g.data.length gc]) g := ⟨_, ge, rfl, GB.out.same ((Same.refl _).alloc _)⟩
  have GV := hid GV
  refine (HEn.out _ _ g GV.out).mono ?_
  rintro en w3 ⟨v3, rfl, O3, S3⟩
  have BX3 := hid (BX.out.same S3)
  have GV3 := hid (GV.out.same S3)
  have S3 := hid (S2.out.trans S3)
  obtain ⟨a3, c3, rfl, _, _⟩ := O3.bytes.form
  have R3 := hid O3.bytes
  obtain ⟨c0, c1', c2, c3', c4, c5⟩ := BX3.out.cells
  clear GV BX O3
  go_wp2_with fail
  refine (HPl.out _ _ _ GV3.out).mono ?_
  rintro en w4 ⟨rfl, S4⟩
  have GV4 := hid (GV3.out.same S4)
  have R4 := hid (R3.out.same S4)
  have S4 := hid (S3.out.trans S4)
  clear c0 c1' c2 c3' c4 c5 BX3 GV3
  go_wp2_with fail
  refine (HRn.out _ _ _ GV4.out).mono ?_
  rintro en w5 ⟨v5, rfl, O5, S5⟩
  obtain ⟨a5, c5, rfl, _, _⟩ := O5.bytes.form
  have Q5 := hid O5.bytes
  have R5 := hid (R4.out.same S5)
  have S5 := hid (S4.out.trans S5)
  clear O5 GV4 R4 R3
  generalize encE g = ce at *
  generalize encOf g = el at *
  have HDb := hid (HDe.out w5 e _ b (B1.out.same S5.out) (by have := hle.out; omega))
  have HRb := hid (fun wz (S : Same w wz) => HRd.out wz e _ b (B1.out.same S))
  clear HDe HRd HEn HRn
  generalize decF b = d at *
  generalize decE b = de at *
  go_wp2_with fail
  refine HDb.out.mono ?_
  rintro en w6 ⟨x6, rfl, ⟨v6, rfl, O6⟩, S6⟩
  obtain ⟨a6, c6, rfl, _, _⟩ := O6.bytes.form
  have Q6 := hid O6.bytes
  have R6 := hid (R5.out.same S6)
  have P6 := hid (Q5.out.same S6)
  have S6 := hid (S5.out.trans S6)
  clear O6 R5 Q5 HDb
  unfold Fr.agg
  have BY := hid (Box6.new w6 (.int .i64 d.life) (.int .i64 d.era) (.int .i64 d.seq) (.int .i64 d.part) (.int .i64 d.parts) (.slice a6 d.data.length c6))
  have S67 := hid ((Same.refl w6).alloc (.cells #[.int .i64 d.life, .int .i64 d.era, .int .i64 d.seq, .int .i64 d.part, .int .i64 d.parts, .slice a6 d.data.length c6] 60))
  go_wp2_with fail
  refine (HRb.out _ (S6.out.trans S67.out)).mono ?_
  rintro en w8 ⟨x8, rfl, ⟨v8, rfl, O8⟩, S8⟩
  obtain ⟨a8, c8, rfl, _, _⟩ := O8.bytes.form
  have Q8 := hid O8.bytes
  have S8 := hid S8
  clear O8 HRb
  unfold Fr.agg
  have BZ := hid (BoxR.new w8 (.int .i64 d.life) (.int .i64 d.era) (.int .i64 d.seq) (.int .i64 d.part) (.int .i64 d.parts) (.slice a8 d.data.length c8))
  have S89 := hid ((Same.refl w8).alloc (.cells #[.int .i64 d.life, .int .i64 d.era, .int .i64 d.seq, .int .i64 d.part, .int .i64 d.parts, .slice a8 d.data.length c8] 59))
  go_wp2_with fail
  generalize w8.alloc (.cells #[.int .i64 d.life, .int .i64 d.era, .int .i64 d.seq, .int .i64 d.part, .int .i64 d.parts, .slice a8 d.data.length c8] 59) = w9 at *
  have S9 := hid (((S6.out.trans S67.out).trans S8.out).trans S89.out)
  have S69 := hid ((S67.out.trans S8.out).trans S89.out)
  have BY9 := hid ((BY.out.same S8.out).same S89.out)
  have V1 := hid (show FrV w9 (.agg #[.int .i64 d.life, .int .i64 d.era, .int .i64 d.seq, .int .i64 d.part, .int .i64 d.parts, .slice a6 d.data.length c6]) d from ⟨_, 5, rfl, Q6.out.same S69.out⟩)
  have V2 := hid (show FrV w9 (.agg #[.int .i64 d.life, .int .i64 d.era, .int .i64 d.seq, .int .i64 d.part, .int .i64 d.parts, .slice a8 d.data.length c8]) d from ⟨_, 5, rfl, Q8.out.same S89.out⟩)
  have q1 : Hid (decide (el = el) = true) := decide_eq_true rfl
  have A1 := hid (fun x : After w9 => Calls.after (HSB.out x.to 5 5 _ _ _ _ ((R6.out.same S69.out).same x.same) ((P6.out.same S69.out).same x.same)))
  rw [q1.out] at A1
  have A2 := hid (fun x : After w9 => Calls.after (HPl.out x.to _ _ (V1.out.same x.same)))
  have A3 := hid (fun x : After w9 => Calls.after (HSe.out x.to _ _ _ (V1.out.same x.same) (V2.out.same x.same)))
  have A4 := hid (fun x : After w9 => Calls.after (HLv.out x.to))
  obtain ⟨c0, c1', c2, c3', c4, c5'⟩ := BY9.out.cells
  obtain ⟨d0, d1, d2, d3, d4, d5⟩ := BZ.out.cells
  have xc0 := fun x => After.cell c0 x
  have xc1 := fun x => After.cell c1' x
  have xc2 := fun x => After.cell c2 x
  have xc3 := fun x => After.cell c3' x
  have xc4 := fun x => After.cell c4 x
  have xc5 := fun x => After.cell c5' x
  have xd0 := fun x => After.cell d0 x
  have xd1 := fun x => After.cell d1 x
  have xd2 := fun x => After.cell d2 x
  have xd3 := fun x => After.cell d3 x
  have xd4 := fun x => After.cell d4 x
  have xd5 := fun x => After.cell d5 x
  clear c0 c1' c2 c3' c4 c5' d0 d1 d2 d3 d4 d5
  refine wp_region_after (by kernel_rfl) (by kernel_rfl) ?_
  repeat (go_big_quiet_step (first
    | (go_at_call 29; with_reducible exact A1.out _)
    | (go_at_call 47; with_reducible exact A2.out _)
    | (go_at_call 50; with_reducible exact A3.out _)
    | (go_at_call 51; with_reducible exact A4.out _)))
  refine wpQuiet_nil ?_
  intro _ hw'
  obtain ⟨x5, hw''⟩ := hw'
  subst hw''
  have S10 := hid (S9.out.trans x5.same)
  go_wp2_with fail
  go_ret
  exact ⟨rfl, S10.out⟩
end Go.Proofs.Ytlhnpicmjjddeaa
namespace Go.Proofs.Ytlhnpicmjjddeaa

/-- the frames of n sectors from 'at_' on -/
def Dv.frs (D : Dv) (at_ : Int) (n : Nat) : List Fr := (List.range n).map fun (i : Nat) => decF (D.sector (at_ + (i : Int)))
theorem Dv.frs_length (D : Dv) (at_ : Int) (n : Nat) : (D.frs at_ n).length = n := by simp [Dv.frs]
theorem Dv.frs_at (D : Dv) (at_ : Int) (n i : Nat) (h : i < n) : (D.frs at_ n)[i]? = some (decF (D.sector (at_ + i))) := by simp [Dv.frs, h]
theorem Dv.frs_succ (D : Dv) (at_ : Int) (n : Nat) : D.frs at_ (n + 1) = D.frs at_ n ++ [decF (D.sector (at_ + n))] := by
  unfold Dv.frs; rw [List.range_succ, List.map_append]; rfl
/-- whether a record stands in a place, of this kind -/
def Dv.holds (D : Dv) (at_ : Int) (each : Int) (odd : Int) : Bool :=
  decide ((decF (D.sector at_)).parts ≤ each) && (joinsB (D.frs at_ (decF (D.sector at_)).parts.toNat) && (decide ((decF (D.sector at_)).seq = 1) && decide ((decF (D.sector at_)).era % 2 = odd)))
/-- what stands in a place: an era (0: nothing), and bytes -/
def Dv.place (D : Dv) (at_ each odd : Int) : Int × List UInt8 :=
  if D.holds at_ each odd then ((decF (D.sector at_)).era, joined (D.frs at_ (decF (D.sector at_)).parts.toNat)) else (0, [])
theorem decE_zero {b : List UInt8} : decE b = 0 ↔ (decF b).right = true := by
  unfold decE decF
  cases h : dec b with
  | none => simp [Fr.zero, Fr.right, stampOk]
  | some f =>
    have := (dec_some.1 h).1
    simp [this]
theorem decE_three {b : List UInt8} (h : ¬ decE b = 0) : decE b = 3 := by
  unfold decE at *
  split at h
  · exact absurd rfl h
  · rename_i h2; rw [if_neg h2]
theorem right_parts {f : Fr} (h : f.right = true) : 1 ≤ f.parts ∧ f.parts ≤ 255 ∧ f.data.length ≤ 80 := by
  obtain ⟨q1, q2, q3, q4, q5⟩ := partOk_iff.1 (Fr.right_iff.1 h).2
  exact ⟨q1, q2, q5⟩
/-- what the frames that are read hold: n of them, all right, none of more than 'most' parts; and if n sectors are frames of n parts, there are n -/
def Read (D : Dv) (at_ most : Int) (n : Nat) : Prop :=
  (∀ i : Nat, i < n → (decF (D.sector (at_ + i))).right = true ∧ (decF (D.sector (at_ + i))).parts ≤ most) ∧
  ∀ m : Nat, 1 ≤ m → (m : Int) ≤ most → (∀ i : Nat, i < m → (decF (D.sector (at_ + i))).right = true ∧ (decF (D.sector (at_ + i))).parts = m) → n = m
theorem joins_frs {D : Dv} {at_ : Int} {n : Nat} (h : joinsB (D.frs at_ n) = true) : 1 ≤ n ∧ (decF (D.sector at_)).parts = n ∧ ∀ i : Nat, i < n → (decF (D.sector (at_ + i))).right = true ∧ (decF (D.sector (at_ + i))).parts = n := by
  obtain ⟨f, hf, hl, ha⟩ := joinsB_iff.1 h
  rw [D.frs_length] at hl
  have hn : 1 ≤ n := by
    rcases Nat.eq_zero_or_pos n with h0 | h0
    · subst h0; simp [Dv.frs] at hf
    · exact h0
  have h0 := D.frs_at at_ n 0 hn
  rw [hf] at h0
  have e0 : f = decF (D.sector at_) := by
    have := Option.some.inj h0
    rw [this]
    congr 2
    simp
  subst e0
  refine ⟨hn, hl.symm, fun i hi => ?_⟩
  have := Fr.fits_iff.1 (ha i _ (D.frs_at at_ n i hi))
  exact ⟨this.2.2.1, this.1.2.2.2.trans hl.symm⟩
/-- the place, told by the frames that were read -/
theorem place_of_read {D : Dv} {at_ most odd : Int} {n : Nat} (hr : Read D at_ most n) :
    D.place at_ most odd = if joinsB (D.frs at_ n) && (decide ((decF (D.sector at_)).seq = 1) && decide ((decF (D.sector at_)).era % 2 = odd)) then ((decF (D.sector at_)).era, joined (D.frs at_ n)) else (0, []) := by
  unfold Dv.place Dv.holds
  by_cases h : joinsB (D.frs at_ n) = true
  · obtain ⟨h1, h2, h3⟩ := joins_frs h
    have hm : (decF (D.sector at_)).parts ≤ most := by
      have := (hr.1 0 (by omega)).2
      simpa using this
    rw [h2, Int.toNat_natCast, h]
    rw [h2] at hm
    rw [decide_eq_true hm, Bool.true_and]
  · have h' : joinsB (D.frs at_ n) = false := by simpa using h
    rw [h', Bool.false_and]
    have hneg : ¬ (decide ((decF (D.sector at_)).parts ≤ most) && (joinsB (D.frs at_ (decF (D.sector at_)).parts.toNat) && (decide ((decF (D.sector at_)).seq = 1) && decide ((decF (D.sector at_)).era % 2 = odd)))) = true := by
     intro hh
     simp only [Bool.and_eq_true, decide_eq_true_eq] at hh
     obtain ⟨q1, q2, _⟩ := hh
     obtain ⟨r1, r2, r3⟩ := joins_frs q2
     have := hr.2 _ r1 (by rw [← r2]; exact q1) r3
     rw [this] at h
     exact h q2
    rw [if_neg hneg, if_neg (by simp)]
/-- Load -/
def Dv.loadE (D : Dv) (at_ each : Int) : Int :=
  if at_ < 0 ∨ each < 1 ∨ (D.C.length : Int) < each ∨ (D.C.length : Int) - 2 * each < at_ then 2 else 0
def Dv.load (D : Dv) (at_ each : Int) : Int × List UInt8 :=
  if (D.place at_ each 0).1 < (D.place (at_ + each) each 1).1 then D.place (at_ + each) each 1 else D.place at_ each 0
end Go.Proofs.Ytlhnpicmjjddeaa
namespace Go.Proofs.Ytlhnpicmjjddeaa
open Go.RowKit

def Good (D : Dv) (at_ most : Int) (m : Nat) : Prop := 1 ≤ m ∧ (m : Int) ≤ most ∧ ∀ i : Nat, i < m → (decF (D.sector (at_ + i))).right = true ∧ (decF (D.sector (at_ + i))).parts = m
/-- k frames are read; the last one says that there are P -/
def Rd (D : Dv) (at_ most : Int) (k : Nat) (P : Int) : Prop :=
  (∀ i : Nat, i < k → (decF (D.sector (at_ + i))).right = true ∧ (decF (D.sector (at_ + i))).parts ≤ most) ∧ (k : Int) ≤ P ∧ P ≤ 255 ∧
  ((k = 0 ∧ P = 1) ∨ (1 ≤ k ∧ P = (decF (D.sector (at_ + ((k - 1 : Nat) : Int)))).parts)) ∧ ∀ m, Good D at_ most m → k ≤ m
theorem Rd.zero (D : Dv) (at_ most : Int) : Rd D at_ most 0 1 := ⟨fun i hi => absurd hi (Nat.not_lt_zero i), by omega, by omega, .inl ⟨rfl, rfl⟩, fun m _ => Nat.zero_le m⟩
theorem Rd.lt {D : Dv} {at_ most : Int} {k : Nat} {P : Int} (h : Rd D at_ most k P) (hk : (k : Int) < P) {m : Nat} (g : Good D at_ most m) : k < m := by
  obtain ⟨h1, h2, h3, h4, h5⟩ := h
  have hm := h5 m g
  rcases Nat.lt_or_ge k m with h | h
  · exact h
  · exfalso
    obtain rfl : k = m := by omega
    have g1 := g.1
    rcases h4 with ⟨h4, _⟩ | ⟨h4, h6⟩
    · omega
    · have := (g.2.2 (k - 1) (by omega)).2
      omega
theorem read_zero {D : Dv} {at_ most : Int} (h : ∀ m, ¬ Good D at_ most m) : Read D at_ most 0 :=
  ⟨fun i hi => absurd hi (Nat.not_lt_zero i), fun m h1 h2 h3 => absurd ⟨h1, h2, h3⟩ (h m)⟩
theorem Rd.fail {D : Dv} {at_ most : Int} {k : Nat} {P : Int} (h : Rd D at_ most k P) (hk : (k : Int) < P) (hf : ¬ ((decF (D.sector (at_ + k))).right = true ∧ (decF (D.sector (at_ + k))).parts ≤ most)) : Read D at_ most 0 :=
  read_zero fun m g => hf (by
    have := g.2.2 k (h.lt hk g)
    exact ⟨this.1, by rw [this.2]; exact g.2.1⟩)
theorem Rd.short {D : Dv} {at_ most : Int} {k : Nat} {P : Int} (h : Rd D at_ most k P) (hk : (k : Int) < P) (hf : (decF (D.sector (at_ + k))).parts < (k : Int) + 1) : Read D at_ most 0 :=
  read_zero fun m g => by
    have h1 := h.lt hk g
    have := (g.2.2 k h1).2
    omega
theorem Rd.next {D : Dv} {at_ most : Int} {k : Nat} {P : Int} (h : Rd D at_ most k P) (hk : (k : Int) < P) (hr : (decF (D.sector (at_ + k))).right = true) (hm : (decF (D.sector (at_ + k))).parts ≤ most) (hf : ¬ (decF (D.sector (at_ + k))).parts < (k : Int) + 1) :
    Rd D at_ most (k + 1) (decF (D.sector (at_ + k))).parts := by
  refine ⟨fun i hi => ?_, by omega, (right_parts hr).2.1, .inr ⟨by omega, by rw [show k + 1 - 1 = k from by omega]⟩, fun m g => h.lt hk g⟩
  rcases Nat.lt_or_ge i k with h1 | h1
  · exact h.1 i h1
  · obtain rfl : i = k := by omega
    exact ⟨hr, hm⟩
theorem Rd.done {D : Dv} {at_ most : Int} {k : Nat} {P : Int} (h : Rd D at_ most k P) (hk : ¬ (k : Int) < P) : Read D at_ most k := by
  obtain ⟨h1, h2, h3, h4, h5⟩ := h
  refine ⟨h1, fun m g1 g2 g3 => ?_⟩
  have hm := h5 m ⟨g1, g2, g3⟩
  rcases h4 with ⟨rfl, h4⟩ | ⟨h4, h6⟩
  · omega
  · have := (g3 (k - 1) (by omega)).2
    omega

/-- append of one frame, as a step of a region that draws its order -/
theorem step_append_frame {P : Program} {w : World} {ops : Array Oper} {o : Oper} {a : Act} {K : Act → World → Prop} {Q : Exit → Act → World → Prop} {E : Prop} (hgd : o.guard = none) (s x : Operand)
    (t : TypeId) (T : RowTy P t 60 6 64 (.agg #[.int .i64 0, .int .i64 0, .int .i64 0, .int .i64 0, .int .i64 0, .slice none 0 0])) (ho : o.op = .call { callee := .builtin .append, args := #[s, x], argTypes := #[t, t] })
    {base : Nat} {v : Value} {L : List Fr} (hown : OwnF w base v L) {f : Fr} {u : Value} {e' : TypeId} {y : Value} (hy : Sl w e' 6 y 1 (FV.cells (f, u))) (hu : Bytes w 5 u f.data) (hs : a.eval s = v) (hx : a.eval x = y)
    (hb : L.length ≤ 1000000) (hbase : base ≤ w.heap.size)
    (h : ∀ v' w', OwnF w' base v' (L ++ [f]) → Keep (fun k => v.ownBlock = some k) w w' → K (a.put o.dst v') w') :
    if Region.wanted o (yielded ops a.tmps) = true then Oper.wp P o a w K Q else E := by
  have hw : Region.wanted o (yielded ops a.tmps) = true := by simp [Region.wanted, hgd]
  rw [if_pos hw]
  obtain ⟨P0, h1, h2, h3⟩ := id hown
  have hone : ∀ z ∈ FV.cells (f, u), z.oneCell' = true := by
    intro z hz
    simp [FV.cells] at hz
    rcases hz with rfl | rfl | rfl | rfl | rfl | rfl
    · rfl
    · rfl
    · rfl
    · rfl
    · rfl
    · exact hu.one
  obtain ⟨v', w', hr, q1, q2⟩ := run_append_sl (P := P) w T o.type h2 hy hone (by unfold maxLen; omega) (by omega) hbase
  have K' : Keep (fun k => v.ownBlock = some k) w w' := (Keep.refl _ w).grown q2 fun k e => .inl e
  have keepB : ∀ {u0 : Value} {l0 : List UInt8}, Bytes w 5 u0 l0 → Bytes w' 5 u0 l0 := fun {u0 l0} hb => hb.keep K' fun g hg hm => by
    obtain ⟨c1, f1, e1⟩ := bytes_block hb hg
    obtain ⟨c2, e2⟩ := owns_block h2 hm
    rw [e1] at e2
    simp at e2
  have hfin := h v' w' ⟨P0 ++ [(f, u)], by simp [h1], by rw [List.length_append, List.flatMap_append]; simpa using q1, fun p hp => by
    rcases List.mem_append.1 hp with hp | hp
    · exact keepB (h3 p hp)
    · simp at hp
      subst hp
      exact keepB hu⟩ K'
  unfold Oper.wp execOp
  simp only [ho, resolve, invoke, builtin, Sem.run_bind, Sem.run_pure, Result.andThen_ok, List.map_toArray, List.map_cons, List.map_nil, hs, hx, hr]
  exact hfin

def RetFrames (D : Dv) (at_ most : Int) (w : World) (en : Ending) (w' : World) : Prop := ∃ v n, en = .returned v ∧ OwnF w' w.heap.size v (D.frs at_ n) ∧ Same w w' ∧ Read D at_ most n ∧ n ≤ 255
set_option maxHeartbeats 6400000 in
set_option maxRecDepth 100000 in
theorem sFrames (w : World) (p : Value) (F : Nat → Prop) (D : Dv) (at_ most : Int) (hD : IsDv w p F D) (ha : 0 ≤ at_ ∧ at_ ≤ 10000) : Calls Try.prog 120 #[p, .int .i64 at_, .int .i64 most] w (RetFrames D at_ most w) := by
  have HD := hid hD
  have HRd := hid (fun w' (S : Same w w') (i : Int) => dReadD w' p F D i (hD.same S))
  have HDe := hid fDecode
  have h96 : Hid (∀ i : Int, (D.sector i).length ≤ 900000) := by
    intro i
    unfold Dv.sector
    split
    · rw [List.getD_eq_getElem?_getD]
      cases h : D.C[i.toNat]? with
      | none => simp
      | some c =>
        have := hD.ok.2.2.1 c (List.mem_of_getElem? h)
        simp
        omega
    · simp
  obtain ⟨b, hp⟩ : ∃ b, p = .pointer (some ⟨b, 0, none⟩) := by obtain ⟨b, _, _, _, e, _⟩ := hD; exact ⟨b, e⟩
  subst hp
  clear hD
  go_enter Try.func120, Try.ntmps120
  go_wp2_with fail
  go_loopw [7, 8] (fun l q wr => ∃ (k : Nat) (P : Int), q = .int .i64 P ∧ OwnF wr w.heap.size l (D.frs at_ k) ∧ Same w wr ∧ Rd D at_ most k P) (fun l _ _ => match l with | .slice _ n _ => 300 - n | _ => 0)
  case atStart => exact ⟨0, 1, rfl, OwnF.nil _ _, Same.refl _, Rd.zero _ _ _⟩
  case round =>
    obtain ⟨k, P, rfl, hO, S, hR⟩ := hrel
    have HS := hid S
    have HR := hid hR
    have hb255 : (k : Int) ≤ P ∧ P ≤ 255 := ⟨hR.2.1, hR.2.2.1⟩
    have hfl : (D.frs at_ k).length = k := D.frs_length at_ k
    obtain ⟨al, cl, rfl, _, _⟩ := hO.frs.form
    rw [hfl] at hO ⊢
    have HO := hid hO
    clear hO S hR
    by_cases hlt : (k : Int) < P
    · have HRk := hid (HRd.out _ HS.out (at_ + k))
      have HDk := hid (fun wz ez vz (hz : Bytes wz ez vz (D.sector (at_ + k))) => HDe.out wz ez vz _ hz (h96.out _))
      have HFail := hid (HR.out.fail hlt)
      have HShort := hid (HR.out.short hlt)
      have HNext := hid (HR.out.next hlt)
      have HSuc := hid (D.frs_succ at_ k)
      have HE0 := hid (@decE_zero (D.sector (at_ + k)))
      have HE3 := hid (@decE_three (D.sector (at_ + k)))
      generalize D.sector (at_ + k) = sec at *
      generalize D.readE (at_ + k) = re at *
      generalize decE sec = de at *
      generalize decF sec = f at *
      go_wp2_with fail
      refine HRk.out.mono ?_
      rintro en w1 ⟨v1, e1, rfl, B1, S1, _⟩
      go_wp2_with fail
      refine (HDk.out _ _ _ B1).mono ?_
      rintro en w2 ⟨x2, rfl, F2, S2⟩
      obtain ⟨u2, rfl, O2⟩ := F2
      obtain ⟨a2, c2, rfl, _, _⟩ := O2.bytes.form
      have O2 := hid O2
      have S3 := hid ((HS.out.trans S1).trans S2)
      have HO3 := hid (HO.out.same (S1.trans S2))
      unfold Fr.agg
      clear S1 S2 B1
      have hnil : Hid (∀ wz, Same w wz → Read D at_ most 0 → ∃ v n, (.returned (.slice none 0 0) : Ending) = .returned v ∧ OwnF wz w.heap.size v (D.frs at_ n) ∧ Same w wz ∧ Read D at_ most n ∧ n ≤ 255) :=
        fun wz S R => ⟨_, 0, rfl, OwnF.nil _ _, S, R, by omega⟩
      by_cases hde : de = 0
      · have hr : f.right = true := HE0.out.1 hde
        subst hde
        by_cases hm : f.parts ≤ most
        · have hmd : decide (most < f.parts) = false := by simp; omega
          have Hr := hid hr
          have Hm := hid hm
          have S4 := hid (S3.out.alloc (.cells #[.int .i64 f.life, .int .i64 f.era, .int .i64 f.seq, .int .i64 f.part, .int .i64 f.parts, .slice a2 f.data.length c2] 60))
          have BX := hid (Box6.new w2 (.int .i64 f.life) (.int .i64 f.era) (.int .i64 f.seq) (.int .i64 f.part) (.int .i64 f.parts) (.slice a2 f.data.length c2))
          have HOne := hid (one_frame (w2.alloc (.cells #[.int .i64 f.life, .int .i64 f.era, .int .i64 f.seq, .int .i64 f.part, .int .i64 f.parts, .slice a2 f.data.length c2] 60)).drew f (.slice a2 f.data.length c2))
          have HOB := hid (HO3.out.same ((((Same.refl w2).alloc (.cells #[.int .i64 f.life, .int .i64 f.era, .int .i64 f.seq, .int .i64 f.part, .int .i64 f.parts, .slice a2 f.data.length c2] 60)).drew).alloc (.cells #[.int .i64 f.life, .int .i64 f.era, .int .i64 f.seq, .int .i64 f.part, .int .i64 f.parts, .slice a2 f.data.length c2] 60)))
          have HBB := hid (O2.out.bytes.same ((((Same.refl w2).alloc (.cells #[.int .i64 f.life, .int .i64 f.era, .int .i64 f.seq, .int .i64 f.part, .int .i64 f.parts, .slice a2 f.data.length c2] 60)).drew).alloc (.cells #[.int .i64 f.life, .int .i64 f.era, .int .i64 f.seq, .int .i64 f.part, .int .i64 f.parts, .slice a2 f.data.length c2] 60)))
          have S6 := hid ((S4.out.drew).alloc (.cells #[.int .i64 f.life, .int .i64 f.era, .int .i64 f.seq, .int .i64 f.part, .int .i64 f.parts, .slice a2 f.data.length c2] 60))
          have hs2 : (w2.alloc (.cells #[.int .i64 f.life, .int .i64 f.era, .int .i64 f.seq, .int .i64 f.part, .int .i64 f.parts, .slice a2 f.data.length c2] 60)).drew.heap.size = w2.heap.size + 1 := by simp
          rw [hs2] at HOne
          clear hr hm hs2
          go_wp2_with fail
          obtain ⟨c0, c1, c2', c3, c4, c5⟩ := BX.out.cells
          go_region_held3 (fun w' => w'.cell? ⟨w2.heap.size, 0, none⟩ = some (.int .i64 f.life) ∧ w'.cell? ⟨w2.heap.size, 1, none⟩ = some (.int .i64 f.era) ∧ w'.cell? ⟨w2.heap.size, 2, none⟩ = some (.int .i64 f.seq) ∧ w'.cell? ⟨w2.heap.size, 3, none⟩ = some (.int .i64 f.part) ∧ w'.cell? ⟨w2.heap.size, 4, none⟩ = some (.int .i64 f.parts) ∧ w'.cell? ⟨w2.heap.size, 5, none⟩ = some (.slice a2 f.data.length c2)) (first | go_keep | exact ⟨by assumption, by assumption, by assumption, by assumption, by assumption, by assumption⟩)
            ((refine step_append_frame (by rfl) (.tmp 39) (.tmp 41) 77 tyFrames (by rfl) HOB.out HOne.out HBB.out (by rfl) (by rfl) (by rw [D.frs_length]; omega) S6.out.size ?_; intro x5 w5 ho5 K5; have S7 := S6.out.keepOwn K5 (fun j hj => (HOB.out.lt j hj).1)
              have K5' : ∀ o, w5.cell? ⟨w2.heap.size, o, none⟩ = (w2.alloc (.cells #[.int .i64 f.life, .int .i64 f.era, .int .i64 f.seq, .int .i64 f.part, .int .i64 f.parts, .slice a2 f.data.length c2] 60)).cell? ⟨w2.heap.size, o, none⟩ := fun o => (cell_keep K5 (by simp; omega) (fun hm => by have := (HO3.out.lt _ hm).2; omega)).trans (((Same.refl (w2.alloc (.cells #[.int .i64 f.life, .int .i64 f.era, .int .i64 f.seq, .int .i64 f.part, .int .i64 f.parts, .slice a2 f.data.length c2] 60))).drew.alloc (.cells #[.int .i64 f.life, .int .i64 f.era, .int .i64 f.seq, .int .i64 f.part, .int .i64 f.parts, .slice a2 f.data.length c2] 60)).cell (p := ⟨w2.heap.size, o, none⟩) (by simp))
              obtain ⟨c0, c1, c2', c3, c4, c5⟩ := BX.out.cells
              rw [← K5'] at c0 c1 c2' c3 c4 c5))
          have S7 := hid S7
          rw [← HSuc.out] at ho5
          have HO5 := hid ho5
          clear ho5 K5 K5' c0 c1 c2' c3 c4 c5 HOne HOB HBB
          obtain ⟨a5, q5, rfl, _, _⟩ := HO5.out.frs.form
          have hfl5 : (D.frs at_ (k + 1)).length = k + 1 := D.frs_length at_ (k + 1)
          rw [hfl5] at HO5 ⊢
          by_cases hs : f.parts < (k : Int) + 1
          · have hz := hid (HShort.out hs)
            go_wp2_with fail
            go_ret
            exact hnil.out _ S7.out hz.out
          · have hn := hid (HNext.out Hr.out Hm.out (by omega))
            have hsd : decide (f.parts < (k : Int) + 1) = false := by simp; omega
            clear hs
            go_wp2_with fail
            go_roundw
            case rel => exact ⟨k + 1, f.parts, rfl, HO5.out, S7.out, hn.out⟩
            case measure => simp; omega
        · have hmd : decide (most < f.parts) = true := by simp; omega
          have hz := hid (HFail.out (fun x => hm x.2))
          clear hr hm
          go_wp2_with fail
          go_ret
          exact hnil.out _ (S3.out.alloc _) hz.out
      · have hd3 : de = 3 := HE3.out hde
        have hz := hid (HFail.out (fun x => hde (HE0.out.2 x.1)))
        subst hd3
        clear hde
        go_wp2_with fail
        go_ret
        exact hnil.out _ (S3.out.alloc _) hz.out
    · have hz := hid (HR.out.done hlt)
      have hlt' : decide ((k : Int) < P) = false := by simpa using hlt
      clear hlt
      go_wp2_with fail
      go_ret
      exact ⟨_, k, rfl, HO.out, HS.out, hz.out, by omega⟩
end Go.Proofs.Ytlhnpicmjjddeaa
