/- Three neighbouring bytes turned: the walk of CrcTurns. -/
import Derived.Test.YtlhnpicmjjddeaaCrcLaws2
import Derived.BigRegion
namespace Go.Proofs.Ytlhnpicmjjddeaa
open Go.RowKit

theorem sets_zip (s : List UInt8) (i : Nat) (h : i + 3 ≤ s.length) (x y z : UInt8) :
    ((s.set i (s[i]'(by omega) ^^^ x)).set (i + 1) (s[i + 1]'(by omega) ^^^ y)).set (i + 2) (s[i + 2]'(by omega) ^^^ z) =
      List.zipWith (· ^^^ ·) s (List.replicate i 0 ++ [x, y, z] ++ List.replicate (s.length - i - 3) 0) := by
  apply List.ext_getElem
  · simp; omega
  · intro j h1 h2
    simp only [List.getElem_zipWith, List.getElem_set]
    by_cases a : i + 2 = j
    · subst a
      rw [if_pos rfl]
      congr 1
      rw [List.getElem_append_left (by simp), List.getElem_append_right (by simp)]
      simp
    · rw [if_neg a]
      by_cases b : i + 1 = j
      · subst b
        rw [if_pos rfl]
        congr 1
        rw [List.getElem_append_left (by simp), List.getElem_append_right (by simp)]
        simp
      · rw [if_neg b]
        by_cases c : i = j
        · subst c
          rw [if_pos rfl]
          congr 1
          rw [List.getElem_append_left (by simp), List.getElem_append_right (by simp)]
          simp
        · rw [if_neg c]
          have : ∀ u : UInt8, u = 0 → s[j]'(by simpa using h1) = s[j]'(by simpa using h1) ^^^ u := by intro u hu; subst hu; simp
          apply this
          by_cases d : j < i
          · rw [List.getElem_append_left (by simp; omega), List.getElem_append_left (by simp; omega)]
            simp
          · rw [List.getElem_append_right (by simp; omega)]
            simp
def turned (s : List UInt8) (i : Nat) (x y z : UInt8) : List UInt8 := ((s.set i (s.getD i 0 ^^^ x)).set (i + 1) (s.getD (i + 1) 0 ^^^ y)).set (i + 2) (s.getD (i + 2) 0 ^^^ z)
theorem turned_told (l : List UInt8) (i : Nat) (h : i + 3 ≤ (CrcPure.sealed l).length) (x y z : UInt8) (hne : ¬ (x = 0 ∧ y = 0 ∧ z = 0)) : openOk (turned (CrcPure.sealed l) i x y z) = false := by
  unfold turned
  rw [List.getD_eq_getElem?_getD, List.getD_eq_getElem?_getD, List.getD_eq_getElem?_getD, List.getElem?_eq_getElem (by omega), List.getElem?_eq_getElem (by omega), List.getElem?_eq_getElem (by omega)]
  simp only [Option.getD_some]
  rw [sets_zip _ i h]
  apply decide_eq_false
  intro e
  refine CrcPure.told (CrcPure.sealed l) _ i x y z h hne (CrcPure.more_sealed l) rfl ?_
  rw [← e]
  exact CrcPure.more_sealed _
theorem turned_length (s : List UInt8) (i : Nat) (x y z : UInt8) : (turned s i x y z).length = s.length := by simp [turned]

theorem OwnB.store {w : World} {base g n cap : Nat} {l : List UInt8} (h : OwnB w base (.slice (some ⟨g, 0, none⟩) n cap) l) (j : Nat) (x : UInt8) :
    OwnB (w.setCell ⟨g, j, none⟩ (u8 x)) base (.slice (some ⟨g, 0, none⟩) n cap) (l.set j x) := by
  have hn : n = l.length := Bytes.len h.bytes
  subst hn
  have := World.ownsRow.stored h j (u8 x)
  unfold OwnB
  rw [List.length_set, List.map_set]
  exact this.1
theorem OwnB.at {w : World} {base g n cap : Nat} {l : List UInt8} (h : OwnB w base (.slice (some ⟨g, 0, none⟩) n cap) l) (j : Nat) (hj : j < l.length) :
    w.cell? ⟨g, j, none⟩ = some (.int .u8 ((l.getD j 0).toNat : Int)) ∧ w.frozen? ⟨g, j, none⟩ = false := by
  have hn : n = l.length := Bytes.len h.bytes
  subst hn
  have h1 := World.ownsRow.cellAt h j (by omega)
  have h2 := World.ownsRow.frozenAt h j
  refine ⟨?_, h2⟩
  rw [h1, List.getElem?_map, List.getD_eq_getElem?_getD, List.getElem?_eq_getElem hj]
  rfl
theorem OwnB.head {w : World} {base : Nat} {v : Value} {l : List UInt8} (h : OwnB w base v l) (hl : l.length ≠ 0) : ∃ g cap, v = .slice (some ⟨g, 0, none⟩) l.length cap ∧ base ≤ g ∧ l.length ≤ cap ∧ cap ≤ maxLen := by
  obtain ⟨_, h2⟩ := h
  rcases h2 with ⟨_, h2⟩ | ⟨g, cap, cur, a, b, c, d, e, _⟩
  · exact absurd h2 hl
  · exact ⟨g, cap, a, b, d, e⟩

theorem xor_u8 (a b : UInt8) : bits BinOp.xor IntKind.u8 (a.toNat : Int) (b.toNat : Int) = (((a ^^^ b).toNat : Nat) : Int) := by
  rw [u8_xor_nat a.toNat b.toNat (CrcPure.u8_lt a) (CrcPure.u8_lt b), UInt8.toNat_xor]
theorem u8_of_int {n : Int} (h : 0 ≤ n ∧ n < 256) : ∃ x : UInt8, n = (x.toNat : Int) := ⟨UInt8.ofNat n.toNat, by simp; omega⟩
theorem u8_zero (x : UInt8) : x = 0 ↔ (x.toNat : Int) = 0 := by
  constructor
  · intro h; subst h; rfl
  · intro h; apply UInt8.toNat_inj.1; simp; omega

set_option maxHeartbeats 1600000 in
set_option maxRecDepth 100000 in
theorem crcTurnsWalk (va : Value) (e1 : TypeId) (la : List UInt8) (pl : Int) (x y z : UInt8) (w : World) (ha : Bytes w e1 va la) :
    Calls Try.prog 6 #[va, .int .i64 pl, .int .u8 (x.toNat : Int), .int .u8 (y.toNat : Int), .int .u8 (z.toNat : Int)] w (RetSame (.bool true) w) := by
  have H := hid crcLives
  have hx := CrcPure.u8_lt x
  have hy := CrcPure.u8_lt y
  have hz := CrcPure.u8_lt z
  go_enter Try.func6, Try.ntmps6
  go_wp2_with fail
  refine (r01Cut w e1 va la 300 ha).mono ?_
  rintro en w' ⟨v1, rfl, h1, rfl⟩
  have L1 : (la.take 300).length ≤ 300 := by rw [List.length_take]; omega
  generalize la.take 300 = p at *
  go_wp2_with fail
  refine (crcSeal _ e1 _ p h1 (by omega)).mono ?_
  rintro en w1 ⟨v3, rfl, h3, S1⟩
  have HT := fun i h => hid (turned_told p i h x y z)
  have hlen := CrcPure.sealed_length p
  generalize CrcPure.sealed p = s at *
  have hl0 : s.length ≠ 0 := by omega
  obtain ⟨g, cap, rfl, hg1, hg2, hg3⟩ := h3.head hl0
  unfold maxLen at hg3
  have hl3 : 3 ≤ s.length := by omega
  have hl9 : s.length ≤ 303 := by omega
  clear hlen hl0
  go_wp2_with fail
  refine (r01In _ _ _ _).mono ?_
  rintro en w2 ⟨rfl, rfl⟩
  obtain ⟨i, hi, hi3⟩ : ∃ i : Nat, (if pl < 0 then (0 : Int) else if (s.length : Int) - 3 < pl then (s.length : Int) - 3 else pl) = (i : Int) ∧ i + 3 ≤ s.length := by
    split
    · exact ⟨0, rfl, by omega⟩
    · split
      · exact ⟨s.length - 3, by omega, by omega⟩
      · exact ⟨pl.toNat, by omega, by omega⟩
  rw [hi]
  clear hi
  by_cases h0 : x = 0 ∧ y = 0 ∧ z = 0
  · obtain ⟨rfl, rfl, rfl⟩ := h0
    go_wp2_with fail
    refine (H.out _).mono ?_
    rintro en w3 ⟨rfl, S3⟩
    go_wp2_with fail
    go_ret
    exact ⟨rfl, S1.trans S3⟩
  · have HF := hid ((HT i hi3).out h0)
    clear HT
    have hnz : ¬ ((x.toNat : Int) = 0 ∧ (y.toNat : Int) = 0 ∧ (z.toNat : Int) = 0) := by rw [← u8_zero, ← u8_zero, ← u8_zero]; exact h0
    clear h0
    have S0 := Same.refl w1
    have hcase : (((x.toNat : Int) == 0) = true ∧ ((y.toNat : Int) == 0) = true ∧ ((z.toNat : Int) == 0) = false) ∨ (((x.toNat : Int) == 0) = true ∧ ((y.toNat : Int) == 0) = false) ∨ ((x.toNat : Int) == 0) = false := by
      by_cases a : (x.toNat : Int) = 0
      · by_cases b : (y.toNat : Int) = 0
        · exact .inl ⟨beq_iff_eq.2 a, beq_iff_eq.2 b, beq_eq_false_iff_ne.2 fun c => hnz ⟨a, b, c⟩⟩
        · exact .inr (.inl ⟨beq_iff_eq.2 a, beq_eq_false_iff_ne.2 b⟩)
      · exact .inr (.inr (beq_eq_false_iff_ne.2 a))
    clear hnz
    rcases hcase with ⟨b1, b2, b3⟩ | ⟨b1, b2⟩ | b1
    · go_upto_region 9 with (at_builtin; refine wpList_append_bytes rfl (.tmp 37) (.tmp 38) 23 tyBytes rfl (OwnB.nil w1 w1.heap.size) h3.bytes rfl rfl (by simp; omega) (Nat.le_refl _) ?_; intro x1 w2 ho1 hg1; simp only [List.nil_append] at ho1; have S2 := S0.grown_nil hg1)
      obtain ⟨g', cap', rfl, k1, k2, k3⟩ := ho1.head (by omega)
      have c0 := (ho1.at i (by omega)).1
      have c1 := (ho1.at (i + 1) (by omega)).1
      have c2 := (ho1.at (i + 2) (by omega)).1
      have f0 := (ho1.at i (by omega)).2
      have f1 := (ho1.at (i + 1) (by omega)).2
      have f2 := (ho1.at (i + 2) (by omega)).2
      have i1 : (i : Int) < (s.length : Int) := by omega
      have i2 : (i : Int) + 1 < (s.length : Int) := by omega
      have i3 : (i : Int) + 2 < (s.length : Int) := by omega
      have q0 := CrcPure.u8_lt (s.getD i 0)
      have q1 := CrcPure.u8_lt (s.getD (i + 1) 0)
      have q2 := CrcPure.u8_lt (s.getD (i + 2) 0)
      have Z0 := hid (xor_u8 (s.getD i 0) x)
      have Z1 := hid (xor_u8 (s.getD (i + 1) 0) y)
      have Z2 := hid (xor_u8 (s.getD (i + 2) 0) z)
      have HO := hid (((ho1.store i (s.getD i 0 ^^^ x)).store (i + 1) (s.getD (i + 1) 0 ^^^ y)).store (i + 2) (s.getD (i + 2) 0 ^^^ z))
      unfold u8 at HO
      unfold turned at HF
      generalize s.getD i 0 = p0 at *
      generalize s.getD (i + 1) 0 = p1 at *
      generalize s.getD (i + 2) 0 = p2 at *
      go_region
      go_wp2_with fail
      rw [Z0.out, Z1.out, Z2.out]
      refine (crcOpen _ 5 _ _ (HO.out.bytes.same ((Same.refl _).drew)) (by simp; omega)).mono ?_
      rintro en w3 ⟨v9, rfl, h9, S9⟩
      rw [HF.out]
      have S10 := S1.trans (((((S2.setCell (p := ⟨g', i, none⟩) k1 _).setCell (p := ⟨g', i + 1, none⟩) k1 _).setCell (p := ⟨g', i + 2, none⟩) k1 _).drew).trans S9)
      go_wp2_with fail
      refine (H.out _).mono ?_
      rintro en w4 ⟨rfl, S11⟩
      go_wp2_with fail
      go_ret
      exact ⟨rfl, S10.trans S11⟩
    · go_upto_region 9 with (at_builtin; refine wpList_append_bytes rfl (.tmp 37) (.tmp 38) 23 tyBytes rfl (OwnB.nil w1 w1.heap.size) h3.bytes rfl rfl (by simp; omega) (Nat.le_refl _) ?_; intro x1 w2 ho1 hg1; simp only [List.nil_append] at ho1; have S2 := S0.grown_nil hg1)
      obtain ⟨g', cap', rfl, k1, k2, k3⟩ := ho1.head (by omega)
      have c0 := (ho1.at i (by omega)).1
      have c1 := (ho1.at (i + 1) (by omega)).1
      have c2 := (ho1.at (i + 2) (by omega)).1
      have f0 := (ho1.at i (by omega)).2
      have f1 := (ho1.at (i + 1) (by omega)).2
      have f2 := (ho1.at (i + 2) (by omega)).2
      have i1 : (i : Int) < (s.length : Int) := by omega
      have i2 : (i : Int) + 1 < (s.length : Int) := by omega
      have i3 : (i : Int) + 2 < (s.length : Int) := by omega
      have q0 := CrcPure.u8_lt (s.getD i 0)
      have q1 := CrcPure.u8_lt (s.getD (i + 1) 0)
      have q2 := CrcPure.u8_lt (s.getD (i + 2) 0)
      have Z0 := hid (xor_u8 (s.getD i 0) x)
      have Z1 := hid (xor_u8 (s.getD (i + 1) 0) y)
      have Z2 := hid (xor_u8 (s.getD (i + 2) 0) z)
      have HO := hid (((ho1.store i (s.getD i 0 ^^^ x)).store (i + 1) (s.getD (i + 1) 0 ^^^ y)).store (i + 2) (s.getD (i + 2) 0 ^^^ z))
      unfold u8 at HO
      unfold turned at HF
      generalize s.getD i 0 = p0 at *
      generalize s.getD (i + 1) 0 = p1 at *
      generalize s.getD (i + 2) 0 = p2 at *
      go_region
      go_wp2_with fail
      rw [Z0.out, Z1.out, Z2.out]
      refine (crcOpen _ 5 _ _ (HO.out.bytes.same ((Same.refl _).drew)) (by simp; omega)).mono ?_
      rintro en w3 ⟨v9, rfl, h9, S9⟩
      rw [HF.out]
      have S10 := S1.trans (((((S2.setCell (p := ⟨g', i, none⟩) k1 _).setCell (p := ⟨g', i + 1, none⟩) k1 _).setCell (p := ⟨g', i + 2, none⟩) k1 _).drew).trans S9)
      go_wp2_with fail
      refine (H.out _).mono ?_
      rintro en w4 ⟨rfl, S11⟩
      go_wp2_with fail
      go_ret
      exact ⟨rfl, S10.trans S11⟩
    · go_upto_region 9 with (at_builtin; refine wpList_append_bytes rfl (.tmp 37) (.tmp 38) 23 tyBytes rfl (OwnB.nil w1 w1.heap.size) h3.bytes rfl rfl (by simp; omega) (Nat.le_refl _) ?_; intro x1 w2 ho1 hg1; simp only [List.nil_append] at ho1; have S2 := S0.grown_nil hg1)
      obtain ⟨g', cap', rfl, k1, k2, k3⟩ := ho1.head (by omega)
      have c0 := (ho1.at i (by omega)).1
      have c1 := (ho1.at (i + 1) (by omega)).1
      have c2 := (ho1.at (i + 2) (by omega)).1
      have f0 := (ho1.at i (by omega)).2
      have f1 := (ho1.at (i + 1) (by omega)).2
      have f2 := (ho1.at (i + 2) (by omega)).2
      have i1 : (i : Int) < (s.length : Int) := by omega
      have i2 : (i : Int) + 1 < (s.length : Int) := by omega
      have i3 : (i : Int) + 2 < (s.length : Int) := by omega
      have q0 := CrcPure.u8_lt (s.getD i 0)
      have q1 := CrcPure.u8_lt (s.getD (i + 1) 0)
      have q2 := CrcPure.u8_lt (s.getD (i + 2) 0)
      have Z0 := hid (xor_u8 (s.getD i 0) x)
      have Z1 := hid (xor_u8 (s.getD (i + 1) 0) y)
      have Z2 := hid (xor_u8 (s.getD (i + 2) 0) z)
      have HO := hid (((ho1.store i (s.getD i 0 ^^^ x)).store (i + 1) (s.getD (i + 1) 0 ^^^ y)).store (i + 2) (s.getD (i + 2) 0 ^^^ z))
      unfold u8 at HO
      unfold turned at HF
      generalize s.getD i 0 = p0 at *
      generalize s.getD (i + 1) 0 = p1 at *
      generalize s.getD (i + 2) 0 = p2 at *
      go_region
      go_wp2_with fail
      rw [Z0.out, Z1.out, Z2.out]
      refine (crcOpen _ 5 _ _ (HO.out.bytes.same ((Same.refl _).drew)) (by simp; omega)).mono ?_
      rintro en w3 ⟨v9, rfl, h9, S9⟩
      rw [HF.out]
      have S10 := S1.trans (((((S2.setCell (p := ⟨g', i, none⟩) k1 _).setCell (p := ⟨g', i + 1, none⟩) k1 _).setCell (p := ⟨g', i + 2, none⟩) k1 _).drew).trans S9)
      go_wp2_with fail
      refine (H.out _).mono ?_
      rintro en w4 ⟨rfl, S11⟩
      go_wp2_with fail
      go_ret
      exact ⟨rfl, S10.trans S11⟩
end Go.Proofs.Ytlhnpicmjjddeaa
