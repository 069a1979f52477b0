/- The sum of 24 bits, in plain numbers: it is linear, and a turn of three neighbours is told. No program in sight. -/
namespace Go.Proofs.Ytlhnpicmjjddeaa.CrcPure

def step (c : Nat) : Nat := if 2 * c > 16777215 then (2 * c) ^^^ 0x1864cfb else 2 * c
def steps (n c : Nat) : Nat := (List.range n).foldl (fun c _ => step c) c
def byte (c x : Nat) : Nat := steps 8 (c ^^^ (x * 65536))
def more (c : Nat) (l : List UInt8) : Nat := l.foldl (fun c x => byte c x.toNat) c

theorem steps_zero' (c : Nat) : steps 0 c = c := rfl
theorem steps_last (n c : Nat) : steps (n + 1) c = step (steps n c) := by
  unfold steps; rw [List.range_succ, List.foldl_append]; rfl
theorem more_nil (c : Nat) : more c [] = c := rfl
theorem more_cons (c : Nat) (x : UInt8) (l : List UInt8) : more c (x :: l) = more (byte c x.toNat) l := by unfold more; rw [List.foldl_cons]
attribute [irreducible] steps step more byte

theorem steps_add (m n c : Nat) : steps (m + n) c = steps n (steps m c) := by
  induction n with
  | zero => rw [steps_zero', Nat.add_zero]
  | succ n ih => rw [← Nat.add_assoc, steps_last, ih, steps_last]

theorem lt_of_bits {x n : Nat} (h : ∀ i, n ≤ i → x.testBit i = false) : x < 2 ^ n := Nat.lt_pow_two_of_testBit _ h
theorem xor_lt {a b : Nat} (ha : a < 16777216) (hb : b < 16777216) : a ^^^ b < 16777216 :=
  Nat.xor_lt_two_pow (n := 24) ha hb

theorem step_lt {c : Nat} (h : c < 16777216) : step c < 16777216 := by
  unfold step
  split
  · rename_i h1
    have h2 : 2 * c < 2 ^ 25 := by omega
    have h3 : (2 * c).testBit 24 = true := by
      rw [Nat.testBit_eq_decide_div_mod_eq]
      simp; omega
    have : (2 * c) ^^^ 0x1864cfb < 2 ^ 24 := by
      refine lt_of_bits fun i hi => ?_
      rw [Nat.testBit_xor]
      by_cases e : i = 24
      · subst e; rw [h3]; decide
      · have : 2 ^ 25 ≤ 2 ^ i := Nat.pow_le_pow_right (by decide) (by omega)
        rw [Nat.testBit_lt_two_pow (by omega), Nat.testBit_lt_two_pow (x := 0x1864cfb) (by omega)]; rfl
    omega
  · omega

theorem steps_lt (n : Nat) {c : Nat} (h : c < 16777216) : steps n c < 16777216 := by
  induction n with
  | zero => rw [steps_zero']; exact h
  | succ n ih => rw [steps_last]; exact step_lt ih

theorem byte_lt {c x : Nat} (h : c < 16777216) (hx : x < 256) : byte c x < 16777216 :=
  by unfold byte; exact steps_lt 8 (xor_lt h (by omega))

theorem u8_lt (x : UInt8) : x.toNat < 256 := x.toNat_lt

theorem more_lt (l : List UInt8) : ∀ {c : Nat}, c < 16777216 → more c l < 16777216 := by
  induction l with
  | nil => intro c h; rw [more_nil]; exact h
  | cons x r ih => intro c h; rw [more_cons]; exact ih (byte_lt h (u8_lt x))

theorem more_append (l r : List UInt8) (c : Nat) : more c (l ++ r) = more (more c l) r := by
  unfold more; rw [List.foldl_append]

/-! linear -/
theorem two_mul_xor (a b : Nat) : 2 * (a ^^^ b) = (2 * a) ^^^ (2 * b) := by
  refine Nat.eq_of_testBit_eq fun i => ?_
  rw [Nat.testBit_xor]
  cases i with
  | zero => simp [Nat.testBit_zero]
  | succ i => simp [Nat.testBit_succ, Nat.testBit_xor]

def top (c : Nat) : Bool := decide (2 * c > 16777215)
theorem top_eq {c : Nat} (h : c < 16777216) : top c = c.testBit 23 := by
  unfold top
  rw [Nat.testBit_eq_decide_div_mod_eq]
  have : (2 * c > 16777215) ↔ (c / 2 ^ 23 % 2 = 1) := by omega
  simp only [this]
theorem step_eq (c : Nat) : step c = (2 * c) ^^^ (if top c then 0x1864cfb else 0) := by
  unfold step top
  by_cases h : 2 * c > 16777215
  · rw [if_pos h, decide_eq_true h, if_pos rfl]
  · rw [if_neg h, decide_eq_false h, if_neg (by decide), Nat.xor_zero]

theorem step_xor {a b : Nat} (ha : a < 16777216) (hb : b < 16777216) : step (a ^^^ b) = step a ^^^ step b := by
  rw [step_eq, step_eq a, step_eq b, top_eq (xor_lt ha hb), top_eq ha, top_eq hb, two_mul_xor, Nat.testBit_xor]
  have e : ∀ p q r s : Nat, (p ^^^ q) ^^^ (r ^^^ s) = (p ^^^ r) ^^^ (q ^^^ s) := by
    intro p q r s; ac_rfl
  rw [e]
  congr 1
  cases a.testBit 23 <;> cases b.testBit 23 <;> decide

theorem steps_xor (n : Nat) {a b : Nat} (ha : a < 16777216) (hb : b < 16777216) : steps n (a ^^^ b) = steps n a ^^^ steps n b := by
  induction n with
  | zero => rw [steps_zero', steps_zero', steps_zero']
  | succ n ih => rw [steps_last, ih, step_xor (steps_lt n ha) (steps_lt n hb), steps_last, steps_last]

theorem step_inj {a : Nat} (h : step a = 0) : a = 0 := by
  have h0 : (step a).testBit 0 = top a := by
    rw [step_eq, Nat.testBit_xor]
    cases top a <;> simp [Nat.testBit_zero]
  rw [h] at h0
  have ht : top a = false := by simpa using h0.symm
  rw [step_eq, ht] at h
  simp at h
  omega

theorem steps_inj (n : Nat) {a : Nat} (h : steps n a = 0) : a = 0 := by
  induction n with
  | zero => rw [steps_zero'] at h; exact h
  | succ n ih => rw [steps_last] at h; exact ih (step_inj h)

theorem step_zero : step 0 = 0 := by rw [step_eq]; rfl
theorem steps_zero (n : Nat) : steps n 0 = 0 := by
  induction n with
  | zero => exact steps_zero' 0
  | succ n ih => rw [steps_last, ih, step_zero]
/-- a shift without the top bit -/
theorem step_small {c : Nat} (h : 2 * c < 16777216) : step c = 2 * c := by
  rw [step_eq]
  have : top c = false := by unfold top; rw [decide_eq_false (by omega)]
  rw [this, if_neg (by decide), Nat.xor_zero]
theorem steps_small (n : Nat) {c : Nat} (h : c * 2 ^ n < 16777216) : steps n c = c * 2 ^ n := by
  induction n with
  | zero => rw [steps_zero', Nat.pow_zero, Nat.mul_one]
  | succ n ih =>
    rw [Nat.pow_succ] at h ⊢
    have h2 : 2 * (c * 2 ^ n) = c * (2 ^ n * 2) := by ac_rfl
    rw [steps_last, ih (by omega), step_small (by omega), h2]

theorem mul_xor (a b : Nat) : (a ^^^ b) * 65536 = (a * 65536) ^^^ (b * 65536) := by
  have := Nat.shiftLeft_xor_distrib (a := a) (b := b) (i := 16)
  simpa [Nat.shiftLeft_eq] using this

theorem byte_xor {c d x y : Nat} (hc : c < 16777216) (hd : d < 16777216) (hx : x < 256) (hy : y < 256) : byte (c ^^^ d) (x ^^^ y) = byte c x ^^^ byte d y := by
  unfold byte
  rw [← steps_xor 8 (xor_lt hc (by omega)) (xor_lt hd (by omega)), mul_xor]
  congr 1
  ac_rfl

/-- two rows of bytes of one length, xored -/
theorem more_xor (l r : List UInt8) : ∀ {c d : Nat}, c < 16777216 → d < 16777216 → l.length = r.length →
    more (c ^^^ d) (List.zipWith (· ^^^ ·) l r) = more c l ^^^ more d r := by
  induction l generalizing r with
  | nil => intro c d _ _ h; cases r with
    | nil => rw [List.zipWith_nil_left, more_nil, more_nil, more_nil]
    | cons => simp at h
  | cons x l ih =>
    intro c d hc hd h
    cases r with
    | nil => simp at h
    | cons y r =>
      rw [List.zipWith_cons_cons, more_cons, more_cons, more_cons, UInt8.toNat_xor, byte_xor hc hd (u8_lt x) (u8_lt y)]
      exact ih r (byte_lt hc (u8_lt x)) (byte_lt hd (u8_lt y)) (by simpa using h)

theorem byte_zero (c : Nat) : byte c 0 = steps 8 c := by unfold byte; rw [Nat.zero_mul, Nat.xor_zero]
theorem more_zeros (n c : Nat) : more c (List.replicate n 0) = steps (8 * n) c := by
  induction n generalizing c with
  | zero => rw [List.replicate_zero, more_nil, Nat.mul_zero, steps_zero']
  | succ n ih =>
    rw [List.replicate_succ, more_cons, ih, show (0 : UInt8).toNat = 0 from rfl, byte_zero, ← steps_add, Nat.mul_succ, Nat.add_comm]

theorem lt16 {x : Nat} (h : x < 256) : x * 65536 < 16777216 := by omega
theorem lt8 {x : Nat} (h : x < 256) : x * 256 < 16777216 := by omega
theorem lt0 {x : Nat} (h : x < 256) : x < 16777216 := by omega
theorem lt16' {x : Nat} (h : x < 256) : x * 2 ^ (8 + 8) < 16777216 := by omega
theorem lt8' {x : Nat} (h : x < 256) : x * 256 * 2 ^ 8 < 16777216 := by omega
theorem three (x y z : Nat) (hx : x < 256) (hy : y < 256) (hz : z < 256) : byte (byte (byte 0 x) y) z = steps 24 (x * 65536 ^^^ y * 256 ^^^ z) := by
  have ey : steps 8 (y * 256) = y * 65536 := by rw [steps_small 8 (lt8' hy), Nat.mul_assoc]
  have ez : steps 8 (steps 8 z) = z * 65536 := by rw [← steps_add, steps_small (8 + 8) (lt16' hz)]
  have hx2 := lt16 hx
  have hy2 := lt8 hy
  have hy3 := lt16 hy
  have hz2 := lt0 hz
  have e0 : byte 0 x = steps 8 (x * 65536) := by unfold byte; rw [Nat.zero_xor]
  have e24 : ∀ v, steps 24 v = steps 8 (steps 8 (steps 8 v)) := fun v => by rw [← steps_add, ← steps_add]
  have hb : ∀ p q, byte p q = steps 8 (p ^^^ (q * 65536)) := fun p q => by unfold byte; rfl
  rw [e24, steps_xor 8 (xor_lt hx2 hy2) hz2, steps_xor 8 hx2 hy2, ey,
    steps_xor 8 (xor_lt (steps_lt 8 hx2) hy3) (steps_lt 8 hz2), ez, e0, hb, hb]

theorem more_three (x y z : UInt8) : more 0 [x, y, z] = steps 24 (x.toNat * 65536 ^^^ y.toNat * 256 ^^^ z.toNat) := by
  rw [more_cons, more_cons, more_cons, more_nil]
  exact three _ _ _ (u8_lt x) (u8_lt y) (u8_lt z)

/-- a row whose sum stands behind it goes to nought -/
def bytes3 (c : Nat) : List UInt8 := [(c / 65536).toUInt8, (c / 256).toUInt8, c.toUInt8]
theorem xor_add {a b i : Nat} (hb : b < 2 ^ i) : a * 2 ^ i ^^^ b = a * 2 ^ i + b := by
  refine Nat.eq_of_testBit_eq fun j => ?_
  rw [Nat.testBit_xor, Nat.mul_comm, Nat.testBit_two_pow_mul_add _ hb, Nat.testBit_two_pow_mul]
  by_cases h : j < i
  · simp [h, Nat.not_le.2 h]
  · rw [Nat.testBit_lt_two_pow (x := b) (Nat.lt_of_lt_of_le hb (Nat.pow_le_pow_right (by decide) (by omega)))]
    simp [h, Nat.not_lt.1 h]
theorem split3 {c : Nat} : c / 65536 * 65536 ^^^ c / 256 % 256 * 256 ^^^ c % 256 = c := by
  have h1 : c / 65536 * 65536 ^^^ c / 256 % 256 * 256 = c / 65536 * 65536 + c / 256 % 256 * 256 :=
    xor_add (a := c / 65536) (b := c / 256 % 256 * 256) (i := 16) (by omega)
  have h2 : c / 65536 * 65536 + c / 256 % 256 * 256 = (c / 256) * 256 := by omega
  have h3 : c / 256 * 256 ^^^ c % 256 = c / 256 * 256 + c % 256 := xor_add (a := c / 256) (b := c % 256) (i := 8) (by omega)
  rw [h1, h2, h3]; clear h1 h2 h3; omega
theorem toUInt8_nat (n : Nat) : n.toUInt8.toNat = n % 256 := by simp
theorem more_bytes3 {c : Nat} (hc : c < 16777216) : more c (bytes3 c) = 0 := by
  have h := more_xor [0, 0, 0] (bytes3 c) (c := c) (d := 0) hc (by omega) rfl
  have e : List.zipWith (· ^^^ ·) [0, 0, 0] (bytes3 c) = bytes3 c := by simp [bytes3]
  rw [e, Nat.xor_zero] at h
  rw [h]
  have h2 : more c [0, 0, 0] = steps 24 c := by have := more_zeros 3 c; rw [show List.replicate 3 (0 : UInt8) = [0, 0, 0] from rfl] at this; exact this
  have h3 : more 0 (bytes3 c) = steps 24 c := by
    rw [bytes3, more_three, toUInt8_nat, toUInt8_nat, toUInt8_nat, Nat.mod_eq_of_lt (a := c / 65536) (by omega), split3]
  rw [h2, h3, Nat.xor_self]

/-- one sealed row -/
def init : Nat := 0xb704ce
def sealed (l : List UInt8) : List UInt8 := l ++ bytes3 (more init l)
theorem init_lt : init < 16777216 := by unfold init; omega
theorem sealed_length (l : List UInt8) : (sealed l).length = l.length + 3 := by simp [sealed, bytes3]
theorem more_sealed (l : List UInt8) : more init (sealed l) = 0 := by
  unfold sealed; rw [more_append]; exact more_bytes3 (more_lt l init_lt)

/-- up to three neighbours turned are told -/
theorem told (l t : List UInt8) (i : Nat) (x y z : UInt8) (hi : i + 3 ≤ l.length) (hne : ¬ (x = 0 ∧ y = 0 ∧ z = 0)) (hl : more init l = 0)
    (ht : t = List.zipWith (· ^^^ ·) l (List.replicate i 0 ++ [x, y, z] ++ List.replicate (l.length - i - 3) 0)) : more init t ≠ 0 := by
  intro h0
  have hlen : l.length = (List.replicate i 0 ++ [x, y, z] ++ List.replicate (l.length - i - 3) (0 : UInt8)).length := by simp; omega
  have h := more_xor l (List.replicate i 0 ++ [x, y, z] ++ List.replicate (l.length - i - 3) 0) (c := init) (d := 0) init_lt (by omega) hlen
  rw [Nat.xor_zero, ← ht, h0, hl, Nat.zero_xor, more_append, more_append, more_zeros, more_zeros, steps_zero, more_three] at h
  have h1 := steps_inj _ (steps_inj _ h.symm)
  have hx := u8_lt x
  have hy := u8_lt y
  have hz := u8_lt z
  have e1 : x.toNat * 65536 ^^^ y.toNat * 256 = x.toNat * 65536 + y.toNat * 256 := xor_add (a := x.toNat) (b := y.toNat * 256) (i := 16) (by omega)
  have e2 : (x.toNat * 256 + y.toNat) * 256 ^^^ z.toNat = (x.toNat * 256 + y.toNat) * 256 + z.toNat := xor_add (a := x.toNat * 256 + y.toNat) (b := z.toNat) (i := 8) (by omega)
  have e3 : x.toNat * 65536 + y.toNat * 256 = (x.toNat * 256 + y.toNat) * 256 := by omega
  rw [e1, e3, e2] at h1
  refine hne ⟨?_, ?_, ?_⟩ <;> (apply UInt8.toNat_inj.1; simp; omega)

/-- what the last three bytes must be -/
theorem bytes3_of_zero {c : Nat} (hc : c < 16777216) {x y z : UInt8} (h : more c [x, y, z] = 0) : [x, y, z] = bytes3 c := by
  have h1 := more_xor (bytes3 c) [x, y, z] (c := c) (d := c) hc hc rfl
  rw [more_bytes3 hc, h, Nat.xor_self, Nat.xor_self] at h1
  simp only [bytes3, List.zipWith_cons_cons, List.zipWith_nil_left] at h1
  rw [more_three] at h1
  have h2 := steps_inj _ h1
  generalize ha : (c / 65536).toUInt8 ^^^ x = a at h2
  generalize hb : (c / 256).toUInt8 ^^^ y = b at h2
  generalize hd : c.toUInt8 ^^^ z = d at h2
  have hx := u8_lt a
  have hy := u8_lt b
  have hz := u8_lt d
  have e1 : a.toNat * 65536 ^^^ b.toNat * 256 = a.toNat * 65536 + b.toNat * 256 := xor_add (a := a.toNat) (b := b.toNat * 256) (i := 16) (by omega)
  have e2 : (a.toNat * 256 + b.toNat) * 256 ^^^ d.toNat = (a.toNat * 256 + b.toNat) * 256 + d.toNat := xor_add (a := a.toNat * 256 + b.toNat) (b := d.toNat) (i := 8) (by omega)
  have e3 : a.toNat * 65536 + b.toNat * 256 = (a.toNat * 256 + b.toNat) * 256 := by omega
  rw [e1, e3, e2] at h2
  have a0 : a = 0 := by apply UInt8.toNat_inj.1; simp; omega
  have b0 : b = 0 := by apply UInt8.toNat_inj.1; simp; omega
  have d0 : d = 0 := by apply UInt8.toNat_inj.1; simp; omega
  rw [a0] at ha; rw [b0] at hb; rw [d0] at hd
  have z : ∀ p q : UInt8, p ^^^ q = 0 → q = p := by
    intro p q h; exact (UInt8.xor_eq_zero_iff.1 h).symm
  rw [bytes3, z _ _ ha, z _ _ hb, z _ _ hd]

/-! the reference's way: as a row of bits -/
theorem mod_testBit (a i : Nat) : (a % 16777216).testBit i = (decide (i < 24) && a.testBit i) := by
  rw [show (16777216 : Nat) = 2 ^ 24 from rfl, Nat.testBit_mod_two_pow]
theorem mod_xor (a b : Nat) : (a ^^^ b) % 16777216 = (a % 16777216) ^^^ (b % 16777216) := by
  refine Nat.eq_of_testBit_eq fun i => ?_
  rw [Nat.testBit_xor, mod_testBit, mod_testBit, mod_testBit, Nat.testBit_xor]
  cases decide (i < 24) <;> simp
def odd23 (c : Nat) : Bool := c / 8388608 % 2 == 1
theorem top_odd {c : Nat} (h : c < 16777216) : top c = odd23 c := by
  unfold top odd23
  have : (2 * c > 16777215) ↔ (c / 8388608 % 2 = 1) := by omega
  by_cases e : c / 8388608 % 2 = 1
  · rw [decide_eq_true (this.2 e), e]; rfl
  · rw [decide_eq_false (fun h => e (this.1 h))]; exact (beq_eq_false_iff_ne.2 e).symm
theorem step_mod {c : Nat} (h : c < 16777216) : step c = (2 * c % 16777216) ^^^ (if odd23 c then 0x864cfb else 0) := by
  have h1 : step c = step c % 16777216 := (Nat.mod_eq_of_lt (step_lt h)).symm
  rw [h1, step_eq, mod_xor, top_odd h]
  congr 1
  cases odd23 c <;> decide
/-- the byte's part after j of its bits -/
def rest (x j : Nat) : Nat := x * 65536 * 2 ^ j % 16777216
theorem rest_lt (x j : Nat) : rest x j < 16777216 := Nat.mod_lt _ (by decide)
theorem rest_succ (x j : Nat) : 2 * rest x j % 16777216 = rest x (j + 1) := by
  unfold rest
  rw [Nat.pow_succ, Nat.mul_mod, Nat.mod_mod, ← Nat.mul_mod]
  congr 1
  ac_rfl
theorem odd23_rest {x : Nat} (hx : x < 256) (j : Nat) (hj : j < 8) : odd23 (rest x j) = (x / (128 / 2 ^ j) % 2 == 1) := by
  unfold odd23 rest
  have : j = 0 ∨ j = 1 ∨ j = 2 ∨ j = 3 ∨ j = 4 ∨ j = 5 ∨ j = 6 ∨ j = 7 := by omega
  rcases this with rfl | rfl | rfl | rfl | rfl | rfl | rfl | rfl <;> (simp only [Nat.reducePow, Nat.reduceDiv]; congr 1; omega)
theorem odd23_xor (a b : Nat) : odd23 (a ^^^ b) = (odd23 a != odd23 b) := by
  have e : ∀ c, odd23 c = c.testBit 23 := by
    intro c
    rw [Nat.testBit_eq_decide_div_mod_eq]; unfold odd23
    by_cases h : c / 8388608 % 2 = 1 <;> simp [h]
  rw [e, e, e, Nat.testBit_xor]
/-- what the reference holds after j bits of a byte -/
def held (c x j : Nat) : Nat := steps j (c ^^^ (x * 65536)) ^^^ rest x j
theorem held_zero (c x : Nat) (hx : x < 256) : held c x 0 = c := by
  unfold held rest
  rw [steps_zero', Nat.pow_zero, Nat.mul_one, Nat.mod_eq_of_lt (lt16 hx), Nat.xor_assoc, Nat.xor_self, Nat.xor_zero]
theorem held_eight (c x : Nat) : held c x 8 = byte c x := by
  have : rest x 8 = 0 := by
    unfold rest
    rw [show (65536 : Nat) = 2 ^ 16 from rfl, Nat.mul_assoc, ← Nat.pow_add]
    exact Nat.mul_mod_left x (2 ^ (16 + 8))
  unfold held byte
  rw [this, Nat.xor_zero]
theorem held_lt {c x j : Nat} (hc : c < 16777216) (hx : x < 256) : held c x j < 16777216 :=
  xor_lt (steps_lt j (xor_lt hc (lt16 hx))) (rest_lt x j)
theorem held_succ {c x j : Nat} (hc : c < 16777216) (hx : x < 256) (hj : j < 8) :
    held c x (j + 1) = (held c x j * 2 % 16777216) ^^^ (if odd23 (held c x j) != (x / (128 / 2 ^ j) % 2 == 1) then 0x864cfb else 0) := by
  have hs := steps_lt j (xor_lt hc (lt16 hx))
  rw [← odd23_rest hx j hj, held, steps_last, step_mod hs]
  unfold held
  generalize steps j (c ^^^ (x * 65536)) = s at *
  rw [odd23_xor, Nat.mul_comm _ 2, two_mul_xor, mod_xor, rest_succ]
  have : ((odd23 s != odd23 (rest x j)) != odd23 (rest x j)) = odd23 s := by
    cases odd23 s <;> cases odd23 (rest x j) <;> rfl
  rw [this]
  ac_rfl
end Go.Proofs.Ytlhnpicmjjddeaa.CrcPure
