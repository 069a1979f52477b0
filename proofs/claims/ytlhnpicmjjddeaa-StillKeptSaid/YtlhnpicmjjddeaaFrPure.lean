/- FRAME, plainly: frames as sectors, records as frames. No condition; no program in sight. -/
import Derived.Test.YtlhnpicmjjddeaaCrcPure
namespace Go.Proofs.Ytlhnpicmjjddeaa

/-- a number's lowest bytes, the highest first -/
def be : Nat → Nat → List UInt8
  | 0, _ => []
  | s + 1, n => (n / 256 ^ s).toUInt8 :: be s n
/-- the number that bytes are -/
def val (l : List UInt8) : Nat := l.foldl (fun n c => n * 256 + c.toNat) 0
theorem be_length (s n : Nat) : (be s n).length = s := by
  induction s with
  | zero => rfl
  | succ s ih => simp [be, ih]
theorem val_nil : val [] = 0 := rfl
theorem val_snoc (l : List UInt8) (c : UInt8) : val (l ++ [c]) = val l * 256 + c.toNat := by
  unfold val; rw [List.foldl_append]; rfl
theorem foldl_val (l : List UInt8) : ∀ a, l.foldl (fun n c => n * 256 + c.toNat) a = a * 256 ^ l.length + val l := by
  unfold val
  induction l with
  | nil => intro a; simp
  | cons c l ih =>
    intro a
    simp only [List.foldl_cons, List.length_cons]
    rw [ih (a * 256 + c.toNat), ih (0 * 256 + c.toNat), Nat.pow_succ]
    rw [Nat.add_mul, Nat.zero_mul, Nat.zero_add, Nat.mul_assoc, Nat.mul_comm 256]
    omega
theorem val_cons (c : UInt8) (l : List UInt8) : val (c :: l) = c.toNat * 256 ^ l.length + val l := by
  have := foldl_val l c.toNat
  unfold val at this ⊢
  simp only [List.foldl_cons, Nat.zero_mul, Nat.zero_add]
  exact this
theorem val_lt (l : List UInt8) : val l < 256 ^ l.length := by
  induction l with
  | nil => simp [val]
  | cons c l ih =>
    rw [val_cons, List.length_cons, Nat.pow_succ]
    have hc := c.toNat_lt
    have : c.toNat * 256 ^ l.length ≤ 255 * 256 ^ l.length := Nat.mul_le_mul_right _ (by omega)
    omega
theorem val_be (s n : Nat) : val (be s n) = n % 256 ^ s := by
  induction s with
  | zero => simp [be, val, Nat.mod_one]
  | succ s ih =>
    rw [be, val_cons, ih, be_length]
    have h : (n / 256 ^ s).toUInt8.toNat = n / 256 ^ s % 256 := by simp
    rw [h, Nat.pow_succ, Nat.mod_mul, Nat.mul_comm, Nat.add_comm]

/-- A frame. -/
structure Fr where
  life : Int
  era : Int
  seq : Int
  part : Int
  parts : Int
  data : List UInt8

def stampOk (life era seq : Int) : Bool := decide (1 ≤ life ∧ life ≤ 16777215 ∧ 0 ≤ era ∧ era ≤ 16777215 ∧ 1 ≤ seq ∧ seq ≤ 4294967295)
theorem stampOk_iff {life era seq : Int} : stampOk life era seq = true ↔ (1 ≤ life ∧ life ≤ 16777215 ∧ 0 ≤ era ∧ era ≤ 16777215 ∧ 1 ≤ seq ∧ seq ≤ 4294967295) := by
  unfold stampOk; exact decide_eq_true_iff
def partOk (part parts : Int) (n : Nat) : Bool := decide (1 ≤ parts ∧ parts ≤ 255 ∧ 0 ≤ part ∧ part < parts ∧ n ≤ 80)
theorem partOk_iff {part parts : Int} {n : Nat} : partOk part parts n = true ↔ (1 ≤ parts ∧ parts ≤ 255 ∧ 0 ≤ part ∧ part < parts ∧ n ≤ 80) := by
  unfold partOk; exact decide_eq_true_iff
def Fr.right (f : Fr) : Bool := stampOk f.life f.era f.seq && partOk f.part f.parts f.data.length
theorem Fr.right_iff {f : Fr} : f.right = true ↔ (stampOk f.life f.era f.seq = true ∧ partOk f.part f.parts f.data.length = true) := by
  unfold Fr.right; exact Bool.and_eq_true_iff

def Fr.head (f : Fr) : List UInt8 := be 3 f.life.toNat ++ be 3 f.era.toNat ++ be 4 f.seq.toNat
def Fr.more (f : Fr) : List UInt8 := [f.part.toNat.toUInt8, f.parts.toNat.toUInt8, f.data.length.toUInt8]
def Fr.inner (f : Fr) : List UInt8 := (f.head ++ f.more ++ f.data) ++ List.replicate (93 - (f.head ++ f.more ++ f.data).length) 0
/-- a frame as a sector -/
def enc (f : Fr) : List UInt8 := CrcPure.sealed f.inner
theorem Fr.head_length (f : Fr) : f.head.length = 10 := by unfold Fr.head; simp [be_length]
theorem Fr.body_length (f : Fr) : (f.head ++ f.more ++ f.data).length = 13 + f.data.length := by
  rw [List.length_append, List.length_append, f.head_length]; simp [Fr.more]
theorem Fr.inner_length (f : Fr) (h : f.data.length ≤ 80) : f.inner.length = 93 := by
  unfold Fr.inner; rw [List.length_append, f.body_length, List.length_replicate]; omega
theorem enc_length (f : Fr) (h : f.data.length ≤ 80) : (enc f).length = 96 := by
  unfold enc; rw [CrcPure.sealed_length, f.inner_length h]

/-- the fields that stand in a sector -/
def fld (b : List UInt8) : Fr := ⟨val (b.take 3), val ((b.drop 3).take 3), val ((b.drop 6).take 4), (b.getD 10 0).toNat, (b.getD 11 0).toNat, (b.drop 13).take (b.getD 12 0).toNat⟩

theorem fld_enc (f : Fr) (h : f.right = true) : fld (enc f) = f := by
  obtain ⟨h1, h2⟩ := Fr.right_iff.1 h
  obtain ⟨a1, a2, a3, a4, a5, a6⟩ := stampOk_iff.1 h1
  obtain ⟨b1, b2, b3, b4, b5⟩ := partOk_iff.1 h2
  obtain ⟨life, era, seq, part, parts, data⟩ := f
  simp only at *
  have e : ∀ t : List UInt8, be 3 life.toNat ++ be 3 era.toNat ++ be 4 seq.toNat ++ [part.toNat.toUInt8, parts.toNat.toUInt8, data.length.toUInt8] ++ data ++ t = be 3 life.toNat ++ (be 3 era.toNat ++ (be 4 seq.toNat ++ (part.toNat.toUInt8 :: parts.toNat.toUInt8 :: data.length.toUInt8 :: (data ++ t)))) := by
    intro t; simp
  have E : ∃ t, enc ⟨life, era, seq, part, parts, data⟩ = be 3 life.toNat ++ (be 3 era.toNat ++ (be 4 seq.toNat ++ (part.toNat.toUInt8 :: parts.toNat.toUInt8 :: data.length.toUInt8 :: (data ++ t)))) := by
    unfold enc CrcPure.sealed Fr.inner Fr.head Fr.more
    rw [List.append_assoc, e]
    exact ⟨_, rfl⟩
  obtain ⟨t, E⟩ := E
  have l1 := be_length 3 life.toNat
  have l2 := be_length 3 era.toNat
  have l3 := be_length 4 seq.toNat
  unfold fld
  rw [E]
  have d3 : (be 3 life.toNat ++ (be 3 era.toNat ++ (be 4 seq.toNat ++ (part.toNat.toUInt8 :: parts.toNat.toUInt8 :: data.length.toUInt8 :: (data ++ t))))).drop 3 = be 3 era.toNat ++ (be 4 seq.toNat ++ (part.toNat.toUInt8 :: parts.toNat.toUInt8 :: data.length.toUInt8 :: (data ++ t))) := List.drop_left' l1
  have d6 : (be 3 life.toNat ++ (be 3 era.toNat ++ (be 4 seq.toNat ++ (part.toNat.toUInt8 :: parts.toNat.toUInt8 :: data.length.toUInt8 :: (data ++ t))))).drop 6 = be 4 seq.toNat ++ (part.toNat.toUInt8 :: parts.toNat.toUInt8 :: data.length.toUInt8 :: (data ++ t)) := by
    rw [show 6 = 3 + 3 from rfl, ← List.drop_drop, d3, List.drop_left' l2]
  have d10 : (be 3 life.toNat ++ (be 3 era.toNat ++ (be 4 seq.toNat ++ (part.toNat.toUInt8 :: parts.toNat.toUInt8 :: data.length.toUInt8 :: (data ++ t))))).drop 10 = part.toNat.toUInt8 :: parts.toNat.toUInt8 :: data.length.toUInt8 :: (data ++ t) := by
    rw [show 10 = 6 + 4 from rfl, ← List.drop_drop, d6, List.drop_left' l3]
  have g : ∀ k, (be 3 life.toNat ++ (be 3 era.toNat ++ (be 4 seq.toNat ++ (part.toNat.toUInt8 :: parts.toNat.toUInt8 :: data.length.toUInt8 :: (data ++ t))))).getD (10 + k) 0 = (part.toNat.toUInt8 :: parts.toNat.toUInt8 :: data.length.toUInt8 :: (data ++ t)).getD k 0 := by
    intro k; rw [List.getD_eq_getElem?_getD, List.getD_eq_getElem?_getD, ← List.getElem?_drop, d10]
  have d13 : (be 3 life.toNat ++ (be 3 era.toNat ++ (be 4 seq.toNat ++ (part.toNat.toUInt8 :: parts.toNat.toUInt8 :: data.length.toUInt8 :: (data ++ t))))).drop 13 = data ++ t := by
    rw [show 13 = 10 + 3 from rfl, ← List.drop_drop, d10]; rfl
  have g0 := g 0
  have g1 := g 1
  have g2 := g 2
  simp only [Nat.add_zero, List.getD_cons_zero] at g0
  simp only [List.getD_cons_succ, List.getD_cons_zero] at g1 g2
  rw [g0, g1, g2, d13, d6, d3, List.take_left' l1, List.take_left' l2, List.take_left' l3]
  simp only [val_be, CrcPure.toUInt8_nat]
  have t80 : (data ++ t).take (data.length % 256) = data := by rw [Nat.mod_eq_of_lt (by omega)]; exact List.take_left' rfl
  rw [t80]
  congr 1 <;> omega

theorem enc_inj {f g : Fr} (hf : f.right = true) (hg : g.right = true) (h : enc f = enc g) : f = g := by
  rw [← fld_enc f hf, ← fld_enc g hg, h]
/-- the frame that a sector is -/
def dec (b : List UInt8) : Option Fr := if (fld b).right && decide (enc (fld b) = b) then some (fld b) else none
theorem dec_some {b : List UInt8} {f : Fr} : dec b = some f ↔ f.right = true ∧ enc f = b := by
  constructor
  · unfold dec
    split
    · rename_i h
      rw [Bool.and_eq_true, decide_eq_true_eq] at h
      intro e
      cases e
      exact h
    · intro e; cases e
  · rintro ⟨h, rfl⟩
    unfold dec
    rw [fld_enc f h]
    simp [h]
theorem dec_enc {f : Fr} (h : f.right = true) : dec (enc f) = some f := dec_some.2 ⟨h, rfl⟩
theorem dec_none {b : List UInt8} (h : ¬ ((fld b).right = true ∧ enc (fld b) = b)) : dec b = none := by
  unfold dec
  rw [if_neg]
  rw [Bool.and_eq_true, decide_eq_true_eq]
  exact h
theorem dec_length {b : List UInt8} {f : Fr} (h : dec b = some f) : b.length = 96 := by
  obtain ⟨h1, rfl⟩ := dec_some.1 h
  exact enc_length f (partOk_iff.1 (Fr.right_iff.1 h1).2).2.2.2.2
def Fr.zero : Fr := ⟨0, 0, 0, 0, 0, []⟩
/-- the frame that Decode hands back -/
def decF (b : List UInt8) : Fr := (dec b).getD Fr.zero
def decE (b : List UInt8) : Int := if (dec b).isSome then 0 else 3

/-! ### records -/
def nparts (n : Nat) : Nat := max 1 ((n + 79) / 80)
def chunk (b : List UInt8) (i : Nat) : List UInt8 := (b.drop (i * 80)).take 80
def cutAt (life era seq : Int) (b : List UInt8) (i : Nat) : Fr := ⟨life, era, seq, i, nparts b.length, chunk b i⟩
def cutFr (life era seq : Int) (b : List UInt8) : List Fr := (List.range (nparts b.length)).map (cutAt life era seq b)
def cutL (life era seq : Int) (b : List UInt8) : List (List UInt8) := (cutFr life era seq b).map enc
def cutE (life era seq : Int) (b : List UInt8) : Int := if nparts b.length ≤ 255 then (if stampOk life era seq then 0 else 2) else 6
theorem nparts_pos (n : Nat) : 1 ≤ nparts n := Nat.le_max_left _ _
theorem cutFr_length (life era seq : Int) (b : List UInt8) : (cutFr life era seq b).length = nparts b.length := by simp [cutFr]
theorem cutL_length (life era seq : Int) (b : List UInt8) : (cutL life era seq b).length = nparts b.length := by simp [cutL, cutFr_length]
theorem cutE_zero {life era seq : Int} {b : List UInt8} : cutE life era seq b = 0 ↔ (nparts b.length ≤ 255 ∧ stampOk life era seq = true) := by
  unfold cutE
  split <;> rename_i h1
  · cases h2 : stampOk life era seq <;> simp [h1]
  · simp [h1]
theorem cutAt_right {life era seq : Int} {b : List UInt8} {i : Nat} (h : cutE life era seq b = 0) (hi : i < nparts b.length) : (cutAt life era seq b i).right = true := by
  obtain ⟨h1, h2⟩ := cutE_zero.1 h
  refine Fr.right_iff.2 ⟨h2, partOk_iff.2 ?_⟩
  have : (chunk b i).length ≤ 80 := by unfold chunk; rw [List.length_take]; omega
  simp only [cutAt]
  exact ⟨by omega, by omega, by omega, by omega, this⟩
theorem cutL_at {life era seq : Int} {b : List UInt8} {i : Nat} (hi : i < nparts b.length) : (cutL life era seq b)[i]'(by rw [cutL_length]; exact hi) = enc (cutAt life era seq b i) := by
  simp [cutL, cutFr]

def Fr.fits (g f : Fr) (i : Nat) : Bool := decide (g.life = f.life ∧ g.era = f.era ∧ g.seq = f.seq ∧ g.parts = f.parts) && (decide (g.part = i) && (g.right && (decide ((i : Int) = g.parts - 1) || decide (g.data.length = 80))))
theorem Fr.fits_iff {g f : Fr} {i : Nat} : g.fits f i = true ↔ (g.life = f.life ∧ g.era = f.era ∧ g.seq = f.seq ∧ g.parts = f.parts) ∧ g.part = i ∧ g.right = true ∧ ((i : Int) = g.parts - 1 ∨ g.data.length = 80) := by
  unfold Fr.fits
  simp only [Bool.and_eq_true, Bool.or_eq_true, decide_eq_true_eq]
/-- whether frames are a record -/
def Joins (l : List Fr) : Prop := ∃ f, l[0]? = some f ∧ (l.length : Int) = f.parts ∧ ∀ (i : Nat) (g : Fr), l[i]? = some g → g.fits f i = true
def joined (l : List Fr) : List UInt8 := (l.map (·.data)).flatten

theorem chunk_full {b : List UInt8} {i : Nat} (h : i + 1 < nparts b.length) : (chunk b i).length = 80 := by
  unfold chunk
  rw [List.length_take, List.length_drop]
  unfold nparts at h
  omega
theorem chunks (b : List UInt8) : ∀ n, ((List.range n).map (chunk b)).flatten = b.take (n * 80) := by
  intro n
  induction n with
  | zero => simp
  | succ n ih =>
    rw [List.range_succ, List.map_append, List.flatten_append, ih]
    simp only [List.map_cons, List.map_nil, List.flatten_cons, List.flatten_nil, List.append_nil]
    unfold chunk
    rw [Nat.succ_mul, List.take_add]
theorem joined_cut (life era seq : Int) (b : List UInt8) : joined (cutFr life era seq b) = b := by
  unfold joined cutFr
  rw [List.map_map]
  have : ((fun x : Fr => x.data) ∘ cutAt life era seq b) = chunk b := by funext i; rfl
  rw [this, chunks]
  refine List.take_of_length_le ?_
  unfold nparts
  omega
theorem cutFr_at {life era seq : Int} {b : List UInt8} {i : Nat} (hi : i < nparts b.length) : (cutFr life era seq b)[i]? = some (cutAt life era seq b i) := by
  simp [cutFr, hi]
theorem joins_cut {life era seq : Int} {b : List UInt8} (h : cutE life era seq b = 0) : Joins (cutFr life era seq b) := by
  refine ⟨cutAt life era seq b 0, cutFr_at (nparts_pos _), ?_, ?_⟩
  · rw [cutFr_length]; rfl
  · intro i g hg
    have hi : i < nparts b.length := by
      have := (List.getElem?_eq_some_iff.1 hg).1
      rwa [cutFr_length] at this
    rw [cutFr_at hi] at hg
    cases hg
    refine Fr.fits_iff.2 ⟨⟨rfl, rfl, rfl, rfl⟩, rfl, cutAt_right h hi, ?_⟩
    by_cases h2 : i + 1 < nparts b.length
    · exact .inr (chunk_full h2)
    · refine .inl ?_
      show (i : Int) = (nparts b.length : Int) - 1
      omega
end Go.Proofs.Ytlhnpicmjjddeaa
