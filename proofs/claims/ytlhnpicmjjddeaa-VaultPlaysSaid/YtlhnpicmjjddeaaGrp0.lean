/- Memory, told plainly: slices that read as lists, worlds of which only some blocks turn. No condition; no program in sight. Small functions of the statements: Cut, In, Same (layer 1's reference). DISK: the drive's block, and the small functions on it. The sum of 24 bits, in plain numbers: it is linear, and a turn of three neighbours is told. No program in sight. FRAME, plainly: frames as sectors, records as frames. No condition; no program in sight. DRIVE, plainly. No condition; no program in sight. DISK: slices.IndexFunc, ContainsFunc with long; slices.Index, Contains of ints. DISK: Start, Fuse on a live drive. Rows of the program's table of types that the walks ask for. append(b, make([]byte, n)...): noughts behind a row of bytes of the call's own. No program in sight. What the functions of Go's library compute here: Clone, Grow, Concat of rows of bytes; Equal. DISK: Clone of ints, Fuse on a live drive, keep. DISK: New. -/
import Derived.WalkKit
import Derived.Deep.LoopGhost
import Derived.Deep.Cut
import Derived.Deep.CutRange
import Derived.Deep.DeepCutAuto
import Derived.Deep.QuietTactic
import Derived.BigQuiet
import Derived.Laws.CopyOwn
import Derived.WalkSpells
import Derived.Lib.SlBytesConst
import Derived.Test.YtlhnpicmjjddeaaRows
import Derived.Lib.AppendZerosOnto
import Derived.Lib.AppendZeros
set_option linter.unusedVariables false
set_option linter.unusedSimpArgs false
namespace Go.Proofs.Ytlhnpicmjjddeaa
open Go.RowKit

theorem hid {p : Prop} (h : p) : Hid p := h

/-- w' is w with new blocks, and with writes to the blocks M alone. -/
structure Keep (M : Nat → Prop) (w w' : World) : Prop where
  os : w'.os = w.os
  tape : w'.tape = w.tape
  output : w'.output = w.output
  size : w.heap.size ≤ w'.heap.size
  block : ∀ k, k < w.heap.size → ¬ M k → w'.heap[k]? = w.heap[k]?

def NoB (_ : Nat) : Prop := False
/-- only new blocks -/
def Same (w w' : World) : Prop := Keep NoB w w'

theorem Keep.refl (M : Nat → Prop) (w : World) : Keep M w w := ⟨rfl, rfl, rfl, Nat.le_refl _, fun _ _ _ => rfl⟩
theorem Keep.trans {M : Nat → Prop} {a b c : World} (h : Keep M a b) (k : Keep M b c) : Keep M a c :=
  ⟨k.os.trans h.os, k.tape.trans h.tape, k.output.trans h.output, Nat.le_trans h.size k.size,
    fun i hi hm => (k.block i (Nat.lt_of_lt_of_le hi h.size) hm).trans (h.block i hi hm)⟩
/-- blocks that are new to a are let go besides -/
theorem Keep.weak {M M' : Nat → Prop} {a b : World} (h : Keep M a b) (hm : ∀ k, k < a.heap.size → M k → M' k) : Keep M' a b :=
  ⟨h.os, h.tape, h.output, h.size, fun i hi hn => h.block i hi fun x => hn (hm i hi x)⟩
theorem Keep.trans' {M M' : Nat → Prop} {a b c : World} (h : Keep M a b) (k : Keep M' b c) (hm : ∀ i, i < a.heap.size → M' i → M i) : Keep M a c :=
  ⟨k.os.trans h.os, k.tape.trans h.tape, k.output.trans h.output, Nat.le_trans h.size k.size,
    fun i hi hn => (k.block i (Nat.lt_of_lt_of_le hi h.size) (fun x => hn (hm i hi x))).trans (h.block i hi hn)⟩
theorem Keep.same {M : Nat → Prop} {a b c : World} (h : Keep M a b) (k : Same b c) : Keep M a c := h.trans' k fun _ _ x => x.elim
theorem Same.keep {a b : World} (h : Same a b) (M : Nat → Prop) : Keep M a b := h.weak fun _ _ x => x.elim
theorem Same.refl (w : World) : Same w w := Keep.refl _ w
theorem Same.trans {a b c : World} (h : Same a b) (k : Same b c) : Same a c := Keep.trans h k
theorem Keep.drew {M : Nat → Prop} {a w : World} (h : Keep M a w) : Keep M a w.drew := ⟨h.os, h.tape, h.output, h.size, h.block⟩
theorem Keep.drewN {M : Nat → Prop} {a w : World} (h : Keep M a w) (n : Nat) : Keep M a (w.drewN n) := ⟨h.os, h.tape, h.output, h.size, h.block⟩
theorem Keep.alloc {M : Nat → Prop} {a w : World} (h : Keep M a w) (o : Obj) : Keep M a (w.alloc o) :=
  h.trans ⟨rfl, rfl, rfl, by simp, fun k hk _ => Below.heap_alloc _ _ _ hk⟩
theorem Keep.setCell {M : Nat → Prop} {a w : World} (h : Keep M a w) {p : Addr} (hp : M p.block ∨ a.heap.size ≤ p.block) (u : Value) : Keep M a (w.setCell p u) := by
  refine ⟨h.os, h.tape, h.output, by simpa using h.size, fun k hk hm => ?_⟩
  rw [Below.heap_setCell _ _ _ _ (fun e => by rcases hp with hp | hp; exact hm (e ▸ hp); omega)]
  exact h.block k hk hm
theorem Keep.grown {M : Nat → Prop} {a w w' : World} {row : Option Nat} (h : Keep M a w) (hg : w.grownBy w' row) (hr : ∀ k, row = some k → M k ∨ a.heap.size ≤ k) : Keep M a w' :=
  ⟨hg.os.trans h.os, hg.tape.trans h.tape, hg.output.trans h.output, Nat.le_trans h.size hg.size, fun k hk hm =>
    (hg.block k (Nat.lt_of_lt_of_le hk h.size) (fun e => by rcases hr k e.symm with x | x; exact hm x; omega)).trans (h.block k hk hm)⟩
theorem Same.drew {a w : World} (h : Same a w) : Same a w.drew := Keep.drew h
theorem Same.drewN {a w : World} (h : Same a w) (n : Nat) : Same a (w.drewN n) := Keep.drewN h n
theorem Same.alloc {a w : World} (h : Same a w) (o : Obj) : Same a (w.alloc o) := Keep.alloc h o
theorem Same.setCell {a w : World} (h : Same a w) {p : Addr} (hp : a.heap.size ≤ p.block) (u : Value) : Same a (w.setCell p u) := Keep.setCell h (.inr hp) u
theorem Same.grown {a w w' : World} {row : Option Nat} (h : Same a w) (hg : w.grownBy w' row) (hr : ∀ k, row = some k → a.heap.size ≤ k) : Same a w' :=
  Keep.grown h hg fun k e => .inr (hr k e)
theorem Same.below {a w : World} (h : Same a w) : Below a.heap.size a w := ⟨h.os, h.tape, h.output, h.size, fun k hk => h.block k hk fun x => x⟩
theorem Same.of_below {a w : World} (h : Below a.heap.size a w) : Same a w := ⟨h.os, h.tape, h.output, h.size, fun k hk _ => h.block k hk⟩
theorem Same.cell {a w : World} (h : Same a w) {p : Addr} (hp : p.block < a.heap.size) : w.cell? p = a.cell? p := h.below.cell hp

/-- The slice value v: n elements of type e, 'size' cells each; its cells read as xs. -/
def Sl (w : World) (e : TypeId) (size : Nat) (v : Value) (n : Nat) (xs : List Value) : Prop :=
  xs.length = n * size ∧ ∃ ao cap, v = .slice ao n cap ∧ n ≤ cap ∧ cap ≤ maxLen ∧ (ao = none → cap = 0) ∧
    (n = 0 ∨ ∃ g o cur fr, ao = some ⟨g, o, none⟩ ∧ w.heap[g]? = some (.cells cur e fr) ∧ xs <+: cur.toList.drop o)

theorem Sl.nil (w : World) (e : TypeId) (size : Nat) : Sl w e size (.slice none 0 0) 0 [] :=
  ⟨by simp, none, 0, rfl, Nat.le_refl _, Nat.zero_le _, fun _ => rfl, .inl rfl⟩

theorem Sl.form {w : World} {e : TypeId} {size : Nat} {v : Value} {n : Nat} {xs : List Value} (h : Sl w e size v n xs) : ∃ ao cap, v = .slice ao n cap ∧ n ≤ cap ∧ cap ≤ maxLen :=
  let ⟨_, ao, cap, h1, h2, h3, _⟩ := h; ⟨ao, cap, h1, h2, h3⟩

/-- the block of a slice that has elements -/
def homeOf : Value → Option Nat
  | .slice (some a) (_ + 1) _ => some a.block
  | _ => none

theorem Sl.keep {w w' : World} {M : Nat → Prop} {e : TypeId} {size : Nat} {v : Value} {n : Nat} {xs : List Value} (h : Sl w e size v n xs) (k : Keep M w w')
    (hm : ∀ g, homeOf v = some g → ¬ M g) : Sl w' e size v n xs := by
  obtain ⟨h1, ao, cap, rfl, h2, h3, h4, h5⟩ := h
  refine ⟨h1, ao, cap, rfl, h2, h3, h4, ?_⟩
  rcases h5 with h5 | ⟨g, o, cur, fr, rfl, hg, hx⟩
  · exact .inl h5
  · cases n with
    | zero => exact .inl rfl
    | succ n => exact .inr ⟨g, o, cur, fr, rfl, by rw [k.block g (Array.getElem?_eq_some_iff.1 hg).1 (hm g rfl)]; exact hg, hx⟩
theorem Sl.same {w w' : World} {e : TypeId} {size : Nat} {v : Value} {n : Nat} {xs : List Value} (h : Sl w e size v n xs) (k : Same w w') : Sl w' e size v n xs :=
  h.keep k fun _ _ x => x
theorem Sl.lt {w : World} {e : TypeId} {size : Nat} {v : Value} {n : Nat} {xs : List Value} (h : Sl w e size v n xs) {g : Nat} (hg : homeOf v = some g) :
    ∃ cur fr, w.heap[g]? = some (.cells cur e fr) := by
  obtain ⟨h1, ao, cap, rfl, h2, h3, h4, h5⟩ := h
  rcases h5 with h5 | ⟨g', o, cur, fr, rfl, hg', hx⟩
  · subst h5; cases ao <;> simp [homeOf] at hg
  · cases n with
    | zero => simp [homeOf] at hg
    | succ n => simp [homeOf] at hg; subst hg; exact ⟨cur, fr, hg'⟩
theorem Sl.home_lt {w : World} {e : TypeId} {size : Nat} {v : Value} {n : Nat} {xs : List Value} (h : Sl w e size v n xs) {g : Nat} (hg : homeOf v = some g) : g < w.heap.size :=
  let ⟨_, _, x⟩ := h.lt hg; (Array.getElem?_eq_some_iff.1 x).1

/-- what an owned row reads as -/
theorem Sl.of_owns {w : World} {base : Nat} {e : TypeId} {size : Nat} {v : Value} {n : Nat} {xs : List Value} (h : w.ownsRow base e size v n xs) : Sl w e size v n xs := by
  obtain ⟨h1, h2⟩ := h
  rcases h2 with ⟨rfl, rfl⟩ | ⟨g, cap, cur, rfl, hb, hg, hn, hm, hs, hx⟩
  · exact ⟨h1, none, 0, rfl, Nat.le_refl _, Nat.zero_le _, fun _ => rfl, .inl rfl⟩
  · refine ⟨h1, _, cap, rfl, hn, hm, (fun x => nomatch x), .inr ⟨g, 0, cur, (0, 0), rfl, hg, ?_⟩⟩
    rw [List.drop_zero, ← hx]
    exact List.take_prefix _ _
/-- an element's cells -/
theorem Sl.cells {w : World} {e : TypeId} {size : Nat} {ao : Option Addr} {n cap : Nat} {xs : List Value} (h : Sl w e size (.slice ao n cap) n xs) (hn : n ≠ 0) :
    ∃ g o, ao = some ⟨g, o, none⟩ ∧ ∀ j u, xs[j]? = some u → w.cell? ⟨g, o + j, none⟩ = some u := by
  obtain ⟨h1, ao', cap', hv, h2, h3, h4, h5⟩ := h
  simp only [Value.slice.injEq] at hv
  obtain ⟨rfl, _, rfl⟩ := hv
  rcases h5 with h5 | ⟨g, o, cur, fr, rfl, hg, hx⟩
  · exact absurd h5 hn
  · refine ⟨g, o, rfl, fun j u hu => ?_⟩
    rw [cell_of_row w g (o + j) cur e fr hg]
    obtain ⟨t, ht⟩ := hx
    have : (cur.toList.drop o)[j]? = some u := by
      rw [← ht, List.getElem?_append_left (List.getElem?_eq_some_iff.1 hu).1, hu]
    rw [List.getElem?_drop, Array.getElem?_toList] at this
    exact this

/-- a byte in a cell -/
def u8 (x : UInt8) : Value := .int .u8 (x.toNat : Int)
/-- The slice value v reads as these bytes. -/
def Bytes (w : World) (e : TypeId) (v : Value) (l : List UInt8) : Prop := Sl w e 1 v l.length (l.map u8)

theorem Bytes.nil (w : World) (e : TypeId) : Bytes w e (.slice none 0 0) [] := Sl.nil w e 1
theorem Bytes.form {w : World} {e : TypeId} {v : Value} {l : List UInt8} (h : Bytes w e v l) : ∃ ao cap, v = .slice ao l.length cap ∧ l.length ≤ cap ∧ cap ≤ maxLen := Sl.form h
theorem Bytes.len {w : World} {e : TypeId} {ao : Option Addr} {n cap : Nat} {l : List UInt8} (h : Bytes w e (.slice ao n cap) l) : n = l.length := by
  obtain ⟨_, ao', cap', hv, _⟩ := h
  simp only [Value.slice.injEq] at hv
  exact hv.2.1
theorem Bytes.cells {w : World} {e : TypeId} {ao : Option Addr} {cap : Nat} {l : List UInt8} (h : Bytes w e (.slice ao l.length cap) l) (hn : l.length ≠ 0) :
    ∃ g o, ao = some ⟨g, o, none⟩ ∧ ∀ j (hj : j < l.length), w.cell? ⟨g, o + j, none⟩ = some (.int .u8 ((l[j]'hj).toNat : Int)) := by
  obtain ⟨g, o, h1, h2⟩ := Sl.cells h hn
  exact ⟨g, o, h1, fun j hj => h2 j _ (by rw [List.getElem?_map, List.getElem?_eq_getElem hj]; rfl)⟩
theorem Bytes.same {w w' : World} {e : TypeId} {v : Value} {l : List UInt8} (h : Bytes w e v l) (k : Same w w') : Bytes w' e v l := Sl.same h k
theorem Bytes.keep {w w' : World} {M : Nat → Prop} {e : TypeId} {v : Value} {l : List UInt8} (h : Bytes w e v l) (k : Keep M w w') (hm : ∀ g, homeOf v = some g → ¬ M g) : Bytes w' e v l := Sl.keep h k hm

theorem Sl.head {w : World} {e : TypeId} {size : Nat} {ao : Option Addr} {n cap : Nat} {xs : List Value} (h : Sl w e size (.slice ao n cap) n xs) (m : Nat) (hm : m ≤ n) :
    Sl w e size (.slice ao m cap) m (xs.take (m * size)) := by
  obtain ⟨h1, ao', cap', hv, h2, h3, h4, h5⟩ := h
  simp only [Value.slice.injEq] at hv
  obtain ⟨rfl, _, rfl⟩ := hv
  refine ⟨?_, ao, cap, rfl, by omega, h3, h4, ?_⟩
  · rw [List.length_take, h1]; exact Nat.min_eq_left (Nat.mul_le_mul_right _ hm)
  · rcases h5 with h5 | ⟨g, o, cur, fr, rfl, hg, hx⟩
    · exact .inl (by omega)
    · exact .inr ⟨g, o, cur, fr, rfl, hg, (List.take_prefix _ _).trans hx⟩
theorem Bytes.head {w : World} {e : TypeId} {ao : Option Addr} {cap : Nat} {l : List UInt8} (h : Bytes w e (.slice ao l.length cap) l) (m : Nat) (hm : m ≤ l.length) :
    Bytes w e (.slice ao m cap) (l.take m) := by
  have := Sl.head h m hm
  have e1 : (l.take m).length = m := by rw [List.length_take]; omega
  unfold Bytes
  rw [e1, List.map_take, show m = m * 1 from by omega]
  simpa using this

/-- a call hands back a slice that reads as these bytes; the world stands but for draws -/
def RetBytes (e : TypeId) (l : List UInt8) (w : World) (en : Ending) (w' : World) : Prop := ∃ v, en = .returned v ∧ Bytes w e v l ∧ w = w'
/-- a call hands back a Bool; the world stands but for draws -/
def RetBool (b : Bool) (w : World) (en : Ending) (w' : World) : Prop := ∃ n, en = .returned (.bool b) ∧ w' = w.drewN n

theorem Same.of_drewN (w : World) (n : Nat) : Same w (w.drewN n) := (Same.refl w).drewN n
theorem Bytes.drewN {w : World} {e : TypeId} {v : Value} {l : List UInt8} (h : Bytes w e v l) (n : Nat) : Bytes (w.drewN n) e v l := h.same (Same.of_drewN w n)

/-- a row that was just laid, written out -/
theorem Sl.made {w : World} (e : TypeId) (size : Nat) (g n cap : Nat) (cur : Array Value) (xs : List Value) {fr : Nat × Nat} (hg : w.heap[g]? = some (.cells cur e fr)) (hn : n ≤ cap) (hm : cap ≤ maxLen)
    (hx : xs.length = n * size) (hp : xs <+: cur.toList) : Sl w e size (.slice (some ⟨g, 0, none⟩) n cap) n xs :=
  ⟨hx, _, cap, rfl, hn, hm, (fun x => nomatch x), .inr ⟨g, 0, cur, fr, rfl, hg, by rwa [List.drop_zero]⟩⟩
theorem Bytes.made {w : World} (e : TypeId) (g n cap : Nat) (cur : Array Value) (l : List UInt8) {fr : Nat × Nat} (hg : w.heap[g]? = some (.cells cur e fr)) (hn : n ≤ cap) (hm : cap ≤ maxLen)
    (hl : l.length = n) (hp : l.map u8 <+: cur.toList) : Bytes w e (.slice (some ⟨g, 0, none⟩) n cap) l := by
  subst hl
  exact Sl.made e 1 g l.length cap cur _ hg hn hm (by simp) hp
/-- a call hands back a value; only new blocks -/
def RetSame (v : Value) (w : World) (en : Ending) (w' : World) : Prop := en = .returned v ∧ Same w w'

/-- the rows of the program's table for a slice type t and its element type e -/
structure RowTy (P : Program) (t e : TypeId) (size bytes : Nat) (z : Value) : Prop where
  under : P.underlying t = some (.slice e)
  info : (P.info? e).map (fun i => (i.zero, i.size, i.bytes)) = some (some z, size, bytes)
  cells : z.cells.size = size
  pos : 0 < size

/-- append to a row of the call's own, from any slice -/
theorem run_append_sl {P : Program} (w : World) {t e : TypeId} {size bytes : Nat} {z : Value} (T : RowTy P t e size bytes z) (ty : TypeId) {base : Nat} {v : Value} {n : Nat} {xs : List Value}
    (hown : w.ownsRow base e size v n xs) {e' : TypeId} {y : Value} {m : Nat} {ys : List Value} (hy : Sl w e' size y m ys) (h1 : ∀ u ∈ ys, u.oneCell' = true)
    (h63 : n + m ≤ maxLen) (hbytes : (n + m) * bytes ≤ 140737488355328) (hbase : base ≤ w.heap.size) :
    ∃ v' w', (Builtin.append_ #[t, t] ty #[v, y]).run P w = .ok v' w' ∧ w'.ownsRow base e size v' (n + m) (xs ++ ys) ∧ w.grownBy w' v.ownBlock := by
  obtain ⟨i, hi, hz, hs, hb⟩ := info_parts T.info
  obtain ⟨hl, ao, cap, rfl, h2, h3, h4, h5⟩ := hy
  cases ao with
  | none =>
    have hc := h4 rfl
    subst hc
    obtain rfl : m = 0 := by omega
    have hys : ys = [] := List.eq_nil_of_length_eq_zero (by simpa using hl)
    subst hys
    exact ⟨v, w, run_append_owned_none (P := P) w base t ty e i size T.under hi v n xs hown, by simpa using hown, World.grownBy.refl _ _⟩
  | some a =>
    have hnews : ∀ j u, ys[j]? = some u → w.cell? (a.add j) = some u := by
      intro j u hu
      rcases h5 with h5 | ⟨g, o, cur, fr, hao, hg, hx⟩
      · subst h5
        have : ys = [] := List.eq_nil_of_length_eq_zero (by simpa using hl)
        subst this
        simp at hu
      · cases hao
        have hadd : (⟨g, o, none⟩ : Addr).add j = ⟨g, o + j, none⟩ := by unfold Addr.add; split <;> simp_all
        obtain ⟨t, ht⟩ := hx
        have : (cur.toList.drop o)[j]? = some u := by
          rw [← ht, List.getElem?_append_left (List.getElem?_eq_some_iff.1 hu).1, hu]
        rw [List.getElem?_drop, Array.getElem?_toList] at this
        rw [hadd, cell_of_row w g (o + j) cur e' fr hg, this]
    obtain ⟨v', w', r1, r2, r3, _⟩ := run_append_own (P := P) w base t ty e i z size bytes T.under hi hz hs hb T.cells T.pos v n xs hown a m cap ys hl hnews h1 h63 hbytes hbase
    exact ⟨v', w', r1, r2, r3⟩

theorem wpList_append_sl {P : Program} {w : World} {ops : Array Oper} {rest : List Oper} {o : Oper} {a : Act} {Q : Exit → Act → World → Prop} (hgd : o.guard = none) (s x : Operand)
    {t e : TypeId} {size bytes : Nat} {z : Value} (T : RowTy P t e size bytes z) (ho : o.op = .call { callee := .builtin .append, args := #[s, x], argTypes := #[t, t] })
    {base : Nat} {v : Value} {n : Nat} {xs : List Value} (hown : w.ownsRow base e size v n xs) {e' : TypeId} {y : Value} {m : Nat} {ys : List Value} (hy : Sl w e' size y m ys) (hs : a.eval s = v) (hx : a.eval x = y)
    (h1 : ∀ u ∈ ys, u.oneCell' = true) (h63 : n + m ≤ maxLen) (hbytes : (n + m) * bytes ≤ 140737488355328) (hbase : base ≤ w.heap.size)
    (h : ∀ v' w', w'.ownsRow base e size v' (n + m) (xs ++ ys) → w.grownBy w' v.ownBlock → wpList P ops Q rest (a.put o.dst v') w') : wpList P ops Q (o :: rest) a w :=
  wpList_plain hgd fun _ hK => by
    obtain ⟨v', w', hr, h2, h3⟩ := run_append_sl (P := P) w T o.type hown hy h1 h63 hbytes hbase
    unfold Oper.wp execOp
    simp only [ho, resolve, invoke, builtin, Sem.run_bind, Sem.run_pure, Result.andThen_ok, List.map_toArray, List.map_cons, List.map_nil, hs, hx, hr]
    exact hK _ _ (h v' w' h2 h3)

theorem bytes_one (l : List UInt8) : ∀ u ∈ l.map u8, u.oneCell' = true := by
  intro u hu
  obtain ⟨x, _, rfl⟩ := List.mem_map.1 hu
  rfl

/-- a row of bytes of the call's own -/
def OwnB (w : World) (base : Nat) (v : Value) (l : List UInt8) : Prop := w.ownsRow base 5 1 v l.length (l.map u8)
theorem OwnB.nil (w : World) (base : Nat) : OwnB w base (.slice none 0 0) [] := World.ownsRow_nil w base 5 1
theorem OwnB.bytes {w : World} {base : Nat} {v : Value} {l : List UInt8} (h : OwnB w base v l) : Bytes w 5 v l := Sl.of_owns h
theorem OwnB.alloc {w : World} {base : Nat} {v : Value} {l : List UInt8} (h : OwnB w base v l) (o : Obj) : OwnB (w.alloc o) base v l := World.ownsRow.alloc h o
theorem OwnB.lt {w : World} {base : Nat} {v : Value} {l : List UInt8} (h : OwnB w base v l) : ∀ k, v.ownBlock = some k → base ≤ k ∧ k < w.heap.size := World.ownsRow.lt h
theorem OwnB.mono {w : World} {base base' : Nat} {v : Value} {l : List UInt8} (h : OwnB w base v l) (hb : base' ≤ base) : OwnB w base' v l := by
  obtain ⟨h1, h2⟩ := h
  refine ⟨h1, ?_⟩
  rcases h2 with h2 | ⟨g, cap, cur, a, b, c⟩
  · exact .inl h2
  · exact .inr ⟨g, cap, cur, a, Nat.le_trans hb b, c⟩
theorem OwnB.keep {w w' : World} {M : Nat → Prop} {base : Nat} {v : Value} {l : List UInt8} (h : OwnB w base v l) (k : Keep M w w') (hm : ∀ g, v.ownBlock = some g → ¬ M g) : OwnB w' base v l := by
  obtain ⟨h1, h2⟩ := h
  refine ⟨h1, ?_⟩
  rcases h2 with h2 | ⟨g, cap, cur, rfl, b, c, d⟩
  · exact .inl h2
  · exact .inr ⟨g, cap, cur, rfl, b, by rw [k.block g (Array.getElem?_eq_some_iff.1 c).1 (hm g rfl)]; exact c, d⟩

theorem wpList_append_bytes {P : Program} {w : World} {ops : Array Oper} {rest : List Oper} {o : Oper} {a : Act} {Q : Exit → Act → World → Prop} (hgd : o.guard = none) (s x : Operand)
    (t : TypeId) (T : RowTy P t 5 1 1 (.int .u8 0)) (ho : o.op = .call { callee := .builtin .append, args := #[s, x], argTypes := #[t, t] })
    {base : Nat} {v : Value} {l : List UInt8} (hown : OwnB w base v l) {e' : TypeId} {y : Value} {r : List UInt8} (hy : Bytes w e' y r) (hs : a.eval s = v) (hx : a.eval x = y)
    (hb : l.length + r.length ≤ 140737488355328) (hbase : base ≤ w.heap.size)
    (h : ∀ v' w', OwnB w' base v' (l ++ r) → w.grownBy w' v.ownBlock → wpList P ops Q rest (a.put o.dst v') w') : wpList P ops Q (o :: rest) a w :=
  wpList_append_sl hgd s x T ho hown hy hs hx (bytes_one r) (by unfold maxLen; omega) (by omega) hbase fun v' w' h1 h2 => h v' w' (by unfold OwnB; rw [List.length_append, List.map_append]; exact h1) h2

theorem ownBlock_nil : Value.ownBlock (.slice none 0 0) = none := rfl
theorem Same.grown_nil {a w w' : World} (h : Same a w) (hg : w.grownBy w' (Value.ownBlock (.slice none 0 0))) : Same a w' := h.grown hg fun k e => by cases e
theorem Same.grown_own {a w w' : World} {base : Nat} {v : Value} {l : List UInt8} (h : Same a w) (ho : OwnB w base v l) (hb : a.heap.size ≤ base) (hg : w.grownBy w' v.ownBlock) : Same a w' :=
  h.grown hg fun k e => Nat.le_trans hb (ho.lt k e).1

/-- The slice value v holds slices that read as these rows of bytes. -/
def Rows2 (w : World) (e : TypeId) (v : Value) (ls : List (List UInt8)) : Prop :=
  ∃ us, us.length = ls.length ∧ Sl w e 1 v ls.length us ∧ ∀ i (h : i < ls.length) u, us[i]? = some u → ∃ e', Bytes w e' u ls[i]

theorem Rows2.form {w : World} {e : TypeId} {v : Value} {ls : List (List UInt8)} (h : Rows2 w e v ls) : ∃ ao cap, v = .slice ao ls.length cap ∧ ls.length ≤ cap ∧ cap ≤ maxLen :=
  let ⟨_, _, h2, _⟩ := h; Sl.form h2
theorem Rows2.nil (w : World) (e : TypeId) : Rows2 w e (.slice none 0 0) [] := ⟨[], rfl, Sl.nil w e 1, fun i h => absurd h (Nat.not_lt_zero i)⟩
theorem Rows2.row {w : World} {e : TypeId} {ao : Option Addr} {cap : Nat} {ls : List (List UInt8)} (h : Rows2 w e (.slice ao ls.length cap) ls) (k : Nat) (hk : k < ls.length) :
    ∃ g o a c e', ao = some ⟨g, o, none⟩ ∧ w.cell? ⟨g, o + k, none⟩ = some (.slice a ls[k].length c) ∧ Bytes w e' (.slice a ls[k].length c) ls[k] := by
  obtain ⟨us, h1, h2, h3⟩ := h
  obtain ⟨g, o, rfl, hc⟩ := h2.cells (by omega)
  have hu : us[k]? = some (us[k]'(by omega)) := List.getElem?_eq_getElem (by omega)
  obtain ⟨e', hb⟩ := h3 k hk _ hu
  obtain ⟨a, c, he, _, _⟩ := hb.form
  rw [he] at hu hb
  exact ⟨g, o, a, c, e', rfl, hc k _ hu, hb⟩
theorem Rows2.same {w w' : World} {e : TypeId} {v : Value} {ls : List (List UInt8)} (h : Rows2 w e v ls) (k : Same w w') : Rows2 w' e v ls :=
  let ⟨us, h1, h2, h3⟩ := h; ⟨us, h1, h2.same k, fun i hi u hu => let ⟨e', hb⟩ := h3 i hi u hu; ⟨e', hb.same k⟩⟩

/-- the first k rows, one behind the other -/
def cat (ls : List (List UInt8)) (k : Nat) : List UInt8 := (ls.take k).flatten
def tot (ls : List (List UInt8)) (k : Nat) : Nat := (cat ls k).length
theorem cat_zero (ls : List (List UInt8)) : cat ls 0 = [] := rfl
theorem cat_all (ls : List (List UInt8)) : cat ls ls.length = ls.flatten := by unfold cat; rw [List.take_length]
theorem cat_succ (ls : List (List UInt8)) (k : Nat) (hk : k < ls.length) : cat ls (k + 1) = cat ls k ++ ls[k] := by
  unfold cat; rw [List.take_succ_eq_append_getElem hk, List.flatten_append]; simp
theorem tot_succ (ls : List (List UInt8)) (k : Nat) (hk : k < ls.length) : tot ls (k + 1) = tot ls k + ls[k].length := by
  unfold tot; rw [cat_succ ls k hk, List.length_append]
theorem tot_le (ls : List (List UInt8)) (k : Nat) : tot ls k ≤ ls.flatten.length := by
  have h := congrArg (fun x => x.flatten.length) (List.take_append_drop k ls)
  simp only [List.flatten_append, List.length_append] at h
  unfold tot cat
  omega
end Go.Proofs.Ytlhnpicmjjddeaa
namespace Go.Proofs.Ytlhnpicmjjddeaa
open Go.RowKit

theorem r01Cut (w : World) (e : TypeId) (v : Value) (l : List UInt8) (n : Nat) (hb : Bytes w e v l) :
    Calls Try.prog 22 #[v, .int .i64 n] w (RetBytes e (l.take n) w) := by
  obtain ⟨ao, cap, rfl, h1, h2⟩ := hb.form
  unfold maxLen at h2
  by_cases h : n < l.length
  · have hh := hb.head n (by omega)
    have H := hid hh; clear hh
    go_enter Try.func22, Try.ntmps22
    go_wp2
    go_ret
    exact ⟨_, rfl, H.out, rfl⟩
  · have ht : l.take n = l := List.take_of_length_le (by omega)
    rw [ht]; clear ht
    go_enter Try.func22, Try.ntmps22
    go_wp2
    go_ret
    exact ⟨_, rfl, hb, rfl⟩

theorem r01In (w : World) (n lo hi : Int) : Calls Try.prog 31 #[.int .i64 n, .int .i64 lo, .int .i64 hi] w
    fun e w' => e = .returned (.int .i64 (if n < lo then lo else if hi < n then hi else n)) ∧ w = w' := by
  by_cases h1 : n < lo
  · rw [if_pos h1]
    go_enter Try.func31, Try.ntmps31
    go_wp2
    go_ret
    exact ⟨rfl, rfl⟩
  · rw [if_neg h1]
    by_cases h2 : hi < n
    · rw [if_pos h2]
      go_enter Try.func31, Try.ntmps31
      go_wp2
      go_ret
      exact ⟨rfl, rfl⟩
    · rw [if_neg h2]
      go_enter Try.func31, Try.ntmps31
      go_wp2
      go_ret
      exact ⟨rfl, rfl⟩

theorem take_ext {l r : List UInt8} (k : Nat) (h1 : k < l.length) (h2 : k < r.length) (h : l.take k = r.take k) (hk : l[k].toNat = r[k].toNat) : l.take (k + 1) = r.take (k + 1) := by
  rw [List.take_succ_eq_append_getElem h1, List.take_succ_eq_append_getElem h2, h, UInt8.toNat_inj.1 hk]
theorem ne_of_at {l r : List UInt8} (k : Nat) (h1 : k < l.length) (h2 : k < r.length) (h : l[k].toNat ≠ r[k].toNat) : decide (l = r) = false := by
  apply decide_eq_false
  intro e
  subst e
  exact h rfl

set_option maxHeartbeats 800000 in
theorem r01Same (w : World) (e1 e2 : TypeId) (v1 v2 : Value) (l r : List UInt8) (hl : Bytes w e1 v1 l) (hr : Bytes w e2 v2 r) :
    Calls Try.prog 29 #[v1, v2] w (RetBool (decide (l = r)) w) := by
  obtain ⟨a1, c1, rfl, h1, h2⟩ := hl.form
  obtain ⟨a2, c2, rfl, h3, h4⟩ := hr.form
  unfold maxLen at h2 h4
  by_cases hlen : l.length = r.length
  · have hd : ((l.length : Int) != (r.length : Int)) = false := by simp [hlen]
    have hl1 : l.length ≤ r.length := by omega
    have hl2 : r.length ≤ l.length := by omega
    have HL := hid hlen; clear hlen
    go_enter Try.func29, Try.ntmps29
    go_wp2
    go_loopw [5] (fun i wr => ∃ k : Nat, ∃ n : Nat, k ≤ l.length ∧ i = .int .i64 k ∧ l.take k = r.take k ∧ wr = w.drewN n) (fun i _ => l.length - (intOf i).toNat)
    case atStart => exact ⟨0, 0, Nat.zero_le _, rfl, rfl, rfl⟩
    case round =>
      obtain ⟨k, n, hk, rfl, ht, rfl⟩ := hrel
      have HT := hid ht; clear ht
      by_cases hlt : k < l.length
      · obtain ⟨g, o, rfl, hcell⟩ := hl.cells (by omega)
        obtain ⟨g', o', rfl, hcell'⟩ := hr.cells (by omega)
        have hk2 : k < r.length := by omega
        have hc1 := hcell k hlt
        have hc2 := hcell' k hk2
        clear hcell hcell'
        by_cases hne : l[k].toNat = r[k].toNat
        · have HN := hid hne
          have hq : ((l[k].toNat : Int) != (r[k].toNat : Int)) = false := by simp [hne]
          clear hne
          go_wp2
          go_quiet (fail)
          go_wp2
          go_roundw
          case rel => exact ⟨k + 1, _, by omega, by go_num, take_ext k hlt hk2 HT.out HN.out, rfl⟩
          case measure => simp [intOf]; omega
        · have HN := hid (ne_of_at k hlt hk2 hne)
          have hq : ((l[k].toNat : Int) != (r[k].toNat : Int)) = true := by simp; omega
          clear hne
          go_wp2
          go_quiet (fail)
          go_wp2
          go_ret
          rw [HN.out]
          exact ⟨_, rfl, World.drewN_drewN _ _ _⟩
      · have HE : Hid (decide (l = r) = true) := by
          apply decide_eq_true
          have h5 := HT.out
          rwa [List.take_of_length_le (by omega), List.take_of_length_le (by omega)] at h5
        go_wp2
        go_ret
        rw [HE.out]
        exact ⟨_, rfl, rfl⟩
  · have hd : ((l.length : Int) != (r.length : Int)) = true := by simp; omega
    have HE : Hid (decide (l = r) = false) := decide_eq_false (fun e => hlen (by rw [e]))
    clear hlen
    go_enter Try.func29, Try.ntmps29
    go_wp2
    go_ret
    rw [HE.out]
    exact ⟨0, rfl, rfl⟩
theorem r01SameS (w : World) (e1 e2 : TypeId) (v1 v2 : Value) (l r : List UInt8) (hl : Bytes w e1 v1 l) (hr : Bytes w e2 v2 r) :
    Calls Try.prog 29 #[v1, v2] w (RetSame (.bool (decide (l = r))) w) :=
  (r01Same w e1 e2 v1 v2 l r hl hr).mono fun _ _ ⟨n, he, hw⟩ => ⟨he, by rw [hw]; exact Same.of_drewN w n⟩
end Go.Proofs.Ytlhnpicmjjddeaa
namespace Go.Proofs.Ytlhnpicmjjddeaa
open Go.RowKit

/-- the six cells of a drive -/
def Dc (w : World) (b : Nat) (off fused : Bool) (left : Int) (kv cv : Value) (n : Int) : Prop :=
  w.cell? ⟨b, 0, none⟩ = some (.bool off) ∧ w.cell? ⟨b, 1, none⟩ = some (.bool fused) ∧ w.cell? ⟨b, 2, none⟩ = some (.int .i64 left) ∧
  w.cell? ⟨b, 3, none⟩ = some kv ∧ w.cell? ⟨b, 4, none⟩ = some cv ∧ w.cell? ⟨b, 5, none⟩ = some (.int .i64 n)
/-- a drive that no call made -/
def Nobody (w : World) (p : Value) : Prop :=
  p = .pointer none ∨ ∃ b, p = .pointer (some ⟨b, 0, none⟩) ∧ Dc w b false false 0 (.slice none 0 0) (.slice none 0 0) 0

set_option maxRecDepth 100000 in
theorem dOk_none (w : World) (p : Value) (h : Nobody w p) : Calls Try.prog 93 #[p] w (RetSame (.bool false) w) := by
  rcases h with rfl | ⟨b, rfl, c0, c1, c2, c3, c4, c5⟩
  all_goals
    have kn := fun (w : World) => run_neq_slice_nil_any (P := Try.prog) w 53 _ none 0 0 0 0 Try.underlying53
    go_enter Try.func93, Try.ntmps93
    go_wp2_with fail
    go_ret
    exact ⟨rfl, Same.refl _⟩
set_option maxRecDepth 100000 in
theorem dOk (w : World) (b : Nat) (off fused : Bool) (left : Int) (kv : Value) (a : Addr) (l c : Nat) (n : Int) (h : Dc w b off fused left kv (.slice (some a) l c) n) :
    Calls Try.prog 93 #[.pointer (some ⟨b, 0, none⟩)] w (RetSame (.bool true) w) := by
  obtain ⟨c0, c1, c2, c3, c4, c5⟩ := h
  have kn := fun (w : World) => run_neq_slice_nil_any (P := Try.prog) w 53 _ (some a) l c 0 0 Try.underlying53
  go_enter Try.func93, Try.ntmps93
  go_wp2_with fail
  go_ret
  exact ⟨rfl, Same.refl _⟩
theorem dReady_none (w : World) (p : Value) (h : Nobody w p) : Calls Try.prog 87 #[p] w (RetSame (.int .i64 1) w) := by
  have H := hid dOk_none
  go_enter Try.func87, Try.ntmps87
  go_wp2_with fail
  refine (H.out _ _ h).mono ?_
  rintro en w1 ⟨rfl, S1⟩
  go_wp2_with fail
  go_ret
  exact ⟨rfl, S1⟩
theorem dReady (w : World) (b : Nat) (off fused : Bool) (left : Int) (kv : Value) (a : Addr) (l c : Nat) (n : Int) (h : Dc w b off fused left kv (.slice (some a) l c) n) :
    Calls Try.prog 87 #[.pointer (some ⟨b, 0, none⟩)] w (RetSame (.int .i64 (if off then 9 else 0)) w) := by
  have H := hid (dOk · b off fused left kv a l c n)
  have h' := h
  have H0 := hid h
  clear h
  obtain ⟨c0, c1, c2, c3, c4, c5⟩ := h'
  have hb : b < w.heap.size := by
    rcases Nat.lt_or_ge b w.heap.size with h | h
    · exact h
    · simp [World.cell?, Array.getElem?_eq_none h] at c0
  cases off
  all_goals
    go_enter Try.func87, Try.ntmps87
    go_wp2_with fail
    refine (H.out _ H0.out).mono ?_
    rintro en w1 ⟨rfl, S1⟩
    rw [← S1.cell (p := ⟨b, 0, none⟩) hb] at c0
    go_wp2_with fail
    go_ret
    exact ⟨rfl, S1⟩
theorem dSize_none (w : World) (p : Value) (h : Nobody w p) : Calls Try.prog 42 #[p] w (RetSame (.int .i64 0) w) := by
  have H := hid dOk_none
  go_enter Try.func42, Try.ntmps42
  go_wp2_with fail
  refine (H.out _ _ h).mono ?_
  rintro en w1 ⟨rfl, S1⟩
  go_wp2_with fail
  go_ret
  exact ⟨rfl, S1⟩
theorem dWrites_none (w : World) (p : Value) (h : Nobody w p) : Calls Try.prog 43 #[p] w (RetSame (.int .i64 0) w) := by
  have H := hid dOk_none
  go_enter Try.func43, Try.ntmps43
  go_wp2_with fail
  refine (H.out _ _ h).mono ?_
  rintro en w1 ⟨rfl, S1⟩
  go_wp2_with fail
  go_ret
  exact ⟨rfl, S1⟩
theorem dLive_none (w : World) (p : Value) (h : Nobody w p) : Calls Try.prog 37 #[p] w (RetSame (.bool false) w) := by
  have H := hid dOk_none
  go_enter Try.func37, Try.ntmps37
  go_wp2_with fail
  refine (H.out _ _ h).mono ?_
  rintro en w1 ⟨rfl, S1⟩
  go_wp2_with fail
  go_ret
  exact ⟨rfl, S1⟩
theorem dStart_none (w : World) (p : Value) (h : Nobody w p) : Calls Try.prog 41 #[p] w (RetSame (.int .i64 1) w) := by
  have H := hid dOk_none
  go_enter Try.func41, Try.ntmps41
  go_wp2_with fail
  refine (H.out _ _ h).mono ?_
  rintro en w1 ⟨rfl, S1⟩
  go_wp2_with fail
  go_ret
  exact ⟨rfl, S1⟩
theorem dFuse_none (w : World) (p v : Value) (n : Int) (h : Nobody w p) : Calls Try.prog 35 #[p, .int .i64 n, v] w (RetSame (.int .i64 1) w) := by
  have H := hid dReady_none
  go_enter Try.func35, Try.ntmps35
  go_wp2_with fail
  refine (H.out _ _ h).mono ?_
  rintro en w1 ⟨rfl, S1⟩
  go_wp2_with fail
  go_ret
  exact ⟨rfl, S1⟩
theorem dWrite_none (w : World) (p v : Value) (at_ : Int) (h : Nobody w p) : Calls Try.prog 34 #[p, .int .i64 at_, v] w (RetSame (.int .i64 1) w) := by
  have H := hid dReady_none
  go_enter Try.func34, Try.ntmps34
  go_wp2_with fail
  refine (H.out _ _ h).mono ?_
  rintro en w1 ⟨rfl, S1⟩
  go_wp2_with fail
  go_ret
  exact ⟨rfl, S1⟩
theorem dRead_none (w : World) (p : Value) (at_ : Int) (h : Nobody w p) : Calls Try.prog 39 #[p, .int .i64 at_] w (RetSame (.tuple #[.slice none 0 0, .int .i64 1]) w) := by
  have H := hid dOk_none
  go_enter Try.func39, Try.ntmps39
  go_wp2_with fail
  refine (H.out _ _ h).mono ?_
  rintro en w1 ⟨rfl, S1⟩
  go_wp2_with fail
  go_ret2
  exact ⟨rfl, S1⟩
/-- the drive after blows -/
theorem dBlows (w : World) (b : Nat) (fused : Bool) (left : Int) (kv cv : Value) (n : Int) (h : Dc w b false fused left kv cv n) (hz : ∀ o, w.frozen? ⟨b, o, none⟩ = false) (hl : fused = true → -9223372036854775808 < left ∧ left ≤ 9223372036854775807) :
    Calls Try.prog 90 #[.pointer (some ⟨b, 0, none⟩)] w fun en w' => en = .returned (.bool (fused && decide (left - 1 < 0))) ∧ Keep (fun k => k = b) w w' ∧
      Dc w' b (fused && decide (left - 1 < 0)) fused (if fused then left - 1 else left) kv cv n ∧ ∀ o, w'.frozen? ⟨b, o, none⟩ = false := by
  obtain ⟨c0, c1, c2, c3, c4, c5⟩ := h
  have z0 := hz 0
  have z2 := hz 2
  go_enter Try.func90, Try.ntmps90
  cases fused
  · go_wp2_with fail
    go_ret
    exact ⟨rfl, Keep.refl _ _, ⟨c0, c1, c2, c3, c4, c5⟩, hz⟩
  · have hl := hl rfl
    cases hd : decide (left - 1 < 0)
    all_goals
      go_wp2_with fail
      go_ret
      refine ⟨?_, ((Keep.refl (fun k => k = b) w).setCell (p := ⟨b, 2, none⟩) (.inl rfl) _).setCell (p := ⟨b, 0, none⟩) (.inl rfl) _, ?_, fun o => by rw [World.frozen?_setCell, World.frozen?_setCell]; exact hz o⟩
      · rfl
      · have o : ∀ (i j : Nat) (W : World) (u : Value), i ≠ j → (W.setCell ⟨b, i, none⟩ u).cell? ⟨b, j, none⟩ = W.cell? ⟨b, j, none⟩ := fun i j W u hij => World.cell?_setCell_other _ _ _ _ (by simp [hij])
        refine ⟨World.cell?_setCell_same _ _ _ (u := .bool false) (by rw [o _ _ _ _ (by decide)]; exact c0), ?_, ?_, ?_, ?_, ?_⟩
        · rw [o _ _ _ _ (by decide), o _ _ _ _ (by decide)]; exact c1
        · rw [o _ _ _ _ (by decide)]; exact World.cell?_setCell_same _ _ _ c2
        · rw [o _ _ _ _ (by decide), o _ _ _ _ (by decide)]; exact c3
        · rw [o _ _ _ _ (by decide), o _ _ _ _ (by decide)]; exact c4
        · rw [o _ _ _ _ (by decide), o _ _ _ _ (by decide)]; exact c5
theorem dSize (w : World) (b : Nat) (off fused : Bool) (left : Int) (kv : Value) (a : Addr) (l c : Nat) (n : Int) (h : Dc w b off fused left kv (.slice (some a) l c) n) :
    Calls Try.prog 42 #[.pointer (some ⟨b, 0, none⟩)] w (RetSame (.int .i64 l) w) := by
  have H := hid (dOk · b off fused left kv a l c n)
  have H0 := hid h
  obtain ⟨c0, c1, c2, c3, c4, c5⟩ := h
  have hb : b < w.heap.size := by
    rcases Nat.lt_or_ge b w.heap.size with h | h
    · exact h
    · simp [World.cell?, Array.getElem?_eq_none h] at c0
  go_enter Try.func42, Try.ntmps42
  go_wp2_with fail
  refine (H.out _ H0.out).mono ?_
  rintro en w1 ⟨rfl, S1⟩
  rw [← S1.cell (p := ⟨b, 4, none⟩) hb] at c4
  go_wp2_with fail
  go_ret
  exact ⟨rfl, S1⟩
theorem dWrites (w : World) (b : Nat) (off fused : Bool) (left : Int) (kv : Value) (a : Addr) (l c : Nat) (n : Int) (h : Dc w b off fused left kv (.slice (some a) l c) n) :
    Calls Try.prog 43 #[.pointer (some ⟨b, 0, none⟩)] w (RetSame (.int .i64 n) w) := by
  have H := hid (dOk · b off fused left kv a l c n)
  have H0 := hid h
  obtain ⟨c0, c1, c2, c3, c4, c5⟩ := h
  have hb : b < w.heap.size := by
    rcases Nat.lt_or_ge b w.heap.size with h | h
    · exact h
    · simp [World.cell?, Array.getElem?_eq_none h] at c0
  go_enter Try.func43, Try.ntmps43
  go_wp2_with fail
  refine (H.out _ H0.out).mono ?_
  rintro en w1 ⟨rfl, S1⟩
  rw [← S1.cell (p := ⟨b, 5, none⟩) hb] at c5
  go_wp2_with fail
  go_ret
  exact ⟨rfl, S1⟩
theorem dLive (w : World) (b : Nat) (off fused : Bool) (left : Int) (kv : Value) (a : Addr) (l c : Nat) (n : Int) (h : Dc w b off fused left kv (.slice (some a) l c) n) :
    Calls Try.prog 37 #[.pointer (some ⟨b, 0, none⟩)] w (RetSame (.bool !off) w) := by
  have H := hid (dOk · b off fused left kv a l c n)
  have H0 := hid h
  obtain ⟨c0, c1, c2, c3, c4, c5⟩ := h
  have hb : b < w.heap.size := by
    rcases Nat.lt_or_ge b w.heap.size with h | h
    · exact h
    · simp [World.cell?, Array.getElem?_eq_none h] at c0
  go_enter Try.func37, Try.ntmps37
  go_wp2_with fail
  refine (H.out _ H0.out).mono ?_
  rintro en w1 ⟨rfl, S1⟩
  rw [← S1.cell (p := ⟨b, 0, none⟩) hb] at c0
  go_wp2_with fail
  go_ret
  exact ⟨rfl, S1⟩
/-- long(b) -/
theorem dLong (w : World) (e : TypeId) (v : Value) (l : List UInt8) (h : Bytes w e v l) : Calls Try.prog 89 #[v] w (RetSame (.bool (decide (l.length ≠ 96))) w) := by
  obtain ⟨ao, cap, rfl, h1, h2⟩ := h.form
  unfold maxLen at h2
  go_enter Try.func89, Try.ntmps89
  go_wp2_with fail
  go_ret
  refine ⟨?_, Same.refl _⟩
  by_cases e : l.length = 96 <;> simp [e] <;> omega
end Go.Proofs.Ytlhnpicmjjddeaa
namespace Go.Proofs.Ytlhnpicmjjddeaa.CrcPure

def step (c : Nat) : Nat := if 2 * c > 16777215 then (2 * c) ^^^ 0x1864cfb else 2 * c
def steps (n c : Nat) : Nat := (List.range n).foldl (fun c _ => step c) c
def byte (c x : Nat) : Nat := steps 8 (c ^^^ (x * 65536))
def more (c : Nat) (l : List UInt8) : Nat := l.foldl (fun c x => byte c x.toNat) c

theorem steps_zero' (c : Nat) : steps 0 c = c := rfl
theorem steps_last (n c : Nat) : steps (n + 1) c = step (steps n c) := by
  unfold steps; rw [List.range_succ, List.foldl_append]; rfl
theorem more_nil (c : Nat) : more c [] = c := rfl
theorem more_cons (c : Nat) (x : UInt8) (l : List UInt8) : more c (x :: l) = more (byte c x.toNat) l := by unfold more; rw [List.foldl_cons]
attribute [irreducible] steps step more byte

theorem steps_add (m n c : Nat) : steps (m + n) c = steps n (steps m c) := by
  induction n with
  | zero => rw [steps_zero', Nat.add_zero]
  | succ n ih => rw [← Nat.add_assoc, steps_last, ih, steps_last]

theorem lt_of_bits {x n : Nat} (h : ∀ i, n ≤ i → x.testBit i = false) : x < 2 ^ n := Nat.lt_pow_two_of_testBit _ h
theorem xor_lt {a b : Nat} (ha : a < 16777216) (hb : b < 16777216) : a ^^^ b < 16777216 :=
  Nat.xor_lt_two_pow (n := 24) ha hb

theorem step_lt {c : Nat} (h : c < 16777216) : step c < 16777216 := by
  unfold step
  split
  · rename_i h1
    have h2 : 2 * c < 2 ^ 25 := by omega
    have h3 : (2 * c).testBit 24 = true := by
      rw [Nat.testBit_eq_decide_div_mod_eq]
      simp; omega
    have : (2 * c) ^^^ 0x1864cfb < 2 ^ 24 := by
      refine lt_of_bits fun i hi => ?_
      rw [Nat.testBit_xor]
      by_cases e : i = 24
      · subst e; rw [h3]; decide
      · have : 2 ^ 25 ≤ 2 ^ i := Nat.pow_le_pow_right (by decide) (by omega)
        rw [Nat.testBit_lt_two_pow (by omega), Nat.testBit_lt_two_pow (x := 0x1864cfb) (by omega)]; rfl
    omega
  · omega

theorem steps_lt (n : Nat) {c : Nat} (h : c < 16777216) : steps n c < 16777216 := by
  induction n with
  | zero => rw [steps_zero']; exact h
  | succ n ih => rw [steps_last]; exact step_lt ih

theorem byte_lt {c x : Nat} (h : c < 16777216) (hx : x < 256) : byte c x < 16777216 :=
  by unfold byte; exact steps_lt 8 (xor_lt h (by omega))

theorem u8_lt (x : UInt8) : x.toNat < 256 := x.toNat_lt

theorem more_lt (l : List UInt8) : ∀ {c : Nat}, c < 16777216 → more c l < 16777216 := by
  induction l with
  | nil => intro c h; rw [more_nil]; exact h
  | cons x r ih => intro c h; rw [more_cons]; exact ih (byte_lt h (u8_lt x))

theorem more_append (l r : List UInt8) (c : Nat) : more c (l ++ r) = more (more c l) r := by
  unfold more; rw [List.foldl_append]

/-! linear -/
theorem two_mul_xor (a b : Nat) : 2 * (a ^^^ b) = (2 * a) ^^^ (2 * b) := by
  refine Nat.eq_of_testBit_eq fun i => ?_
  rw [Nat.testBit_xor]
  cases i with
  | zero => simp [Nat.testBit_zero]
  | succ i => simp [Nat.testBit_succ, Nat.testBit_xor]

def top (c : Nat) : Bool := decide (2 * c > 16777215)
theorem top_eq {c : Nat} (h : c < 16777216) : top c = c.testBit 23 := by
  unfold top
  rw [Nat.testBit_eq_decide_div_mod_eq]
  have : (2 * c > 16777215) ↔ (c / 2 ^ 23 % 2 = 1) := by omega
  simp only [this]
theorem step_eq (c : Nat) : step c = (2 * c) ^^^ (if top c then 0x1864cfb else 0) := by
  unfold step top
  by_cases h : 2 * c > 16777215
  · rw [if_pos h, decide_eq_true h, if_pos rfl]
  · rw [if_neg h, decide_eq_false h, if_neg (by decide), Nat.xor_zero]

theorem step_xor {a b : Nat} (ha : a < 16777216) (hb : b < 16777216) : step (a ^^^ b) = step a ^^^ step b := by
  rw [step_eq, step_eq a, step_eq b, top_eq (xor_lt ha hb), top_eq ha, top_eq hb, two_mul_xor, Nat.testBit_xor]
  have e : ∀ p q r s : Nat, (p ^^^ q) ^^^ (r ^^^ s) = (p ^^^ r) ^^^ (q ^^^ s) := by
    intro p q r s; ac_rfl
  rw [e]
  congr 1
  cases a.testBit 23 <;> cases b.testBit 23 <;> decide

theorem steps_xor (n : Nat) {a b : Nat} (ha : a < 16777216) (hb : b < 16777216) : steps n (a ^^^ b) = steps n a ^^^ steps n b := by
  induction n with
  | zero => rw [steps_zero', steps_zero', steps_zero']
  | succ n ih => rw [steps_last, ih, step_xor (steps_lt n ha) (steps_lt n hb), steps_last, steps_last]

theorem step_inj {a : Nat} (h : step a = 0) : a = 0 := by
  have h0 : (step a).testBit 0 = top a := by
    rw [step_eq, Nat.testBit_xor]
    cases top a <;> simp [Nat.testBit_zero]
  rw [h] at h0
  have ht : top a = false := by simpa using h0.symm
  rw [step_eq, ht] at h
  simp at h
  omega

theorem steps_inj (n : Nat) {a : Nat} (h : steps n a = 0) : a = 0 := by
  induction n with
  | zero => rw [steps_zero'] at h; exact h
  | succ n ih => rw [steps_last] at h; exact ih (step_inj h)

theorem step_zero : step 0 = 0 := by rw [step_eq]; rfl
theorem steps_zero (n : Nat) : steps n 0 = 0 := by
  induction n with
  | zero => exact steps_zero' 0
  | succ n ih => rw [steps_last, ih, step_zero]
/-- a shift without the top bit -/
theorem step_small {c : Nat} (h : 2 * c < 16777216) : step c = 2 * c := by
  rw [step_eq]
  have : top c = false := by unfold top; rw [decide_eq_false (by omega)]
  rw [this, if_neg (by decide), Nat.xor_zero]
theorem steps_small (n : Nat) {c : Nat} (h : c * 2 ^ n < 16777216) : steps n c = c * 2 ^ n := by
  induction n with
  | zero => rw [steps_zero', Nat.pow_zero, Nat.mul_one]
  | succ n ih =>
    rw [Nat.pow_succ] at h ⊢
    have h2 : 2 * (c * 2 ^ n) = c * (2 ^ n * 2) := by ac_rfl
    rw [steps_last, ih (by omega), step_small (by omega), h2]

theorem mul_xor (a b : Nat) : (a ^^^ b) * 65536 = (a * 65536) ^^^ (b * 65536) := by
  have := Nat.shiftLeft_xor_distrib (a := a) (b := b) (i := 16)
  simpa [Nat.shiftLeft_eq] using this

theorem byte_xor {c d x y : Nat} (hc : c < 16777216) (hd : d < 16777216) (hx : x < 256) (hy : y < 256) : byte (c ^^^ d) (x ^^^ y) = byte c x ^^^ byte d y := by
  unfold byte
  rw [← steps_xor 8 (xor_lt hc (by omega)) (xor_lt hd (by omega)), mul_xor]
  congr 1
  ac_rfl

/-- two rows of bytes of one length, xored -/
theorem more_xor (l r : List UInt8) : ∀ {c d : Nat}, c < 16777216 → d < 16777216 → l.length = r.length →
    more (c ^^^ d) (List.zipWith (· ^^^ ·) l r) = more c l ^^^ more d r := by
  induction l generalizing r with
  | nil => intro c d _ _ h; cases r with
    | nil => rw [List.zipWith_nil_left, more_nil, more_nil, more_nil]
    | cons => simp at h
  | cons x l ih =>
    intro c d hc hd h
    cases r with
    | nil => simp at h
    | cons y r =>
      rw [List.zipWith_cons_cons, more_cons, more_cons, more_cons, UInt8.toNat_xor, byte_xor hc hd (u8_lt x) (u8_lt y)]
      exact ih r (byte_lt hc (u8_lt x)) (byte_lt hd (u8_lt y)) (by simpa using h)

theorem byte_zero (c : Nat) : byte c 0 = steps 8 c := by unfold byte; rw [Nat.zero_mul, Nat.xor_zero]
theorem more_zeros (n c : Nat) : more c (List.replicate n 0) = steps (8 * n) c := by
  induction n generalizing c with
  | zero => rw [List.replicate_zero, more_nil, Nat.mul_zero, steps_zero']
  | succ n ih =>
    rw [List.replicate_succ, more_cons, ih, show (0 : UInt8).toNat = 0 from rfl, byte_zero, ← steps_add, Nat.mul_succ, Nat.add_comm]

theorem lt16 {x : Nat} (h : x < 256) : x * 65536 < 16777216 := by omega
theorem lt8 {x : Nat} (h : x < 256) : x * 256 < 16777216 := by omega
theorem lt0 {x : Nat} (h : x < 256) : x < 16777216 := by omega
theorem lt16' {x : Nat} (h : x < 256) : x * 2 ^ (8 + 8) < 16777216 := by omega
theorem lt8' {x : Nat} (h : x < 256) : x * 256 * 2 ^ 8 < 16777216 := by omega
theorem three (x y z : Nat) (hx : x < 256) (hy : y < 256) (hz : z < 256) : byte (byte (byte 0 x) y) z = steps 24 (x * 65536 ^^^ y * 256 ^^^ z) := by
  have ey : steps 8 (y * 256) = y * 65536 := by rw [steps_small 8 (lt8' hy), Nat.mul_assoc]
  have ez : steps 8 (steps 8 z) = z * 65536 := by rw [← steps_add, steps_small (8 + 8) (lt16' hz)]
  have hx2 := lt16 hx
  have hy2 := lt8 hy
  have hy3 := lt16 hy
  have hz2 := lt0 hz
  have e0 : byte 0 x = steps 8 (x * 65536) := by unfold byte; rw [Nat.zero_xor]
  have e24 : ∀ v, steps 24 v = steps 8 (steps 8 (steps 8 v)) := fun v => by rw [← steps_add, ← steps_add]
  have hb : ∀ p q, byte p q = steps 8 (p ^^^ (q * 65536)) := fun p q => by unfold byte; rfl
  rw [e24, steps_xor 8 (xor_lt hx2 hy2) hz2, steps_xor 8 hx2 hy2, ey,
    steps_xor 8 (xor_lt (steps_lt 8 hx2) hy3) (steps_lt 8 hz2), ez, e0, hb, hb]

theorem more_three (x y z : UInt8) : more 0 [x, y, z] = steps 24 (x.toNat * 65536 ^^^ y.toNat * 256 ^^^ z.toNat) := by
  rw [more_cons, more_cons, more_cons, more_nil]
  exact three _ _ _ (u8_lt x) (u8_lt y) (u8_lt z)

/-- a row whose sum stands behind it goes to nought -/
def bytes3 (c : Nat) : List UInt8 := [(c / 65536).toUInt8, (c / 256).toUInt8, c.toUInt8]
theorem xor_add {a b i : Nat} (hb : b < 2 ^ i) : a * 2 ^ i ^^^ b = a * 2 ^ i + b := by
  refine Nat.eq_of_testBit_eq fun j => ?_
  rw [Nat.testBit_xor, Nat.mul_comm, Nat.testBit_two_pow_mul_add _ hb, Nat.testBit_two_pow_mul]
  by_cases h : j < i
  · simp [h, Nat.not_le.2 h]
  · rw [Nat.testBit_lt_two_pow (x := b) (Nat.lt_of_lt_of_le hb (Nat.pow_le_pow_right (by decide) (by omega)))]
    simp [h, Nat.not_lt.1 h]
theorem split3 {c : Nat} : c / 65536 * 65536 ^^^ c / 256 % 256 * 256 ^^^ c % 256 = c := by
  have h1 : c / 65536 * 65536 ^^^ c / 256 % 256 * 256 = c / 65536 * 65536 + c / 256 % 256 * 256 :=
    xor_add (a := c / 65536) (b := c / 256 % 256 * 256) (i := 16) (by omega)
  have h2 : c / 65536 * 65536 + c / 256 % 256 * 256 = (c / 256) * 256 := by omega
  have h3 : c / 256 * 256 ^^^ c % 256 = c / 256 * 256 + c % 256 := xor_add (a := c / 256) (b := c % 256) (i := 8) (by omega)
  rw [h1, h2, h3]; clear h1 h2 h3; omega
theorem toUInt8_nat (n : Nat) : n.toUInt8.toNat = n % 256 := by simp
theorem more_bytes3 {c : Nat} (hc : c < 16777216) : more c (bytes3 c) = 0 := by
  have h := more_xor [0, 0, 0] (bytes3 c) (c := c) (d := 0) hc (by omega) rfl
  have e : List.zipWith (· ^^^ ·) [0, 0, 0] (bytes3 c) = bytes3 c := by simp [bytes3]
  rw [e, Nat.xor_zero] at h
  rw [h]
  have h2 : more c [0, 0, 0] = steps 24 c := by have := more_zeros 3 c; rw [show List.replicate 3 (0 : UInt8) = [0, 0, 0] from rfl] at this; exact this
  have h3 : more 0 (bytes3 c) = steps 24 c := by
    rw [bytes3, more_three, toUInt8_nat, toUInt8_nat, toUInt8_nat, Nat.mod_eq_of_lt (a := c / 65536) (by omega), split3]
  rw [h2, h3, Nat.xor_self]

/-- one sealed row -/
def init : Nat := 0xb704ce
def sealed (l : List UInt8) : List UInt8 := l ++ bytes3 (more init l)
theorem init_lt : init < 16777216 := by unfold init; omega
theorem sealed_length (l : List UInt8) : (sealed l).length = l.length + 3 := by simp [sealed, bytes3]
theorem more_sealed (l : List UInt8) : more init (sealed l) = 0 := by
  unfold sealed; rw [more_append]; exact more_bytes3 (more_lt l init_lt)

/-- up to three neighbours turned are told -/
theorem told (l t : List UInt8) (i : Nat) (x y z : UInt8) (hi : i + 3 ≤ l.length) (hne : ¬ (x = 0 ∧ y = 0 ∧ z = 0)) (hl : more init l = 0)
    (ht : t = List.zipWith (· ^^^ ·) l (List.replicate i 0 ++ [x, y, z] ++ List.replicate (l.length - i - 3) 0)) : more init t ≠ 0 := by
  intro h0
  have hlen : l.length = (List.replicate i 0 ++ [x, y, z] ++ List.replicate (l.length - i - 3) (0 : UInt8)).length := by simp; omega
  have h := more_xor l (List.replicate i 0 ++ [x, y, z] ++ List.replicate (l.length - i - 3) 0) (c := init) (d := 0) init_lt (by omega) hlen
  rw [Nat.xor_zero, ← ht, h0, hl, Nat.zero_xor, more_append, more_append, more_zeros, more_zeros, steps_zero, more_three] at h
  have h1 := steps_inj _ (steps_inj _ h.symm)
  have hx := u8_lt x
  have hy := u8_lt y
  have hz := u8_lt z
  have e1 : x.toNat * 65536 ^^^ y.toNat * 256 = x.toNat * 65536 + y.toNat * 256 := xor_add (a := x.toNat) (b := y.toNat * 256) (i := 16) (by omega)
  have e2 : (x.toNat * 256 + y.toNat) * 256 ^^^ z.toNat = (x.toNat * 256 + y.toNat) * 256 + z.toNat := xor_add (a := x.toNat * 256 + y.toNat) (b := z.toNat) (i := 8) (by omega)
  have e3 : x.toNat * 65536 + y.toNat * 256 = (x.toNat * 256 + y.toNat) * 256 := by omega
  rw [e1, e3, e2] at h1
  refine hne ⟨?_, ?_, ?_⟩ <;> (apply UInt8.toNat_inj.1; simp; omega)

/-- what the last three bytes must be -/
theorem bytes3_of_zero {c : Nat} (hc : c < 16777216) {x y z : UInt8} (h : more c [x, y, z] = 0) : [x, y, z] = bytes3 c := by
  have h1 := more_xor (bytes3 c) [x, y, z] (c := c) (d := c) hc hc rfl
  rw [more_bytes3 hc, h, Nat.xor_self, Nat.xor_self] at h1
  simp only [bytes3, List.zipWith_cons_cons, List.zipWith_nil_left] at h1
  rw [more_three] at h1
  have h2 := steps_inj _ h1
  generalize ha : (c / 65536).toUInt8 ^^^ x = a at h2
  generalize hb : (c / 256).toUInt8 ^^^ y = b at h2
  generalize hd : c.toUInt8 ^^^ z = d at h2
  have hx := u8_lt a
  have hy := u8_lt b
  have hz := u8_lt d
  have e1 : a.toNat * 65536 ^^^ b.toNat * 256 = a.toNat * 65536 + b.toNat * 256 := xor_add (a := a.toNat) (b := b.toNat * 256) (i := 16) (by omega)
  have e2 : (a.toNat * 256 + b.toNat) * 256 ^^^ d.toNat = (a.toNat * 256 + b.toNat) * 256 + d.toNat := xor_add (a := a.toNat * 256 + b.toNat) (b := d.toNat) (i := 8) (by omega)
  have e3 : a.toNat * 65536 + b.toNat * 256 = (a.toNat * 256 + b.toNat) * 256 := by omega
  rw [e1, e3, e2] at h2
  have a0 : a = 0 := by apply UInt8.toNat_inj.1; simp; omega
  have b0 : b = 0 := by apply UInt8.toNat_inj.1; simp; omega
  have d0 : d = 0 := by apply UInt8.toNat_inj.1; simp; omega
  rw [a0] at ha; rw [b0] at hb; rw [d0] at hd
  have z : ∀ p q : UInt8, p ^^^ q = 0 → q = p := by
    intro p q h; exact (UInt8.xor_eq_zero_iff.1 h).symm
  rw [bytes3, z _ _ ha, z _ _ hb, z _ _ hd]

/-! the reference's way: as a row of bits -/
theorem mod_testBit (a i : Nat) : (a % 16777216).testBit i = (decide (i < 24) && a.testBit i) := by
  rw [show (16777216 : Nat) = 2 ^ 24 from rfl, Nat.testBit_mod_two_pow]
theorem mod_xor (a b : Nat) : (a ^^^ b) % 16777216 = (a % 16777216) ^^^ (b % 16777216) := by
  refine Nat.eq_of_testBit_eq fun i => ?_
  rw [Nat.testBit_xor, mod_testBit, mod_testBit, mod_testBit, Nat.testBit_xor]
  cases decide (i < 24) <;> simp
def odd23 (c : Nat) : Bool := c / 8388608 % 2 == 1
theorem top_odd {c : Nat} (h : c < 16777216) : top c = odd23 c := by
  unfold top odd23
  have : (2 * c > 16777215) ↔ (c / 8388608 % 2 = 1) := by omega
  by_cases e : c / 8388608 % 2 = 1
  · rw [decide_eq_true (this.2 e), e]; rfl
  · rw [decide_eq_false (fun h => e (this.1 h))]; exact (beq_eq_false_iff_ne.2 e).symm
theorem step_mod {c : Nat} (h : c < 16777216) : step c = (2 * c % 16777216) ^^^ (if odd23 c then 0x864cfb else 0) := by
  have h1 : step c = step c % 16777216 := (Nat.mod_eq_of_lt (step_lt h)).symm
  rw [h1, step_eq, mod_xor, top_odd h]
  congr 1
  cases odd23 c <;> decide
/-- the byte's part after j of its bits -/
def rest (x j : Nat) : Nat := x * 65536 * 2 ^ j % 16777216
theorem rest_lt (x j : Nat) : rest x j < 16777216 := Nat.mod_lt _ (by decide)
theorem rest_succ (x j : Nat) : 2 * rest x j % 16777216 = rest x (j + 1) := by
  unfold rest
  rw [Nat.pow_succ, Nat.mul_mod, Nat.mod_mod, ← Nat.mul_mod]
  congr 1
  ac_rfl
theorem odd23_rest {x : Nat} (hx : x < 256) (j : Nat) (hj : j < 8) : odd23 (rest x j) = (x / (128 / 2 ^ j) % 2 == 1) := by
  unfold odd23 rest
  have : j = 0 ∨ j = 1 ∨ j = 2 ∨ j = 3 ∨ j = 4 ∨ j = 5 ∨ j = 6 ∨ j = 7 := by omega
  rcases this with rfl | rfl | rfl | rfl | rfl | rfl | rfl | rfl <;> (simp only [Nat.reducePow, Nat.reduceDiv]; congr 1; omega)
theorem odd23_xor (a b : Nat) : odd23 (a ^^^ b) = (odd23 a != odd23 b) := by
  have e : ∀ c, odd23 c = c.testBit 23 := by
    intro c
    rw [Nat.testBit_eq_decide_div_mod_eq]; unfold odd23
    by_cases h : c / 8388608 % 2 = 1 <;> simp [h]
  rw [e, e, e, Nat.testBit_xor]
/-- what the reference holds after j bits of a byte -/
def held (c x j : Nat) : Nat := steps j (c ^^^ (x * 65536)) ^^^ rest x j
theorem held_zero (c x : Nat) (hx : x < 256) : held c x 0 = c := by
  unfold held rest
  rw [steps_zero', Nat.pow_zero, Nat.mul_one, Nat.mod_eq_of_lt (lt16 hx), Nat.xor_assoc, Nat.xor_self, Nat.xor_zero]
theorem held_eight (c x : Nat) : held c x 8 = byte c x := by
  have : rest x 8 = 0 := by
    unfold rest
    rw [show (65536 : Nat) = 2 ^ 16 from rfl, Nat.mul_assoc, ← Nat.pow_add]
    exact Nat.mul_mod_left x (2 ^ (16 + 8))
  unfold held byte
  rw [this, Nat.xor_zero]
theorem held_lt {c x j : Nat} (hc : c < 16777216) (hx : x < 256) : held c x j < 16777216 :=
  xor_lt (steps_lt j (xor_lt hc (lt16 hx))) (rest_lt x j)
theorem held_succ {c x j : Nat} (hc : c < 16777216) (hx : x < 256) (hj : j < 8) :
    held c x (j + 1) = (held c x j * 2 % 16777216) ^^^ (if odd23 (held c x j) != (x / (128 / 2 ^ j) % 2 == 1) then 0x864cfb else 0) := by
  have hs := steps_lt j (xor_lt hc (lt16 hx))
  rw [← odd23_rest hx j hj, held, steps_last, step_mod hs]
  unfold held
  generalize steps j (c ^^^ (x * 65536)) = s at *
  rw [odd23_xor, Nat.mul_comm _ 2, two_mul_xor, mod_xor, rest_succ]
  have : ((odd23 s != odd23 (rest x j)) != odd23 (rest x j)) = odd23 s := by
    cases odd23 s <;> cases odd23 (rest x j) <;> rfl
  rw [this]
  ac_rfl
end Go.Proofs.Ytlhnpicmjjddeaa.CrcPure
namespace Go.Proofs.Ytlhnpicmjjddeaa

/-- a number's lowest bytes, the highest first -/
def be : Nat → Nat → List UInt8
  | 0, _ => []
  | s + 1, n => (n / 256 ^ s).toUInt8 :: be s n
/-- the number that bytes are -/
def val (l : List UInt8) : Nat := l.foldl (fun n c => n * 256 + c.toNat) 0
theorem be_length (s n : Nat) : (be s n).length = s := by
  induction s with
  | zero => rfl
  | succ s ih => simp [be, ih]
theorem val_nil : val [] = 0 := rfl
theorem val_snoc (l : List UInt8) (c : UInt8) : val (l ++ [c]) = val l * 256 + c.toNat := by
  unfold val; rw [List.foldl_append]; rfl
theorem foldl_val (l : List UInt8) : ∀ a, l.foldl (fun n c => n * 256 + c.toNat) a = a * 256 ^ l.length + val l := by
  unfold val
  induction l with
  | nil => intro a; simp
  | cons c l ih =>
    intro a
    simp only [List.foldl_cons, List.length_cons]
    rw [ih (a * 256 + c.toNat), ih (0 * 256 + c.toNat), Nat.pow_succ]
    rw [Nat.add_mul, Nat.zero_mul, Nat.zero_add, Nat.mul_assoc, Nat.mul_comm 256]
    omega
theorem val_cons (c : UInt8) (l : List UInt8) : val (c :: l) = c.toNat * 256 ^ l.length + val l := by
  have := foldl_val l c.toNat
  unfold val at this ⊢
  simp only [List.foldl_cons, Nat.zero_mul, Nat.zero_add]
  exact this
theorem val_lt (l : List UInt8) : val l < 256 ^ l.length := by
  induction l with
  | nil => simp [val]
  | cons c l ih =>
    rw [val_cons, List.length_cons, Nat.pow_succ]
    have hc := c.toNat_lt
    have : c.toNat * 256 ^ l.length ≤ 255 * 256 ^ l.length := Nat.mul_le_mul_right _ (by omega)
    omega
theorem val_be (s n : Nat) : val (be s n) = n % 256 ^ s := by
  induction s with
  | zero => simp [be, val, Nat.mod_one]
  | succ s ih =>
    rw [be, val_cons, ih, be_length]
    have h : (n / 256 ^ s).toUInt8.toNat = n / 256 ^ s % 256 := by simp
    rw [h, Nat.pow_succ, Nat.mod_mul, Nat.mul_comm, Nat.add_comm]

/-- A frame. -/
structure Fr where
  life : Int
  era : Int
  seq : Int
  part : Int
  parts : Int
  data : List UInt8

def stampOk (life era seq : Int) : Bool := decide (1 ≤ life ∧ life ≤ 16777215 ∧ 0 ≤ era ∧ era ≤ 16777215 ∧ 1 ≤ seq ∧ seq ≤ 4294967295)
theorem stampOk_iff {life era seq : Int} : stampOk life era seq = true ↔ (1 ≤ life ∧ life ≤ 16777215 ∧ 0 ≤ era ∧ era ≤ 16777215 ∧ 1 ≤ seq ∧ seq ≤ 4294967295) := by
  unfold stampOk; exact decide_eq_true_iff
def partOk (part parts : Int) (n : Nat) : Bool := decide (1 ≤ parts ∧ parts ≤ 255 ∧ 0 ≤ part ∧ part < parts ∧ n ≤ 80)
theorem partOk_iff {part parts : Int} {n : Nat} : partOk part parts n = true ↔ (1 ≤ parts ∧ parts ≤ 255 ∧ 0 ≤ part ∧ part < parts ∧ n ≤ 80) := by
  unfold partOk; exact decide_eq_true_iff
def Fr.right (f : Fr) : Bool := stampOk f.life f.era f.seq && partOk f.part f.parts f.data.length
theorem Fr.right_iff {f : Fr} : f.right = true ↔ (stampOk f.life f.era f.seq = true ∧ partOk f.part f.parts f.data.length = true) := by
  unfold Fr.right; exact Bool.and_eq_true_iff

def Fr.head (f : Fr) : List UInt8 := be 3 f.life.toNat ++ be 3 f.era.toNat ++ be 4 f.seq.toNat
def Fr.more (f : Fr) : List UInt8 := [f.part.toNat.toUInt8, f.parts.toNat.toUInt8, f.data.length.toUInt8]
def Fr.inner (f : Fr) : List UInt8 := (f.head ++ f.more ++ f.data) ++ List.replicate (93 - (f.head ++ f.more ++ f.data).length) 0
/-- a frame as a sector -/
def enc (f : Fr) : List UInt8 := CrcPure.sealed f.inner
theorem Fr.head_length (f : Fr) : f.head.length = 10 := by unfold Fr.head; simp [be_length]
theorem Fr.body_length (f : Fr) : (f.head ++ f.more ++ f.data).length = 13 + f.data.length := by
  rw [List.length_append, List.length_append, f.head_length]; simp [Fr.more]
theorem Fr.inner_length (f : Fr) (h : f.data.length ≤ 80) : f.inner.length = 93 := by
  unfold Fr.inner; rw [List.length_append, f.body_length, List.length_replicate]; omega
theorem enc_length (f : Fr) (h : f.data.length ≤ 80) : (enc f).length = 96 := by
  unfold enc; rw [CrcPure.sealed_length, f.inner_length h]

/-- the fields that stand in a sector -/
def fld (b : List UInt8) : Fr := ⟨val (b.take 3), val ((b.drop 3).take 3), val ((b.drop 6).take 4), (b.getD 10 0).toNat, (b.getD 11 0).toNat, (b.drop 13).take (b.getD 12 0).toNat⟩

theorem fld_enc (f : Fr) (h : f.right = true) : fld (enc f) = f := by
  obtain ⟨h1, h2⟩ := Fr.right_iff.1 h
  obtain ⟨a1, a2, a3, a4, a5, a6⟩ := stampOk_iff.1 h1
  obtain ⟨b1, b2, b3, b4, b5⟩ := partOk_iff.1 h2
  obtain ⟨life, era, seq, part, parts, data⟩ := f
  simp only at *
  have e : ∀ t : List UInt8, be 3 life.toNat ++ be 3 era.toNat ++ be 4 seq.toNat ++ [part.toNat.toUInt8, parts.toNat.toUInt8, data.length.toUInt8] ++ data ++ t = be 3 life.toNat ++ (be 3 era.toNat ++ (be 4 seq.toNat ++ (part.toNat.toUInt8 :: parts.toNat.toUInt8 :: data.length.toUInt8 :: (data ++ t)))) := by
    intro t; simp
  have E : ∃ t, enc ⟨life, era, seq, part, parts, data⟩ = be 3 life.toNat ++ (be 3 era.toNat ++ (be 4 seq.toNat ++ (part.toNat.toUInt8 :: parts.toNat.toUInt8 :: data.length.toUInt8 :: (data ++ t)))) := by
    unfold enc CrcPure.sealed Fr.inner Fr.head Fr.more
    rw [List.append_assoc, e]
    exact ⟨_, rfl⟩
  obtain ⟨t, E⟩ := E
  have l1 := be_length 3 life.toNat
  have l2 := be_length 3 era.toNat
  have l3 := be_length 4 seq.toNat
  unfold fld
  rw [E]
  have d3 : (be 3 life.toNat ++ (be 3 era.toNat ++ (be 4 seq.toNat ++ (part.toNat.toUInt8 :: parts.toNat.toUInt8 :: data.length.toUInt8 :: (data ++ t))))).drop 3 = be 3 era.toNat ++ (be 4 seq.toNat ++ (part.toNat.toUInt8 :: parts.toNat.toUInt8 :: data.length.toUInt8 :: (data ++ t))) := List.drop_left' l1
  have d6 : (be 3 life.toNat ++ (be 3 era.toNat ++ (be 4 seq.toNat ++ (part.toNat.toUInt8 :: parts.toNat.toUInt8 :: data.length.toUInt8 :: (data ++ t))))).drop 6 = be 4 seq.toNat ++ (part.toNat.toUInt8 :: parts.toNat.toUInt8 :: data.length.toUInt8 :: (data ++ t)) := by
    rw [show 6 = 3 + 3 from rfl, ← List.drop_drop, d3, List.drop_left' l2]
  have d10 : (be 3 life.toNat ++ (be 3 era.toNat ++ (be 4 seq.toNat ++ (part.toNat.toUInt8 :: parts.toNat.toUInt8 :: data.length.toUInt8 :: (data ++ t))))).drop 10 = part.toNat.toUInt8 :: parts.toNat.toUInt8 :: data.length.toUInt8 :: (data ++ t) := by
    rw [show 10 = 6 + 4 from rfl, ← List.drop_drop, d6, List.drop_left' l3]
  have g : ∀ k, (be 3 life.toNat ++ (be 3 era.toNat ++ (be 4 seq.toNat ++ (part.toNat.toUInt8 :: parts.toNat.toUInt8 :: data.length.toUInt8 :: (data ++ t))))).getD (10 + k) 0 = (part.toNat.toUInt8 :: parts.toNat.toUInt8 :: data.length.toUInt8 :: (data ++ t)).getD k 0 := by
    intro k; rw [List.getD_eq_getElem?_getD, List.getD_eq_getElem?_getD, ← List.getElem?_drop, d10]
  have d13 : (be 3 life.toNat ++ (be 3 era.toNat ++ (be 4 seq.toNat ++ (part.toNat.toUInt8 :: parts.toNat.toUInt8 :: data.length.toUInt8 :: (data ++ t))))).drop 13 = data ++ t := by
    rw [show 13 = 10 + 3 from rfl, ← List.drop_drop, d10]; rfl
  have g0 := g 0
  have g1 := g 1
  have g2 := g 2
  simp only [Nat.add_zero, List.getD_cons_zero] at g0
  simp only [List.getD_cons_succ, List.getD_cons_zero] at g1 g2
  rw [g0, g1, g2, d13, d6, d3, List.take_left' l1, List.take_left' l2, List.take_left' l3]
  simp only [val_be, CrcPure.toUInt8_nat]
  have t80 : (data ++ t).take (data.length % 256) = data := by rw [Nat.mod_eq_of_lt (by omega)]; exact List.take_left' rfl
  rw [t80]
  congr 1 <;> omega

theorem enc_inj {f g : Fr} (hf : f.right = true) (hg : g.right = true) (h : enc f = enc g) : f = g := by
  rw [← fld_enc f hf, ← fld_enc g hg, h]
/-- the frame that a sector is -/
def dec (b : List UInt8) : Option Fr := if (fld b).right && decide (enc (fld b) = b) then some (fld b) else none
theorem dec_some {b : List UInt8} {f : Fr} : dec b = some f ↔ f.right = true ∧ enc f = b := by
  constructor
  · unfold dec
    split
    · rename_i h
      rw [Bool.and_eq_true, decide_eq_true_eq] at h
      intro e
      cases e
      exact h
    · intro e; cases e
  · rintro ⟨h, rfl⟩
    unfold dec
    rw [fld_enc f h]
    simp [h]
theorem dec_enc {f : Fr} (h : f.right = true) : dec (enc f) = some f := dec_some.2 ⟨h, rfl⟩
theorem dec_none {b : List UInt8} (h : ¬ ((fld b).right = true ∧ enc (fld b) = b)) : dec b = none := by
  unfold dec
  rw [if_neg]
  rw [Bool.and_eq_true, decide_eq_true_eq]
  exact h
theorem dec_length {b : List UInt8} {f : Fr} (h : dec b = some f) : b.length = 96 := by
  obtain ⟨h1, rfl⟩ := dec_some.1 h
  exact enc_length f (partOk_iff.1 (Fr.right_iff.1 h1).2).2.2.2.2
def Fr.zero : Fr := ⟨0, 0, 0, 0, 0, []⟩
/-- the frame that Decode hands back -/
def decF (b : List UInt8) : Fr := (dec b).getD Fr.zero
def decE (b : List UInt8) : Int := if (dec b).isSome then 0 else 3

/-! ### records -/
def nparts (n : Nat) : Nat := max 1 ((n + 79) / 80)
def chunk (b : List UInt8) (i : Nat) : List UInt8 := (b.drop (i * 80)).take 80
def cutAt (life era seq : Int) (b : List UInt8) (i : Nat) : Fr := ⟨life, era, seq, i, nparts b.length, chunk b i⟩
def cutFr (life era seq : Int) (b : List UInt8) : List Fr := (List.range (nparts b.length)).map (cutAt life era seq b)
def cutL (life era seq : Int) (b : List UInt8) : List (List UInt8) := (cutFr life era seq b).map enc
def cutE (life era seq : Int) (b : List UInt8) : Int := if nparts b.length ≤ 255 then (if stampOk life era seq then 0 else 2) else 6
theorem nparts_pos (n : Nat) : 1 ≤ nparts n := Nat.le_max_left _ _
theorem cutFr_length (life era seq : Int) (b : List UInt8) : (cutFr life era seq b).length = nparts b.length := by simp [cutFr]
theorem cutL_length (life era seq : Int) (b : List UInt8) : (cutL life era seq b).length = nparts b.length := by simp [cutL, cutFr_length]
theorem cutE_zero {life era seq : Int} {b : List UInt8} : cutE life era seq b = 0 ↔ (nparts b.length ≤ 255 ∧ stampOk life era seq = true) := by
  unfold cutE
  split <;> rename_i h1
  · cases h2 : stampOk life era seq <;> simp [h1]
  · simp [h1]
theorem cutAt_right {life era seq : Int} {b : List UInt8} {i : Nat} (h : cutE life era seq b = 0) (hi : i < nparts b.length) : (cutAt life era seq b i).right = true := by
  obtain ⟨h1, h2⟩ := cutE_zero.1 h
  refine Fr.right_iff.2 ⟨h2, partOk_iff.2 ?_⟩
  have : (chunk b i).length ≤ 80 := by unfold chunk; rw [List.length_take]; omega
  simp only [cutAt]
  exact ⟨by omega, by omega, by omega, by omega, this⟩
theorem cutL_at {life era seq : Int} {b : List UInt8} {i : Nat} (hi : i < nparts b.length) : (cutL life era seq b)[i]'(by rw [cutL_length]; exact hi) = enc (cutAt life era seq b i) := by
  simp [cutL, cutFr]

def Fr.fits (g f : Fr) (i : Nat) : Bool := decide (g.life = f.life ∧ g.era = f.era ∧ g.seq = f.seq ∧ g.parts = f.parts) && (decide (g.part = i) && (g.right && (decide ((i : Int) = g.parts - 1) || decide (g.data.length = 80))))
theorem Fr.fits_iff {g f : Fr} {i : Nat} : g.fits f i = true ↔ (g.life = f.life ∧ g.era = f.era ∧ g.seq = f.seq ∧ g.parts = f.parts) ∧ g.part = i ∧ g.right = true ∧ ((i : Int) = g.parts - 1 ∨ g.data.length = 80) := by
  unfold Fr.fits
  simp only [Bool.and_eq_true, Bool.or_eq_true, decide_eq_true_eq]
/-- whether frames are a record -/
def Joins (l : List Fr) : Prop := ∃ f, l[0]? = some f ∧ (l.length : Int) = f.parts ∧ ∀ (i : Nat) (g : Fr), l[i]? = some g → g.fits f i = true
def joined (l : List Fr) : List UInt8 := (l.map (·.data)).flatten

theorem chunk_full {b : List UInt8} {i : Nat} (h : i + 1 < nparts b.length) : (chunk b i).length = 80 := by
  unfold chunk
  rw [List.length_take, List.length_drop]
  unfold nparts at h
  omega
theorem chunks (b : List UInt8) : ∀ n, ((List.range n).map (chunk b)).flatten = b.take (n * 80) := by
  intro n
  induction n with
  | zero => simp
  | succ n ih =>
    rw [List.range_succ, List.map_append, List.flatten_append, ih]
    simp only [List.map_cons, List.map_nil, List.flatten_cons, List.flatten_nil, List.append_nil]
    unfold chunk
    rw [Nat.succ_mul, List.take_add]
theorem joined_cut (life era seq : Int) (b : List UInt8) : joined (cutFr life era seq b) = b := by
  unfold joined cutFr
  rw [List.map_map]
  have : ((fun x : Fr => x.data) ∘ cutAt life era seq b) = chunk b := by funext i; rfl
  rw [this, chunks]
  refine List.take_of_length_le ?_
  unfold nparts
  omega
theorem cutFr_at {life era seq : Int} {b : List UInt8} {i : Nat} (hi : i < nparts b.length) : (cutFr life era seq b)[i]? = some (cutAt life era seq b i) := by
  simp [cutFr, hi]
theorem joins_cut {life era seq : Int} {b : List UInt8} (h : cutE life era seq b = 0) : Joins (cutFr life era seq b) := by
  refine ⟨cutAt life era seq b 0, cutFr_at (nparts_pos _), ?_, ?_⟩
  · rw [cutFr_length]; rfl
  · intro i g hg
    have hi : i < nparts b.length := by
      have := (List.getElem?_eq_some_iff.1 hg).1
      rwa [cutFr_length] at this
    rw [cutFr_at hi] at hg
    cases hg
    refine Fr.fits_iff.2 ⟨⟨rfl, rfl, rfl, rfl⟩, rfl, cutAt_right h hi, ?_⟩
    by_cases h2 : i + 1 < nparts b.length
    · exact .inr (chunk_full h2)
    · refine .inl ?_
      show (i : Int) = (nparts b.length : Int) - 1
      omega
end Go.Proofs.Ytlhnpicmjjddeaa
namespace Go.Proofs.Ytlhnpicmjjddeaa

/-- A drive with power or without, fused or not: after 'left' writes the power goes off, and of that write the sectors 'keep' are written. -/
structure Dv where
  C : List (List UInt8)
  off : Bool
  fused : Bool
  left : Int
  keep : List Int
def isLong (l : List UInt8) : Bool := decide (l.length ≠ 96)
def hasInt (l : List Int) (n : Int) : Bool := l.any fun x => n == x
/-- which sector the write of ls at 'at' leaves in place i -/
def landed (C : List (List UInt8)) (at_ : Nat) (ls : List (List UInt8)) (is : Nat → Bool) (k : Nat) : List (List UInt8) :=
  C.mapIdx fun i c => if at_ ≤ i ∧ i < at_ + min k ls.length ∧ is (i - at_) = true then ls.getD (i - at_) [] else c
theorem landed_length (C : List (List UInt8)) (at_ : Nat) (ls : List (List UInt8)) (is : Nat → Bool) (k : Nat) : (landed C at_ ls is k).length = C.length := by simp [landed]
theorem landed_at (C : List (List UInt8)) (at_ : Nat) (ls : List (List UInt8)) (is : Nat → Bool) (k i : Nat) :
    (landed C at_ ls is k)[i]? = if at_ ≤ i ∧ i < at_ + min k ls.length ∧ is (i - at_) = true ∧ i < C.length then ls[i - at_]? else C[i]? := by
  unfold landed
  rw [List.getElem?_mapIdx]
  by_cases h : i < C.length
  · rw [List.getElem?_eq_getElem h]
    by_cases h2 : at_ ≤ i ∧ i < at_ + min k ls.length ∧ is (i - at_) = true
    · obtain ⟨a, b, c⟩ := h2
      have : i - at_ < ls.length := by omega
      simp [a, b, c, h, List.getD_eq_getElem?_getD, List.getElem?_eq_getElem this]
    · rw [if_neg (fun x => h2 ⟨x.1, x.2.1, x.2.2.1⟩)]
      simp [h2]
  · rw [List.getElem?_eq_none (by omega)]
    simp
    intro _ _ _ hh
    omega
theorem landed_zero (C : List (List UInt8)) (at_ : Nat) (ls : List (List UInt8)) (is : Nat → Bool) : landed C at_ ls is 0 = C := by
  refine List.ext_getElem? fun i => ?_
  rw [landed_at, if_neg]
  rintro ⟨a, b, _⟩
  simp at b
  omega
def Dv.blown (D : Dv) : Bool := D.fused && decide (D.left - 1 < 0)
def Dv.bad (D : Dv) (at_ : Int) (ls : List (List UInt8)) : Bool := decide (at_ < 0) || (decide ((D.C.length : Int) < at_) || (decide ((D.C.length : Int) - at_ < ls.length) || ls.any isLong))
def Dv.keeps (D : Dv) (i : Nat) : Bool := !D.blown || hasInt D.keep i
def Dv.wrote (D : Dv) (at_ : Int) (ls : List (List UInt8)) : Dv :=
  { D with C := landed D.C at_.toNat ls D.keeps ls.length, off := D.blown, left := if D.fused then D.left - 1 else D.left }
/-- Write -/
def Dv.write (D : Dv) (at_ : Int) (ls : List (List UInt8)) : Int × Dv :=
  if D.off then (9, D) else if D.bad at_ ls then (2, D) else if ls = [] then (0, D) else (if D.blown then 9 else 0, D.wrote at_ ls)
/-- Fuse -/
def Dv.fuse (D : Dv) (n : Int) (keep : List Int) : Int × Dv := if D.off then (9, D) else (0, { D with fused := decide (0 ≤ n), left := n, keep := keep })
/-- Start -/
def Dv.start (D : Dv) : Dv := { D with off := false, fused := false, left := 0, keep := [] }
def Dv.new (n : Nat) : Dv := ⟨List.replicate n (List.replicate 96 0), false, false, 0, []⟩
def Dv.Ok (D : Dv) : Prop := D.C.length ≤ 2048 ∧ 1 ≤ D.C.length ∧ (∀ c ∈ D.C, c.length = 96) ∧ (D.off = false → D.fused = true → 0 ≤ D.left) ∧ -9223372036854775808 ≤ D.left ∧ D.left ≤ 9223372036854775807 ∧ D.keep.length ≤ 1000
end Go.Proofs.Ytlhnpicmjjddeaa
namespace Go.Proofs.Ytlhnpicmjjddeaa
open Go.RowKit

theorem call89 (args : Array Value) (W : World) : (callFunc 89 args).run Try.prog W = .ok (.enter 89 args) W := by kernel_rfl
def idxLong (ls : List (List UInt8)) : Int := if ls.any isLong then (ls.findIdx isLong : Int) else -1
theorem idxLong_at {ls : List (List UInt8)} {k : Nat} (hk : k < ls.length) (h : isLong ls[k] = true) (hb : ∀ j (hj : j < ls.length), j < k → isLong ls[j] = false) : idxLong ls = k := by
  unfold idxLong
  rw [if_pos (List.any_eq_true.2 ⟨ls[k], List.getElem_mem hk, h⟩), (List.findIdx_eq hk).2 ⟨h, fun j hj => hb j (by omega) hj⟩]
theorem idxLong_none {ls : List (List UInt8)} (hb : ∀ j (hj : j < ls.length), isLong ls[j] = false) : idxLong ls = -1 := by
  unfold idxLong
  rw [if_neg]
  intro h
  obtain ⟨x, hx, h⟩ := List.any_eq_true.1 h
  obtain ⟨k, hk, rfl⟩ := List.mem_iff_getElem.1 hx
  rw [hb k hk] at h
  cases h
theorem idxLong_any (ls : List (List UInt8)) : decide (0 ≤ idxLong ls) = ls.any isLong := by
  unfold idxLong
  split
  · rename_i h; rw [h]; simp
  · rename_i h; simp only [Bool.not_eq_true] at h; rw [h]; rfl

set_option maxHeartbeats 800000 in
theorem dIndexFunc (w : World) (e : TypeId) (v : Value) (ls : List (List UInt8)) (h : Rows2 w e v ls) :
    Calls Try.prog 117 #[v, .func (.func 89) #[] #[]] w (RetSame (.int .i64 (idxLong ls)) w) := by
  obtain ⟨ao, cap, rfl, h1, h2⟩ := h.form
  unfold maxLen at h2
  have HL := hid dLong
  have hc := call89
  go_enter Try.func117, Try.ntmps117
  go_wp2_with fail
  go_loopw [8] (fun i wr => ∃ k : Nat, k ≤ ls.length ∧ i = .int .i64 k ∧ (∀ j (hj : j < ls.length), j < k → isLong ls[j] = false) ∧ Same w wr) (fun i _ => ls.length - (intOf i).toNat)
  case atStart => exact ⟨0, Nat.zero_le _, rfl, fun j _ hj => absurd hj (Nat.not_lt_zero j), Same.refl w⟩
  case round =>
    obtain ⟨k, hk, rfl, hb, S⟩ := hrel
    by_cases hlt : k < ls.length
    · obtain ⟨g, o, a, c, e', rfl, c1, hB⟩ := (h.same S).row k hlt
      have HB := hid hb
      clear hb
      cases hq : isLong ls[k]
      · have HI : ∀ j (hj : j < ls.length), j < k + 1 → isLong ls[j] = false := fun j hj hjk => by
          by_cases e : j = k
          · subst e; exact hq
          · exact HB.out j hj (by omega)
        have HI := hid HI
        have HK := hid (HL.out _ _ _ _ hB)
        have hq' : decide (ls[k].length ≠ 96) = false := hq
        rw [hq'] at HK
        clear hq hq' hB
        generalize ls[k].length = n at *
        go_wp2_with fail
        refine HK.out.mono ?_
        rintro en w1 ⟨rfl, S1⟩
        go_wp2_with fail
        go_roundw
        case rel => exact ⟨k + 1, by omega, by go_num, HI.out, S.trans S1⟩
        case measure => simp [intOf]; omega
      · have HZ := hid (idxLong_at hlt hq HB.out)
        have HK := hid (HL.out _ _ _ _ hB)
        have hq' : decide (ls[k].length ≠ 96) = true := hq
        rw [hq'] at HK
        clear hq hq' hB
        generalize ls[k].length = n at *
        go_wp2_with fail
        refine HK.out.mono ?_
        rintro en w1 ⟨rfl, S1⟩
        go_wp2_with fail
        go_ret
        exact ⟨by rw [HZ.out]; rfl, S.trans S1⟩
    · have HZ := hid (idxLong_none fun j hj => hb j hj (by omega))
      clear hb
      go_wp2_with fail
      go_ret
      exact ⟨by rw [HZ.out]; rfl, S⟩

theorem dContainsFunc (w : World) (e : TypeId) (v : Value) (ls : List (List UInt8)) (h : Rows2 w e v ls) :
    Calls Try.prog 88 #[v, .func (.func 89) #[] #[]] w (RetSame (.bool (ls.any isLong)) w) := by
  have H := hid (dIndexFunc w e v ls h)
  have HA := hid (idxLong_any ls)
  go_enter Try.func88, Try.ntmps88
  go_wp2_with fail
  refine H.out.mono ?_
  rintro en w1 ⟨rfl, S1⟩
  generalize idxLong ls = n at *
  generalize ls.any isLong = b at *
  go_wp2_with fail
  go_ret
  exact ⟨by rw [← HA.out]; rfl, S1⟩

/-! ints -/
def i64 (n : Int) : Value := .int .i64 n
def Ints (w : World) (e : TypeId) (v : Value) (l : List Int) : Prop := Sl w e 1 v l.length (l.map i64)
theorem Ints.nil (w : World) (e : TypeId) : Ints w e (.slice none 0 0) [] := Sl.nil w e 1
theorem Ints.form {w : World} {e : TypeId} {v : Value} {l : List Int} (h : Ints w e v l) : ∃ ao cap, v = .slice ao l.length cap ∧ l.length ≤ cap ∧ cap ≤ maxLen := Sl.form h
theorem Ints.same {w w' : World} {e : TypeId} {v : Value} {l : List Int} (h : Ints w e v l) (k : Same w w') : Ints w' e v l := Sl.same h k
theorem Ints.at {w : World} {e : TypeId} {ao : Option Addr} {cap : Nat} {l : List Int} (h : Ints w e (.slice ao l.length cap) l) (hn : l.length ≠ 0) :
    ∃ g o, ao = some ⟨g, o, none⟩ ∧ ∀ k (hk : k < l.length), w.cell? ⟨g, o + k, none⟩ = some (.int .i64 l[k]) := by
  obtain ⟨g, o, h1, h2⟩ := Sl.cells h hn
  exact ⟨g, o, h1, fun k hk => h2 k _ (by rw [List.getElem?_map, List.getElem?_eq_getElem hk]; rfl)⟩

def idxInt (l : List Int) (n : Int) : Int := if l.any (fun x => n == x) then (l.findIdx (fun x => n == x) : Int) else -1
theorem idxInt_at {l : List Int} {n : Int} {k : Nat} (hk : k < l.length) (h : (n == l[k]) = true) (hb : ∀ j (hj : j < l.length), j < k → (n == l[j]) = false) : idxInt l n = k := by
  unfold idxInt
  rw [if_pos (List.any_eq_true.2 ⟨l[k], List.getElem_mem hk, h⟩), (List.findIdx_eq hk).2 ⟨h, fun j hj => hb j (by omega) hj⟩]
theorem idxInt_none {l : List Int} {n : Int} (hb : ∀ j (hj : j < l.length), (n == l[j]) = false) : idxInt l n = -1 := by
  unfold idxInt
  rw [if_neg]
  intro h
  obtain ⟨x, hx, h⟩ := List.any_eq_true.1 h
  obtain ⟨k, hk, rfl⟩ := List.mem_iff_getElem.1 hx
  rw [hb k hk] at h
  cases h
theorem idxInt_any (l : List Int) (n : Int) : decide (0 ≤ idxInt l n) = l.any (fun x => n == x) := by
  unfold idxInt
  split
  · rename_i h; rw [h]; simp
  · rename_i h; simp only [Bool.not_eq_true] at h; rw [h]; rfl

set_option maxHeartbeats 800000 in
theorem dIndex (w : World) (e : TypeId) (v : Value) (l : List Int) (n : Int) (h : Ints w e v l) :
    Calls Try.prog 118 #[v, .int .i64 n] w (RetSame (.int .i64 (idxInt l n)) w) := by
  obtain ⟨ao, cap, rfl, h1, h2⟩ := h.form
  unfold maxLen at h2
  go_enter Try.func118, Try.ntmps118
  go_wp2_with fail
  go_loopw [8] (fun i wr => ∃ k : Nat, k ≤ l.length ∧ i = .int .i64 k ∧ (∀ j (hj : j < l.length), j < k → (n == l[j]) = false) ∧ Same w wr) (fun i _ => l.length - (intOf i).toNat)
  case atStart => exact ⟨0, Nat.zero_le _, rfl, fun j _ hj => absurd hj (Nat.not_lt_zero j), Same.refl w⟩
  case round =>
    obtain ⟨k, hk, rfl, hb, S⟩ := hrel
    by_cases hlt : k < l.length
    · obtain ⟨g, o, rfl, hc⟩ := (h.same S).at (by omega)
      have c1 := hc k hlt
      clear hc
      have HB := hid hb
      clear hb
      cases hq : n == l[k]
      · have HI : ∀ j (hj : j < l.length), j < k + 1 → (n == l[j]) = false := fun j hj hjk => by
          by_cases e : j = k
          · subst e; exact hq
          · exact HB.out j hj (by omega)
        have HI := hid HI
        generalize l[k] = x at *
        go_wp2_with fail
        go_roundw
        case rel => exact ⟨k + 1, by omega, by go_num, HI.out, S⟩
        case measure => simp [intOf]; omega
      · have HZ := hid (idxInt_at hlt hq HB.out)
        generalize l[k] = x at *
        go_wp2_with fail
        go_ret
        exact ⟨by rw [HZ.out]; rfl, S⟩
    · have HZ := hid (idxInt_none fun j hj => hb j hj (by omega))
      clear hb
      go_wp2_with fail
      go_ret
      exact ⟨by rw [HZ.out]; rfl, S⟩
theorem dContains (w : World) (e : TypeId) (v : Value) (l : List Int) (n : Int) (h : Ints w e v l) :
    Calls Try.prog 91 #[v, .int .i64 n] w (RetSame (.bool (l.any fun x => n == x)) w) := by
  have H := hid (dIndex w e v l n h)
  have HA := hid (idxInt_any l n)
  go_enter Try.func91, Try.ntmps91
  go_wp2_with fail
  refine H.out.mono ?_
  rintro en w1 ⟨rfl, S1⟩
  generalize idxInt l n = m at *
  go_wp2_with fail
  go_ret
  exact ⟨by rw [← HA.out]; rfl, S1⟩
end Go.Proofs.Ytlhnpicmjjddeaa
namespace Go.Proofs.Ytlhnpicmjjddeaa
open Go.RowKit

theorem cell_lt {w : World} {a : Addr} {u : Value} (h : w.cell? a = some u) : a.block < w.heap.size := by
  rcases Nat.lt_or_ge a.block w.heap.size with h' | h'
  · exact h'
  · simp [World.cell?, Array.getElem?_eq_none h'] at h
theorem Dc.same {w w' : World} {b : Nat} {off fused : Bool} {left n : Int} {kv cv : Value} (h : Dc w b off fused left kv cv n) (S : Same w w') : Dc w' b off fused left kv cv n := by
  obtain ⟨c0, c1, c2, c3, c4, c5⟩ := h
  have hb := cell_lt c0
  refine ⟨?_, ?_, ?_, ?_, ?_, ?_⟩
  · rw [S.cell (p := ⟨b, 0, none⟩) hb]; exact c0
  · rw [S.cell (p := ⟨b, 1, none⟩) hb]; exact c1
  · rw [S.cell (p := ⟨b, 2, none⟩) hb]; exact c2
  · rw [S.cell (p := ⟨b, 3, none⟩) hb]; exact c3
  · rw [S.cell (p := ⟨b, 4, none⟩) hb]; exact c4
  · rw [S.cell (p := ⟨b, 5, none⟩) hb]; exact c5
/-- the block may be written -/
def Fz (w : World) (b : Nat) : Prop := b < w.heap.size ∧ ∀ o, w.frozen? ⟨b, o, none⟩ = false
theorem Fz.same {w w' : World} {b : Nat} (h : Fz w b) (S : Same w w') : Fz w' b :=
  ⟨by have := S.size; have := h.1; omega, fun o => (S.below.frozen (p := ⟨b, o, none⟩) h.1).trans (h.2 o)⟩
theorem Fz.keep {w w' : World} {M : Nat → Prop} {b : Nat} (h : Fz w b) (S : Keep M w w') (hm : ¬ M b) : Fz w' b :=
  ⟨by have := S.size; have := h.1; omega, fun o => (World.frozen?_of_block (w := w) (a := ⟨b, o, none⟩) (S.block b h.1 hm)).trans (h.2 o)⟩
theorem Fz.set {w : World} {b : Nat} (h : Fz w b) (a : Addr) (u : Value) : Fz (w.setCell a u) b := ⟨by simpa using h.1, fun o => by rw [World.frozen?_setCell]; exact h.2 o⟩
theorem Dc.set4 {w : World} {b : Nat} {off fused : Bool} {left n : Int} {kv cv : Value} (h : Dc w b off fused left kv cv n) (off' fused' : Bool) (left' : Int) (kv' : Value) :
    Dc ((((w.setCell ⟨b, 0, none⟩ (.bool off')).setCell ⟨b, 1, none⟩ (.bool fused')).setCell ⟨b, 2, none⟩ (.int .i64 left')).setCell ⟨b, 3, none⟩ kv') b off' fused' left' kv' cv n := by
  obtain ⟨c0, c1, c2, c3, c4, c5⟩ := h
  have o : ∀ (i j : Nat) (W : World) (u : Value), i ≠ j → (W.setCell ⟨b, i, none⟩ u).cell? ⟨b, j, none⟩ = W.cell? ⟨b, j, none⟩ := fun i j W u hij => World.cell?_setCell_other _ _ _ _ (by simp [hij])
  refine ⟨?_, ?_, ?_, ?_, ?_, ?_⟩
  · rw [o _ _ _ _ (by decide), o _ _ _ _ (by decide), o _ _ _ _ (by decide)]; exact World.cell?_setCell_same _ _ _ c0
  · rw [o _ _ _ _ (by decide), o _ _ _ _ (by decide)]; exact World.cell?_setCell_same _ _ _ (by rw [o _ _ _ _ (by decide)]; exact c1)
  · rw [o _ _ _ _ (by decide)]; exact World.cell?_setCell_same _ _ _ (by rw [o _ _ _ _ (by decide), o _ _ _ _ (by decide)]; exact c2)
  · exact World.cell?_setCell_same _ _ _ (by rw [o _ _ _ _ (by decide), o _ _ _ _ (by decide), o _ _ _ _ (by decide)]; exact c3)
  · rw [o _ _ _ _ (by decide), o _ _ _ _ (by decide), o _ _ _ _ (by decide), o _ _ _ _ (by decide)]; exact c4
  · rw [o _ _ _ _ (by decide), o _ _ _ _ (by decide), o _ _ _ _ (by decide), o _ _ _ _ (by decide)]; exact c5
theorem keep4 {w w1 : World} {b : Nat} (h : Same w w1) (u0 u1 u2 u3 : Value) : Keep (fun k => k = b) w ((((w1.setCell ⟨b, 0, none⟩ u0).setCell ⟨b, 1, none⟩ u1).setCell ⟨b, 2, none⟩ u2).setCell ⟨b, 3, none⟩ u3) :=
  ((((h.keep (fun k => k = b)).setCell (p := ⟨b, 0, none⟩) (.inl rfl) _).setCell (p := ⟨b, 1, none⟩) (.inl rfl) _).setCell (p := ⟨b, 2, none⟩) (.inl rfl) _).setCell (p := ⟨b, 3, none⟩) (.inl rfl) _
set_option maxRecDepth 100000 in
theorem dStart (w : World) (b : Nat) (off fused : Bool) (left : Int) (kv : Value) (a : Addr) (l c : Nat) (n : Int) (h : Dc w b off fused left kv (.slice (some a) l c) n) (hz : Fz w b) :
    Calls Try.prog 41 #[.pointer (some ⟨b, 0, none⟩)] w fun en w' => en = .returned (.int .i64 0) ∧ Keep (fun k => k = b) w w' ∧ Dc w' b false false 0 (.slice none 0 0) (.slice (some a) l c) n ∧ Fz w' b := by
  have H := hid (dOk · b off fused left kv a l c n)
  have H0 := hid h
  have HZ := hid hz
  clear h hz
  go_enter Try.func41, Try.ntmps41
  go_wp2_with fail
  refine (H.out _ H0.out).mono ?_
  rintro en w1 ⟨rfl, S1⟩
  obtain ⟨c0, c1, c2, c3, c4, c5⟩ := H0.out.same S1
  have hz1 := hid (HZ.out.same S1)
  have z0 := hz1.out.2 0
  have z1 := hz1.out.2 1
  have z2 := hz1.out.2 2
  have z3 := hz1.out.2 3
  go_wp2_with fail
  go_ret
  exact ⟨rfl, keep4 S1 _ _ _ _, (H0.out.same S1).set4 _ _ _ _, (((hz1.out.set _ _).set _ _).set _ _).set _ _⟩
end Go.Proofs.Ytlhnpicmjjddeaa
namespace Go.Proofs.Ytlhnpicmjjddeaa
theorem tyBytes : RowTy Try.prog 23 5 1 1 (.int .u8 0) := ⟨Try.underlying23, by kernel_rfl, rfl, by decide⟩
end Go.Proofs.Ytlhnpicmjjddeaa
namespace Go.Proofs.Ytlhnpicmjjddeaa
open Go.RowKit

theorem zeroCells_one (n : Nat) : (Builtin.zeroCells #[Value.int .u8 0] n).toList = (List.replicate n (0 : UInt8)).map u8 := by
  unfold Builtin.zeroCells
  apply List.ext_getElem
  · simp
  · intro i h1 h2
    simp [u8, Nat.mod_one]

theorem run_append_zeros {P : Program} (w : World) {t tn : TypeId} {kn : IntKind} (T : RowTy P t 5 1 1 (.int .u8 0)) (htn : P.underlying tn = some (.int kn)) (ty : TypeId) (kq : IntKind) {base : Nat} {v : Value} {l : List UInt8}
    (hown : OwnB w base v l) (k : Nat) (hb : l.length + k ≤ 140737488355328) (hbase : base ≤ w.heap.size) :
    ∃ v' w', (Builtin.append_ #[t, tn] ty #[v, .int kq k]).run P w = .ok v' w' ∧ OwnB w' base v' (l ++ List.replicate k 0) ∧ w.grownBy w' v.ownBlock := by
  obtain ⟨i, hi, hz, hs, hby⟩ := info_parts T.info
  have hsz : i.size = 1 := hs
  have hkw : IntKind.i64.wrap (k : Int) = k := by rw [IntKind.wrap_i64]; omega
  have h48i : ¬ (281474976710656 < (k : Int) * (i.bytes : Int)) := by rw [hby]; omega
  have hneg : ¬ ((k : Int) < 0) := by omega
  by_cases hk : k = 0
  · subst hk
    have hw0 : IntKind.i64.wrap 0 = 0 := by rw [IntKind.wrap_i64]; omega
    refine ⟨v, w, ?_, by simpa using hown, World.grownBy.refl _ _⟩
    rcases hown.2 with ⟨rfl, hn⟩ | ⟨g, cap, cur, rfl, _, hg, hnc, hcm, hcs, htk⟩
    · simp [Builtin.append_, run_underlying T.under, run_underlying htn, sizeOf, typeInfo, hi, asInt, asIntOf, hw0]
    · simp [Builtin.append_, run_underlying T.under, run_underlying htn, sizeOf, typeInfo, hi, asInt, asIntOf, hw0, hnc, storeCells]
  · have hk0 : 0 < k := by omega
    have newL : ∀ (olds : List Value), olds = l.map u8 → ∀ n, n = l.length → ∀ c, (w.drew.alloc (.cells (olds.toArray ++ Builtin.zeroCells #[.int .u8 0] k ++ Builtin.zeroCells #[.int .u8 0] (grownCap w (n + k) c 5 - (n + k))) 5)).ownsRow base 5 1
        (.slice (some ⟨w.heap.size, 0, none⟩) (n + k) (grownCap w (n + k) c 5)) (l ++ List.replicate k 0).length ((l ++ List.replicate k 0).map u8) := by
      intro olds ho n hn c
      subst ho; subst hn
      have hge := grownCap_ge w (l.length + k) c 5
      have hcm : grownCap w (l.length + k) c 5 ≤ maxLen := grownCap_le_maxLen w (l.length + k) c 5 (by unfold maxLen; omega)
      refine ⟨by simp, .inr ⟨w.heap.size, _, _, by simp, hbase, heap_alloc_new w.drew _, by simpa using hge, hcm, ?_, ?_⟩⟩
      · simp only [Array.size_append, List.size_toArray, size_zeroCells, List.length_map]
        simp; omega
      · simp only [Array.toList_append, zeroCells_one, List.append_assoc]
        rw [← List.append_assoc, ← List.map_append]
        rw [List.take_append_of_le_length (by simp)]
        exact List.take_of_length_le (by simp)
    have grw : ∀ o (row : Option Nat), w.grownBy (w.drew.alloc o) row := fun o row => ⟨rfl, rfl, rfl, by simp, fun j hj _ => Below.heap_alloc w.drew o j hj⟩
    rcases hown.2 with ⟨rfl, hn⟩ | ⟨g, cap, cur, rfl, hbg, hg, hnc, hcm, hcs, htk⟩
    · have hl : l = [] := List.eq_nil_of_length_eq_zero hn
      subst hl
      have hr := Lib.run_append_nil_zeros (P := P) w t tn ty 5 i (.int .u8 0) kq kn T.under htn hi hz k hk0 (by omega) (by omega) (by rw [hby]; omega)
      have hnw := newL [] rfl 0 rfl 0
      simp only [Nat.zero_add, Array.empty_append] at hnw
      exact ⟨_, _, hr, hnw, grw _ _⟩
    · by_cases hroom : l.length + k ≤ cap
      · have hst := run_storeCells_at P g l.length 5 ((List.replicate k (0 : UInt8)).map u8) 0 cur w hg (by simp; omega) (bytes_one _)
        simp only [Nat.add_zero] at hst
        have hzc := zeroCells_one k
        refine ⟨.slice (some ⟨g, 0, none⟩) (l.length + k) cap, w.setRow g (cur.toList.take l.length ++ (List.replicate k (0 : UInt8)).map u8 ++ cur.toList.drop (l.length + ((List.replicate k (0 : UInt8)).map u8).length)).toArray, ?_, ?_, ?_⟩
        · have hadd : (⟨g, 0, none⟩ : Addr).add l.length = ⟨g, l.length, none⟩ := by unfold Addr.add; split <;> simp_all
          simp [Builtin.append_, run_underlying T.under, run_underlying htn, sizeOf, typeInfo, zeroValue, hi, hz, hsz, asInt, asIntOf, hkw, hneg, h48i, hroom, hk, hadd, Value.cells, hzc]
          simp at hst
          rw [hst]
          rfl
        · refine ⟨by simp, .inr ⟨g, cap, _, by simp, hbg, setRow_heap w g cur _ 5 _ hg, by simpa using hroom, hcm, ?_, ?_⟩⟩
          · simp at hcs ⊢; omega
          · have hxx : cur.toList.take l.length = l.map u8 := by simpa using htk
            rw [hxx, ← List.map_append]
            show List.take _ (_ ++ _) = _
            rw [List.take_append_of_le_length (by simp)]
            exact List.take_of_length_le (by simp)
        · exact ⟨rfl, rfl, rfl, by simp, fun j _ hj => setRow_other w g j _ (fun e => hj (by simp [Value.ownBlock, e]))⟩
      · have hold : (Builtin.firstCells i.size l.length (.slice (some ⟨g, 0, none⟩) l.length cap)).run P w.drew = .ok (l.map u8).toArray w.drew :=
          run_firstCells_some (P := P) w.drew i.size l.length ⟨g, 0, none⟩ l.length cap (l.map u8) (by rw [hsz]; simp) (by
            intro j u hu
            have := World.ownsRow.cells hown (g := g) rfl j u hu
            simpa using this)
        have hr := Lib.run_append_grow_zeros (P := P) w t tn ty 5 i (.int .u8 0) kq kn T.under htn hi hz (some ⟨g, 0, none⟩) l.length cap (l.map u8) hold k hk0 (by omega) (by omega) (by omega) (by rw [hby]; omega) (by rw [hby]; exact growslice_fits (by omega) (by omega))
        exact ⟨_, _, hr, newL _ rfl _ rfl cap, grw _ _⟩

theorem wpList_append_zeros {P : Program} {w : World} {ops : Array Oper} {rest : List Oper} {o : Oper} {a : Act} {Q : Exit → Act → World → Prop} (hgd : o.guard = none) (s x : Operand)
    (t tn : TypeId) {kn : IntKind} (T : RowTy P t 5 1 1 (.int .u8 0)) (htn : P.underlying tn = some (.int kn)) (ho : o.op = .call { callee := .builtin .append, args := #[s, x], argTypes := #[t, tn] })
    {base : Nat} {v : Value} {l : List UInt8} (hown : OwnB w base v l) (kq : IntKind) (k : Nat) (hs : a.eval s = v) (hx : a.eval x = .int kq k)
    (hb : l.length + k ≤ 140737488355328) (hbase : base ≤ w.heap.size)
    (h : ∀ v' w', OwnB w' base v' (l ++ List.replicate k 0) → w.grownBy w' v.ownBlock → wpList P ops Q rest (a.put o.dst v') w') : wpList P ops Q (o :: rest) a w :=
  wpList_plain hgd fun _ hK => by
    obtain ⟨v', w', hr, h2, h3⟩ := run_append_zeros (P := P) w T htn o.type kq hown k hb hbase
    unfold Oper.wp execOp
    simp only [ho, resolve, invoke, builtin, Sem.run_bind, Sem.run_pure, Result.andThen_ok, List.map_toArray, List.map_cons, List.map_nil, hs, hx, hr]
    exact hK _ _ (h v' w' h2 h3)
end Go.Proofs.Ytlhnpicmjjddeaa
namespace Go.Proofs.Ytlhnpicmjjddeaa
open Go.RowKit

/-- a call hands back a new row of bytes, its own; only new blocks -/
def RetOwn (l : List UInt8) (w : World) (en : Ending) (w' : World) : Prop := ∃ v, en = .returned v ∧ OwnB w' w.heap.size v l ∧ Same w w'

theorem OwnB.made {w : World} (base g n : Nat) (cur : Array Value) (l : List UInt8) (hg : w.heap[g]? = some (.cells cur 5 (0, 0))) (hb : base ≤ g) (hm : n ≤ maxLen)
    (hl : l.length = n) (hp : cur.toList = l.map u8) : OwnB w base (.slice (some ⟨g, 0, none⟩) n n) l := by
  subst hl
  have hs : cur.size = l.length := by rw [← Array.length_toList, hp, List.length_map]
  exact ⟨by simp, .inr ⟨g, l.length, cur, rfl, hb, hg, Nat.le_refl _, hm, by omega, by rw [hp]; exact List.take_of_length_le (by simp)⟩⟩

theorem OwnB.made_none (w : World) : OwnB (w.alloc (.cells #[] 5)) w.heap.size (.slice (some ⟨w.heap.size, 0, none⟩) 0 0) [] :=
  OwnB.made _ _ 0 #[] [] (heap_alloc_new w _) (Nat.le_refl _) (by decide) rfl rfl

set_option maxRecDepth 100000 in
theorem cloneBytes (w : World) (e : TypeId) (v : Value) (l : List UInt8) (hb : Bytes w e v l) (hl : Hid (l.length ≤ 1000000)) :
    Calls Try.prog 85 #[v] w (RetOwn l w) := by
  obtain ⟨ao, cap, rfl, h1, h2⟩ := hb.form
  have S0 := Same.refl w
  have kn := fun (w : World) => Lib.run_eql_slice_nil (P := Try.prog) w 23 5 ao l.length cap 0 0 Try.underlying23
  cases ao with
  | none =>
    obtain ⟨_, _, _, hv, _, _, hn, _⟩ := id hb
    simp only [Value.slice.injEq] at hv
    obtain ⟨rfl, _, rfl⟩ := hv
    have hl0 : l = [] := List.eq_nil_of_length_eq_zero (by have := hn rfl; omega)
    subst hl0
    have hcap := hn rfl
    subst hcap
    simp only [Option.isNone_none, List.length_nil] at kn ⊢
    go_enter Try.func85, Try.ntmps85
    go_wp2_with fail
    go_ret
    exact ⟨_, rfl, OwnB.nil _ _, S0⟩
  | some a =>
    simp only [Option.isNone_some] at kn
    have S1 := S0.alloc (.cells #[] 5)
    have hb1 := hb.same S1
    have HO := OwnB.made_none w
    go_enter Try.func85, Try.ntmps85
    go_wp2_with (at_builtin; refine wpList_append_bytes rfl (.tmp 5) (.tmp 6) 23 tyBytes rfl HO hb1 rfl rfl (by have := hl.out; simp; omega) (by simp) ?_; intro x1 w1 ho1 hg1; simp only [List.nil_append] at ho1; have S2 := S1.grown_own HO (Nat.le_refl _) hg1)
    go_ret
    exact ⟨_, rfl, ho1, S2⟩

theorem OwnB.none_left {w : World} {base : Nat} {a : Option Addr} {n c : Nat} {l : List UInt8} (h : OwnB w base (.slice a n c) l) : OwnB w base (.slice a 0 c) [] := by
  obtain ⟨h1, h2⟩ := h
  refine ⟨rfl, ?_⟩
  rcases h2 with ⟨h2, _⟩ | ⟨g, cap, cur, hv, b, hg, hn, hm, hs, _⟩
  · simp only [Value.slice.injEq] at h2
    obtain ⟨rfl, _, rfl⟩ := h2
    exact .inl ⟨rfl, rfl⟩
  · simp only [Value.slice.injEq] at hv
    obtain ⟨rfl, _, rfl⟩ := hv
    exact .inr ⟨g, c, cur, rfl, b, hg, Nat.zero_le _, hm, hs, by simp⟩

set_option maxRecDepth 100000 in
theorem growNone (w : World) (n : Nat) (hn : Hid (n ≤ 1000000)) :
    Calls Try.prog 116 #[.slice none 0 0, .int .i64 n] w (RetOwn [] w) := by
  have S0 := Same.refl w
  have hn' : n ≤ 9223372036854775807 := by have := hn.out; omega
  by_cases h : n = 0
  · subst h
    go_enter Try.func116, Try.ntmps116
    go_wp2_with fail
    go_ret
    exact ⟨_, rfl, OwnB.nil _ _, S0⟩
  · go_enter Try.func116, Try.ntmps116
    go_wp2_with (at_builtin; refine wpList_append_zeros rfl (.tmp 20) (.tmp 21) 23 3 tyBytes Try.underlying3 rfl (OwnB.nil w w.heap.size) .i64 n rfl rfl (by have := hn.out; simp; omega) (Nat.le_refl _) ?_; intro x1 w1 ho1 hg1; simp only [List.nil_append] at ho1; have S1 := S0.grown_nil hg1; obtain ⟨ax, cx, rfl, hx1, hx2⟩ := ho1.bytes.form; have ho2 := ho1.none_left; unfold maxLen at hx2; simp only [List.length_replicate] at hx1 ⊢)
    go_ret
    exact ⟨_, rfl, ho2, S1⟩

theorem ret_beq (l r : List UInt8) : Ending.returned (.bool (l == r)) = .returned (.bool (decide (l = r))) := by
  by_cases h : l = r <;> simp [h]
theorem convertBytes (w : World) (e : TypeId) (ao : Option Addr) (cap : Nat) (l : List UInt8) (hb : Bytes w e (.slice ao l.length cap) l) :
    (convert 23 9 (.slice ao l.length cap)).run Try.prog w = .ok (.string ⟨l.toArray⟩) w := by
  cases ao with
  | none =>
    obtain ⟨_, _, _, hv, hc, _, hn, _⟩ := id hb
    simp only [Value.slice.injEq] at hv
    obtain ⟨rfl, _, rfl⟩ := hv
    have hl0 : l = [] := List.eq_nil_of_length_eq_zero (by have := hn rfl; omega)
    subst hl0
    rw [run_convert_bytes_string w 23 9 5 none _ _ Try.underlying23 Try.underlying5 Try.underlying9]
    rfl
  | some a =>
    refine run_convert_bytes_back w 23 9 5 a cap l Try.underlying23 Try.underlying5 Try.underlying9 fun j hj => ?_
    obtain ⟨g, o, ha, hc⟩ := hb.cells (by omega)
    cases ha
    have hadd : (⟨g, o, none⟩ : Addr).add j = ⟨g, o + j, none⟩ := by unfold Addr.add; split <;> simp_all
    rw [hadd]
    exact hc j hj

set_option maxRecDepth 100000 in
/-- Equal of two rows of bytes -/
theorem equalBytes (w : World) (e1 e2 : TypeId) (v1 v2 : Value) (l r : List UInt8) (hl : Bytes w e1 v1 l) (hr : Bytes w e2 v2 r) :
    Calls Try.prog 86 #[v1, v2] w fun en w' => en = .returned (.bool (decide (l = r))) ∧ w = w' := by
  obtain ⟨a1, c1, rfl, h1, h2⟩ := hl.form
  obtain ⟨a2, c2, rfl, h3, h4⟩ := hr.form
  have k1 := convertBytes w e1 a1 c1 l hl
  have k2 := convertBytes w e2 a2 c2 r hr
  go_enter Try.func86, Try.ntmps86
  go_wp2_with fail
  go_ret
  exact ⟨ret_beq l r, rfl⟩
set_option maxHeartbeats 800000 in
set_option maxRecDepth 100000 in
theorem concatBytes (w : World) (e : TypeId) (v : Value) (ls : List (List UInt8)) (hr : Rows2 w e v ls) (hl : ls.flatten.length ≤ 1000000) :
    Calls Try.prog 84 #[v] w (RetOwn ls.flatten w) := by
  obtain ⟨ao, cap, rfl, h1, h2⟩ := hr.form
  unfold maxLen at h2
  have HL := hid hl; clear hl
  go_enter Try.func84, Try.ntmps84
  go_wp2_with fail
  go_loop [3, 11] (fun s i => ∃ k : Nat, k ≤ ls.length ∧ i = .int .i64 k ∧ s = .int .i64 (tot ls k : Nat)) (fun _ i => ls.length - (intOf i).toNat)
  case atStart => exact ⟨0, Nat.zero_le _, rfl, rfl⟩
  case round =>
    obtain ⟨k, hk, rfl, rfl⟩ := hrel
    by_cases hlt : k < ls.length
    · obtain ⟨g, o, a, c, e', rfl, hcell, hb⟩ := hr.row k hlt
      have HS := hid (tot_succ ls k hlt)
      have hB : tot ls k + ls[k].length ≤ 1000000 := by have := HS.out; have := HL.out; have := tot_le ls (k + 1); omega
      clear hb
      generalize tot ls k = n at *
      generalize ls[k].length = m at *
      have hneg : ¬ ((n : Int) + (m : Int) < 0) := by omega
      go_wp2_with fail
      go_round
      case rel => exact ⟨k + 1, by omega, by go_num, by rw [HS.out]; go_num⟩
      case measure => simp [intOf]; omega
    · obtain rfl : k = ls.length := by omega
      have HT : Hid (tot ls ls.length = ls.flatten.length) := by show _ = _; unfold tot; rw [cat_all]
      have h99 : tot ls ls.length ≤ 9223372036854775807 := by have := HL.out; have := tot_le ls ls.length; omega
      have HG : Hid (tot ls ls.length ≤ 1000000) := by rw [HT.out]; exact HL
      go_wp2_with fail
      refine (growNone _ (tot ls ls.length) HG).mono ?_
      rintro en w1 ⟨v0, rfl, ho0, S1⟩
      go_wp2_with fail
      go_loopw [6, 27] (fun v i wr => ∃ k : Nat, k ≤ ls.length ∧ i = .int .i64 k ∧ OwnB wr w.heap.size v (cat ls k) ∧ Same w wr) (fun _ i _ => ls.length - (intOf i).toNat)
      case atStart => exact ⟨0, Nat.zero_le _, rfl, ho0, S1⟩
      case round =>
        obtain ⟨k, hk, rfl, ho, S2⟩ := hrel
        by_cases hlt : k < ls.length
        · obtain ⟨g, o, a, c, e', rfl, hcell, hb⟩ := (hr.same S2).row k hlt
          have hB : Hid ((cat ls k).length + ls[k].length ≤ 140737488355328) := by
            have := HL.out; have := tot_le ls (k + 1); have := tot_succ ls k hlt
            show tot ls k + _ ≤ _
            omega
          have HS := hid (cat_succ ls k hlt)
          go_wp2_with (at_builtin; refine wpList_append_bytes rfl (.tmp 31) (.tmp 32) 23 tyBytes rfl ho hb rfl rfl hB.out S2.size ?_; intro x1 w1 ho1 hg1; have S3 := S2.grown_own ho (Nat.le_refl _) hg1)
          go_roundw
          case rel => exact ⟨k + 1, by omega, by go_num, by rw [HS.out]; exact ho1, S3⟩
          case measure => simp [intOf]; omega
        · obtain rfl : k = ls.length := by omega
          go_wp2_with fail
          go_ret
          exact ⟨_, rfl, by rw [cat_all] at ho; exact ho, S2⟩
end Go.Proofs.Ytlhnpicmjjddeaa
namespace Go.Proofs.Ytlhnpicmjjddeaa
open Go.RowKit

theorem tyInts : RowTy Try.prog 37 3 1 8 (.int .i64 0) := ⟨Try.underlying37, by kernel_rfl, rfl, by decide⟩
theorem ints_one (l : List Int) : ∀ u ∈ l.map i64, u.oneCell' = true := by
  intro u hu
  obtain ⟨x, _, rfl⟩ := List.mem_map.1 hu
  rfl
def OwnI (w : World) (base : Nat) (v : Value) (l : List Int) : Prop := w.ownsRow base 3 1 v l.length (l.map i64)
theorem OwnI.nil (w : World) (base : Nat) : OwnI w base (.slice none 0 0) [] := World.ownsRow_nil w base 3 1
theorem OwnI.ints {w : World} {base : Nat} {v : Value} {l : List Int} (h : OwnI w base v l) : Ints w 3 v l := Sl.of_owns h
def RetInts (l : List Int) (w : World) (en : Ending) (w' : World) : Prop := ∃ v, en = .returned v ∧ OwnI w' w.heap.size v l ∧ Same w w'

theorem OwnI.made_none (w : World) : OwnI (w.alloc (.cells #[] 3)) w.heap.size (.slice (some ⟨w.heap.size, 0, none⟩) 0 0) [] :=
  ⟨rfl, .inr ⟨w.heap.size, 0, #[], rfl, Nat.le_refl _, heap_alloc_new w _, Nat.le_refl _, by decide, by simp, by simp⟩⟩

set_option maxRecDepth 100000 in
theorem cloneInts (w : World) (e : TypeId) (v : Value) (l : List Int) (hb : Ints w e v l) (hl : Hid (l.length ≤ 1000000)) :
    Calls Try.prog 92 #[v] w (RetInts l w) := by
  obtain ⟨ao, cap, rfl, h1, h2⟩ := hb.form
  have S0 := Same.refl w
  have kn := fun (w : World) => Lib.run_eql_slice_nil (P := Try.prog) w 37 3 ao l.length cap 0 0 Try.underlying37
  cases ao with
  | none =>
    obtain ⟨_, _, _, hv, _, _, hn, _⟩ := id hb
    simp only [Value.slice.injEq] at hv
    obtain ⟨rfl, _, rfl⟩ := hv
    have hl0 : l = [] := List.eq_nil_of_length_eq_zero (by have := hn rfl; omega)
    subst hl0
    have hcap := hn rfl
    subst hcap
    simp only [Option.isNone_none, List.length_nil] at kn ⊢
    go_enter Try.func92, Try.ntmps92
    go_wp2_with fail
    go_ret
    exact ⟨_, rfl, OwnI.nil _ _, S0⟩
  | some a =>
    simp only [Option.isNone_some] at kn
    have S1 := S0.alloc (.cells #[] 3)
    have hb1 := hb.same S1
    have HO := OwnI.made_none w
    have HN := ints_one l
    go_enter Try.func92, Try.ntmps92
    go_wp2_with (at_builtin; refine wpList_append_sl rfl (.tmp 5) (.tmp 6) tyInts rfl HO hb1 rfl rfl HN (by have := hl.out; simp [maxLen]; omega) (by have := hl.out; simp; omega) (by simp) ?_; intro x1 w1 ho1 hg1; simp only [List.map_nil, List.nil_append, List.length_nil, Nat.zero_add] at ho1; have S2 := S1.grown hg1 (fun k e => by cases e; exact Nat.le_refl _))
    go_ret
    exact ⟨_, rfl, ho1, S2⟩

theorem dFuse_dead (w : World) (b : Nat) (fused : Bool) (left : Int) (kv v : Value) (a : Addr) (l c : Nat) (n m : Int) (h : Dc w b true fused left kv (.slice (some a) l c) n) :
    Calls Try.prog 35 #[.pointer (some ⟨b, 0, none⟩), .int .i64 m, v] w (RetSame (.int .i64 9) w) := by
  have H := hid (dReady w b true fused left kv a l c n h)
  go_enter Try.func35, Try.ntmps35
  go_wp2_with fail
  refine H.out.mono ?_
  rintro en w1 ⟨rfl, S1⟩
  go_wp2_with fail
  go_ret
  exact ⟨rfl, S1⟩
theorem OwnI.keep {w w' : World} {M : Nat → Prop} {base : Nat} {v : Value} {l : List Int} (h : OwnI w base v l) (k : Keep M w w') (hm : ∀ g, v.ownBlock = some g → ¬ M g) : OwnI w' base v l := by
  obtain ⟨h1, h2⟩ := h
  refine ⟨h1, ?_⟩
  rcases h2 with h2 | ⟨g, cap, cur, rfl, b, c, d⟩
  · exact .inl h2
  · exact .inr ⟨g, cap, cur, rfl, b, by rw [k.block g (Array.getElem?_eq_some_iff.1 c).1 (hm g rfl)]; exact c, d⟩
theorem OwnI.lt {w : World} {base : Nat} {v : Value} {l : List Int} (h : OwnI w base v l) : ∀ k, v.ownBlock = some k → base ≤ k ∧ k < w.heap.size := fun k e => World.ownsRow.lt h k e

set_option maxRecDepth 100000 in
theorem dFuse (w : World) (b : Nat) (fused : Bool) (left : Int) (kv v : Value) (a : Addr) (l c : Nat) (n m : Int) (ks : List Int) (e : TypeId) (h : Dc w b false fused left kv (.slice (some a) l c) n) (hz : Fz w b) (hk : Ints w e v ks) (hl : ks.length ≤ 1000000) :
    Calls Try.prog 35 #[.pointer (some ⟨b, 0, none⟩), .int .i64 m, v] w fun en w' => en = .returned (.int .i64 0) ∧ Keep (fun k => k = b) w w' ∧ Fz w' b ∧
      ∃ kv', Dc w' b false (decide (0 ≤ m)) m kv' (.slice (some a) l c) n ∧ OwnI w' w.heap.size kv' ks := by
  have H := hid (dReady w b false fused left kv a l c n h)
  have HC := hid cloneInts
  have H0 := hid h
  have HZ := hid hz
  have hL := hid hl
  clear h hz hl
  go_enter Try.func35, Try.ntmps35
  go_wp2_with fail
  refine H.out.mono ?_
  rintro en w1 ⟨rfl, S1⟩
  go_wp2_with fail
  refine (HC.out _ _ _ _ (hk.same S1) hL).mono ?_
  rintro en w2 ⟨kv2, rfl, hO, S2⟩
  have S := S1.trans S2
  obtain ⟨c0, c1, c2, c3, c4, c5⟩ := H0.out.same S
  have hz1 := hid (HZ.out.same S)
  have z0 := hz1.out.2 0
  have z1 := hz1.out.2 1
  have z2 := hz1.out.2 2
  have z3 := hz1.out.2 3
  have HO := hid hO
  obtain ⟨ak, ck, rfl, _, _⟩ := hO.ints.form
  clear hO
  go_wp2_with fail
  go_ret
  refine ⟨rfl, keep4 S _ _ _ _, (((hz1.out.set _ _).set _ _).set _ _).set _ _, _, (H0.out.same S).set4 _ _ _ _, ?_⟩
  have K := keep4 (Same.refl w2) (b := b) (.bool false) (.bool (decide (0 ≤ m))) (.int .i64 m) (.slice ak ks.length ck)
  have hb : b < w1.heap.size := cell_lt (H0.out.same S1).1
  have O1 := HO.out
  have hsz := S1.size
  refine ⟨O1.1, ?_⟩
  have O2 := (O1.keep K (fun g e => by have := (O1.lt g e).1; omega)).2
  rcases O2 with O2 | ⟨g, cap, cur, e1, e2, r⟩
  · exact .inl O2
  · exact .inr ⟨g, cap, cur, e1, by omega, r⟩
end Go.Proofs.Ytlhnpicmjjddeaa
namespace Go.Proofs.Ytlhnpicmjjddeaa
open Go.RowKit
def zero96 : Value := .agg (Array.replicate 96 (.int .u8 0))
theorem tyCells : (Try.prog.info? 143).map (fun i => (i.zero, i.size, i.bytes)) = some (some zero96, 96, 96) := by kernel_rfl
theorem runMake (w : World) (n : Nat) (h2 : n ≤ 2048) : (Instr.makeSlice 53 (.int .i64 n) (.int .i64 n)).run Try.prog w =
    .ok (.slice (some ⟨w.heap.size, 0, none⟩) n n) (w.alloc (.cells (madeCells zero96.cells (n * 96)) 143)) := by
  obtain ⟨i, hi, hz, hs, hb⟩ := info_parts tyCells
  have := run_makeSlice (P := Try.prog) w 53 143 i zero96 Try.underlying53 hi hz .i64 .i64 n n (by omega) (Int.le_refl _) (by rw [hs]; simp; omega) (by rw [hb]; omega) (by omega)
  rw [hs] at this
  simpa using this
set_option maxHeartbeats 800000 in
set_option maxRecDepth 100000 in
theorem dNew (w : World) (n : Nat) (h1 : 1 ≤ n) (h2 : n ≤ 2048) : Calls Try.prog 32 #[.int .i64 n] w fun en w' => en = .returned (.tuple #[.pointer (some ⟨w.heap.size + 1, 0, none⟩), .int .i64 0]) ∧ Same w w' ∧
    Dc w' (w.heap.size + 1) false false 0 (.slice none 0 0) (.slice (some ⟨w.heap.size, 0, none⟩) n n) 0 ∧ w'.heap[w.heap.size]? = some (.cells (madeCells zero96.cells (n * 96)) 143 (0, 0)) ∧ Fz w' (w.heap.size + 1) := by
  have hm := runMake w n h2
  generalize madeCells zero96.cells (n * 96) = cs at *
  go_enter Try.func32, Try.ntmps32
  go_wp2_with fail
  go_ret2
  generalize hob : Obj.cells #[Value.bool false, Value.bool false, Value.int IntKind.i64 0, Value.slice none 0 0, Value.slice (some { block := w.heap.size, off := 0 }) n n, Value.int IntKind.i64 0] 55 = ob
  have hs : (w.alloc (Obj.cells cs 143)).heap.size = w.heap.size + 1 := by simp
  have hn : ((w.alloc (Obj.cells cs 143)).alloc ob).heap[w.heap.size + 1]? = some ob := by rw [← hs]; exact heap_alloc_new _ _
  have hc : ∀ j u, (match ob with | .cells c _ _ => c[j]? | _ => none) = some u → ((w.alloc (Obj.cells cs 143)).alloc ob).cell? ⟨w.heap.size + 1, j, none⟩ = some u := by
    intro j u hu
    subst hob
    simp only [World.cell?, hn]
    simpa using hu
  refine ⟨rfl, ((Same.refl w).alloc _).alloc _, ⟨?_, ?_, ?_, ?_, ?_, ?_⟩, ?_, ?_, ?_⟩
  · exact hc 0 _ (by subst hob; rfl)
  · exact hc 1 _ (by subst hob; rfl)
  · exact hc 2 _ (by subst hob; rfl)
  · exact hc 3 _ (by subst hob; rfl)
  · exact hc 4 _ (by subst hob; rfl)
  · exact hc 5 _ (by subst hob; rfl)
  · exact (((Same.refl (w.alloc (Obj.cells cs 143))).alloc ob).block w.heap.size (by rw [hs]; omega) (fun x => x)).trans (heap_alloc_new w _)
  · simp
  · intro o
    subst hob
    unfold World.frozen?
    simp only [hn]
    by_cases h0 : 0 ≤ o <;> simp
end Go.Proofs.Ytlhnpicmjjddeaa
