/- Memory, told plainly: slices that read as lists, worlds of which only some blocks turn. No condition; no program in sight. -/
import Derived.WalkKit
import Derived.Deep.LoopGhost
import Derived.Deep.Cut
import Derived.Deep.CutRange
import Derived.Deep.DeepCutAuto
import Derived.Deep.QuietTactic
import Derived.BigQuiet
import Derived.Laws.CopyOwn
import Derived.WalkSpells
import Derived.Lib.SlBytesConst
namespace Go.Proofs.Ytijdjpmceclmhaa
open Go.RowKit

theorem hid {p : Prop} (h : p) : Hid p := h

/-- w' is w with new blocks, and with writes to the blocks M alone. -/
structure Keep (M : Nat → Prop) (w w' : World) : Prop where
  os : w'.os = w.os
  tape : w'.tape = w.tape
  output : w'.output = w.output
  size : w.heap.size ≤ w'.heap.size
  block : ∀ k, k < w.heap.size → ¬ M k → w'.heap[k]? = w.heap[k]?

def NoB (_ : Nat) : Prop := False
/-- only new blocks -/
def Same (w w' : World) : Prop := Keep NoB w w'

theorem Keep.refl (M : Nat → Prop) (w : World) : Keep M w w := ⟨rfl, rfl, rfl, Nat.le_refl _, fun _ _ _ => rfl⟩
theorem Keep.trans {M : Nat → Prop} {a b c : World} (h : Keep M a b) (k : Keep M b c) : Keep M a c :=
  ⟨k.os.trans h.os, k.tape.trans h.tape, k.output.trans h.output, Nat.le_trans h.size k.size,
    fun i hi hm => (k.block i (Nat.lt_of_lt_of_le hi h.size) hm).trans (h.block i hi hm)⟩
/-- blocks that are new to a are let go besides -/
theorem Keep.weak {M M' : Nat → Prop} {a b : World} (h : Keep M a b) (hm : ∀ k, k < a.heap.size → M k → M' k) : Keep M' a b :=
  ⟨h.os, h.tape, h.output, h.size, fun i hi hn => h.block i hi fun x => hn (hm i hi x)⟩
theorem Keep.trans' {M M' : Nat → Prop} {a b c : World} (h : Keep M a b) (k : Keep M' b c) (hm : ∀ i, i < a.heap.size → M' i → M i) : Keep M a c :=
  ⟨k.os.trans h.os, k.tape.trans h.tape, k.output.trans h.output, Nat.le_trans h.size k.size,
    fun i hi hn => (k.block i (Nat.lt_of_lt_of_le hi h.size) (fun x => hn (hm i hi x))).trans (h.block i hi hn)⟩
theorem Keep.same {M : Nat → Prop} {a b c : World} (h : Keep M a b) (k : Same b c) : Keep M a c := h.trans' k fun _ _ x => x.elim
theorem Same.keep {a b : World} (h : Same a b) (M : Nat → Prop) : Keep M a b := h.weak fun _ _ x => x.elim
theorem Same.refl (w : World) : Same w w := Keep.refl _ w
theorem Same.trans {a b c : World} (h : Same a b) (k : Same b c) : Same a c := Keep.trans h k
theorem Keep.drew {M : Nat → Prop} {a w : World} (h : Keep M a w) : Keep M a w.drew := ⟨h.os, h.tape, h.output, h.size, h.block⟩
theorem Keep.drewN {M : Nat → Prop} {a w : World} (h : Keep M a w) (n : Nat) : Keep M a (w.drewN n) := ⟨h.os, h.tape, h.output, h.size, h.block⟩
theorem Keep.alloc {M : Nat → Prop} {a w : World} (h : Keep M a w) (o : Obj) : Keep M a (w.alloc o) :=
  h.trans ⟨rfl, rfl, rfl, by simp, fun k hk _ => Below.heap_alloc _ _ _ hk⟩
theorem Keep.setCell {M : Nat → Prop} {a w : World} (h : Keep M a w) {p : Addr} (hp : M p.block ∨ a.heap.size ≤ p.block) (u : Value) : Keep M a (w.setCell p u) := by
  refine ⟨h.os, h.tape, h.output, by simpa using h.size, fun k hk hm => ?_⟩
  rw [Below.heap_setCell _ _ _ _ (fun e => by rcases hp with hp | hp; exact hm (e ▸ hp); omega)]
  exact h.block k hk hm
theorem Keep.grown {M : Nat → Prop} {a w w' : World} {row : Option Nat} (h : Keep M a w) (hg : w.grownBy w' row) (hr : ∀ k, row = some k → M k ∨ a.heap.size ≤ k) : Keep M a w' :=
  ⟨hg.os.trans h.os, hg.tape.trans h.tape, hg.output.trans h.output, Nat.le_trans h.size hg.size, fun k hk hm =>
    (hg.block k (Nat.lt_of_lt_of_le hk h.size) (fun e => by rcases hr k e.symm with x | x; exact hm x; omega)).trans (h.block k hk hm)⟩
theorem Same.drew {a w : World} (h : Same a w) : Same a w.drew := Keep.drew h
theorem Same.drewN {a w : World} (h : Same a w) (n : Nat) : Same a (w.drewN n) := Keep.drewN h n
theorem Same.alloc {a w : World} (h : Same a w) (o : Obj) : Same a (w.alloc o) := Keep.alloc h o
theorem Same.setCell {a w : World} (h : Same a w) {p : Addr} (hp : a.heap.size ≤ p.block) (u : Value) : Same a (w.setCell p u) := Keep.setCell h (.inr hp) u
theorem Same.grown {a w w' : World} {row : Option Nat} (h : Same a w) (hg : w.grownBy w' row) (hr : ∀ k, row = some k → a.heap.size ≤ k) : Same a w' :=
  Keep.grown h hg fun k e => .inr (hr k e)
theorem Same.below {a w : World} (h : Same a w) : Below a.heap.size a w := ⟨h.os, h.tape, h.output, h.size, fun k hk => h.block k hk fun x => x⟩
theorem Same.of_below {a w : World} (h : Below a.heap.size a w) : Same a w := ⟨h.os, h.tape, h.output, h.size, fun k hk _ => h.block k hk⟩
theorem Same.cell {a w : World} (h : Same a w) {p : Addr} (hp : p.block < a.heap.size) : w.cell? p = a.cell? p := h.below.cell hp

/-- The slice value v: n elements of type e, 'size' cells each; its cells read as xs. -/
def Sl (w : World) (e : TypeId) (size : Nat) (v : Value) (n : Nat) (xs : List Value) : Prop :=
  xs.length = n * size ∧ ∃ ao cap, v = .slice ao n cap ∧ n ≤ cap ∧ cap ≤ maxLen ∧ (ao = none → cap = 0) ∧
    (n = 0 ∨ ∃ g o cur fr, ao = some ⟨g, o, none⟩ ∧ w.heap[g]? = some (.cells cur e fr) ∧ xs <+: cur.toList.drop o)

theorem Sl.nil (w : World) (e : TypeId) (size : Nat) : Sl w e size (.slice none 0 0) 0 [] :=
  ⟨by simp, none, 0, rfl, Nat.le_refl _, Nat.zero_le _, fun _ => rfl, .inl rfl⟩

theorem Sl.form {w : World} {e : TypeId} {size : Nat} {v : Value} {n : Nat} {xs : List Value} (h : Sl w e size v n xs) : ∃ ao cap, v = .slice ao n cap ∧ n ≤ cap ∧ cap ≤ maxLen :=
  let ⟨_, ao, cap, h1, h2, h3, _⟩ := h; ⟨ao, cap, h1, h2, h3⟩

/-- the block of a slice that has elements -/
def homeOf : Value → Option Nat
  | .slice (some a) (_ + 1) _ => some a.block
  | _ => none

theorem Sl.keep {w w' : World} {M : Nat → Prop} {e : TypeId} {size : Nat} {v : Value} {n : Nat} {xs : List Value} (h : Sl w e size v n xs) (k : Keep M w w')
    (hm : ∀ g, homeOf v = some g → ¬ M g) : Sl w' e size v n xs := by
  obtain ⟨h1, ao, cap, rfl, h2, h3, h4, h5⟩ := h
  refine ⟨h1, ao, cap, rfl, h2, h3, h4, ?_⟩
  rcases h5 with h5 | ⟨g, o, cur, fr, rfl, hg, hx⟩
  · exact .inl h5
  · cases n with
    | zero => exact .inl rfl
    | succ n => exact .inr ⟨g, o, cur, fr, rfl, by rw [k.block g (Array.getElem?_eq_some_iff.1 hg).1 (hm g rfl)]; exact hg, hx⟩
theorem Sl.same {w w' : World} {e : TypeId} {size : Nat} {v : Value} {n : Nat} {xs : List Value} (h : Sl w e size v n xs) (k : Same w w') : Sl w' e size v n xs :=
  h.keep k fun _ _ x => x
theorem Sl.lt {w : World} {e : TypeId} {size : Nat} {v : Value} {n : Nat} {xs : List Value} (h : Sl w e size v n xs) {g : Nat} (hg : homeOf v = some g) :
    ∃ cur fr, w.heap[g]? = some (.cells cur e fr) := by
  obtain ⟨h1, ao, cap, rfl, h2, h3, h4, h5⟩ := h
  rcases h5 with h5 | ⟨g', o, cur, fr, rfl, hg', hx⟩
  · subst h5; cases ao <;> simp [homeOf] at hg
  · cases n with
    | zero => simp [homeOf] at hg
    | succ n => simp [homeOf] at hg; subst hg; exact ⟨cur, fr, hg'⟩
theorem Sl.home_lt {w : World} {e : TypeId} {size : Nat} {v : Value} {n : Nat} {xs : List Value} (h : Sl w e size v n xs) {g : Nat} (hg : homeOf v = some g) : g < w.heap.size :=
  let ⟨_, _, x⟩ := h.lt hg; (Array.getElem?_eq_some_iff.1 x).1

/-- what an owned row reads as -/
theorem Sl.of_owns {w : World} {base : Nat} {e : TypeId} {size : Nat} {v : Value} {n : Nat} {xs : List Value} (h : w.ownsRow base e size v n xs) : Sl w e size v n xs := by
  obtain ⟨h1, h2⟩ := h
  rcases h2 with ⟨rfl, rfl⟩ | ⟨g, cap, cur, rfl, hb, hg, hn, hm, hs, hx⟩
  · exact ⟨h1, none, 0, rfl, Nat.le_refl _, Nat.zero_le _, fun _ => rfl, .inl rfl⟩
  · refine ⟨h1, _, cap, rfl, hn, hm, (fun x => nomatch x), .inr ⟨g, 0, cur, (0, 0), rfl, hg, ?_⟩⟩
    rw [List.drop_zero, ← hx]
    exact List.take_prefix _ _
/-- an element's cells -/
theorem Sl.cells {w : World} {e : TypeId} {size : Nat} {ao : Option Addr} {n cap : Nat} {xs : List Value} (h : Sl w e size (.slice ao n cap) n xs) (hn : n ≠ 0) :
    ∃ g o, ao = some ⟨g, o, none⟩ ∧ ∀ j u, xs[j]? = some u → w.cell? ⟨g, o + j, none⟩ = some u := by
  obtain ⟨h1, ao', cap', hv, h2, h3, h4, h5⟩ := h
  simp only [Value.slice.injEq] at hv
  obtain ⟨rfl, _, rfl⟩ := hv
  rcases h5 with h5 | ⟨g, o, cur, fr, rfl, hg, hx⟩
  · exact absurd h5 hn
  · refine ⟨g, o, rfl, fun j u hu => ?_⟩
    rw [cell_of_row w g (o + j) cur e fr hg]
    obtain ⟨t, ht⟩ := hx
    have : (cur.toList.drop o)[j]? = some u := by
      rw [← ht, List.getElem?_append_left (List.getElem?_eq_some_iff.1 hu).1, hu]
    rw [List.getElem?_drop, Array.getElem?_toList] at this
    exact this

/-- a byte in a cell -/
def u8 (x : UInt8) : Value := .int .u8 (x.toNat : Int)
/-- The slice value v reads as these bytes. -/
def Bytes (w : World) (e : TypeId) (v : Value) (l : List UInt8) : Prop := Sl w e 1 v l.length (l.map u8)

theorem Bytes.nil (w : World) (e : TypeId) : Bytes w e (.slice none 0 0) [] := Sl.nil w e 1
theorem Bytes.form {w : World} {e : TypeId} {v : Value} {l : List UInt8} (h : Bytes w e v l) : ∃ ao cap, v = .slice ao l.length cap ∧ l.length ≤ cap ∧ cap ≤ maxLen := Sl.form h
theorem Bytes.len {w : World} {e : TypeId} {ao : Option Addr} {n cap : Nat} {l : List UInt8} (h : Bytes w e (.slice ao n cap) l) : n = l.length := by
  obtain ⟨_, ao', cap', hv, _⟩ := h
  simp only [Value.slice.injEq] at hv
  exact hv.2.1
theorem Bytes.cells {w : World} {e : TypeId} {ao : Option Addr} {cap : Nat} {l : List UInt8} (h : Bytes w e (.slice ao l.length cap) l) (hn : l.length ≠ 0) :
    ∃ g o, ao = some ⟨g, o, none⟩ ∧ ∀ j (hj : j < l.length), w.cell? ⟨g, o + j, none⟩ = some (.int .u8 ((l[j]'hj).toNat : Int)) := by
  obtain ⟨g, o, h1, h2⟩ := Sl.cells h hn
  exact ⟨g, o, h1, fun j hj => h2 j _ (by rw [List.getElem?_map, List.getElem?_eq_getElem hj]; rfl)⟩
theorem Bytes.same {w w' : World} {e : TypeId} {v : Value} {l : List UInt8} (h : Bytes w e v l) (k : Same w w') : Bytes w' e v l := Sl.same h k
theorem Bytes.keep {w w' : World} {M : Nat → Prop} {e : TypeId} {v : Value} {l : List UInt8} (h : Bytes w e v l) (k : Keep M w w') (hm : ∀ g, homeOf v = some g → ¬ M g) : Bytes w' e v l := Sl.keep h k hm

theorem Sl.head {w : World} {e : TypeId} {size : Nat} {ao : Option Addr} {n cap : Nat} {xs : List Value} (h : Sl w e size (.slice ao n cap) n xs) (m : Nat) (hm : m ≤ n) :
    Sl w e size (.slice ao m cap) m (xs.take (m * size)) := by
  obtain ⟨h1, ao', cap', hv, h2, h3, h4, h5⟩ := h
  simp only [Value.slice.injEq] at hv
  obtain ⟨rfl, _, rfl⟩ := hv
  refine ⟨?_, ao, cap, rfl, by omega, h3, h4, ?_⟩
  · rw [List.length_take, h1]; exact Nat.min_eq_left (Nat.mul_le_mul_right _ hm)
  · rcases h5 with h5 | ⟨g, o, cur, fr, rfl, hg, hx⟩
    · exact .inl (by omega)
    · exact .inr ⟨g, o, cur, fr, rfl, hg, (List.take_prefix _ _).trans hx⟩
theorem Bytes.head {w : World} {e : TypeId} {ao : Option Addr} {cap : Nat} {l : List UInt8} (h : Bytes w e (.slice ao l.length cap) l) (m : Nat) (hm : m ≤ l.length) :
    Bytes w e (.slice ao m cap) (l.take m) := by
  have := Sl.head h m hm
  have e1 : (l.take m).length = m := by rw [List.length_take]; omega
  unfold Bytes
  rw [e1, List.map_take, show m = m * 1 from by omega]
  simpa using this

/-- a call hands back a slice that reads as these bytes; the world stands but for draws -/
def RetBytes (e : TypeId) (l : List UInt8) (w : World) (en : Ending) (w' : World) : Prop := ∃ v, en = .returned v ∧ Bytes w e v l ∧ w = w'
/-- a call hands back a Bool; the world stands but for draws -/
def RetBool (b : Bool) (w : World) (en : Ending) (w' : World) : Prop := ∃ n, en = .returned (.bool b) ∧ w' = w.drewN n

theorem Same.of_drewN (w : World) (n : Nat) : Same w (w.drewN n) := (Same.refl w).drewN n
theorem Bytes.drewN {w : World} {e : TypeId} {v : Value} {l : List UInt8} (h : Bytes w e v l) (n : Nat) : Bytes (w.drewN n) e v l := h.same (Same.of_drewN w n)

/-- a row that was just laid, written out -/
theorem Sl.made {w : World} (e : TypeId) (size : Nat) (g n cap : Nat) (cur : Array Value) (xs : List Value) {fr : Nat × Nat} (hg : w.heap[g]? = some (.cells cur e fr)) (hn : n ≤ cap) (hm : cap ≤ maxLen)
    (hx : xs.length = n * size) (hp : xs <+: cur.toList) : Sl w e size (.slice (some ⟨g, 0, none⟩) n cap) n xs :=
  ⟨hx, _, cap, rfl, hn, hm, (fun x => nomatch x), .inr ⟨g, 0, cur, fr, rfl, hg, by rwa [List.drop_zero]⟩⟩
theorem Bytes.made {w : World} (e : TypeId) (g n cap : Nat) (cur : Array Value) (l : List UInt8) {fr : Nat × Nat} (hg : w.heap[g]? = some (.cells cur e fr)) (hn : n ≤ cap) (hm : cap ≤ maxLen)
    (hl : l.length = n) (hp : l.map u8 <+: cur.toList) : Bytes w e (.slice (some ⟨g, 0, none⟩) n cap) l := by
  subst hl
  exact Sl.made e 1 g l.length cap cur _ hg hn hm (by simp) hp
/-- a call hands back a value; only new blocks -/
def RetSame (v : Value) (w : World) (en : Ending) (w' : World) : Prop := en = .returned v ∧ Same w w'

/-- the rows of the program's table for a slice type t and its element type e -/
structure RowTy (P : Program) (t e : TypeId) (size bytes : Nat) (z : Value) : Prop where
  under : P.underlying t = some (.slice e)
  info : (P.info? e).map (fun i => (i.zero, i.size, i.bytes)) = some (some z, size, bytes)
  cells : z.cells.size = size
  pos : 0 < size

/-- append to a row of the call's own, from any slice -/
theorem run_append_sl {P : Program} (w : World) {t e : TypeId} {size bytes : Nat} {z : Value} (T : RowTy P t e size bytes z) (ty : TypeId) {base : Nat} {v : Value} {n : Nat} {xs : List Value}
    (hown : w.ownsRow base e size v n xs) {e' : TypeId} {y : Value} {m : Nat} {ys : List Value} (hy : Sl w e' size y m ys) (h1 : ∀ u ∈ ys, u.oneCell' = true)
    (h63 : n + m ≤ maxLen) (hbytes : (n + m) * bytes ≤ 140737488355328) (hbase : base ≤ w.heap.size) :
    ∃ v' w', (Builtin.append_ #[t, t] ty #[v, y]).run P w = .ok v' w' ∧ w'.ownsRow base e size v' (n + m) (xs ++ ys) ∧ w.grownBy w' v.ownBlock := by
  obtain ⟨i, hi, hz, hs, hb⟩ := info_parts T.info
  obtain ⟨hl, ao, cap, rfl, h2, h3, h4, h5⟩ := hy
  cases ao with
  | none =>
    have hc := h4 rfl
    subst hc
    obtain rfl : m = 0 := by omega
    have hys : ys = [] := List.eq_nil_of_length_eq_zero (by simpa using hl)
    subst hys
    exact ⟨v, w, run_append_owned_none (P := P) w base t ty e i size T.under hi v n xs hown, by simpa using hown, World.grownBy.refl _ _⟩
  | some a =>
    have hnews : ∀ j u, ys[j]? = some u → w.cell? (a.add j) = some u := by
      intro j u hu
      rcases h5 with h5 | ⟨g, o, cur, fr, hao, hg, hx⟩
      · subst h5
        have : ys = [] := List.eq_nil_of_length_eq_zero (by simpa using hl)
        subst this
        simp at hu
      · cases hao
        have hadd : (⟨g, o, none⟩ : Addr).add j = ⟨g, o + j, none⟩ := by unfold Addr.add; split <;> simp_all
        obtain ⟨t, ht⟩ := hx
        have : (cur.toList.drop o)[j]? = some u := by
          rw [← ht, List.getElem?_append_left (List.getElem?_eq_some_iff.1 hu).1, hu]
        rw [List.getElem?_drop, Array.getElem?_toList] at this
        rw [hadd, cell_of_row w g (o + j) cur e' fr hg, this]
    obtain ⟨v', w', r1, r2, r3, _⟩ := run_append_own (P := P) w base t ty e i z size bytes T.under hi hz hs hb T.cells T.pos v n xs hown a m cap ys hl hnews h1 h63 hbytes hbase
    exact ⟨v', w', r1, r2, r3⟩

theorem wpList_append_sl {P : Program} {w : World} {ops : Array Oper} {rest : List Oper} {o : Oper} {a : Act} {Q : Exit → Act → World → Prop} (hgd : o.guard = none) (s x : Operand)
    {t e : TypeId} {size bytes : Nat} {z : Value} (T : RowTy P t e size bytes z) (ho : o.op = .call { callee := .builtin .append, args := #[s, x], argTypes := #[t, t] })
    {base : Nat} {v : Value} {n : Nat} {xs : List Value} (hown : w.ownsRow base e size v n xs) {e' : TypeId} {y : Value} {m : Nat} {ys : List Value} (hy : Sl w e' size y m ys) (hs : a.eval s = v) (hx : a.eval x = y)
    (h1 : ∀ u ∈ ys, u.oneCell' = true) (h63 : n + m ≤ maxLen) (hbytes : (n + m) * bytes ≤ 140737488355328) (hbase : base ≤ w.heap.size)
    (h : ∀ v' w', w'.ownsRow base e size v' (n + m) (xs ++ ys) → w.grownBy w' v.ownBlock → wpList P ops Q rest (a.put o.dst v') w') : wpList P ops Q (o :: rest) a w :=
  wpList_plain hgd fun _ hK => by
    obtain ⟨v', w', hr, h2, h3⟩ := run_append_sl (P := P) w T o.type hown hy h1 h63 hbytes hbase
    unfold Oper.wp execOp
    simp only [ho, resolve, invoke, builtin, Sem.run_bind, Sem.run_pure, Result.andThen_ok, List.map_toArray, List.map_cons, List.map_nil, hs, hx, hr]
    exact hK _ _ (h v' w' h2 h3)

theorem bytes_one (l : List UInt8) : ∀ u ∈ l.map u8, u.oneCell' = true := by
  intro u hu
  obtain ⟨x, _, rfl⟩ := List.mem_map.1 hu
  rfl

/-- a row of bytes of the call's own -/
def OwnB (w : World) (base : Nat) (v : Value) (l : List UInt8) : Prop := w.ownsRow base 5 1 v l.length (l.map u8)
theorem OwnB.nil (w : World) (base : Nat) : OwnB w base (.slice none 0 0) [] := World.ownsRow_nil w base 5 1
theorem OwnB.bytes {w : World} {base : Nat} {v : Value} {l : List UInt8} (h : OwnB w base v l) : Bytes w 5 v l := Sl.of_owns h
theorem OwnB.alloc {w : World} {base : Nat} {v : Value} {l : List UInt8} (h : OwnB w base v l) (o : Obj) : OwnB (w.alloc o) base v l := World.ownsRow.alloc h o
theorem OwnB.lt {w : World} {base : Nat} {v : Value} {l : List UInt8} (h : OwnB w base v l) : ∀ k, v.ownBlock = some k → base ≤ k ∧ k < w.heap.size := World.ownsRow.lt h
theorem OwnB.mono {w : World} {base base' : Nat} {v : Value} {l : List UInt8} (h : OwnB w base v l) (hb : base' ≤ base) : OwnB w base' v l := by
  obtain ⟨h1, h2⟩ := h
  refine ⟨h1, ?_⟩
  rcases h2 with h2 | ⟨g, cap, cur, a, b, c⟩
  · exact .inl h2
  · exact .inr ⟨g, cap, cur, a, Nat.le_trans hb b, c⟩
theorem OwnB.keep {w w' : World} {M : Nat → Prop} {base : Nat} {v : Value} {l : List UInt8} (h : OwnB w base v l) (k : Keep M w w') (hm : ∀ g, v.ownBlock = some g → ¬ M g) : OwnB w' base v l := by
  obtain ⟨h1, h2⟩ := h
  refine ⟨h1, ?_⟩
  rcases h2 with h2 | ⟨g, cap, cur, rfl, b, c, d⟩
  · exact .inl h2
  · exact .inr ⟨g, cap, cur, rfl, b, by rw [k.block g (Array.getElem?_eq_some_iff.1 c).1 (hm g rfl)]; exact c, d⟩

theorem wpList_append_bytes {P : Program} {w : World} {ops : Array Oper} {rest : List Oper} {o : Oper} {a : Act} {Q : Exit → Act → World → Prop} (hgd : o.guard = none) (s x : Operand)
    (t : TypeId) (T : RowTy P t 5 1 1 (.int .u8 0)) (ho : o.op = .call { callee := .builtin .append, args := #[s, x], argTypes := #[t, t] })
    {base : Nat} {v : Value} {l : List UInt8} (hown : OwnB w base v l) {e' : TypeId} {y : Value} {r : List UInt8} (hy : Bytes w e' y r) (hs : a.eval s = v) (hx : a.eval x = y)
    (hb : l.length + r.length ≤ 140737488355328) (hbase : base ≤ w.heap.size)
    (h : ∀ v' w', OwnB w' base v' (l ++ r) → w.grownBy w' v.ownBlock → wpList P ops Q rest (a.put o.dst v') w') : wpList P ops Q (o :: rest) a w :=
  wpList_append_sl hgd s x T ho hown hy hs hx (bytes_one r) (by unfold maxLen; omega) (by omega) hbase fun v' w' h1 h2 => h v' w' (by unfold OwnB; rw [List.length_append, List.map_append]; exact h1) h2

theorem ownBlock_nil : Value.ownBlock (.slice none 0 0) = none := rfl
theorem Same.grown_nil {a w w' : World} (h : Same a w) (hg : w.grownBy w' (Value.ownBlock (.slice none 0 0))) : Same a w' := h.grown hg fun k e => by cases e
theorem Same.grown_own {a w w' : World} {base : Nat} {v : Value} {l : List UInt8} (h : Same a w) (ho : OwnB w base v l) (hb : a.heap.size ≤ base) (hg : w.grownBy w' v.ownBlock) : Same a w' :=
  h.grown hg fun k e => Nat.le_trans hb (ho.lt k e).1

/-- The slice value v holds slices that read as these rows of bytes. -/
def Rows2 (w : World) (e : TypeId) (v : Value) (ls : List (List UInt8)) : Prop :=
  ∃ us, us.length = ls.length ∧ Sl w e 1 v ls.length us ∧ ∀ i (h : i < ls.length) u, us[i]? = some u → ∃ e', Bytes w e' u ls[i]

theorem Rows2.form {w : World} {e : TypeId} {v : Value} {ls : List (List UInt8)} (h : Rows2 w e v ls) : ∃ ao cap, v = .slice ao ls.length cap ∧ ls.length ≤ cap ∧ cap ≤ maxLen :=
  let ⟨_, _, h2, _⟩ := h; Sl.form h2
theorem Rows2.nil (w : World) (e : TypeId) : Rows2 w e (.slice none 0 0) [] := ⟨[], rfl, Sl.nil w e 1, fun i h => absurd h (Nat.not_lt_zero i)⟩
theorem Rows2.row {w : World} {e : TypeId} {ao : Option Addr} {cap : Nat} {ls : List (List UInt8)} (h : Rows2 w e (.slice ao ls.length cap) ls) (k : Nat) (hk : k < ls.length) :
    ∃ g o a c e', ao = some ⟨g, o, none⟩ ∧ w.cell? ⟨g, o + k, none⟩ = some (.slice a ls[k].length c) ∧ Bytes w e' (.slice a ls[k].length c) ls[k] := by
  obtain ⟨us, h1, h2, h3⟩ := h
  obtain ⟨g, o, rfl, hc⟩ := h2.cells (by omega)
  have hu : us[k]? = some (us[k]'(by omega)) := List.getElem?_eq_getElem (by omega)
  obtain ⟨e', hb⟩ := h3 k hk _ hu
  obtain ⟨a, c, he, _, _⟩ := hb.form
  rw [he] at hu hb
  exact ⟨g, o, a, c, e', rfl, hc k _ hu, hb⟩
theorem Rows2.same {w w' : World} {e : TypeId} {v : Value} {ls : List (List UInt8)} (h : Rows2 w e v ls) (k : Same w w') : Rows2 w' e v ls :=
  let ⟨us, h1, h2, h3⟩ := h; ⟨us, h1, h2.same k, fun i hi u hu => let ⟨e', hb⟩ := h3 i hi u hu; ⟨e', hb.same k⟩⟩

/-- the first k rows, one behind the other -/
def cat (ls : List (List UInt8)) (k : Nat) : List UInt8 := (ls.take k).flatten
def tot (ls : List (List UInt8)) (k : Nat) : Nat := (cat ls k).length
theorem cat_zero (ls : List (List UInt8)) : cat ls 0 = [] := rfl
theorem cat_all (ls : List (List UInt8)) : cat ls ls.length = ls.flatten := by unfold cat; rw [List.take_length]
theorem cat_succ (ls : List (List UInt8)) (k : Nat) (hk : k < ls.length) : cat ls (k + 1) = cat ls k ++ ls[k] := by
  unfold cat; rw [List.take_succ_eq_append_getElem hk, List.flatten_append]; simp
theorem tot_succ (ls : List (List UInt8)) (k : Nat) (hk : k < ls.length) : tot ls (k + 1) = tot ls k + ls[k].length := by
  unfold tot; rw [cat_succ ls k hk, List.length_append]
theorem tot_le (ls : List (List UInt8)) (k : Nat) : tot ls k ≤ ls.flatten.length := by
  have h := congrArg (fun x => x.flatten.length) (List.take_append_drop k ls)
  simp only [List.flatten_append, List.length_append] at h
  unfold tot cat
  omega
end Go.Proofs.Ytijdjpmceclmhaa
