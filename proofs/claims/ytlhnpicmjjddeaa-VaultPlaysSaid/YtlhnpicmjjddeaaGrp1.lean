/- What comes in: a slice of bytes that came in reads as bytes. DISK: Read. DISK: the whole drive in memory; Write. DISK: Write on a drive: refused. DISK: Write on a drive: done, or torn. Rows of rows of bytes that a call makes itself; made rows of noughts; the drive's small functions once more. DISK: the drive's calls, told of the whole drive. DISK: the statements' own small functions of layer 6: Cells, keep, was. What the functions of crc (5), and of its reference, compute. Sealing and opening: crc (5), and its reference. DISK: keep, was, lives of layer 6. FRAME: put, get, right. -/
import Derived.Test.YtlhnpicmjjddeaaGrp0
import Derived.ProofKit
import Derived.OpenShut
import Derived.Deep.MidRow
import Derived.Test.YtlhnpicmjjddeaaRows
import Derived.Laws.BitsAllLaws
set_option linter.unusedVariables false
set_option linter.unusedSimpArgs false
namespace Go.Proofs.Ytlhnpicmjjddeaa
open Go.RowKit

/-- a slice of integers that came in: nil, or a row of 'cap' cells -/
def IsRow (k : IntKind) (w : World) (a : Option Addr) (len cap : Nat) (zs : List Int) : Prop :=
  (a = none ∧ len = 0 ∧ cap = 0 ∧ zs = []) ∨
  ∃ x, a = some x ∧ len ≤ cap ∧ cap ≤ maxLen ∧ zs.length = cap ∧ (∀ i, i < zs.length → w.cell? (x.add i) = some (.int k (zs.getD i 0))) ∧ ∀ n ∈ zs, (Lit.int k n).wf = true

theorem block_of_cell {w : World} {a : Addr} {u : Value} (h : w.cell? a = some u) : ∃ cur e fr, w.heap[a.block]? = some (.cells cur e fr) ∧ a.spot = none ∧ cur[a.off]? = some u := by
  unfold World.cell? at h
  split at h
  · rename_i c e fr hc
    split at h
    · cases h
    · rename_i hs
      exact ⟨c, e, fr, hc, by cases hh : a.spot <;> simp_all, h⟩
  · cases h

/-- cells behind an address, told as a row -/
theorem Sl.of_cells {w : World} (size : Nat) {a : Addr} {n cap : Nat} {xs : List Value} (hx : xs.length = n * size) (hs : 0 < size) (hn : n ≤ cap) (hm : cap ≤ maxLen)
    (hc : ∀ j u, xs[j]? = some u → w.cell? (a.add j) = some u) : ∃ e, Sl w e size (.slice (some a) n cap) n xs := by
  cases n with
  | zero => exact ⟨0, hx, some a, cap, rfl, hn, hm, (fun x => nomatch x), .inl rfl⟩
  | succ n =>
    have h0 : 0 < xs.length := by rw [hx]; exact Nat.mul_pos (by omega) hs
    have c0 := hc 0 xs[0] (List.getElem?_eq_getElem h0)
    have ha : a.add 0 = a := by simp [Addr.add]
    rw [ha] at c0
    obtain ⟨cur, e, fr, hb, hsp, _⟩ := block_of_cell c0
    obtain ⟨b, o, sp⟩ := a
    simp only at hsp hb
    subst hsp
    refine ⟨e, hx, _, cap, rfl, hn, hm, (fun x => nomatch x), .inr ⟨b, o, cur, fr, rfl, hb, ?_⟩⟩
    refine List.prefix_iff_getElem?.2 fun i hi => ?_
    have ci := hc i _ (List.getElem?_eq_getElem hi)
    have hadd : (⟨b, o, none⟩ : Addr).add i = ⟨b, o + i, none⟩ := by unfold Addr.add; split <;> simp_all
    rw [hadd, cell_of_row w b (o + i) cur e fr hb] at ci
    rw [List.getElem?_drop, Array.getElem?_toList, ci]

theorem u8_of_wf {n : Int} (h : (Lit.int .u8 n).wf = true) : 0 ≤ n ∧ n < 256 := by
  have : 0 ≤ n ∧ n ≤ 255 := by simpa [Lit.wf, IntKind.min, IntKind.max, IntKind.signed, IntKind.bits] using h
  omega

theorem u32_of_wf {n : Int} (h : (Lit.int .u32 n).wf = true) : 0 ≤ n ∧ n < 4294967296 := by
  have : 0 ≤ n ∧ n ≤ 4294967295 := by simpa [Lit.wf, IntKind.min, IntKind.max, IntKind.signed, IntKind.bits] using h
  omega
theorem i64_of_wf {n : Int} (h : (Lit.int .i64 n).wf = true) : -9223372036854775808 ≤ n ∧ n ≤ 9223372036854775807 := by
  simpa [Lit.wf, IntKind.min, IntKind.max, IntKind.signed, IntKind.bits] using h

theorem Bytes.of_row {w : World} {a : Option Addr} {len cap : Nat} {zs : List Int} (h : IsRow .u8 w a len cap zs) : ∃ e l, Bytes w e (.slice a len cap) l := by
  rcases h with ⟨rfl, rfl, rfl, rfl⟩ | ⟨x, rfl, h1, h2, h3, h4, h5⟩
  · exact ⟨0, [], Bytes.nil w 0⟩
  · have hl : ((zs.take len).map fun z => UInt8.ofNat z.toNat).length = len := by simp; omega
    have key : ∀ j u, (((zs.take len).map fun z => UInt8.ofNat z.toNat).map u8)[j]? = some u → w.cell? (x.add j) = some u := by
      intro j u hu
      have hj : j < len := by
        have := (List.getElem?_eq_some_iff.1 hu).1
        simpa [hl] using Nat.lt_of_lt_of_le this (by simp; omega)
      have hz : j < zs.length := by omega
      rw [h4 j hz]
      simp [hz, hj] at hu
      subst hu
      have hw := u8_of_wf (h5 zs[j] (List.getElem_mem hz))
      simp only [u8, List.getD_eq_getElem?_getD, List.getElem?_eq_getElem hz, Option.getD_some]
      congr 2
      simp
      omega
    obtain ⟨e, he⟩ := Sl.of_cells (w := w) 1 (a := x) (n := len) (cap := cap) (xs := (((zs.take len).map fun z => UInt8.ofNat z.toNat).map u8)) (by rw [List.length_map, hl]; omega) (by omega) h1 h2 key
    refine ⟨e, (zs.take len).map fun z => UInt8.ofNat z.toNat, ?_⟩
    unfold Bytes
    rw [hl]
    exact he
end Go.Proofs.Ytlhnpicmjjddeaa
namespace Go.Proofs.Ytlhnpicmjjddeaa
open Go.RowKit
/-- block cb holds these sectors -/
def Cb (w : World) (cb : Nat) (C : List (List UInt8)) : Prop := cb < w.heap.size ∧ ∀ i (h : i < C.length), C[i].length = 96 ∧ w.rangeAt cb (i * 96) (C[i].map u8)
theorem Cb.same {w w' : World} {cb : Nat} {C : List (List UInt8)} (h : Cb w cb C) (S : Same w w') : Cb w' cb C :=
  ⟨by have := S.size; have := h.1; omega, fun i hi => ⟨(h.2 i hi).1, fun j v hv => by rw [S.cell (p := ⟨cb, i * 96 + j, none⟩) h.1]; exact (h.2 i hi).2 j v hv⟩⟩
theorem under143 : ∃ d, Try.prog.underlying 143 = some d ∧ d.isRow = true := ⟨_, Try.underlying143, rfl⟩
theorem size143 : (Try.prog.info? 143).map (·.size) = some 96 := by kernel_rfl
theorem Keep.setCells {M : Nat → Prop} {a : World} (b : Nat) (hb : M b ∨ a.heap.size ≤ b) : ∀ (vs : List Value) (o : Nat) (w : World), Keep M a w → Keep M a (w.setCells b o vs)
  | [], _, _, h => h
  | v :: r, o, w, h => Keep.setCells b hb r (o + 1) _ (h.setCell (p := ⟨b, o, none⟩) hb v)
theorem runStore (w : World) (l : List UInt8) (hl : l.length = 96) :
    (storeCells ⟨w.heap.size, 0, none⟩ (l.map u8)).run Try.prog (w.alloc (.cells Try.zeroCells143 143)) = .ok () ((w.alloc (.cells Try.zeroCells143 143)).setCells w.heap.size 0 (l.map u8)) := by
  have hn : (w.alloc (.cells Try.zeroCells143 143)).heap[w.heap.size]? = some (.cells Try.zeroCells143 143) := heap_alloc_new w _
  have hsz : Try.zeroCells143.size = 96 := by kernel_rfl
  have := run_storeCells_cells (P := Try.prog) w.heap.size 0 (l.map u8) 0 (w.alloc (.cells Try.zeroCells143 143)) (fun j hj => by
      simp only [List.length_map] at hj
      have : j < Try.zeroCells143.size := by omega
      simp only [World.cell?, hn]
      simp; omega) (fun j hj => by
      unfold World.frozen?
      simp only [hn]
      by_cases h0 : 0 ≤ 0 + 0 + j <;> simp) (fun v hv => by
      obtain ⟨x, _, rfl⟩ := List.mem_map.1 hv
      rfl)
  exact this
set_option maxRecDepth 100000 in
set_option maxHeartbeats 800000 in
theorem dRead (w : World) (b cb : Nat) (off fused : Bool) (left : Int) (kv : Value) (n : Int) (C : List (List UInt8)) (k : Nat) (hk : k < C.length) (hC : C.length ≤ 2048)
    (h : Dc w b off fused left kv (.slice (some ⟨cb, 0, none⟩) C.length C.length) n) (hB : Cb w cb C) :
    Calls Try.prog 39 #[.pointer (some ⟨b, 0, none⟩), .int .i64 k] w fun en w' => ∃ v e, en = .returned (.tuple #[v, .int .i64 0]) ∧ Bytes w' e v C[k] ∧ Same w w' ∧ ∀ g, homeOf v = some g → w.heap.size ≤ g := by
  have H := hid (dOk w b off fused left kv ⟨cb, 0, none⟩ C.length C.length n h)
  have H0 := hid h
  clear h
  obtain ⟨d, hu, hd⟩ := under143
  have HU := hid hu
  clear hu
  have hs := hid size143
  obtain ⟨hl, hr⟩ := hB.2 k hk
  have HR := hid hr
  clear hr
  go_enter Try.func39, Try.ntmps39
  go_wp2_with fail
  refine H.out.mono ?_
  rintro en w1 ⟨rfl, S1⟩
  obtain ⟨c0, c1, c2, c3, c4, c5⟩ := H0.out.same S1
  have hr1 : w1.rangeAt cb (k * 96) (C[k].map u8) := ((hB.same S1).2 k hk).2
  have hz : (Try.prog.info? 143).map (·.size) = some (C[k].map u8).length := by rw [hs.out]; simp [hl]
  have HZ := hid hz
  clear hz
  go_wp2_with fail
  refine wp_load_mid 143 (.tmp 28) rfl cb (k * 96) rfl (C[k].map u8) d hr1 HU.out hd HZ.out ?_
  have hst := runStore w1 C[k] hl
  have hlen : (C[k].map u8).length = 96 := by simp [hl]
  have S2 : Same w ((w1.alloc (.cells Try.zeroCells143 143)).setCells w1.heap.size 0 (C[k].map u8)) := Keep.setCells _ (.inr S1.size) _ _ _ (S1.alloc _)
  have hth : (w1.alloc (.cells Try.zeroCells143 143)).there w1.heap.size 0 (C[k].map u8).length := by
    have hn : (w1.alloc (.cells Try.zeroCells143 143)).heap[w1.heap.size]? = some (.cells Try.zeroCells143 143) := heap_alloc_new w1 _
    have hsz : Try.zeroCells143.size = 96 := by kernel_rfl
    intro j hj
    constructor
    · simp only [World.cell?, hn]
      simp; omega
    · unfold World.frozen?
      simp only [hn]
      by_cases h0 : 0 ≤ 0 + j <;> simp
  have hrg := World.rangeAt_setCells_same (w1.alloc (.cells Try.zeroCells143 143)) w1.heap.size 0 (C[k].map u8) hth
  have hB2 : ∃ e, Sl ((w1.alloc (.cells Try.zeroCells143 143)).setCells w1.heap.size 0 (C[k].map u8)) e 1 (.slice (some ⟨w1.heap.size, 0, none⟩) 96 96) 96 (C[k].map u8) :=
    Sl.of_cells 1 (by simp [hl]) (by omega) (Nat.le_refl _) (by decide) (fun j u hj => by rw [Addr.add_mid]; exact hrg j u hj)
  obtain ⟨e, hB2⟩ := hB2
  have hB3 : Bytes ((w1.alloc (.cells Try.zeroCells143 143)).setCells w1.heap.size 0 (C[k].map u8)) e (.slice (some ⟨w1.heap.size, 0, none⟩) 96 96) C[k] := by
    unfold Bytes
    rw [hl]
    exact hB2
  clear hB2 hrg hth
  have HB3 := hid hB3
  have HS2 := hid S2
  have HS1 := hid S1.size
  clear hB3 S2
  generalize hcs : C[k].map u8 = cs at *
  go_wp2_with fail
  go_ret2
  exact ⟨_, e, rfl, HB3.out, HS2.out, fun g hg => by simp [homeOf] at hg; subst hg; exact HS1.out⟩
end Go.Proofs.Ytlhnpicmjjddeaa
namespace Go.Proofs.Ytlhnpicmjjddeaa
open Go.RowKit

theorem flat_getElem : ∀ (C : List (List UInt8)) (hC : ∀ c ∈ C, c.length = 96) (i j : Nat) (hi : i < C.length), j < 96 → C.flatten[i * 96 + j]? = C[i][j]?
  | [], _, i, _, hi, _ => absurd hi (Nat.not_lt_zero i)
  | c :: C, hC, 0, j, _, hj => by
    have hc := hC c (by simp)
    simp only [List.flatten_cons, Nat.zero_mul, Nat.zero_add, List.getElem_cons_zero]
    rw [List.getElem?_append_left (by omega)]
  | c :: C, hC, i + 1, j, hi, hj => by
    have hc := hC c (by simp)
    rw [List.flatten_cons, List.getElem?_append_right (by omega), hc, show (i + 1) * 96 + j - 96 = i * 96 + j from by omega]
    simpa using flat_getElem C (fun x hx => hC x (by simp [hx])) i j (by simpa using hi) hj
theorem flat_length : ∀ (C : List (List UInt8)) (hC : ∀ c ∈ C, c.length = 96), C.flatten.length = C.length * 96
  | [], _ => rfl
  | c :: C, hC => by
    rw [List.flatten_cons, List.length_append, flat_length C (fun x hx => hC x (by simp [hx])), hC c (by simp), List.length_cons]; omega
theorem flat_set : ∀ (C : List (List UInt8)) (hC : ∀ c ∈ C, c.length = 96) (i : Nat) (l : List UInt8), i < C.length → (C.set i l).flatten = C.flatten.take (i * 96) ++ l ++ C.flatten.drop (i * 96 + 96)
  | [], _, i, _, hi => absurd hi (Nat.not_lt_zero i)
  | c :: C, hC, 0, l, _ => by
    have hc := hC c (by simp)
    simp only [List.set_cons_zero, List.flatten_cons, Nat.zero_mul, List.take_zero, List.nil_append, Nat.zero_add]
    rw [List.drop_left' hc]
  | c :: C, hC, i + 1, l, hi => by
    have hc := hC c (by simp)
    simp only [List.set_cons_succ, List.flatten_cons]
    rw [flat_set C (fun x hx => hC x (by simp [hx])) i l (by simpa using hi)]
    rw [show (i + 1) * 96 = c.length + i * 96 from by omega, List.take_length_add_append, show c.length + i * 96 + 96 = c.length + (i * 96 + 96) from by omega, List.drop_length_add_append]
    simp
/-- the cells of a drive's sectors -/
def flat (C : List (List UInt8)) : List Value := C.flatten.map u8
theorem flat_splice (C : List (List UInt8)) (hC : ∀ c ∈ C, c.length = 96) (i : Nat) (l : List UInt8) (hi : i < C.length) (hl : l.length = 96) : splice (flat C) (i * 96) (l.map u8) = flat (C.set i l) := by
  unfold flat splice
  rw [flat_set C hC i l hi]
  simp [hl]
theorem Cb.whole {w : World} {cb : Nat} {C : List (List UInt8)} (h : w.heap[cb]? = some (.cells (flat C).toArray 143 (0, 0))) (hC : ∀ c ∈ C, c.length = 96) : Cb w cb C := by
  refine ⟨(Array.getElem?_eq_some_iff.1 h).1, fun i hi => ⟨hC _ (List.getElem_mem hi), fun j v hv => ?_⟩⟩
  rw [cell_of_row w cb (i * 96 + j) _ 143 (fr := (0, 0)) h]
  have hj : j < C[i].length := by
    have := (List.getElem?_eq_some_iff.1 hv).1
    simpa using this
  have := flat_getElem C hC i j hi (by rw [← hC _ (List.getElem_mem hi)]; exact hj)
  unfold flat
  simp only [List.getElem?_toArray, List.getElem?_map] at hv ⊢
  rw [this]
  exact hv

/-! ### landed -/
theorem landed_succ_yes (C : List (List UInt8)) (at_ : Nat) (ls : List (List UInt8)) (is : Nat → Bool) (k : Nat) (hk : k < ls.length) (hC : at_ + ls.length ≤ C.length) (h : is k = true) :
    landed C at_ ls is (k + 1) = (landed C at_ ls is k).set (at_ + k) ls[k] := by
  refine List.ext_getElem? fun i => ?_
  rw [List.getElem?_set, landed_length, landed_at, landed_at]
  by_cases hi : at_ + k = i
  · subst hi
    rw [if_pos ⟨by omega, by omega, by rw [show at_ + k - at_ = k from by omega]; exact h, by omega⟩, if_pos rfl, if_pos (by omega)]
    rw [show at_ + k - at_ = k from by omega, List.getElem?_eq_getElem hk]
  · rw [if_neg hi]
    by_cases h2 : at_ ≤ i ∧ i < at_ + min k ls.length ∧ is (i - at_) = true ∧ i < C.length
    · rw [if_pos h2, if_pos ⟨h2.1, by omega, h2.2.2⟩]
    · rw [if_neg h2, if_neg]
      rintro ⟨a, b, c⟩
      exact h2 ⟨a, by omega, c⟩
theorem landed_succ_no (C : List (List UInt8)) (at_ : Nat) (ls : List (List UInt8)) (is : Nat → Bool) (k : Nat) (h : is k = false) :
    landed C at_ ls is (k + 1) = landed C at_ ls is k := by
  refine List.ext_getElem? fun i => ?_
  rw [landed_at, landed_at]
  by_cases hi : at_ ≤ i ∧ i = at_ + k
  · obtain ⟨h1, rfl⟩ := hi
    rw [if_neg, if_neg]
    · rintro ⟨a, b, c, d⟩; rw [show at_ + k - at_ = k from by omega, h] at c; cases c
    · rintro ⟨a, b, c, d⟩; rw [show at_ + k - at_ = k from by omega, h] at c; cases c
  · by_cases h2 : at_ ≤ i ∧ i < at_ + min k ls.length ∧ is (i - at_) = true ∧ i < C.length
    · rw [if_pos h2, if_pos ⟨h2.1, by omega, h2.2.2⟩]
    · rw [if_neg h2, if_neg]
      rintro ⟨a, b, c⟩
      exact h2 ⟨a, by omega, c⟩
theorem landed_96 {C : List (List UInt8)} {at_ : Nat} {ls : List (List UInt8)} {is : Nat → Bool} {k : Nat} (hC : ∀ c ∈ C, c.length = 96) (hl : ∀ c ∈ ls, c.length = 96) : ∀ c ∈ landed C at_ ls is k, c.length = 96 := by
  intro c hc
  obtain ⟨i, hi⟩ := List.mem_iff_getElem?.1 hc
  rw [landed_at] at hi
  split at hi
  · exact hl c (List.mem_of_getElem? hi)
  · exact hC c (List.mem_of_getElem? hi)

/-! ### copy -/
theorem wpList_copy_keep {P : Program} {w : World} {ops : Array Oper} {rest : List Oper} {o : Oper} {a : Act} {Q : Exit → Act → World → Prop} (hgd : o.guard = none) (d s : Operand) (t : TypeId)
    (ho : o.op = .call { callee := .builtin .copy, args := #[d, s], argTypes := #[t, t] }) (hu : P.underlying t = some (.slice 5)) (hsz : (P.info? 5).map (·.size) = some 1)
    {g off dLen dCap : Nat} {e' : TypeId} {y : Value} {r : List UInt8} (hy : Bytes w e' y r) (hd : a.eval d = .slice (some ⟨g, off, none⟩) dLen dCap) (hs : a.eval s = y)
    {cur : List Value} {T : TypeId} (hg : w.heap[g]? = some (.cells cur.toArray T (0, 0))) (hfit : off + dLen ≤ cur.length)
    (h : ∀ w', Hid (w'.heap[g]? = some (.cells (splice cur off ((r.take dLen).map u8)).toArray T (0, 0))) → Keep (fun k => k = g) w w' → wpList P ops Q rest (a.put o.dst (goInt (r.take dLen).length)) w') :
    wpList P ops Q (o :: rest) a w := by
  obtain ⟨ao, cap, rfl, h1, h2⟩ := hy.form
  have hlen : ((r.take dLen).map u8).length = Nat.min r.length dLen := by rw [List.length_map, List.length_take]; exact Nat.min_comm _ _
  by_cases h0 : (r.take dLen).length = 0
  · have hnil : r.take dLen = [] := List.eq_nil_of_length_eq_zero h0
    refine wpList_copy_nothing hgd d s t t ho 5 hu hsz _ _ dLen dCap r.length cap hd hs (by rw [← hlen, List.length_map, h0]) ?_
    have := h w (show _ = _ by rw [hnil]; simpa [splice] using hg) (Keep.refl _ _)
    rw [h0] at this
    exact this
  · have hr : r.length ≠ 0 := fun e => h0 (by rw [List.length_take, e]; exact Nat.min_zero _)
    obtain ⟨g', o', rfl, hc⟩ := hy.cells hr
    have hle : (r.take dLen).length ≤ dLen := List.length_take_le _ _
    refine wpList_copy_own hgd d s t t ho 5 hu hsz g off dLen dCap ⟨g', o', none⟩ r.length cap hd hs cur.toArray T hg ((r.take dLen).map u8) hlen ?_ (by simp only [List.length_map, List.size_toArray]; omega) (bytes_one _) ?_
    · intro j u hu
      rw [List.getElem?_map] at hu
      have hj : j < (r.take dLen).length := by
        rcases Nat.lt_or_ge j (r.take dLen).length with h | h
        · exact h
        · rw [List.getElem?_eq_none h] at hu; cases hu
      have hj' : j < r.length := by rw [List.length_take] at hj; omega
      rw [Addr.add_mid]
      rw [List.getElem?_eq_getElem hj, List.getElem_take] at hu
      simp only [Option.map_some, Option.some.injEq] at hu
      subst hu
      exact hc j hj'
    · have hk : Keep (fun k => k = g) w (w.setRow g (cur.toArray.toList.take off ++ ((r.take dLen).map u8 ++ cur.toArray.toList.drop (off + ((r.take dLen).map u8).length))).toArray) :=
        ⟨rfl, rfl, rfl, by simp, fun k _ hk => setRow_other w g k _ hk⟩
      have := h _ (show _ = _ by simpa [splice] using setRow_heap w g _ _ T _ hg) hk
      rw [show ((r.take dLen).map u8).length = (r.take dLen).length from List.length_map ..]
      simpa [splice] using this

/-! ### slices whose blocks are none of M -/
/-- rows of bytes; none of their blocks is one of M -/
def Rows2N (M : Nat → Prop) (w : World) (e : TypeId) (v : Value) (ls : List (List UInt8)) : Prop :=
  ∃ us, us.length = ls.length ∧ Sl w e 1 v ls.length us ∧ (∀ g, homeOf v = some g → ¬ M g) ∧ ∀ i (h : i < ls.length) u, us[i]? = some u → (∃ e', Bytes w e' u ls[i]) ∧ ∀ g, homeOf u = some g → ¬ M g
theorem Rows2N.rows {M : Nat → Prop} {w : World} {e : TypeId} {v : Value} {ls : List (List UInt8)} (h : Rows2N M w e v ls) : Rows2 w e v ls :=
  let ⟨us, h1, h2, _, h4⟩ := h; ⟨us, h1, h2, fun i hi u hu => (h4 i hi u hu).1⟩
theorem Rows2N.keep {M : Nat → Prop} {w w' : World} {e : TypeId} {v : Value} {ls : List (List UInt8)} (h : Rows2N M w e v ls) (k : Keep M w w') : Rows2N M w' e v ls :=
  let ⟨us, h1, h2, h3, h4⟩ := h
  ⟨us, h1, h2.keep k h3, h3, fun i hi u hu => let ⟨⟨e', hb⟩, hn⟩ := h4 i hi u hu; ⟨⟨e', hb.keep k hn⟩, hn⟩⟩
theorem Rows2N.of_rows {M : Nat → Prop} {w w0 : World} {e : TypeId} {v : Value} {ls : List (List UInt8)} (h : Rows2 w0 e v ls) (S : Same w0 w) (hM : ∀ k, M k → w0.heap.size ≤ k) : Rows2N M w e v ls :=
  let ⟨us, h1, h2, h3⟩ := h
  ⟨us, h1, h2.same S, fun g hg hm => by have := h2.home_lt hg; have := hM g hm; omega, fun i hi u hu => let ⟨e', hb⟩ := h3 i hi u hu; ⟨⟨e', hb.same S⟩, fun g hg hm => by have := Sl.home_lt hb hg; have := hM g hm; omega⟩⟩

/-! ### the drive -/
/-- The pointer p is a drive that reads as D; all its blocks lie in F. -/
def IsDv (w : World) (p : Value) (F : Nat → Prop) (D : Dv) : Prop :=
  ∃ b cb kv n, p = .pointer (some ⟨b, 0, none⟩) ∧ Dc w b D.off D.fused D.left kv (.slice (some ⟨cb, 0, none⟩) D.C.length D.C.length) n ∧ Fz w b ∧
    w.heap[cb]? = some (.cells (flat D.C).toArray 143 (0, 0)) ∧ b ≠ cb ∧ F b ∧ F cb ∧ Ints w 3 kv D.keep ∧ (∀ g, homeOf kv = some g → F g ∧ g ≠ b ∧ g ≠ cb) ∧ D.Ok
theorem Dc.keep {w w' : World} {M : Nat → Prop} {b : Nat} {off fused : Bool} {left n : Int} {kv cv : Value} (h : Dc w b off fused left kv cv n) (S : Keep M w w') (hm : ¬ M b) : Dc w' b off fused left kv cv n := by
  obtain ⟨c0, c1, c2, c3, c4, c5⟩ := h
  have hb := cell_lt c0
  have e : ∀ o, w'.cell? ⟨b, o, none⟩ = w.cell? ⟨b, o, none⟩ := fun o => World.cell?_of_block (w := w) (a := ⟨b, o, none⟩) (S.block b hb hm)
  refine ⟨?_, ?_, ?_, ?_, ?_, ?_⟩
  all_goals (rw [e]; assumption)
theorem IsDv.keep {w w' : World} {p : Value} {F M : Nat → Prop} {D : Dv} (h : IsDv w p F D) (k : Keep M w w') (hd : ∀ i, F i → ¬ M i) : IsDv w' p F D := by
  obtain ⟨b, cb, kv, n, rfl, h1, h2, h3, h4, h5, h6, h7, h8, h9⟩ := h
  refine ⟨b, cb, kv, n, rfl, h1.keep k (hd b h5), h2.keep k (hd b h5), ?_, h4, h5, h6, Sl.keep h7 k fun g hg => hd g (h8 g hg).1, h8, h9⟩
  rw [k.block cb (Array.getElem?_eq_some_iff.1 h3).1 (hd cb h6)]
  exact h3
theorem IsDv.same {w w' : World} {p : Value} {F : Nat → Prop} {D : Dv} (h : IsDv w p F D) (k : Same w w') : IsDv w' p F D := h.keep k fun _ _ x => x
theorem IsDv.foot {w : World} {p : Value} {F F' : Nat → Prop} {D : Dv} (h : IsDv w p F D) (hF : ∀ i, i < w.heap.size → F i → F' i) : IsDv w p F' D := by
  obtain ⟨b, cb, kv, n, rfl, h1, h2, h3, h4, h5, h6, h7, h8, h9⟩ := h
  exact ⟨b, cb, kv, n, rfl, h1, h2, h3, h4, hF _ h2.1 h5, hF _ (Array.getElem?_eq_some_iff.1 h3).1 h6, h7, fun g hg => ⟨hF _ (Sl.home_lt h7 hg) (h8 g hg).1, (h8 g hg).2⟩, h9⟩
theorem IsDv.ok {w : World} {p : Value} {F : Nat → Prop} {D : Dv} (h : IsDv w p F D) : D.Ok := let ⟨_, _, _, _, _, _, _, _, _, _, _, _, _, h9⟩ := h; h9
end Go.Proofs.Ytlhnpicmjjddeaa
namespace Go.Proofs.Ytlhnpicmjjddeaa
open Go.RowKit

def RetDv (r : Int × Dv) (p : Value) (F : Nat → Prop) (w : World) (en : Ending) (w' : World) : Prop := en = .returned (.int .i64 r.1) ∧ Keep F w w' ∧ IsDv w' p F r.2
set_option maxHeartbeats 800000 in
set_option maxRecDepth 100000 in
theorem dWriteOff (w : World) (p : Value) (F : Nat → Prop) (D : Dv) (at_ : Int) (v : Value) (ls : List (List UInt8)) (hD : IsDv w p F D) (ho : D.off = true) :
    Calls Try.prog 34 #[p, .int .i64 at_, v] w (RetDv (D.write at_ ls) p F w) := by
  have HW : Hid (D.write at_ ls = (9, D)) := by show _ = _; unfold Dv.write; rw [if_pos ho]
  have HD := hid hD
  obtain ⟨b, cb, kv, n, rfl, h1, _⟩ := hD
  have HR := hid (dReady w b _ _ _ _ _ _ _ _ h1)
  rw [ho] at HR
  clear ho h1
  go_enter Try.func34, Try.ntmps34
  go_wp2_with fail
  refine HR.out.mono ?_
  rintro en w1 ⟨rfl, S1⟩
  go_wp2_with fail
  go_ret
  rw [HW.out]
  exact ⟨rfl, S1.keep _, HD.out.same S1⟩
set_option maxHeartbeats 800000 in
set_option maxRecDepth 100000 in
theorem dWriteBad (w : World) (p : Value) (F : Nat → Prop) (D : Dv) (at_ : Int) (e : TypeId) (v : Value) (ls : List (List UInt8)) (hD : IsDv w p F D) (hR : Rows2N F w e v ls) (ho : D.off = false) (hb : D.bad at_ ls = true) :
    Calls Try.prog 34 #[p, .int .i64 at_, v] w (RetDv (D.write at_ ls) p F w) := by
  have HW : Hid (D.write at_ ls = (2, D)) := by show _ = _; unfold Dv.write; rw [ho, if_neg (by simp), if_pos hb]
  have HD := hid hD
  have hok := hD.ok.1
  obtain ⟨b, cb, kv, n, rfl, h1, _⟩ := hD
  have HR := hid (dReady w b _ _ _ _ _ _ _ _ h1)
  rw [ho] at HR
  have HC := hid (fun w' (S : Same w w') => dContainsFunc w' e v ls (hR.rows.same S))
  obtain ⟨ao, cap, rfl, f1, f2⟩ := hR.rows.form
  unfold maxLen at f2
  have H1 := hid h1
  clear ho h1
  by_cases g1 : at_ < 0
  · go_enter Try.func34, Try.ntmps34
    go_wp2_with fail
    refine HR.out.mono ?_
    rintro en w1 ⟨rfl, S1⟩
    obtain ⟨c0, c1, c2, c3, c4, c5⟩ := H1.out.same S1
    go_wp2_with fail
    go_ret
    rw [HW.out]
    exact ⟨rfl, S1.keep _, HD.out.same S1⟩
  · obtain ⟨at_, rfl⟩ := Int.eq_ofNat_of_zero_le (a := at_) (by omega)
    have g1' : decide ((at_ : Int) < 0) = false := by simp
    by_cases g2 : D.C.length < at_
    · go_enter Try.func34, Try.ntmps34
      go_wp2_with fail
      refine HR.out.mono ?_
      rintro en w1 ⟨rfl, S1⟩
      obtain ⟨c0, c1, c2, c3, c4, c5⟩ := H1.out.same S1
      go_wp2_with fail
      go_ret
      rw [HW.out]
      exact ⟨rfl, S1.keep _, HD.out.same S1⟩
    · by_cases g3 : (D.C.length : Int) - at_ < ls.length
      · have g2' : decide (D.C.length < at_) = false := by simpa using g2
        have g3' : decide ((D.C.length : Int) - at_ < ls.length) = true := by simpa using g3
        have g4 : at_ ≤ D.C.length := by omega
        clear g2 g3
        go_enter Try.func34, Try.ntmps34
        go_wp2_with fail
        refine HR.out.mono ?_
        rintro en w1 ⟨rfl, S1⟩
        obtain ⟨c0, c1, c2, c3, c4, c5⟩ := H1.out.same S1
        go_wp2_with fail
        go_ret
        rw [HW.out]
        exact ⟨rfl, S1.keep _, HD.out.same S1⟩
      · have ha : ls.any isLong = true := by
          unfold Dv.bad at hb
          have q1 : decide ((at_ : Int) < 0) = false := by simp
          have q2 : decide ((D.C.length : Int) < at_) = false := by simpa using g2
          have q3 : decide ((D.C.length : Int) - at_ < ls.length) = false := by simpa using g3
          rw [q1, q2, q3] at hb
          simpa using hb
        have g2' : decide (D.C.length < at_) = false := by simpa using g2
        have g3' : decide ((D.C.length : Int) - at_ < ls.length) = false := by simpa using g3
        rw [ha] at HC
        have g4 : at_ ≤ D.C.length := by omega
        clear g2 g3 ha hb
        go_enter Try.func34, Try.ntmps34
        go_wp2_with fail
        refine HR.out.mono ?_
        rintro en w1 ⟨rfl, S1⟩
        obtain ⟨c0, c1, c2, c3, c4, c5⟩ := H1.out.same S1
        go_wp2_with fail
        refine (HC.out _ S1).mono ?_
        rintro en w2 ⟨rfl, S2⟩
        go_wp2_with fail
        go_ret
        rw [HW.out]
        exact ⟨rfl, (S1.trans S2).keep _, HD.out.same (S1.trans S2)⟩
set_option maxHeartbeats 800000 in
set_option maxRecDepth 100000 in
theorem dWriteNone (w : World) (p : Value) (F : Nat → Prop) (D : Dv) (at_ : Int) (e : TypeId) (v : Value) (hD : IsDv w p F D) (hR : Rows2N F w e v []) (ho : D.off = false) (hb : D.bad at_ [] = false) :
    Calls Try.prog 34 #[p, .int .i64 at_, v] w (RetDv (D.write at_ []) p F w) := by
  have HW : Hid (D.write at_ [] = (0, D)) := by show _ = _; unfold Dv.write; rw [ho, if_neg (by simp), if_neg (by simp [hb]), if_pos rfl]
  have HD := hid hD
  have hok := hD.ok.1
  obtain ⟨b, cb, kv, n, rfl, h1, _⟩ := hD
  have HR := hid (dReady w b _ _ _ _ _ _ _ _ h1)
  rw [ho] at HR
  have HC := hid (fun w' (S : Same w w') => dContainsFunc w' e v [] (hR.rows.same S))
  obtain ⟨ao, cap, rfl, f1, f2⟩ := hR.rows.form
  unfold maxLen at f2
  have H1 := hid h1
  have g : ¬ at_ < 0 ∧ ¬ (D.C.length : Int) < at_ := by
    unfold Dv.bad at hb
    simp at hb
    omega
  clear ho h1 hb
  obtain ⟨at_, rfl⟩ := Int.eq_ofNat_of_zero_le (a := at_) (by omega)
  have g2' : decide (D.C.length < at_) = false := by simpa using g.2
  have g3 : ¬ ((D.C.length : Int) - at_ < 0) := by omega
  have g4 : ¬ ((D.C.length : Int) < at_) := by omega
  simp only [List.any_nil] at HC
  clear g
  go_enter Try.func34, Try.ntmps34
  go_wp2_with fail
  refine HR.out.mono ?_
  rintro en w1 ⟨rfl, S1⟩
  obtain ⟨c0, c1, c2, c3, c4, c5⟩ := H1.out.same S1
  go_wp2_with fail
  refine (HC.out _ S1).mono ?_
  rintro en w2 ⟨rfl, S2⟩
  go_wp2_with fail
  go_ret
  rw [HW.out]
  exact ⟨rfl, (S1.trans S2).keep _, HD.out.same (S1.trans S2)⟩
end Go.Proofs.Ytlhnpicmjjddeaa
namespace Go.Proofs.Ytlhnpicmjjddeaa
open Go.RowKit

/-- the drive in a write, k sectors done -/
def Dv.stage (D : Dv) (at_ : Nat) (ls : List (List UInt8)) (k : Nat) : Dv :=
  { D with C := landed D.C at_ ls D.keeps k, off := D.blown, left := if D.fused then D.left - 1 else D.left }
theorem Dv.stage_all (D : Dv) (at_ : Nat) (ls : List (List UInt8)) : D.stage at_ ls ls.length = D.wrote at_ ls := rfl
theorem Dv.stage_ok {D : Dv} (h : D.Ok) (ho : D.off = false) (at_ : Nat) (ls : List (List UInt8)) (hl : ∀ c ∈ ls, c.length = 96) (k : Nat) : (D.stage at_ ls k).Ok := by
  obtain ⟨h1, h2, h3, h4, h5, h6, h7⟩ := h
  have hb : D.blown = (D.fused && decide (D.left - 1 < 0)) := rfl
  have hlf : (D.stage at_ ls k).left = if D.fused then D.left - 1 else D.left := rfl
  refine ⟨?_, ?_, landed_96 h3 hl, ?_, ?_, ?_, h7⟩
  · show (landed ..).length ≤ _; rw [landed_length]; exact h1
  · show _ ≤ (landed ..).length; rw [landed_length]; exact h2
  · intro e f
    have f' : D.fused = true := f
    have e' : D.blown = false := e
    rw [hlf, if_pos f']
    rw [hb, f'] at e'
    simp at e'
    omega
  · rw [hlf]
    split
    · rename_i f; have := h4 ho f; omega
    · exact h5
  · rw [hlf]
    split <;> omega
theorem Rows2N.row {M : Nat → Prop} {w : World} {e : TypeId} {ao : Option Addr} {cap : Nat} {ls : List (List UInt8)} (h : Rows2N M w e (.slice ao ls.length cap) ls) (k : Nat) (hk : k < ls.length) :
    ∃ g o a c e', ao = some ⟨g, o, none⟩ ∧ w.cell? ⟨g, o + k, none⟩ = some (.slice a ls[k].length c) ∧ Bytes w e' (.slice a ls[k].length c) ls[k] := h.rows.row k hk
theorem keep5 {w w1 : World} {b : Nat} (h : Same w w1) (u : Value) : Keep (fun k => k = b) w (w1.setCell ⟨b, 5, none⟩ u) := (h.keep (fun k => k = b)).setCell (p := ⟨b, 5, none⟩) (.inl rfl) _
theorem Dc.set5 {w : World} {b : Nat} {off fused : Bool} {left n : Int} {kv cv : Value} (h : Dc w b off fused left kv cv n) (n' : Int) : Dc (w.setCell ⟨b, 5, none⟩ (.int .i64 n')) b off fused left kv cv n' := by
  obtain ⟨c0, c1, c2, c3, c4, c5⟩ := h
  have o : ∀ (i j : Nat) (W : World) (u : Value), i ≠ j → (W.setCell ⟨b, i, none⟩ u).cell? ⟨b, j, none⟩ = W.cell? ⟨b, j, none⟩ := fun i j W u hij => World.cell?_setCell_other _ _ _ _ (by simp [hij])
  refine ⟨?_, ?_, ?_, ?_, ?_, ?_⟩
  · rw [o _ _ _ _ (by decide)]; exact c0
  · rw [o _ _ _ _ (by decide)]; exact c1
  · rw [o _ _ _ _ (by decide)]; exact c2
  · rw [o _ _ _ _ (by decide)]; exact c3
  · rw [o _ _ _ _ (by decide)]; exact c4
  · exact World.cell?_setCell_same _ _ _ c5
theorem size5 : (Try.prog.info? 5).map (·.size) = some 1 := by kernel_rfl

/-- one sector more -/
theorem IsDv.next {w w' : World} {b cb : Nat} {F : Nat → Prop} {D : Dv} {at_ k : Nat} {ls : List (List UInt8)} {kv : Value} {n : Int} (hls : ∀ c ∈ ls, c.length = 96) (hk : k < ls.length) (hC : at_ + ls.length ≤ D.C.length)
    (hkeep : D.keeps k = true) (hok : D.Ok) (ho : D.off = false)
    (h1 : Dc w b D.blown D.fused (if D.fused then D.left - 1 else D.left) kv (.slice (some ⟨cb, 0, none⟩) D.C.length D.C.length) n) (h2 : Fz w b)
    (h4 : b ≠ cb) (h5 : F b) (h6 : F cb) (h7 : Ints w 3 kv D.keep) (h8 : ∀ g, homeOf kv = some g → F g ∧ g ≠ b ∧ g ≠ cb)
    (hg : w'.heap[cb]? = some (.cells (splice (flat (landed D.C at_ ls D.keeps k)) ((at_ + k) * 96) (ls[k].map u8)).toArray 143 (0, 0))) (K : Keep (fun i => i = cb) w w') :
    IsDv w' (.pointer (some ⟨b, 0, none⟩)) F (D.stage at_ ls (k + 1)) := by
  have hl : (D.stage at_ ls (k + 1)).C.length = D.C.length := landed_length ..
  refine ⟨b, cb, kv, n, rfl, ?_, h2.keep K h4, ?_, h4, h5, h6, Sl.keep h7 K fun g hg => (h8 g hg).2.2, h8, D.stage_ok hok ho at_ ls hls _⟩
  · rw [hl]; exact h1.keep K h4
  · rw [hg]
    show _ = some (Obj.cells (flat (landed D.C at_ ls D.keeps (k + 1))).toArray 143 (0, 0))
    rw [landed_succ_yes _ _ _ _ _ hk hC hkeep, flat_splice _ (landed_96 hok.2.2.1 hls) _ _ (by rw [landed_length]; omega) (hls _ (List.getElem_mem hk))]

set_option maxHeartbeats 3200000 in
set_option maxRecDepth 100000 in
theorem dWriteGo (w : World) (p : Value) (F : Nat → Prop) (D : Dv) (at_ : Int) (e : TypeId) (v : Value) (ls : List (List UInt8)) (hD : IsDv w p F D) (hR : Rows2N F w e v ls) (ho : D.off = false) (hb : D.bad at_ ls = false) (hne : ls ≠ []) :
    Calls Try.prog 34 #[p, .int .i64 at_, v] w (RetDv (D.write at_ ls) p F w) := by
  have HW : Hid (D.write at_ ls = (if D.blown then 9 else 0, D.wrote at_ ls)) := by show _ = _; unfold Dv.write; rw [ho, if_neg (by simp), if_neg (by simp [hb]), if_neg hne]
  have HO := hid hD.ok
  have hok := hD.ok.1
  have Ho := hid ho
  have hn0 : 0 < ls.length := List.length_pos_iff.2 hne
  obtain ⟨b, cb, kv, n, rfl, h1, h2, h3, h4, h5, h6, h7, h8, h9⟩ := hD
  have HR := hid (dReady w b _ _ _ _ _ _ _ _ h1)
  rw [ho] at HR h1
  have HN := hid hR
  obtain ⟨ao, cap, rfl, f1, f2⟩ := hR.rows.form
  unfold maxLen at f2
  have g : ¬ at_ < 0 ∧ ¬ (D.C.length : Int) < at_ ∧ ¬ ((D.C.length : Int) - at_ < ls.length) ∧ ls.any isLong = false := by
    unfold Dv.bad at hb
    simp at hb
    exact ⟨by omega, by omega, by omega, by simpa using hb.2.2.2⟩
  have HC : Hid (∀ w', Same w w' → Calls Try.prog 88 #[.slice ao ls.length cap, .func (.func 89) #[] #[]] w' (RetSame (.bool false) w')) := fun w' S => by
    have := dContainsFunc w' e _ ls (hR.rows.same S)
    rwa [g.2.2.2] at this
  have h96 : ∀ c ∈ ls, c.length = 96 := by
    intro c hc
    have := List.any_eq_false.1 g.2.2.2 c hc
    unfold isLong at this
    simpa using this
  have H96 := hid h96
  obtain ⟨at_, rfl⟩ := Int.eq_ofNat_of_zero_le (a := at_) (by omega)
  have g1' : decide ((at_ : Int) < 0) = false := by simp
  have g2' : decide (D.C.length < at_) = false := by simpa using g.2.1
  have g3' : decide ((D.C.length : Int) - at_ < ls.length) = false := by simpa using g.2.2.1
  have g4 : at_ + ls.length ≤ D.C.length := by omega
  have H1 := hid h1
  have H2 := hid h2
  have H3 := hid h3
  have H7 := hid h7
  have H8 := hid h8
  have HF := hid (And.intro h4 (And.intro h5 h6))
  clear ho h1 hb g hR h96 h2 h3 h4 h5 h6 h7 h8 h9 hne
  go_enter Try.func34, Try.ntmps34
  go_wp2_with fail
  refine HR.out.mono ?_
  rintro en w1 ⟨rfl, S1⟩
  obtain ⟨c0, c1, c2, c3, c4, c5⟩ := H1.out.same S1
  go_wp2_with fail
  refine (HC.out _ S1).mono ?_
  rintro en w2 ⟨rfl, S2⟩
  have S := S1.trans S2
  clear S1 S2 c0 c1 c2 c3 c4 c5
  obtain ⟨c0, c1, c2, c3, c4, c5⟩ := H1.out.same S
  have z := H2.out.same S
  have z5 := z.2 5
  go_wp2_with fail
  have S5 := keep5 S (b := b) (.int .i64 (wrap64 (n + 1)))
  have D5 := (H1.out.same S).set5 (wrap64 (n + 1))
  have z5' := z.set ⟨b, 5, none⟩ (.int .i64 (wrap64 (n + 1)))
  clear c0 c1 c2 c3 c4 c5 z z5
  have HB := dBlows _ b _ _ _ _ _ D5 z5'.2 (fun e => by have := HO.out.2.2.2.1 Ho.out e; have := HO.out.2.2.2.2.2; omega)
  refine HB.mono ?_
  rintro en w3 ⟨rfl, S3, D3, Z3⟩
  have Z3 := hid (show Fz w3 b from ⟨by have := S3.size; have := z5'.1; omega, Z3⟩)
  have K3 := hid (Keep.trans S5 S3)
  have DB : (D.fused && decide (D.left - 1 < 0)) = D.blown := rfl
  rw [DB] at D3 ⊢
  have D3 := hid D3
  have HK : Hid (∀ i, D.keeps i = (!D.blown || hasInt D.keep i)) := fun i => rfl
  have HCt := hid dContains
  have HS : Hid (∀ wr k, Keep F w wr → IsDv wr (.pointer (some ⟨b, 0, none⟩)) F (D.stage at_ ls k) → True) := fun _ _ _ _ => trivial
  have HI : Hid (IsDv w3 (.pointer (some ⟨b, 0, none⟩)) F (D.stage at_ ls 0) ∧ Keep F w w3) := by
    have K := K3.out
    refine ⟨⟨b, cb, kv, wrap64 (n + 1), rfl, ?_, Z3.out, ?_, HF.out.1, HF.out.2.1, HF.out.2.2, Sl.keep H7.out K fun g hg => (H8.out g hg).2.1, H8.out, D.stage_ok HO.out Ho.out at_ ls H96.out 0⟩, K.weak fun k _ e => by subst e; exact HF.out.2.1⟩
    · have : (D.stage at_ ls 0).C.length = D.C.length := landed_length ..
      rw [this]
      exact D3.out
    · rw [K.block cb (Array.getElem?_eq_some_iff.1 H3.out).1 (fun e => HF.out.1 e.symm)]
      show _ = some (Obj.cells (flat (landed D.C at_ ls D.keeps 0)).toArray 143 (0, 0))
      rw [landed_zero]
      exact H3.out
  clear HB D5 z5' S5 S3 Z3 K3 D3 H1 H2 H3 H7 H8 HC HR
  have HN := hid (fun wr (K : Keep F w wr) => (HN.out.keep K))
  have HD := hid (fun wr k (h : IsDv wr (.pointer (some ⟨b, 0, none⟩)) F (D.stage at_ ls k)) => h)
  cases hB : D.blown
  · have HBl := hid hB
    have HKt : Hid (∀ i, D.keeps i = true) := fun i => by rw [HK.out, hB]; rfl
    clear hB
    go_wp2_with fail
    go_loopw [59] (fun i wr => ∃ k : Nat, k ≤ ls.length ∧ i = .int .i64 k ∧ IsDv wr (.pointer (some ⟨b, 0, none⟩)) F (D.stage at_ ls k) ∧ Keep F w wr) (fun i _ => ls.length - (intOf i).toNat)
    case atStart => exact ⟨0, Nat.zero_le _, rfl, HI.out⟩
    case round =>
      obtain ⟨k, hk, rfl, hd, K⟩ := hrel
      by_cases hlt : k < ls.length
      · have HKw := hid K
        have HD0 := hid hd
        clear K
        obtain ⟨b', cb', kv', n', e1, h1, h2, h3, h4, h5, h6, h7, h8, h9⟩ := hd
        obtain rfl : b = b' := by simpa using e1
        have hl : (D.stage at_ ls k).C.length = D.C.length := landed_length ..
        rw [hl] at h1
        have H3 := hid h3
        obtain ⟨ak, ck, rfl, _, _⟩ := h7.form
        obtain ⟨c0, c1, c2, c3, c4, c5⟩ := id h1
        obtain ⟨g, o, a, c, e', rfl, hcell, hby⟩ := (HN.out _ HKw.out).row k hlt
        have h96 : ls[k].length = 96 := H96.out _ (List.getElem_mem hlt)
        have HBy := hid hby
        have HFl : Hid ((flat (D.stage at_ ls k).C).length = D.C.length * 96) := by
          show _ = _
          unfold flat
          rw [List.length_map, flat_length _ h9.2.2.1, hl]
        have HT : Hid (ls[k].take 96 = ls[k]) := List.take_of_length_le (by omega)
        have HX : Hid (∀ wz, Hid (wz.heap[cb']? = some (.cells (splice (flat (D.stage at_ ls k).C) ((at_ + k) * 96) ((ls[k].take 96).map u8)).toArray 143 (0, 0))) → Keep (fun i => i = cb') wr wz → IsDv wz (.pointer (some ⟨b, 0, none⟩)) F (D.stage at_ ls (k + 1)) ∧ Keep F w wz) := by
          intro wz hg Kz
          rw [HT.out] at hg
          exact ⟨IsDv.next H96.out hlt g4 (HKt.out k) HO.out Ho.out (h1) (h2) h4 h5 h6 (h7) h8 hg Kz, HKw.out.trans (Kz.weak fun i _ e => by subst e; exact h6)⟩
        clear h1 h2 h3 h4 h5 h6 h7 h8 h9 hl hby h96 e1
        go_wp2_with (refine wpList_copy_keep rfl (.tmp 83) (.tmp 84) 23 rfl Try.underlying23 size5 HBy.out (g := cb') (off := (at_ + k) * 96) (dLen := 96) (dCap := 96) rfl rfl H3.out (by rw [HFl.out]; omega) ?_; intro w4 HG4 K4)
        go_roundw
        case rel => exact ⟨k + 1, by omega, by go_num, HX.out _ HG4 K4⟩
        case measure => simp [intOf]; omega
      · obtain rfl : k = ls.length := by omega
        have HE := hid hd
        have HKw := hid K
        clear K hd
        go_wp2_with fail
        go_ret
        rw [HW.out, HBl.out]
        exact ⟨rfl, HKw.out, by rw [← D.stage_all]; exact HE.out⟩
  · have HBl := hid hB
    have HKt : Hid (∀ i, D.keeps i = hasInt D.keep i) := fun i => by rw [HK.out, hB]; rfl
    clear hB
    go_wp2_with fail
    go_loopw [59] (fun i wr => ∃ k : Nat, k ≤ ls.length ∧ i = .int .i64 k ∧ IsDv wr (.pointer (some ⟨b, 0, none⟩)) F (D.stage at_ ls k) ∧ Keep F w wr) (fun i _ => ls.length - (intOf i).toNat)
    case atStart => exact ⟨0, Nat.zero_le _, rfl, HI.out⟩
    case round =>
      obtain ⟨k, hk, rfl, hd, K⟩ := hrel
      by_cases hlt : k < ls.length
      · have HKw := hid K
        have HD0 := hid hd
        clear K
        obtain ⟨b', cb', kv', n', e1, h1, h2, h3, h4, h5, h6, h7, h8, h9⟩ := hd
        obtain rfl : b = b' := by simpa using e1
        have hl : (D.stage at_ ls k).C.length = D.C.length := landed_length ..
        rw [hl] at h1
        have H3 := hid h3
        obtain ⟨ak, ck, rfl, _, _⟩ := h7.form
        obtain ⟨c0, c1, c2, c3, c4, c5⟩ := id h1
        obtain ⟨g, o, a, c, e', rfl, hcell, hby⟩ := (HN.out _ HKw.out).row k hlt
        have h96 : ls[k].length = 96 := H96.out _ (List.getElem_mem hlt)
        have HBy := hid hby
        have HFl : Hid ((flat (D.stage at_ ls k).C).length = D.C.length * 96) := by
          show _ = _
          unfold flat
          rw [List.length_map, flat_length _ h9.2.2.1, hl]
        have HT : Hid (ls[k].take 96 = ls[k]) := List.take_of_length_le (by omega)
        have HCk := hid (HCt.out wr 3 _ _ (k : Int) h7)
        have HCe : Hid (D.keeps k = ((D.stage at_ ls k).keep.any fun x => (k : Int) == x)) := HKt.out k
        have HP := hid (And.intro h1 (And.intro h2 (And.intro h3 (And.intro h4 (And.intro h5 (And.intro h6 (And.intro h7 (And.intro h8 h9))))))))
        clear h1 h2 h3 h4 h5 h6 h7 h8 h9 hl hby h96 e1
        cases hq : (D.stage at_ ls k).keep.any fun x => (k : Int) == x
        · rw [hq] at HCk HCe
          clear hq
          generalize (D.stage at_ ls k).keep.length = nk at *
          go_wp2_with fail
          refine HCk.out.mono ?_
          rintro en w5 ⟨rfl, S1⟩
          have HX : Hid (IsDv w5 (.pointer (some ⟨b, 0, none⟩)) F (D.stage at_ ls (k + 1)) ∧ Keep F w w5) := by
            have e : D.stage at_ ls (k + 1) = D.stage at_ ls k := by unfold Dv.stage; rw [landed_succ_no _ _ _ _ _ HCe.out]
            rw [e]
            exact ⟨HD0.out.same S1, HKw.out.same S1⟩
          go_wp2_with fail
          go_roundw
          case rel => exact ⟨k + 1, by omega, by go_num, HX.out⟩
          case measure => simp [intOf]; omega
        · rw [hq] at HCk HCe
          clear hq
          generalize (D.stage at_ ls k).keep.length = nk at *
          go_wp2_with fail
          refine HCk.out.mono ?_
          rintro en w5 ⟨rfl, S1⟩
          obtain ⟨h1, h2, h3, h4, h5, h6, h7, h8, h9⟩ := HP.out
          have HX : Hid (∀ wz, Hid (wz.heap[cb']? = some (.cells (splice (flat (D.stage at_ ls k).C) ((at_ + k) * 96) ((ls[k].take 96).map u8)).toArray 143 (0, 0))) → Keep (fun i => i = cb') w5 wz → IsDv wz (.pointer (some ⟨b, 0, none⟩)) F (D.stage at_ ls (k + 1)) ∧ Keep F w wz) := by
            intro wz hg Kz
            rw [HT.out] at hg
            exact ⟨IsDv.next H96.out hlt g4 HCe.out HO.out Ho.out (h1.same S1) (h2.same S1) h4 h5 h6 (h7.same S1) h8 hg Kz, (HKw.out.same S1).trans (Kz.weak fun i _ e => by subst e; exact h6)⟩
          have HBy1 := hid (HBy.out.same S1)
          have H3' := hid ((S1.block cb' (Array.getElem?_eq_some_iff.1 h3).1 fun x => x).trans h3)
          clear c0 c1 c2 c3 c4 c5
          obtain ⟨c0, c1, c2, c3, c4, c5⟩ := h1.same S1
          clear h1 h2 h3 h4 h5 h6 h7 h8 h9
          go_wp2_with (refine wpList_copy_keep rfl (.tmp 83) (.tmp 84) 23 rfl Try.underlying23 size5 HBy1.out (g := cb') (off := (at_ + k) * 96) (dLen := 96) (dCap := 96) rfl rfl H3'.out (by rw [HFl.out]; omega) ?_; intro w4 HG4 K4)
          go_roundw
          case rel => exact ⟨k + 1, by omega, by go_num, HX.out _ HG4 K4⟩
          case measure => simp [intOf]; omega
      · obtain rfl : k = ls.length := by omega
        have HE := hid hd
        have HKw := hid K
        clear K hd
        go_wp2_with fail
        go_ret
        rw [HW.out, HBl.out]
        exact ⟨rfl, HKw.out, by rw [← D.stage_all]; exact HE.out⟩

/-- Write on a live or dead drive. -/
theorem dWrite (w : World) (p : Value) (F : Nat → Prop) (D : Dv) (at_ : Int) (e : TypeId) (v : Value) (ls : List (List UInt8)) (hD : IsDv w p F D) (hR : Rows2N F w e v ls) :
    Calls Try.prog 34 #[p, .int .i64 at_, v] w (RetDv (D.write at_ ls) p F w) := by
  cases ho : D.off
  · cases hb : D.bad at_ ls
    · by_cases hne : ls = []
      · subst hne; exact dWriteNone w p F D at_ e v hD hR ho hb
      · exact dWriteGo w p F D at_ e v ls hD hR ho hb hne
    · exact dWriteBad w p F D at_ e v ls hD hR ho hb
  · exact dWriteOff w p F D at_ v ls hD ho
end Go.Proofs.Ytlhnpicmjjddeaa
namespace Go.Proofs.Ytlhnpicmjjddeaa
open Go.RowKit

theorem tyRows : RowTy Try.prog 36 23 1 24 (.slice none 0 0) := ⟨Try.underlying36, by kernel_rfl, rfl, by decide⟩

/-- a row of rows of bytes of the call's own -/
def OwnR (w : World) (base : Nat) (v : Value) (ls : List (List UInt8)) : Prop :=
  ∃ us, w.ownsRow base 23 1 v ls.length us ∧ ∀ i (h : i < ls.length) u, us[i]? = some u → Bytes w 5 u ls[i] ∧ ∀ g, homeOf u = some g → base ≤ g
theorem OwnR.nil (w : World) (base : Nat) : OwnR w base (.slice none 0 0) [] := ⟨[], World.ownsRow_nil w base 23 1, fun _ h => absurd h (Nat.not_lt_zero _)⟩
theorem OwnR.lt {w : World} {base : Nat} {v : Value} {ls : List (List UInt8)} (h : OwnR w base v ls) : ∀ k, v.ownBlock = some k → base ≤ k ∧ k < w.heap.size := fun k e => let ⟨_, h1, _⟩ := h; World.ownsRow.lt h1 k e
theorem home_own {v : Value} {g : Nat} (h : homeOf v = some g) : v.ownBlock = some g := by
  unfold homeOf at h
  split at h
  · simp only [Option.some.injEq] at h; subst h; rfl
  · cases h
theorem OwnR.rows2N {w : World} {base : Nat} {v : Value} {ls : List (List UInt8)} (h : OwnR w base v ls) {M : Nat → Prop} (hM : ∀ k, M k → k < base) : Rows2N M w 23 v ls := by
  obtain ⟨us, h1, h2⟩ := h
  refine ⟨us, by have := h1.1; omega, Sl.of_owns h1, fun g hg hm => ?_, fun i hi u hu => ⟨⟨5, (h2 i hi u hu).1⟩, fun g hg hm => ?_⟩⟩
  · have := (World.ownsRow.lt h1 g (home_own hg)).1
    have := hM g hm
    omega
  · have := (h2 i hi u hu).2 g hg
    have := hM g hm
    omega
theorem OwnR.rows {w : World} {base : Nat} {v : Value} {ls : List (List UInt8)} (h : OwnR w base v ls) : Rows2 w 23 v ls := (h.rows2N (M := NoB) fun _ x => x.elim).rows
theorem owns_keep {w w' : World} {M : Nat → Prop} {base : Nat} {e : TypeId} {size : Nat} {v : Value} {n : Nat} {xs : List Value} (h : w.ownsRow base e size v n xs) (k : Keep M w w') (hm : ∀ g, v.ownBlock = some g → ¬ M g) : w'.ownsRow base e size v n xs := by
  obtain ⟨h1, h2⟩ := h
  refine ⟨h1, ?_⟩
  rcases h2 with h2 | ⟨g, cap, cur, rfl, b, c, d⟩
  · exact .inl h2
  · exact .inr ⟨g, cap, cur, rfl, b, by rw [k.block g (Array.getElem?_eq_some_iff.1 c).1 (hm g rfl)]; exact c, d⟩
/-- what keeps all blocks from 'base' on keeps it -/
theorem OwnR.keep {w w' : World} {M : Nat → Prop} {base : Nat} {v : Value} {ls : List (List UInt8)} (h : OwnR w base v ls) (k : Keep M w w') (hm : ∀ g, M g → g < base) : OwnR w' base v ls := by
  obtain ⟨us, h1, h2⟩ := h
  refine ⟨us, owns_keep h1 k fun g hg hx => ?_, fun i hi u hu => ⟨(h2 i hi u hu).1.keep k fun g hg hx => ?_, (h2 i hi u hu).2⟩⟩
  · have := (World.ownsRow.lt h1 g hg).1
    have := hm g hx
    omega
  · have := (h2 i hi u hu).2 g hg
    have := hm g hx
    omega
theorem OwnR.same {w w' : World} {base : Nat} {v : Value} {ls : List (List UInt8)} (h : OwnR w base v ls) (k : Same w w') : OwnR w' base v ls := h.keep k fun _ x => x.elim
theorem OwnR.mono {w : World} {base base' : Nat} {v : Value} {ls : List (List UInt8)} (h : OwnR w base v ls) (hb : base' ≤ base) : OwnR w base' v ls := by
  obtain ⟨us, ⟨h1, h2⟩, h3⟩ := h
  refine ⟨us, ⟨h1, ?_⟩, fun i hi u hu => ⟨(h3 i hi u hu).1, fun g hg => Nat.le_trans hb ((h3 i hi u hu).2 g hg)⟩⟩
  rcases h2 with h2 | ⟨g, cap, cur, a, b, c⟩
  · exact .inl h2
  · exact .inr ⟨g, cap, cur, a, Nat.le_trans hb b, c⟩
/-- a block of rows is none of bytes -/
theorem OwnR.apart {w : World} {base : Nat} {v u : Value} {ls : List (List UInt8)} {l : List UInt8} (h : OwnR w base v ls) (hu : Bytes w 5 u l) {g : Nat} (hg : homeOf u = some g) : v.ownBlock ≠ some g := by
  obtain ⟨us, ⟨h1, h2⟩, h3⟩ := h
  intro e
  obtain ⟨cur, fr, hc⟩ : ∃ cur fr, w.heap[g]? = some (.cells cur 5 fr) := by
    obtain ⟨_, ao, cap, rfl, _, _, _, h5⟩ := hu
    rcases h5 with h5 | ⟨g', o, cur, fr, rfl, hg', _⟩
    · rw [h5] at hg; cases ao <;> simp [homeOf] at hg
    · cases hl : l.length with
      | zero => rw [hl] at hg; simp [homeOf] at hg
      | succ n => rw [hl] at hg; simp [homeOf] at hg; subst hg; exact ⟨cur, fr, hg'⟩
  rcases h2 with ⟨rfl, _⟩ | ⟨g', cap, cur', rfl, b, c, d⟩
  · simp [Value.ownBlock] at e
  · simp [Value.ownBlock] at e
    subst e
    rw [hc] at c
    simp at c

theorem Sl.form' {w : World} {e : TypeId} {size : Nat} {v : Value} {n : Nat} {xs : List Value} (h : Sl w e size v n xs) : ∃ ao cap, v = .slice ao n cap := let ⟨_, ao, cap, h1, _⟩ := h; ⟨ao, cap, h1⟩
theorem Bytes.one {w : World} {e : TypeId} {v : Value} {l : List UInt8} (h : Bytes w e v l) : v.oneCell' = true := by obtain ⟨ao, cap, rfl, _⟩ := h.form; rfl

/-- append of rows to a row of rows of the call's own -/
theorem wpList_append_rows {P : Program} {w : World} {ops : Array Oper} {rest : List Oper} {o : Oper} {a : Act} {Q : Exit → Act → World → Prop} (hgd : o.guard = none) (s x : Operand)
    (t : TypeId) (T : RowTy P t 23 1 24 (.slice none 0 0)) (ho : o.op = .call { callee := .builtin .append, args := #[s, x], argTypes := #[t, t] })
    {base : Nat} {v : Value} {ls : List (List UInt8)} (hown : OwnR w base v ls) {e' : TypeId} {y : Value} {us : List Value} {rs : List (List UInt8)} (hy : Sl w e' 1 y rs.length us)
    (hr : ∀ i (h : i < rs.length) u, us[i]? = some u → Bytes w 5 u rs[i] ∧ ∀ g, homeOf u = some g → base ≤ g) (hs : a.eval s = v) (hx : a.eval x = y)
    (hb : ls.length + rs.length ≤ 1000000) (hbase : base ≤ w.heap.size)
    (h : ∀ v' w', OwnR w' base v' (ls ++ rs) → Keep (fun k => v.ownBlock = some k) w w' → wpList P ops Q rest (a.put o.dst v') w') : wpList P ops Q (o :: rest) a w := by
  obtain ⟨us0, h1, h2⟩ := id hown
  have hul : us.length = rs.length := by have := hy.1; omega
  refine wpList_append_sl hgd s x T ho h1 hy hs hx ?_ (by unfold maxLen; omega) (by omega) hbase ?_
  · intro u hu
    obtain ⟨i, hi, rfl⟩ := List.mem_iff_getElem.1 hu
    exact (hr i (by omega) _ (List.getElem?_eq_getElem hi)).1.one
  · intro v' w' h3 h4
    have K : Keep (fun k => v.ownBlock = some k) w w' := (Keep.refl _ w).grown h4 fun k e => .inl e
    refine h v' w' ⟨us0 ++ us, by rw [List.length_append]; exact h3, ?_⟩ K
    have h0 : us0.length = ls.length := by have := h1.1; omega
    intro i hi u hu
    rw [List.length_append] at hi
    rcases Nat.lt_or_ge i ls.length with hl | hl
    · rw [List.getElem?_append_left (by omega)] at hu
      rw [List.getElem_append_left hl]
      obtain ⟨q1, q2⟩ := h2 i hl u hu
      exact ⟨q1.keep K fun g hg => hown.apart q1 hg, q2⟩
    · rw [List.getElem?_append_right (by omega), h0] at hu
      rw [List.getElem_append_right hl]
      obtain ⟨q1, q2⟩ := hr (i - ls.length) (by omega) u hu
      exact ⟨q1.keep K fun g hg => hown.apart q1 hg, q2⟩

theorem OwnB.fresh {w : World} {base : Nat} {v : Value} {l : List UInt8} (h : OwnB w base v l) : ∀ g, homeOf v = some g → base ≤ g := fun g hg => (h.lt g (home_own hg)).1

theorem Keep.fresh {a b : World} {M : Nat → Prop} (K : Keep M a b) (h : ∀ k, M k → a.heap.size ≤ k) : Same a b := K.weak fun k hk hm => by have := h k hm; omega
theorem Same.keepOwn {a b c : World} {M : Nat → Prop} (S : Same a b) (K : Keep M b c) (h : ∀ k, M k → a.heap.size ≤ k) : Same a c := Keep.trans' S K fun i hi hm => by have := h i hm; omega
/-! ### rows of noughts -/
def zeros (n : Nat) : Array Value := ((List.replicate n (0 : UInt8)).map u8).toArray
theorem madeCells_zeros (n : Nat) : madeCells (Value.int .u8 0).cells n = zeros n := by
  unfold madeCells zeros
  have : (Value.int IntKind.u8 0).cells = #[Value.int IntKind.u8 0] := rfl
  rw [this]
  apply Array.ext
  · simp
  · intro i h1 h2
    simp [u8, Nat.mod_one]
theorem info5 : (Try.prog.info? 5).map (fun i => (i.zero, i.size, i.bytes)) = some (some (.int .u8 0), 1, 1) := by kernel_rfl
theorem runMakeBytes (w : World) (n : Nat) (h2 : n ≤ 1000000) : (Instr.makeSlice 23 (.int .i64 n) (.int .i64 n)).run Try.prog w =
    .ok (.slice (some ⟨w.heap.size, 0, none⟩) n n) (w.alloc (.cells (zeros n) 5)) := by
  obtain ⟨i, hi, hz, hs, hb⟩ := info_parts info5
  have := run_makeSlice (P := Try.prog) w 23 5 i (.int .u8 0) Try.underlying23 hi hz .i64 .i64 n n (by omega) (Int.le_refl _) (by rw [hs]; simp; omega) (by rw [hb]; omega) (by omega)
  rw [hs] at this
  simp only [Int.toNat_natCast, Nat.mul_one] at this
  rw [madeCells_zeros] at this
  exact this
theorem runMake96 (w : World) : (Instr.makeSlice 23 (.int .i64 96) (.int .i64 96)).run Try.prog w = .ok (.slice (some ⟨w.heap.size, 0, none⟩) 96 96) (w.alloc (.cells (zeros 96) 5)) := runMakeBytes w 96 (by omega)
theorem OwnB.zeros (w : World) (n : Nat) (h2 : n ≤ 1000000) : OwnB (w.alloc (.cells (zeros n) 5)) w.heap.size (.slice (some ⟨w.heap.size, 0, none⟩) n n) (List.replicate n 0) :=
  OwnB.made _ _ n _ _ (heap_alloc_new w _) (Nat.le_refl _) (by unfold maxLen; omega) (by simp) rfl
end Go.Proofs.Ytlhnpicmjjddeaa
namespace Go.Proofs.Ytlhnpicmjjddeaa
open Go.RowKit

/-- the blocks F lie from a on, below b -/
def Bnd (F : Nat → Prop) (a b : Nat) : Prop := ∀ k, F k → a ≤ k ∧ k < b
/-- F' holds no more than F and what is new -/
def Grow (F F' : Nat → Prop) (w w' : World) : Prop := ∀ k, F' k → F k ∨ (w.heap.size ≤ k ∧ k < w'.heap.size)
theorem Bnd.mono {F : Nat → Prop} {a b b' : Nat} (h : Bnd F a b) (hb : b ≤ b') : Bnd F a b' := fun k hk => ⟨(h k hk).1, Nat.lt_of_lt_of_le (h k hk).2 hb⟩
theorem Bnd.grow {F F' : Nat → Prop} {a : Nat} {w w' : World} (h : Bnd F a w.heap.size) (g : Grow F F' w w') (hs : w.heap.size ≤ w'.heap.size) (ha : a ≤ w.heap.size) : Bnd F' a w'.heap.size := fun k hk => by
  rcases g k hk with x | x
  · have := h k x; omega
  · omega
theorem Grow.refl (F : Nat → Prop) (w w' : World) : Grow F F w w' := fun _ h => .inl h
theorem Rows2N.grow {F F' : Nat → Prop} {w w' : World} {e : TypeId} {v : Value} {ls : List (List UInt8)} (h : Rows2N F w e v ls) (k : Keep F w w') (g : Grow F F' w w') : Rows2N F' w' e v ls := by
  obtain ⟨us, h1, h2, h3, h4⟩ := h.keep k
  obtain ⟨us0, q1, q2, q3, q4⟩ := h
  refine ⟨us0, q1, q2.keep k q3, fun b hb hm => ?_, fun i hi u hu => ⟨?_, fun b hb hm => ?_⟩⟩
  · rcases g b hm with x | x
    · exact q3 b hb x
    · have := q2.home_lt hb; omega
  · obtain ⟨⟨e', hb⟩, hn⟩ := q4 i hi u hu
    exact ⟨e', hb.keep k hn⟩
  · obtain ⟨⟨e', hy⟩, hn⟩ := q4 i hi u hu
    rcases g b hm with x | x
    · exact hn b hb x
    · have := Sl.home_lt hy hb; omega
/-- one row of bytes, handed on as rows -/
theorem Rows2N.one {F : Nat → Prop} {w : World} {e : TypeId} {u : Value} {l : List UInt8} (h : Bytes w e u l) (hf : ∀ g, homeOf u = some g → ¬ F g) (hF : ¬ F w.heap.size) :
    Rows2N F (w.alloc (.cells #[u] 23)) 23 (.slice (some ⟨w.heap.size, 0, none⟩) 1 1) [l] := by
  refine ⟨[u], rfl, Sl.made 23 1 w.heap.size 1 1 _ _ (heap_alloc_new w _) (Nat.le_refl _) (by decide) rfl ⟨[], rfl⟩, fun g hg hm => ?_, ?_⟩
  · simp [homeOf] at hg
    subst hg
    exact hF hm
  intro i hi x hx
  match i, hi with
  | 0, _ =>
    simp at hx
    subst hx
    exact ⟨⟨e, h.same ((Same.refl w).alloc _)⟩, hf⟩
theorem mod96 (q : Nat) : q % 96 < (Array.replicate 96 (Value.int IntKind.u8 0)).size := by rw [Array.size_replicate]; omega
theorem zero96_cells (n : Nat) : madeCells zero96.cells (n * 96) = (flat (Dv.new n).C).toArray := by
  have h : (Dv.new n).C.flatten = List.replicate (n * 96) 0 := by
    show (List.replicate n (List.replicate 96 (0 : UInt8))).flatten = _
    rw [List.flatten_replicate_replicate]
  have h96 : zero96.cells = Array.replicate 96 (.int .u8 0) := by kernel_rfl
  unfold flat
  rw [h, h96]
  unfold madeCells
  apply Array.ext
  · simp
  · intro i h1 h2
    simp only [Array.getElem_map, Array.size_replicate]
    have e : ∀ q, (Array.replicate 96 (Value.int IntKind.u8 0))[q % 96]! = .int .u8 0 := fun q => by rw [getElem!_pos (Array.replicate 96 (Value.int IntKind.u8 0)) (q % 96) (mod96 q)]; simp
    rw [e]
    simp [u8]
theorem dNewD (w : World) (n : Nat) (h1 : 1 ≤ n) (h2 : n ≤ 2048) : Calls Try.prog 32 #[.int .i64 n] w fun en w' =>
    ∃ p F, en = .returned (.tuple #[p, .int .i64 0]) ∧ Same w w' ∧ IsDv w' p F (Dv.new n) ∧ Bnd F w.heap.size w'.heap.size := by
  refine (dNew w n h1 h2).mono ?_
  rintro en w1 ⟨rfl, S, D, C, Z⟩
  refine ⟨_, fun k => w.heap.size ≤ k ∧ k < w1.heap.size, rfl, S, ⟨w.heap.size + 1, w.heap.size, .slice none 0 0, 0, rfl, ?_, Z, ?_, by omega, ⟨Nat.le_succ _, Z.1⟩, ⟨Nat.le_refl _, (Array.getElem?_eq_some_iff.1 C).1⟩, Ints.nil _ _, (fun g hg => by simp [homeOf] at hg), ?_⟩, fun k hk => hk⟩
  · have : (Dv.new n).C.length = n := by simp [Dv.new]
    rw [this]
    exact D
  · rw [← zero96_cells]; exact C
  · refine ⟨by simp [Dv.new]; omega, by simp [Dv.new]; omega, ?_, (fun _ x => by cases x), by simp [Dv.new], by simp [Dv.new], by simp [Dv.new]⟩
    intro c hc
    have hc' : c ∈ List.replicate n (List.replicate 96 (0 : UInt8)) := hc
    obtain ⟨_, rfl⟩ := List.mem_replicate.1 hc'
    simp
/-- what a sector reads as; nothing, where there is none -/
def Dv.sector (D : Dv) (at_ : Int) : List UInt8 := if 0 ≤ at_ then D.C.getD at_.toNat [] else []
def Dv.readE (D : Dv) (at_ : Int) : Int := if 0 ≤ at_ ∧ at_ < D.C.length then 0 else 2
def RetRead (l : List UInt8) (r : Int) (w : World) (en : Ending) (w' : World) : Prop := ∃ v e, en = .returned (.tuple #[v, .int .i64 r]) ∧ Bytes w' e v l ∧ Same w w' ∧ ∀ g, homeOf v = some g → w.heap.size ≤ g
set_option maxHeartbeats 800000 in
set_option maxRecDepth 100000 in
theorem dReadD (w : World) (p : Value) (F : Nat → Prop) (D : Dv) (at_ : Int) (hD : IsDv w p F D) : Calls Try.prog 39 #[p, .int .i64 at_] w (RetRead (D.sector at_) (D.readE at_) w) := by
  by_cases h : 0 ≤ at_ ∧ at_ < D.C.length
  · obtain ⟨b, cb, kv, n, rfl, h1, h2, h3, h4, h5, h6, h7, h8, h9⟩ := hD
    obtain ⟨k, rfl⟩ := Int.eq_ofNat_of_zero_le (a := at_) h.1
    have hk : k < D.C.length := by omega
    have e1 : D.sector k = D.C[k] := by unfold Dv.sector; rw [if_pos h.1, Int.toNat_natCast, List.getD_eq_getElem?_getD, List.getElem?_eq_getElem hk]; rfl
    have e2 : D.readE k = 0 := by unfold Dv.readE; rw [if_pos h]
    rw [e1, e2]
    exact dRead w b cb D.off D.fused D.left kv n D.C k hk h9.1 h1 (Cb.whole h3 h9.2.2.1)
  · have e1 : D.sector at_ = [] := by
      unfold Dv.sector
      split
      · rw [List.getD_eq_getElem?_getD, List.getElem?_eq_none (by omega)]; rfl
      · rfl
    have e2 : D.readE at_ = 2 := by unfold Dv.readE; rw [if_neg h]
    rw [e1, e2]
    obtain ⟨b, cb, kv, n, rfl, h1, h2, h3, h4, h5, h6, h7, h8, h9⟩ := hD
    have H := hid (dOk w b _ _ _ _ _ _ _ _ h1)
    have H1 := hid h1
    have hok := h9.1
    clear h1 h2 h3 h4 h5 h6 h7 h8 h9 e1 e2
    by_cases g1 : at_ < 0
    · go_enter Try.func39, Try.ntmps39
      go_wp2_with fail
      refine H.out.mono ?_
      rintro en w1 ⟨rfl, S1⟩
      obtain ⟨c0, c1, c2, c3, c4, c5⟩ := H1.out.same S1
      go_wp2_with fail
      go_ret2
      exact ⟨_, 5, rfl, Bytes.nil _ _, S1, fun g hg => by simp [homeOf] at hg⟩
    · have g2 : (D.C.length : Int) ≤ at_ := by omega
      clear h
      go_enter Try.func39, Try.ntmps39
      go_wp2_with fail
      refine H.out.mono ?_
      rintro en w1 ⟨rfl, S1⟩
      obtain ⟨c0, c1, c2, c3, c4, c5⟩ := H1.out.same S1
      go_wp2_with fail
      go_ret2
      exact ⟨_, 5, rfl, Bytes.nil _ _, S1, fun g hg => by simp [homeOf] at hg⟩
theorem Keep.weak' {M M' : Nat → Prop} {a b : World} (h : Keep M a b) (hm : ∀ k, M k → M' k) : Keep M' a b := h.weak fun k _ => hm k
theorem dFuseD (w : World) (p v : Value) (F : Nat → Prop) (D : Dv) (m : Int) (ks : List Int) (e : TypeId) (hD : IsDv w p F D) (hk : Ints w e v ks) (hl : ks.length ≤ 1000) (hm : -9223372036854775808 ≤ m ∧ m ≤ 9223372036854775807) :
    Calls Try.prog 35 #[p, .int .i64 m, v] w fun en w' => ∃ F', en = .returned (.int .i64 (D.fuse m ks).1) ∧ Keep F w w' ∧ IsDv w' p F' (D.fuse m ks).2 ∧ Grow F F' w w' := by
  have hD0 := hD
  obtain ⟨b, cb, kv, n, rfl, h1, h2, h3, h4, h5, h6, h7, h8, h9⟩ := hD
  cases ho : D.off
  · rw [ho] at h1
    refine (dFuse w b D.fused D.left kv v _ _ _ n m ks e h1 h2 hk (by omega)).mono ?_
    rintro en w1 ⟨rfl, K, Z, kv', D', O⟩
    have e1 : D.fuse m ks = (0, { D with fused := decide (0 ≤ m), left := m, keep := ks }) := by unfold Dv.fuse; rw [ho]; rfl
    rw [e1]
    have hcb : cb < w.heap.size := (Array.getElem?_eq_some_iff.1 h3).1
    have hb : b < w.heap.size := h2.1
    refine ⟨fun k => F k ∨ (w.heap.size ≤ k ∧ k < w1.heap.size), rfl, K.weak' (fun k e => by subst e; exact h5), ⟨b, cb, kv', n, rfl, ?_, Z, ?_, h4, .inl h5, .inl h6, O.ints, fun g hg => ?_, ?_⟩, fun k hk => hk⟩
    · show Dc w1 b D.off _ _ _ _ _; rw [ho]; exact D'
    · rw [K.block cb hcb (fun e => h4 e.symm)]; exact h3
    · have := (O.lt g (home_own hg)).1
      exact ⟨.inr ⟨this, (O.lt g (home_own hg)).2⟩, by omega, by omega⟩
    · obtain ⟨q1, q2, q3, q4, q5, q6, q7⟩ := h9
      refine ⟨q1, q2, q3, fun _ x => by simpa using x, hm.1, hm.2, hl⟩
  · rw [ho] at h1
    refine (dFuse_dead w b D.fused D.left kv v _ _ _ n m h1).mono ?_
    rintro en w1 ⟨rfl, S⟩
    have e1 : D.fuse m ks = (9, D) := by unfold Dv.fuse; rw [ho]; rfl
    rw [e1]
    exact ⟨F, rfl, S.keep _, hD0.same S, Grow.refl _ _ _⟩
theorem dStartD (w : World) (p : Value) (F : Nat → Prop) (D : Dv) (hD : IsDv w p F D) :
    Calls Try.prog 41 #[p] w fun en w' => en = .returned (.int .i64 0) ∧ Keep F w w' ∧ IsDv w' p F D.start := by
  obtain ⟨b, cb, kv, n, rfl, h1, h2, h3, h4, h5, h6, h7, h8, h9⟩ := hD
  refine (dStart w b _ _ _ kv _ _ _ n h1 h2).mono ?_
  rintro en w1 ⟨rfl, K, D', Z⟩
  have hcb : cb < w.heap.size := (Array.getElem?_eq_some_iff.1 h3).1
  refine ⟨rfl, K.weak' fun k e => by subst e; exact h5, b, cb, _, n, rfl, D', Z, ?_, h4, h5, h6, Ints.nil _ _, (fun g hg => by simp [homeOf] at hg), ?_⟩
  · rw [K.block cb hcb (fun e => h4 e.symm)]; exact h3
  · obtain ⟨q1, q2, q3, q4, q5, q6, q7⟩ := h9
    exact ⟨q1, q2, q3, (fun _ x => by cases x), by simp [Dv.start], by simp [Dv.start], by simp [Dv.start]⟩
theorem dLiveD (w : World) (p : Value) (F : Nat → Prop) (D : Dv) (hD : IsDv w p F D) : Calls Try.prog 37 #[p] w (RetSame (.bool !D.off) w) := by
  obtain ⟨b, cb, kv, n, rfl, h1, _⟩ := hD
  exact dLive w b _ _ _ _ _ _ _ _ h1
theorem dSizeD (w : World) (p : Value) (F : Nat → Prop) (D : Dv) (hD : IsDv w p F D) : Calls Try.prog 42 #[p] w (RetSame (.int .i64 D.C.length) w) := by
  obtain ⟨b, cb, kv, n, rfl, h1, _⟩ := hD
  exact dSize w b _ _ _ _ _ _ _ _ h1
end Go.Proofs.Ytlhnpicmjjddeaa
namespace Go.Proofs.Ytlhnpicmjjddeaa
open Go.RowKit

def pad96 (l : List UInt8) : List UInt8 := l.take 96 ++ List.replicate (96 - l.length) 0
theorem pad96_length (l : List UInt8) : (pad96 l).length = 96 := by unfold pad96; simp; omega
/-- the first k rows as sectors -/
def cellsTo (ls : List (List UInt8)) (k : Nat) : List (List UInt8) := (ls.take k).map pad96
def cellsOf (ls : List (List UInt8)) : List (List UInt8) := cellsTo ls 40
theorem cellsTo_zero (ls : List (List UInt8)) : cellsTo ls 0 = [] := rfl
theorem cellsTo_succ (ls : List (List UInt8)) (k : Nat) (hk : k < ls.length) : cellsTo ls (k + 1) = cellsTo ls k ++ [pad96 ls[k]] := by
  unfold cellsTo; rw [List.take_succ_eq_append_getElem hk, List.map_append]; rfl
theorem cellsTo_length (ls : List (List UInt8)) (k : Nat) (hk : k ≤ ls.length) : (cellsTo ls k).length = k := by unfold cellsTo; simp; omega
theorem cellsOf_length (ls : List (List UInt8)) : (cellsOf ls).length = min 40 ls.length := by unfold cellsOf cellsTo; simp
theorem cellsOf_96 (ls : List (List UInt8)) : ∀ c ∈ cellsOf ls, c.length = 96 := by
  intro c hc
  obtain ⟨l, _, rfl⟩ := List.mem_map.1 hc
  exact pad96_length l
theorem cellsOf_eq (ls : List (List UInt8)) (k : Nat) (h : k ≤ ls.length) (hk : k ≤ 40) (hk2 : ¬ (k < ls.length ∧ k < 40)) : cellsOf ls = cellsTo ls k := by
  unfold cellsOf cellsTo
  congr 1
  by_cases h2 : k = 40
  · rw [h2]
  · rw [List.take_of_length_le (by omega), List.take_of_length_le (by omega)]
theorem splice_pad (r : List UInt8) : splice ((List.replicate 96 (0 : UInt8)).map u8) 0 ((r.take 96).map u8) = (pad96 r).map u8 := by
  unfold splice pad96
  simp only [List.take_zero, List.nil_append, Nat.zero_add, List.length_map, List.map_append, List.map_replicate, List.drop_replicate, List.length_take]
  rw [show 96 - min 96 r.length = 96 - r.length from by omega]
def RetRows (ls : List (List UInt8)) (w : World) (en : Ending) (w' : World) : Prop := ∃ v, en = .returned v ∧ OwnR w' w.heap.size v ls ∧ Same w w'

/-- one more row in a row of rows: what an append takes -/
theorem one_row {w : World} {base : Nat} {u : Value} {l : List UInt8} (h : Bytes w 5 u l) (hf : ∀ g, homeOf u = some g → base ≤ g) :
    Sl (w.alloc (.cells #[u] 23)) 23 1 (.slice (some ⟨w.heap.size, 0, none⟩) 1 1) 1 [u] ∧
    ∀ i (hi : i < [l].length) x, [u][i]? = some x → Bytes (w.alloc (.cells #[u] 23)) 5 x [l][i] ∧ ∀ g, homeOf x = some g → base ≤ g := by
  refine ⟨Sl.made 23 1 w.heap.size 1 1 _ _ (heap_alloc_new w _) (Nat.le_refl _) (by decide) rfl ⟨[], rfl⟩, ?_⟩
  intro i hi x hx
  match i, hi with
  | 0, _ =>
    simp at hx
    subst hx
    exact ⟨h.same ((Same.refl w).alloc _), hf⟩
theorem zeros_heap (w : World) (n : Nat) : (w.alloc (.cells (zeros n) 5)).heap[w.heap.size]? = some (.cells ((List.replicate n (0 : UInt8)).map u8).toArray 5 (0, 0)) := heap_alloc_new w _

set_option maxHeartbeats 1600000 in
set_option maxRecDepth 100000 in
theorem lCells (w : World) (e : TypeId) (v : Value) (ls : List (List UInt8)) (hR : Rows2 w e v ls) :
    Calls Try.prog 33 #[v] w (RetRows (cellsOf ls) w) := by
  obtain ⟨ao, cap, rfl, h1, h2⟩ := hR.form
  unfold maxLen at h2
  have hm := runMake96
  go_enter Try.func33, Try.ntmps33
  go_wp2_with fail
  go_loopw [3, 4] (fun out i wr => ∃ k : Nat, k ≤ ls.length ∧ k ≤ 40 ∧ i = .int .i64 k ∧ OwnR wr w.heap.size out (cellsTo ls k) ∧ Same w wr) (fun _ i _ => ls.length - (intOf i).toNat)
  case atStart => exact ⟨0, Nat.zero_le _, Nat.zero_le _, rfl, OwnR.nil _ _, Same.refl w⟩
  case round =>
    obtain ⟨k, hk, hk40, rfl, hO, S⟩ := hrel
    have HO := hid hO
    have HS := hid S
    by_cases hlt : k < ls.length ∧ k < 40
    · obtain ⟨hlt, h40⟩ := hlt
      obtain ⟨g, o, a, c, e', rfl, hcell, hby⟩ := (hR.same S).row k hlt
      have hgl := World.block_lt_of_cell? wr _ hcell
      have HB := hid (hby.same ((Same.refl wr).alloc (.cells (zeros 96) 5)))
      have HC := hid (cellsTo_succ ls k hlt)
      have HL := hid (cellsTo_length ls k hk)
      clear hby hO S
      go_wp2_with (first
        | (refine wpList_copy_keep rfl (.tmp 17) (.tmp 21) 23 rfl Try.underlying23 size5 HB.out (g := wr.heap.size) (off := 0) (dLen := 96) (dCap := 96) rfl rfl (zeros_heap wr 96) (by simp) ?_; intro w4 HG4 K4
           have S4 := hid (((Same.refl wr).alloc (.cells (zeros 96) 5)).keepOwn K4 (fun k e => by subst e; exact Nat.le_refl _))
           have O4 : Hid (OwnB w4 w.heap.size (.slice (some ⟨wr.heap.size, 0, none⟩) 96 96) (pad96 ls[k])) := OwnB.made _ _ 96 _ _ HG4.out HS.out.size (by decide) (pad96_length _) (splice_pad _)
           have HO4 := hid (HO.out.same S4.out)
           have S5 := hid ((HS.out.trans S4.out).alloc (.cells #[Value.slice (some ⟨wr.heap.size, 0, none⟩) 96 96] 23))
           clear HG4 K4)
        | (at_builtin; refine wpList_append_rows rfl (.tmp 23) (.tmp 25) 36 tyRows rfl (HO4.out.same ((Same.refl w4).alloc _)) (one_row O4.out.bytes O4.out.fresh).1 (one_row O4.out.bytes O4.out.fresh).2 rfl rfl (by rw [HL.out]; simp; omega) S5.out.size ?_; intro x1 w5 ho5 K6))
      go_roundw
      case rel => exact ⟨k + 1, by omega, by omega, by go_num, by rw [HC.out]; exact ho5, S5.out.keepOwn K6 fun j hj => (HO4.out.lt j hj).1⟩
      case measure => simp [intOf]; omega
    · have HE := hid (cellsOf_eq ls k hk hk40 hlt)
      by_cases hlt2 : k < ls.length
      · have h40 : ¬ k < 40 := fun x => hlt ⟨hlt2, x⟩
        clear hlt
        go_wp2_with fail
        go_ret
        exact ⟨_, rfl, by rw [HE.out]; exact HO.out, HS.out⟩
      · clear hlt
        go_wp2_with fail
        go_ret
        exact ⟨_, rfl, by rw [HE.out]; exact HO.out, HS.out⟩
end Go.Proofs.Ytlhnpicmjjddeaa
namespace Go.Proofs.Ytlhnpicmjjddeaa
open Go.RowKit

theorem and24 (c : Nat) (hc : c < 4294967296) : bits BinOp.and IntKind.u32 (c : Int) 16777215 = ((c % 16777216 : Nat) : Int) := by
  rw [show (16777215 : Int) = ((16777215 : Nat) : Int) from rfl, u32_and_nat c 16777215 hc (by omega), nat_mask24]
theorem xor16 (m x : Nat) (hm : m < 16777216) (hx : x < 256) : bits BinOp.xor IntKind.u32 (m : Int) ((x : Int) * 65536) = ((m ^^^ (x * 65536) : Nat) : Int) := by
  rw [show (x : Int) * 65536 = ((x * 65536 : Nat) : Int) from by omega, u32_xor_nat m (x * 65536) (by omega) (by omega)]
theorem xorPoly (s : Nat) (hs : s < 16777216) : bits BinOp.xor IntKind.u32 ((s : Int) * 2) 25578747 = ((2 * s ^^^ 25578747 : Nat) : Int) := by
  rw [show (s : Int) * 2 = ((2 * s : Nat) : Int) from by omega, show (25578747 : Int) = ((25578747 : Nat) : Int) from rfl, u32_xor_nat (2 * s) 25578747 (by omega) (by omega)]
theorem int_u32 {a b : Nat} (h : a = b) : Value.int .u32 (a : Int) = .int .u32 (b : Int) := by rw [h]
theorem ret_u32 {a b : Nat} (h : a = b) : Ending.returned (.int .u32 (a : Int)) = .returned (.int .u32 (b : Int)) := by rw [h]
theorem take_snoc {α : Type} (l : List α) (k : Nat) (h : k < l.length) : l.take (k + 1) = l.take k ++ [l[k]] := List.take_succ_eq_append_getElem h

set_option maxHeartbeats 800000 in
theorem crcMore (w : World) (e : TypeId) (v : Value) (l : List UInt8) (c : Nat) (hc : c < 4294967296) (hb : Bytes w e v l) :
    Calls Try.prog 23 #[.int .u32 c, v] w fun e w' => e = .returned (.int .u32 (CrcPure.more (c % 16777216) l : Nat)) ∧ w = w' := by
  obtain ⟨ao, cap, rfl, h1, h2⟩ := hb.form
  unfold maxLen at h2
  have hc' : c % 16777216 < 16777216 := Nat.mod_lt _ (by decide)
  have hand := and24 c hc
  generalize c % 16777216 = c0 at *
  have HA : Hid (bits BinOp.and IntKind.u32 (c : Int) 16777215 = (c0 : Int)) := hand
  clear hand
  go_enter Try.func23, Try.ntmps23
  go_wp2
  rw [HA.out]
  go_loop [0, 11] (fun a i => ∃ k : Nat, k ≤ l.length ∧ i = .int .i64 k ∧ a = .int .u32 (CrcPure.more c0 (l.take k) : Nat)) (fun _ i => l.length - (intOf i).toNat)
  case atStart => exact ⟨0, Nat.zero_le _, rfl, int_u32 (CrcPure.more_nil c0).symm⟩
  case round =>
    obtain ⟨k, hk, rfl, rfl⟩ := hrel
    by_cases hlt : k < l.length
    · obtain ⟨g, o, rfl, hcell⟩ := hb.cells (by omega)
      have hck := hcell k hlt
      have hx := CrcPure.u8_lt l[k]
      have hm := CrcPure.more_lt (l.take k) hc'
      have HS : Hid (CrcPure.more c0 (l.take (k + 1)) = CrcPure.byte (CrcPure.more c0 (l.take k)) l[k].toNat) := by
        show _ = _
        rw [take_snoc l k hlt, CrcPure.more_append, CrcPure.more_cons, CrcPure.more_nil]
      clear hcell
      generalize CrcPure.more c0 (l.take k) = m at *
      go_wp2
      rw [xor16 m _ hm hx]
      generalize l[k].toNat = x at *
      go_loop [0, 20] (fun a i => ∃ j : Nat, j ≤ 8 ∧ i = .int .i64 j ∧ a = .int .u32 (CrcPure.steps j (m ^^^ x * 65536) : Nat)) (fun _ i => 8 - (intOf i).toNat)
      case atStart => exact ⟨0, Nat.zero_le _, rfl, int_u32 (CrcPure.steps_zero' _).symm⟩
      case round =>
        obtain ⟨j, hj, rfl, rfl⟩ := hrel
        have hs := CrcPure.steps_lt j (CrcPure.xor_lt hm (CrcPure.lt16 hx))
        have HJ : Hid (CrcPure.steps (j + 1) (m ^^^ x * 65536) = CrcPure.step (CrcPure.steps j (m ^^^ x * 65536))) := CrcPure.steps_last _ _
        have HE : Hid (CrcPure.byte m x = CrcPure.steps 8 (m ^^^ x * 65536)) := by unfold CrcPure.byte; rfl
        by_cases h8 : j < 8
        · generalize CrcPure.steps j (m ^^^ x * 65536) = s at *
          by_cases ht : 16777215 < 2 * s
          · have ht' : (16777215 : Int) < (s : Int) * 2 := by omega
            go_wp2
            go_round
            case rel => exact ⟨j + 1, by omega, by go_num, by rw [xorPoly s hs, HJ.out]; exact int_u32 (by unfold CrcPure.step; rw [if_pos ht])⟩
            case measure => simp [intOf]; omega
          · have ht' : (s : Int) * 2 ≤ 16777215 := by omega
            go_wp2
            go_round
            case rel => exact ⟨j + 1, by omega, by go_num, by rw [HJ.out, show (s : Int) * 2 = ((2 * s : Nat) : Int) from by omega]; exact int_u32 (by unfold CrcPure.step; rw [if_neg ht])⟩
            case measure => simp [intOf]; omega
        · obtain rfl : j = 8 := by omega
          go_wp2
          go_round
          case rel => exact ⟨k + 1, by omega, by go_num, int_u32 (by rw [HS.out, HE.out])⟩
          case measure => simp [intOf]; omega
    · go_wp2
      go_ret
      exact ⟨ret_u32 (by rw [List.take_of_length_le (by omega)]), rfl⟩
theorem refStep (h x kk : Nat) (b : Bool) (hb : (((h : Int) / 8388608 % 2) != ((x : Int) / (kk : Int) % 2)) = b) :
    (CrcPure.odd23 h != (x / kk % 2 == 1)) = b := by
  subst hb
  unfold CrcPure.odd23
  have e1 : (h : Int) / 8388608 % 2 = ((h / 8388608 % 2 : Nat) : Int) := by omega
  have e2 : (x : Int) / (kk : Int) % 2 = ((x / kk % 2 : Nat) : Int) := by rw [← Int.natCast_ediv]; omega
  rw [e1, e2]
  have a1 : h / 8388608 % 2 = 0 ∨ h / 8388608 % 2 = 1 := by omega
  have a2 : x / kk % 2 = 0 ∨ x / kk % 2 = 1 := by omega
  rcases a1 with a1 | a1 <;> rcases a2 with a2 | a2 <;> rw [a1, a2] <;> rfl
theorem refXor (s : Nat) : bits BinOp.xor IntKind.u32 ((s : Int) * 2 % 16777216) 8801531 = ((s * 2 % 16777216 ^^^ 8801531 : Nat) : Int) := by
  rw [show (s : Int) * 2 % 16777216 = ((s * 2 % 16777216 : Nat) : Int) from by omega, show (8801531 : Int) = ((8801531 : Nat) : Int) from rfl, u32_xor_nat (s * 2 % 16777216) 8801531 (by omega) (by omega)]
theorem halve (j : Nat) : 128 / 2 ^ j / 2 = 128 / 2 ^ (j + 1) := by rw [Nat.div_div_eq_div_mul, Nat.pow_succ]
theorem pow_pos8 (j : Nat) (h : j < 8) : 1 ≤ 128 / 2 ^ j ∧ 128 / 2 ^ j ≤ 128 := by
  have : j = 0 ∨ j = 1 ∨ j = 2 ∨ j = 3 ∨ j = 4 ∨ j = 5 ∨ j = 6 ∨ j = 7 := by omega
  rcases this with rfl | rfl | rfl | rfl | rfl | rfl | rfl | rfl <;> decide

set_option maxHeartbeats 800000 in
theorem refMore (w : World) (e : TypeId) (v : Value) (l : List UInt8) (c : Nat) (hc : c < 4294967296) (hb : Bytes w e v l) :
    Calls Try.prog 24 #[.int .u32 c, v] w fun e w' => e = .returned (.int .u32 (CrcPure.more (c % 16777216) l : Nat)) ∧ w = w' := by
  obtain ⟨ao, cap, rfl, h1, h2⟩ := hb.form
  unfold maxLen at h2
  have hc' : c % 16777216 < 16777216 := Nat.mod_lt _ (by decide)
  have hand : (c : Int) % 16777216 = ((c % 16777216 : Nat) : Int) := by omega
  generalize c % 16777216 = c0 at *
  have HA : Hid ((c : Int) % 16777216 = (c0 : Int)) := hand
  clear hand
  go_enter Try.func24, Try.ntmps24
  go_wp2
  rw [HA.out]
  go_loop [0, 5] (fun a i => ∃ k : Nat, k ≤ l.length ∧ i = .int .i64 k ∧ a = .int .u32 (CrcPure.more c0 (l.take k) : Nat)) (fun _ i => l.length - (intOf i).toNat)
  case atStart => exact ⟨0, Nat.zero_le _, rfl, int_u32 (CrcPure.more_nil c0).symm⟩
  case round =>
    obtain ⟨k, hk, rfl, rfl⟩ := hrel
    by_cases hlt : k < l.length
    · obtain ⟨g, o, rfl, hcell⟩ := hb.cells (by omega)
      have hck := hcell k hlt
      have hx := CrcPure.u8_lt l[k]
      have hm := CrcPure.more_lt (l.take k) hc'
      have HS : Hid (CrcPure.more c0 (l.take (k + 1)) = CrcPure.byte (CrcPure.more c0 (l.take k)) l[k].toNat) := by
        show _ = _
        rw [take_snoc l k hlt, CrcPure.more_append, CrcPure.more_cons, CrcPure.more_nil]
      clear hcell
      generalize CrcPure.more c0 (l.take k) = m at *
      generalize l[k].toNat = x at *
      go_wp2
      go_loop [0, 6] (fun a i => ∃ j : Nat, j ≤ 8 ∧ i = .int .i64 (128 / 2 ^ j : Nat) ∧ a = .int .u32 (CrcPure.held m x j : Nat)) (fun _ i => (intOf i).toNat)
      case atStart => exact ⟨0, Nat.zero_le _, rfl, int_u32 (CrcPure.held_zero m x hx).symm⟩
      case round =>
        obtain ⟨j, hj, rfl, rfl⟩ := hrel
        have hs := CrcPure.held_lt (j := j) hm hx
        by_cases h8 : j < 8
        · have HJ : Hid (CrcPure.held m x (j + 1) = _) := CrcPure.held_succ hm hx h8
          have hp := pow_pos8 j h8
          have HV : Hid (128 / 2 ^ j / 2 = 128 / 2 ^ (j + 1)) := halve j
          generalize CrcPure.held m x j = s at *
          generalize 128 / 2 ^ j = kk at *
          have d1 : 0 ≤ (x : Int) / (kk : Int) := Int.ediv_nonneg (by omega) (by omega)
          have d2 : (x : Int) / (kk : Int) ≤ (x : Int) := Int.ediv_le_self _ (by omega)
          obtain ⟨b, hb'⟩ : ∃ b, (((s : Int) / 8388608 % 2) != ((x : Int) / (kk : Int) % 2)) = b := ⟨_, rfl⟩
          have HB := refStep s x kk b hb'
          have HB' : Hid ((CrcPure.odd23 s != (x / kk % 2 == 1)) = b) := HB
          clear HB
          cases b
          all_goals
            go_wp2
            go_round
            case rel => exact ⟨j + 1, by omega, by rw [← HV.out]; go_num, by first | (rw [refXor, HJ.out, HB'.out]; rfl) | (rw [HJ.out, HB'.out, if_neg (by decide), Nat.xor_zero]; go_num)⟩
            case measure => simp [intOf]; omega
        · obtain rfl : j = 8 := by omega
          go_wp2
          go_round
          case rel => exact ⟨k + 1, by omega, by go_num, int_u32 (by rw [HS.out, CrcPure.held_eight])⟩
          case measure => simp [intOf]; omega
    · go_wp2
      go_ret
      exact ⟨ret_u32 (by rw [List.take_of_length_le (by omega)]), rfl⟩
theorem crcOf (w : World) (e : TypeId) (v : Value) (l : List UInt8) (hb : Bytes w e v l) :
    Calls Try.prog 25 #[v] w fun e w' => e = .returned (.int .u32 (CrcPure.more CrcPure.init l : Nat)) ∧ w = w' := by
  have h := crcMore w e v l 11994318 (by omega) hb
  rw [show 11994318 % 16777216 = CrcPure.init from rfl] at h
  have H := hid h; clear h
  go_enter Try.func25, Try.ntmps25
  go_wp2_with fail
  refine H.out.mono ?_
  rintro e w' ⟨rfl, rfl⟩
  go_wp2_with fail
  go_ret
  exact ⟨rfl, rfl⟩

def nine : List UInt8 := [49, 50, 51, 52, 53, 54, 55, 56, 57]
theorem of_nine : CrcPure.more CrcPure.init nine = 2215682 := by decide +kernel
theorem of_none : CrcPure.more CrcPure.init [] = 11994318 := by decide +kernel
set_option maxRecDepth 100000 in
theorem crcLives (w : World) : Calls Try.prog 26 #[] w (RetSame (.bool true) w) := by
  have hb : ∀ w0 : World, Bytes (w0.alloc (.cells #[.int .u8 49, .int .u8 50, .int .u8 51, .int .u8 52, .int .u8 53, .int .u8 54, .int .u8 55, .int .u8 56, .int .u8 57] 5 (9, 9 + 1))) 5 (.slice (some ⟨w0.heap.size, 0, none⟩) 9 9) nine :=
    fun w0 => Bytes.made 5 w0.heap.size 9 9 _ nine (heap_alloc_new _ _) (Nat.le_refl _) (by decide) rfl ⟨[], rfl⟩
  have h1 := fun w0 => crcOf _ _ _ _ (hb w0)
  have h2 := fun w0 => crcOf w0 5 _ _ (Bytes.nil w0 5)
  rw [of_nine] at h1
  rw [of_none] at h2
  have H1 := hid h1; clear h1
  have H2 := hid h2; clear h2 hb
  have kc := fun (w : World) (C : Array Value) (n c : Nat) => Lib.run_convert_bytes_const (P := Try.prog) w 23 5 C n c Try.underlying23 Try.underlying5
  go_enter Try.func26, Try.ntmps26
  go_wp2_with fail
  refine (H1.out _).mono ?_
  rintro e w' ⟨rfl, rfl⟩
  go_wp2_with fail
  refine (H2.out _).mono ?_
  rintro e w' ⟨rfl, rfl⟩
  go_wp2_with fail
  go_ret
  exact ⟨rfl, (Same.refl w).alloc _⟩
end Go.Proofs.Ytlhnpicmjjddeaa
namespace Go.Proofs.Ytlhnpicmjjddeaa
open Go.RowKit

theorem cells3 (m : Nat) (hm : m < 16777216) : [Value.int IntKind.u8 ((m : Int) / 65536), Value.int IntKind.u8 ((m : Int) / 256 % 256), Value.int IntKind.u8 ((m : Int) % 256)] = (CrcPure.bytes3 m).map u8 := by
  unfold CrcPure.bytes3 u8
  simp only [List.map_cons, List.map_nil, CrcPure.toUInt8_nat]
  rw [show ((m : Int) / 65536) = ((m / 65536 % 256 : Nat) : Int) from by omega, show ((m : Int) / 256 % 256) = ((m / 256 % 256 : Nat) : Int) from by omega, show ((m : Int) % 256) = ((m % 256 : Nat) : Int) from by omega]
theorem bytes3_made (w : World) (m : Nat) (hm : m < 16777216) :
    Bytes (w.alloc (.cells #[.int .u8 ((m : Int) / 65536), .int .u8 ((m : Int) / 256 % 256), .int .u8 ((m : Int) % 256)] 5)) 5 (.slice (some ⟨w.heap.size, 0, none⟩) 3 3) (CrcPure.bytes3 m) :=
  Bytes.made 5 w.heap.size 3 3 _ _ (heap_alloc_new w _) (Nat.le_refl _) (by decide) rfl (by rw [← cells3 m hm]; exact ⟨[], rfl⟩)
/-- two rows of bytes in a row of slices that was just laid -/
theorem Rows2.two (w : World) (e1 e2 : TypeId) (v1 v2 : Value) (l1 l2 : List UInt8) (h1 : Bytes w e1 v1 l1) (h2 : Bytes w e2 v2 l2) :
    Rows2 (w.alloc (.cells #[v1, v2] 23)) 23 (.slice (some ⟨w.heap.size, 0, none⟩) 2 2) [l1, l2] := by
  have S := (Same.refl w).alloc (.cells #[v1, v2] 23)
  refine ⟨[v1, v2], rfl, Sl.made 23 1 w.heap.size 2 2 _ _ (heap_alloc_new w _) (Nat.le_refl _) (by decide) rfl ⟨[], rfl⟩, ?_⟩
  intro i hi u hu
  match i, hi with
  | 0, _ => simp at hu; subst hu; exact ⟨e1, h1.same S⟩
  | 1, _ => simp at hu; subst hu; exact ⟨e2, h2.same S⟩

theorem RetOwn.weak {l : List UInt8} {w0 w : World} (h : Same w0 w) {en : Ending} {w' : World} (hr : RetOwn l w en w') : RetOwn l w0 en w' :=
  let ⟨v, a, b, c⟩ := hr; ⟨v, a, b.mono h.size, h.trans c⟩

set_option maxHeartbeats 800000 in
set_option maxRecDepth 100000 in
theorem crcSeal (w : World) (e : TypeId) (v : Value) (l : List UInt8) (hb : Bytes w e v l) (hl : l.length ≤ 900000) :
    Calls Try.prog 27 #[v] w (RetOwn (CrcPure.sealed l) w) := by
  have hm := CrcPure.more_lt l CrcPure.init_lt
  have h3 := bytes3_made w _ hm
  have S1 := (Same.refl w).alloc (.cells #[.int .u8 ((CrcPure.more CrcPure.init l : Int) / 65536), .int .u8 ((CrcPure.more CrcPure.init l : Int) / 256 % 256), .int .u8 ((CrcPure.more CrcPure.init l : Int) % 256)] 5)
  have hr := Rows2.two _ e 5 v _ l _ (hb.same S1) h3
  have S2 := S1.alloc (.cells #[v, .slice (some ⟨w.heap.size, 0, none⟩) 3 3] 23)
  have hc := concatBytes _ 23 _ [l, CrcPure.bytes3 (CrcPure.more CrcPure.init l)] hr (by simp [CrcPure.bytes3]; omega)
  rw [show [l, CrcPure.bytes3 (CrcPure.more CrcPure.init l)].flatten = CrcPure.sealed l from by simp [CrcPure.sealed]] at hc
  obtain ⟨ao, cap, rfl, _, _⟩ := hb.form
  have HC := hid hc
  clear hc hr h3
  go_enter Try.func27, Try.ntmps27
  go_wp2_with fail
  refine (crcOf w e _ l hb).mono ?_
  rintro en w' ⟨rfl, rfl⟩
  go_wp2_with fail
  simp only [World.size_alloc] at HC
  refine HC.out.mono ?_
  rintro en w' ⟨v', rfl, ho, hs⟩
  go_wp2_with fail
  go_ret
  exact ⟨_, rfl, ho.mono (by simp; omega), S2.trans hs⟩

set_option maxHeartbeats 800000 in
set_option maxRecDepth 100000 in
theorem refSeal (w : World) (e : TypeId) (v : Value) (l : List UInt8) (hb : Bytes w e v l) (hl : l.length ≤ 900000) :
    Calls Try.prog 30 #[v] w (RetOwn (CrcPure.sealed l) w) := by
  have hm := CrcPure.more_lt l CrcPure.init_lt
  have S0 := Same.refl w
  have HB := fun w0 : World => hid (bytes3_made w0 _ hm)
  have HL := hid hl; clear hl
  have HM : Hid (CrcPure.sealed l = l ++ CrcPure.bytes3 (CrcPure.more CrcPure.init l)) := rfl
  go_enter Try.func30, Try.ntmps30
  go_wp2_with fail
  refine (refMore w e v l 11994318 (by omega) hb).mono ?_
  rintro en w' ⟨rfl, rfl⟩
  rw [show 11994318 % 16777216 = CrcPure.init from rfl]
  go_wp2_with (first
    | (at_builtin; refine wpList_append_bytes rfl (.tmp 7) (.tmp 8) 23 tyBytes rfl (OwnB.nil w w.heap.size) hb rfl rfl (by have := HL.out; simp; omega) (Nat.le_refl _) ?_; intro x1 w1 ho1 hg1; simp only [List.nil_append] at ho1; have S1 := S0.grown_nil hg1)
    | (at_builtin; refine wpList_append_bytes rfl (.tmp 10) (.tmp 21) 23 tyBytes rfl (ho1.alloc _) (HB w1).out rfl rfl (by have := HL.out; simp [CrcPure.bytes3]; omega) (by have := S1.size; simp; omega) ?_; intro x2 w2 ho2 hg2; have S2 := (S1.alloc _).grown_own (ho1.alloc _) (Nat.le_refl _) hg2))
  go_ret
  exact ⟨_, rfl, by rw [HM.out]; exact ho2, S2⟩
def openIn (l : List UInt8) : List UInt8 := l.take (l.length - 3)
def openOk (l : List UInt8) : Bool := decide (CrcPure.sealed (openIn l) = l)
theorem openOk_short (l : List UInt8) (h : l.length < 3) : openOk l = false := by
  apply decide_eq_false
  intro e
  have := congrArg List.length e
  rw [CrcPure.sealed_length] at this
  omega
/-- a call hands back a new row of bytes, and a Bool -/
def RetOpen (l : List UInt8) (b : Bool) (w : World) (en : Ending) (w' : World) : Prop := ∃ v, en = .returned (.tuple #[v, .bool b]) ∧ OwnB w' w.heap.size v l ∧ Same w w'

set_option maxHeartbeats 800000 in
set_option maxRecDepth 100000 in
theorem crcOpen (w : World) (e : TypeId) (v : Value) (l : List UInt8) (hb : Bytes w e v l) (hl : l.length ≤ 900000) :
    Calls Try.prog 28 #[v] w (RetOpen (openIn l) (openOk l) w) := by
  obtain ⟨ao, cap, rfl, h1, h2⟩ := hb.form
  unfold maxLen at h2
  by_cases h3 : l.length < 3
  · have e1 : openIn l = [] := by unfold openIn; rw [show l.length - 3 = 0 from by omega]; rfl
    rw [openOk_short l h3, e1]
    clear e1
    go_enter Try.func28, Try.ntmps28
    go_wp2_with fail
    go_ret2
    exact ⟨_, rfl, OwnB.nil _ _, Same.refl _⟩
  · have hin := hb.head (l.length - 3) (by omega)
    have HI := hid hin
    have HL := hid hl
    have hle : (openIn l).length ≤ 900000 := by unfold openIn; rw [List.length_take]; omega
    have HL2 := hid hle
    have HE : Hid ((openIn l).length ≤ 1000000) := by show _ ≤ _; omega
    clear hin hl hle
    go_enter Try.func28, Try.ntmps28
    go_wp2_with fail
    refine (cloneBytes _ e _ (openIn l) HI.out HE).mono ?_
    rintro en w1 ⟨v1, rfl, ho1, S1⟩
    go_wp2_with fail
    refine (crcSeal _ 5 _ (openIn l) ho1.bytes HL2.out).mono ?_
    rintro en w2 ⟨v2, rfl, ho2, S2⟩
    have S3 := S1.trans S2
    go_wp2_with fail
    refine (equalBytes _ 5 e _ _ _ _ ho2.bytes (hb.same S3)).mono ?_
    rintro en w3 ⟨rfl, rfl⟩
    go_wp2_with fail
    go_ret2
    exact ⟨_, rfl, ho1.keep S2 (fun _ _ x => x), S3⟩
end Go.Proofs.Ytlhnpicmjjddeaa
namespace Go.Proofs.Ytlhnpicmjjddeaa
open Go.RowKit

theorem Ints.head {w : World} {e : TypeId} {ao : Option Addr} {cap : Nat} {l : List Int} (h : Ints w e (.slice ao l.length cap) l) (m : Nat) (hm : m ≤ l.length) :
    Ints w e (.slice ao m cap) (l.take m) := by
  have := Sl.head h m hm
  have e1 : (l.take m).length = m := by rw [List.length_take]; omega
  unfold Ints
  rw [e1, List.map_take, show m = m * 1 from by omega]
  simpa using this
def RetI (l : List Int) (e : TypeId) (w : World) (en : Ending) (w' : World) : Prop := ∃ v, en = .returned v ∧ Ints w e v l ∧ w = w'
theorem lKeep (w : World) (e : TypeId) (v : Value) (l : List Int) (h : Ints w e v l) : Calls Try.prog 36 #[v] w (RetI (l.take 40) e w) := by
  obtain ⟨ao, cap, rfl, h1, h2⟩ := h.form
  unfold maxLen at h2
  by_cases hl : 40 < l.length
  · have H := hid (h.head 40 (by omega))
    go_enter Try.func36, Try.ntmps36
    go_wp2_with fail
    go_ret
    exact ⟨_, rfl, H.out, rfl⟩
  · have H := hid h
    have ht : Hid (l.take 40 = l) := List.take_of_length_le (by omega)
    go_enter Try.func36, Try.ntmps36
    go_wp2_with fail
    go_ret
    exact ⟨_, rfl, by rw [ht.out]; exact H.out, rfl⟩
def nought : List UInt8 := List.replicate 96 0
theorem nought_length : nought.length = 96 := by unfold nought; simp
theorem lWas (w : World) : Calls Try.prog 40 #[] w (RetOwn nought w) := by
  have hm := runMake96
  have H := hid (OwnB.zeros w 96 (by omega))
  go_enter Try.func40, Try.ntmps40
  go_wp2_with fail
  go_ret
  exact ⟨_, rfl, H.out, (Same.refl w).alloc _⟩

theorem b1_made (w : World) (n : Nat) (hn : n < 256) : Bytes (w.alloc (.cells #[.int .u8 (n : Int)] 5)) 5 (.slice (some ⟨w.heap.size, 0, none⟩) 1 1) [n.toUInt8] :=
  Bytes.made 5 w.heap.size 1 1 _ _ (heap_alloc_new w _) (Nat.le_refl _) (by decide) rfl (by
    have : (n : Int) % 256 = n := by omega
    simp [u8, this])
def lives6 : Int × Dv := (Dv.new 5).write 3 (cellsOf [[1], [2]])
theorem lives6_eq : lives6 = (0, ⟨[List.replicate 96 0, List.replicate 96 0, List.replicate 96 0, pad96 [1], pad96 [2]], false, false, 0, []⟩) := by kernel_rfl
set_option maxHeartbeats 800000 in
set_option maxRecDepth 100000 in
theorem lLives (w : World) : Calls Try.prog 38 #[] w (RetSame (.bool true) w) := by
  have HC := hid lCells
  have HL : Hid ((Dv.new 5).write 3 (cellsOf [[1], [2]]) = (0, ⟨[List.replicate 96 0, List.replicate 96 0, List.replicate 96 0, pad96 [1], pad96 [2]], false, false, 0, []⟩)) := lives6_eq
  go_enter Try.func38, Try.ntmps38
  go_wp2_with fail
  refine (dNewD w 5 (by omega) (by omega)).mono ?_
  rintro en w1 ⟨p, F, rfl, S1, D1, B1⟩
  have hR := Rows2.two ((w1.alloc (.cells #[.int .u8 1] 5)).alloc (.cells #[.int .u8 2] 5)) 5 5 _ _ [1] [2] ((b1_made w1 1 (by omega)).same ((Same.refl _).alloc _)) (b1_made (w1.alloc (.cells #[.int .u8 1] 5)) 2 (by omega))
  simp only [World.size_alloc] at hR
  have HR := hid hR
  have S2 := ((Same.refl w1).alloc (.cells #[.int .u8 1] 5)).alloc (.cells #[.int .u8 2] 5)
  have D1 := hid D1
  have B1 := hid B1
  clear hR
  obtain ⟨b, hp⟩ : ∃ b, p = .pointer (some ⟨b, 0, none⟩) := by obtain ⟨b, _, _, _, e, _⟩ := D1.out; exact ⟨b, e⟩
  subst hp
  go_wp2_with fail
  refine (HC.out _ _ _ _ HR.out).mono ?_
  rintro en w2 ⟨v2, rfl, hO, S3⟩
  have S3' := (S2.alloc _).trans S3
  have hN := hO.rows2N (M := F) (fun k hk => by have := (B1.out k hk).2; simp; omega)
  have hN := hid hN
  have D2 := hid (D1.out.same S3')
  obtain ⟨a2, c2, rfl, f1, f2⟩ := hO.rows.form
  clear hO
  go_wp2_with fail
  refine (dWrite _ _ _ _ 3 _ _ _ D2.out hN.out).mono ?_
  rintro en w3 ⟨rfl, K3, D3⟩
  rw [HL.out] at D3 ⊢
  have D3 := hid D3
  go_wp2_with fail
  refine (dReadD _ _ _ _ 4 D3.out).mono ?_
  rintro en w4 ⟨v4, e4, rfl, h4, S4, _⟩
  have e1 : Dv.sector ⟨[List.replicate 96 0, List.replicate 96 0, List.replicate 96 0, pad96 [1], pad96 [2]], false, false, 0, []⟩ 4 = pad96 [2] := rfl
  have e2 : Dv.readE ⟨[List.replicate 96 0, List.replicate 96 0, List.replicate 96 0, pad96 [1], pad96 [2]], false, false, 0, []⟩ 4 = 0 := rfl
  rw [e1] at h4
  rw [e2]
  have hp : (pad96 [2]).length = 96 := pad96_length _
  obtain ⟨a4, c4, rfl, f3, f4⟩ := h4.form
  obtain ⟨g4, o4, rfl, hc4⟩ := h4.cells (by omega)
  have k4 := hc4 0 (by omega)
  have e3 : ((pad96 [2])[0]'(by omega)).toNat = 2 := rfl
  rw [e3, Nat.add_zero] at k4
  rw [hp] at *
  have D4 := hid (D3.out.same S4)
  have HLv := hid (dLiveD _ _ _ _ D4.out)
  clear hc4 h4 e1 e2 e3 hp
  have HS := hid (((S1.trans S3').keepOwn K3 (fun k hk => (B1.out k hk).1)).trans S4)
  clear S1 S2 S3 S3' S4 K3
  go_wp2_with fail
  refine HLv.out.mono ?_
  rintro en w5 ⟨rfl, S5⟩
  go_wp2_with fail
  go_ret
  exact ⟨rfl, HS.out.trans S5⟩
end Go.Proofs.Ytlhnpicmjjddeaa
namespace Go.Proofs.Ytlhnpicmjjddeaa
open Go.RowKit

theorem be_take (s n k : Nat) (hk : k < s) : (be s n).take (k + 1) = (be s n).take k ++ [(n / 256 ^ (s - 1 - k)).toUInt8] := by
  induction s generalizing k with
  | zero => omega
  | succ s ih =>
    cases k with
    | zero => simp [be]
    | succ k =>
      simp only [be, List.take_succ_cons, List.cons_append]
      rw [ih k (by omega), show s + 1 - 1 - (k + 1) = s - 1 - k from by omega]
theorem byte_made (w : World) (n : Int) (x : UInt8) (h : n = x.toNat) : Bytes (w.alloc (.cells #[.int .u8 n] 5)) 5 (.slice (some ⟨w.heap.size, 0, none⟩) 1 1) [x] :=
  Bytes.made 5 w.heap.size 1 1 _ _ (heap_alloc_new w _) (Nat.le_refl _) (by decide) rfl (by simp [u8, h])
theorem byte_at (n j : Nat) : (n : Int) / 2 ^ (8 * j) % 256 = ((n / 256 ^ j).toUInt8.toNat : Int) := by
  rw [show (256 : Nat) ^ j = 2 ^ (8 * j) from by rw [Nat.pow_mul]]
  have : (n / 2 ^ (8 * j)).toUInt8.toNat = n / 2 ^ (8 * j) % 256 := by simp
  rw [this]
  simp
def RetPut (l : List UInt8) (base : Nat) (w : World) (en : Ending) (w' : World) : Prop := ∃ v, en = .returned v ∧ OwnB w' base v l ∧ Keep (fun k => base ≤ k) w w'

set_option maxHeartbeats 1600000 in
set_option maxRecDepth 100000 in
theorem fPut (w : World) (base : Nat) (v : Value) (l : List UInt8) (n s : Nat) (hs : s ≤ 4) (hn : n < 4294967296) (hO : OwnB w base v l) (hl : l.length ≤ 1000000) (hb : base ≤ w.heap.size) :
    Calls Try.prog 95 #[v, .int .i64 n, .int .i64 s] w (RetPut (l ++ be s n) base w) := by
  obtain ⟨ao, cap, rfl, h1, h2⟩ := hO.bytes.form
  have HO := hid hO
  have HL := hid hl
  clear hl hO
  go_enter Try.func95, Try.ntmps95
  go_wp2_with fail
  go_loopw [0, 7] (fun b i wr => ∃ k : Nat, k ≤ s ∧ i = .int .i64 ((s : Int) - 1 - k) ∧ OwnB wr base b (l ++ (be s n).take k) ∧ Keep (fun g => base ≤ g) w wr) (fun _ i _ => (intOf i + 1).toNat)
  case atStart => exact ⟨0, Nat.zero_le _, by simp, by simpa using HO.out, Keep.refl _ _⟩
  case round =>
    obtain ⟨k, hk, rfl, ho, K⟩ := hrel
    have HOk := hid ho
    have K := hid K
    by_cases hlt : k < s
    · obtain ⟨j, hj⟩ : ∃ j, s = k + j + 1 := ⟨s - k - 1, by omega⟩
      have ej : (s : Int) - 1 - (k : Int) = (j : Int) := by omega
      have hj3 : j ≤ 3 := by omega
      have HJ := hid (show s - 1 - k = j by omega)
      have HT := hid (be_take s n k hlt)
      rw [HJ.out] at HT
      have hlen : Hid (((be s n).take k).length ≤ 4) := by show _ ≤ _; rw [List.length_take, be_length]; omega
      have HB := hid (fun wz => byte_made wz _ _ (byte_at n j))
      have HO2 := hid (HOk.out.alloc (.cells #[.int .u8 ((n : Int) / 2 ^ (8 * j) % 256)] 5))
      have K2 := hid (K.out.alloc (.cells #[.int .u8 ((n : Int) / 2 ^ (8 * j) % 256)] 5))
      have HS := hid (Nat.le_trans hb K2.out.size)
      rw [ej]
      clear ej hj ho K
      generalize (be s n).take k = pre at *
      go_wp2_with (at_builtin; refine wpList_append_bytes rfl (.tmp 14) (.tmp 20) 23 tyBytes rfl HO2.out (HB.out wr) rfl rfl (by have := HL.out; have := hlen.out; rw [List.length_append]; simp; omega) HS.out ?_; intro x1 w1 ho1 hg1)
      go_roundw
      case rel => exact ⟨k + 1, by omega, by congr 1; have := HJ.out; omega, by rw [HT.out, ← List.append_assoc]; exact ho1, K2.out.grown hg1 fun g e => .inl ((HO2.out.lt g e).1)⟩
      case measure => simp [intOf]
    · obtain rfl : k = s := by omega
      have HT : Hid ((be k n).take k = be k n) := List.take_of_length_le (by rw [be_length]; omega)
      have ej : (k : Int) - 1 - (k : Int) = -1 := by omega
      rw [ej]
      clear ej
      go_wp2_with fail
      go_ret
      exact ⟨_, rfl, by rw [← HT.out]; exact HOk.out, K.out⟩

/-! ### get -/
theorem or_byte (m c : Nat) (hc : c < 256) : m * 256 ||| c = m * 256 + c := by
  rw [show m * 256 = m <<< 8 from by rw [Nat.shiftLeft_eq], Nat.shiftLeft_add_eq_or_of_lt (by omega)]
theorem or_i64 (m x : Nat) (hm : m < 16777216) (hx : x < 256) : bits BinOp.or IntKind.i64 ((m : Int) * 256) (x : Int) = ((m * 256 + x : Nat) : Int) := by
  rw [← or_byte m x hx]
  have h1 : m * 256 ||| x < 2 ^ 32 := Nat.or_lt_two_pow (by omega) (by omega)
  rw [show (m : Int) * 256 = ((m * 256 : Nat) : Int) from by omega]
  show IntKind.i64.wrap ((BitVec.ofInt 64 ((m * 256 : Nat) : Int) ||| BitVec.ofInt 64 (x : Int)).toNat : Int) = _
  rw [BitVec.toNat_or, ofInt_u64 _ (by omega), ofInt_u64 _ (by omega), IntKind.wrap_i64]
  omega
set_option maxHeartbeats 1600000 in
set_option maxRecDepth 100000 in
theorem fGet (w : World) (e : TypeId) (v : Value) (l : List UInt8) (hb : Bytes w e v l) (hl : l.length ≤ 4) :
    Calls Try.prog 98 #[v] w fun en w' => en = .returned (.int .i64 (val l)) ∧ w = w' := by
  obtain ⟨ao, cap, rfl, h1, h2⟩ := hb.form
  have HL := hid hl
  have hl' : l.length ≤ 9223372036854775807 := by omega
  clear hl
  go_enter Try.func98, Try.ntmps98
  go_wp2_with fail
  go_loop [3, 8] (fun n i => ∃ k : Nat, k ≤ l.length ∧ i = .int .i64 k ∧ n = .int .i64 (val (l.take k))) (fun _ i => l.length - (intOf i).toNat)
  case atStart => exact ⟨0, Nat.zero_le _, rfl, rfl⟩
  case round =>
    obtain ⟨k, hk, rfl, rfl⟩ := hrel
    by_cases hlt : k < l.length
    · obtain ⟨g, o, rfl, hc⟩ := hb.cells (by omega)
      have c1 := hc k hlt
      have hs := val_snoc (l.take k) l[k]
      rw [← List.take_succ_eq_append_getElem hlt] at hs
      have HS := hid hs
      have hv : val (l.take k) < 16777216 := by
        have := val_lt (l.take k)
        have h2 : (l.take k).length ≤ 3 := by rw [List.length_take]; have := HL.out; omega
        have h3 : 256 ^ (l.take k).length ≤ 256 ^ 3 := Nat.pow_le_pow_right (by omega) h2
        omega
      have hx : l[k].toNat < 256 := l[k].toNat_lt
      clear hc hs
      generalize val (l.take k) = m at *
      generalize l[k].toNat = x at *
      go_wp2_with fail
      go_round
      case rel => exact ⟨k + 1, by omega, by go_num, by rw [HS.out, or_i64 m x hv hx]⟩
      case measure => simp [intOf]; omega
    · obtain rfl : k = l.length := by omega
      have HT : Hid (l.take l.length = l) := List.take_length
      go_wp2_with fail
      go_ret
      exact ⟨rfl, rfl⟩

/-! ### right -/
/-- a frame by value -/
def Fr.agg (f : Fr) (v : Value) : Value := .agg #[.int .i64 f.life, .int .i64 f.era, .int .i64 f.seq, .int .i64 f.part, .int .i64 f.parts, v]
/-- x is the frame f by value -/
def FrV (w : World) (x : Value) (f : Fr) : Prop := ∃ v e, x = f.agg v ∧ Bytes w e v f.data
theorem FrV.same {w w' : World} {x : Value} {f : Fr} (h : FrV w x f) (S : Same w w') : FrV w' x f := let ⟨v, e, h1, h2⟩ := h; ⟨v, e, h1, h2.same S⟩
theorem Fr.right_false1 {f : Fr} (h : stampOk f.life f.era f.seq = false) : f.right = false := by unfold Fr.right; rw [h]; rfl
theorem Fr.right_false2 {f : Fr} (h : partOk f.part f.parts f.data.length = false) : f.right = false := by unfold Fr.right; rw [h]; simp
theorem stamp_false {a b c : Int} (h : ¬ (1 ≤ a ∧ a ≤ 16777215 ∧ 0 ≤ b ∧ b ≤ 16777215 ∧ 1 ≤ c ∧ c ≤ 4294967295)) : stampOk a b c = false := decide_eq_false h
theorem part_false {a b : Int} {n : Nat} (h : ¬ (1 ≤ b ∧ b ≤ 255 ∧ 0 ≤ a ∧ a < b ∧ n ≤ 80)) : partOk a b n = false := decide_eq_false h

set_option maxHeartbeats 1600000 in
set_option maxRecDepth 100000 in
theorem fRight (w : World) (x : Value) (f : Fr) (hx : FrV w x f) : Calls Try.prog 94 #[x] w (RetSame (.bool f.right) w) := by
  obtain ⟨v, e, rfl, hb⟩ := hx
  obtain ⟨ao, cap, rfl, h1, h2⟩ := hb.form
  unfold maxLen at h2
  have S1 := hid ((Same.refl w).alloc (.cells #[.int .i64 f.life, .int .i64 f.era, .int .i64 f.seq, .int .i64 f.part, .int .i64 f.parts, .slice ao f.data.length cap] 60))
  have F1 := hid (@Fr.right_false1 f)
  have F2 := hid (@Fr.right_false2 f)
  have FT := hid (@Fr.right_iff f)
  unfold Fr.agg
  generalize f.right = r at *
  obtain ⟨life, era, seq, part, parts, data⟩ := f
  simp only at *
  generalize data.length = n at *
  by_cases a1 : 1 ≤ life
  case neg =>
    have hr := F1.out (stamp_false (by omega))
    subst hr
    have d6 : decide (1 ≤ life) = false := by simpa using a1
    clear F1 F2 FT
    go_enter Try.func94, Try.ntmps94
    go_wp2_with fail
    go_ret
    exact ⟨rfl, S1.out⟩
  by_cases a2 : life ≤ 16777215
  case neg =>
    have hr := F1.out (stamp_false (by omega))
    subst hr
    have d6 : decide (life ≤ 16777215) = false := by simpa using a2
    clear F1 F2 FT
    go_enter Try.func94, Try.ntmps94
    go_wp2_with fail
    go_ret
    exact ⟨rfl, S1.out⟩
  by_cases a3 : 0 ≤ era
  case neg =>
    have hr := F1.out (stamp_false (by omega))
    subst hr
    have d6 : decide (0 ≤ era) = false := by simpa using a3
    clear F1 F2 FT
    go_enter Try.func94, Try.ntmps94
    go_wp2_with fail
    go_ret
    exact ⟨rfl, S1.out⟩
  by_cases a4 : era ≤ 16777215
  case neg =>
    have hr := F1.out (stamp_false (by omega))
    subst hr
    have d6 : decide (era ≤ 16777215) = false := by simpa using a4
    clear F1 F2 FT
    go_enter Try.func94, Try.ntmps94
    go_wp2_with fail
    go_ret
    exact ⟨rfl, S1.out⟩
  by_cases a5 : 1 ≤ seq
  case neg =>
    have hr := F1.out (stamp_false (by omega))
    subst hr
    have d6 : decide (1 ≤ seq) = false := by simpa using a5
    clear F1 F2 FT
    go_enter Try.func94, Try.ntmps94
    go_wp2_with fail
    go_ret
    exact ⟨rfl, S1.out⟩
  by_cases a6 : seq ≤ 4294967295
  case neg =>
    have hr := F1.out (stamp_false (by omega))
    subst hr
    have d6 : decide (seq ≤ 4294967295) = false := by simpa using a6
    clear F1 F2 FT
    go_enter Try.func94, Try.ntmps94
    go_wp2_with fail
    go_ret
    exact ⟨rfl, S1.out⟩
  by_cases a7 : 1 ≤ parts
  case neg =>
    have hr := F2.out (part_false (by omega))
    subst hr
    have d6 : decide (1 ≤ parts) = false := by simpa using a7
    clear F1 F2 FT
    go_enter Try.func94, Try.ntmps94
    go_wp2_with fail
    go_ret
    exact ⟨rfl, S1.out⟩
  by_cases a8 : parts ≤ 255
  case neg =>
    have hr := F2.out (part_false (by omega))
    subst hr
    have d6 : decide (parts ≤ 255) = false := by simpa using a8
    clear F1 F2 FT
    go_enter Try.func94, Try.ntmps94
    go_wp2_with fail
    go_ret
    exact ⟨rfl, S1.out⟩
  by_cases a9 : 0 ≤ part
  case neg =>
    have hr := F2.out (part_false (by omega))
    subst hr
    have d6 : decide (0 ≤ part) = false := by simpa using a9
    clear F1 F2 FT
    go_enter Try.func94, Try.ntmps94
    go_wp2_with fail
    go_ret
    exact ⟨rfl, S1.out⟩
  by_cases a10 : part < parts
  case neg =>
    have hr := F2.out (part_false (by omega))
    subst hr
    have d6 : decide (part < parts) = false := by simpa using a10
    clear F1 F2 FT
    go_enter Try.func94, Try.ntmps94
    go_wp2_with fail
    go_ret
    exact ⟨rfl, S1.out⟩
  by_cases a11 : (n : Int) ≤ 80
  case neg =>
    have hr := F2.out (part_false (by omega))
    subst hr
    have d6 : decide ((n : Int) ≤ 80) = false := by simpa using a11
    clear F1 F2 FT
    go_enter Try.func94, Try.ntmps94
    go_wp2_with fail
    go_ret
    exact ⟨rfl, S1.out⟩
  have hr := FT.out.2 ⟨stampOk_iff.2 ⟨a1, a2, a3, a4, a5, a6⟩, partOk_iff.2 ⟨a7, a8, a9, a10, by omega⟩⟩
  subst hr
  clear F1 F2 FT
  go_enter Try.func94, Try.ntmps94
  go_wp2_with fail
  go_ret
  exact ⟨rfl, S1.out⟩
end Go.Proofs.Ytlhnpicmjjddeaa
