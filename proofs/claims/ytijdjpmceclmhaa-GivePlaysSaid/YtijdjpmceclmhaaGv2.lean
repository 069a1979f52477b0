/- GIVE: what give.ids, Late, Of, and the reference's Late, Of compute. -/
import Derived.Test.YtijdjpmceclmhaaGv
namespace Go.Proofs.Ytijdjpmceclmhaa
open Go.RowKit

theorem tyInts : RowTy Try.prog 39 3 1 8 (.int .i64 0) := ⟨Try.underlying39, by kernel_rfl, rfl, by decide⟩
theorem tyGives : RowTy Try.prog 23 29 11 88 (.agg #[.int .i64 0, .int .i64 0, .int .i64 0, .int .i64 0, .int .i64 0, .int .i64 0, .int .i64 0, .int .i64 0, .int .i64 0, .int .i64 0, .int .i64 0]) :=
  ⟨Try.underlying23, by kernel_rfl, rfl, by decide⟩

/-- The slice value v reads as these numbers. -/
def Ints (w : World) (e : TypeId) (v : Value) (l : List Int) : Prop := Sl w e 1 v l.length (l.map i64)
theorem Ints.form {w : World} {e : TypeId} {v : Value} {l : List Int} (h : Ints w e v l) : ∃ ao cap, v = .slice ao l.length cap ∧ l.length ≤ cap ∧ cap ≤ maxLen := Sl.form h
theorem Ints.same {w w' : World} {e : TypeId} {v : Value} {l : List Int} (h : Ints w e v l) (k : Same w w') : Ints w' e v l := Sl.same h k
theorem Ints.at {w : World} {e : TypeId} {ao : Option Addr} {cap : Nat} {l : List Int} (h : Ints w e (.slice ao l.length cap) l) (hn : l.length ≠ 0) :
    ∃ g o, ao = some ⟨g, o, none⟩ ∧ ∀ k (hk : k < l.length), w.cell? ⟨g, o + k, none⟩ = some (.int .i64 l[k]) := by
  obtain ⟨g, o, h1, h2⟩ := Sl.cells h hn
  exact ⟨g, o, h1, fun k hk => h2 k _ (by rw [List.getElem?_map, List.getElem?_eq_getElem hk]; rfl)⟩
def OwnI (w : World) (base : Nat) (v : Value) (l : List Int) : Prop := w.ownsRow base 3 1 v l.length (l.map i64)
theorem OwnI.nil (w : World) (base : Nat) : OwnI w base (.slice none 0 0) [] := World.ownsRow_nil w base 3 1
theorem OwnI.ints {w : World} {base : Nat} {v : Value} {l : List Int} (h : OwnI w base v l) : Ints w 3 v l := Sl.of_owns h
theorem OwnI.same {w w' : World} {base : Nat} {v : Value} {l : List Int} (h : OwnI w base v l) (k : Same w w') : OwnI w' base v l := by
  obtain ⟨h1, h2⟩ := h
  refine ⟨h1, ?_⟩
  rcases h2 with h2 | ⟨g, cap, cur, a, b, c, d⟩
  · exact .inl h2
  · exact .inr ⟨g, cap, cur, a, b, by rw [k.block g (Array.getElem?_eq_some_iff.1 c).1 (fun x => x)]; exact c, d⟩
theorem OwnI.grown {a w w' : World} {base : Nat} {v : Value} {l : List Int} (h : Same a w) (ho : OwnI w base v l) (hb : a.heap.size ≤ base) (hg : w.grownBy w' v.ownBlock) : Same a w' :=
  h.grown hg fun k e => Nat.le_trans hb (World.ownsRow.lt ho k e).1
theorem ints_one (l : List Int) : ∀ u ∈ l.map i64, u.oneCell' = true := by
  intro u hu
  obtain ⟨x, _, rfl⟩ := List.mem_map.1 hu
  rfl
theorem int_made (w : World) (x : Int) : Ints (w.alloc (.cells #[.int .i64 x] 3)) 3 (.slice (some ⟨w.heap.size, 0, none⟩) 1 1) [x] :=
  Sl.made 3 1 w.heap.size 1 1 _ _ (heap_alloc_new w _) (Nat.le_refl _) (by decide) rfl ⟨[], rfl⟩
/-- one number more -/
theorem wpList_append_int {P : Program} {w : World} {ops : Array Oper} {rest : List Oper} {o : Oper} {a : Act} {Q : Exit → Act → World → Prop} (hgd : o.guard = none) (s x : Operand)
    (t : TypeId) (T : RowTy P t 3 1 8 (.int .i64 0)) (ho : o.op = .call { callee := .builtin .append, args := #[s, x], argTypes := #[t, t] })
    {base : Nat} {v : Value} {l : List Int} (hown : OwnI w base v l) {e' : TypeId} {y : Value} {r : List Int} (hy : Ints w e' y r) (hs : a.eval s = v) (hx : a.eval x = y)
    (hb : l.length + r.length ≤ 1000000) (hbase : base ≤ w.heap.size)
    (h : ∀ v' w', OwnI w' base v' (l ++ r) → w.grownBy w' v.ownBlock → wpList P ops Q rest (a.put o.dst v') w') : wpList P ops Q (o :: rest) a w :=
  wpList_append_sl hgd s x T ho hown hy hs hx (ints_one r) (by unfold maxLen; omega) (by omega) hbase fun v' w' h1 h2 => h v' w' (by unfold OwnI; rw [List.length_append, List.map_append]; exact h1) h2

/-- the numbers of all that are pending, and of a kind -/
def sel (L : List Gv) (p : Gv → Bool) : List Int := (L.filter fun g => g.state == 1 && p g).map Gv.id
theorem sel_take (L : List Gv) (p : Gv → Bool) (k : Nat) (hk : k < L.length) : sel (L.take (k + 1)) p = sel (L.take k) p ++ (if (L[k].state == 1 && p L[k]) = true then [L[k].id] else []) := by
  unfold sel
  rw [List.take_succ_eq_append_getElem hk, List.filter_append, List.map_append]
  congr 1
  by_cases h : (L[k].state == 1 && p L[k]) = true
  · rw [if_pos h, List.filter_cons_of_pos (by simpa using h)]; rfl
  · rw [if_neg h, List.filter_cons_of_neg (by simpa using h)]; rfl
theorem sel_le (L : List Gv) (p : Gv → Bool) : (sel L p).length ≤ L.length := by
  unfold sel; rw [List.length_map]; exact List.length_filter_le _ _
/-- a call hands back a new row of numbers -/
def RetInts (l : List Int) (w : World) (en : Ending) (w' : World) : Prop := ∃ v, en = .returned v ∧ OwnI w' w.heap.size v l ∧ Same w w'
theorem RetInts.weak {l : List Int} {w0 w : World} (h : Same w0 w) {en : Ending} {w' : World} (hr : RetInts l w en w') : ∃ v, en = .returned v ∧ Ints w' 3 v l ∧ Same w0 w' :=
  let ⟨v, a, b, c⟩ := hr; ⟨v, a, b.ints, h.trans c⟩

set_option maxHeartbeats 1600000 in
set_option maxRecDepth 100000 in
theorem giveIds (w : World) (v : Value) (L : List Gv) (f b : Nat) (p : Gv → Bool) (hL : Gs w v L) (hlen : L.length ≤ 64) (hcf : ∀ args W, (callFunc f args).run Try.prog W = .ok (.enter f args) W)
    (hp : ∀ wr x, Same w wr → Calls Try.prog f #[.agg #[.int .i64 x.id, .int .i64 x.fa, .int .i64 x.fc, .int .i64 x.ta, .int .i64 x.tc, .int .i64 x.inst, .int .i64 x.qty, .int .i64 x.price, .int .i64 x.group, .int .i64 x.day, .int .i64 x.state], .pointer (some ⟨b, 0, none⟩)] wr (RetSame (.bool (p x)) wr)) :
    Calls Try.prog 21 #[v, .func (.func f) #[] #[.pointer (some ⟨b, 0, none⟩)]] w (RetInts (sel L p) w) := by
  obtain ⟨ao, cap, rfl, h1, h2⟩ := hL.form
  unfold maxLen at h2
  have HP := hid hp; clear hp
  go_enter Try.func21, Try.ntmps21
  go_wp2_with fail
  go_loopw [5, 10] (fun out i wr => ∃ k : Nat, k ≤ L.length ∧ i = .int .i64 k ∧ OwnI wr w.heap.size out (sel (L.take k) p) ∧ Same w wr) (fun _ i _ => L.length - (intOf i).toNat)
  case atStart => exact ⟨0, Nat.zero_le _, rfl, OwnI.nil _ _, Same.refl w⟩
  case round =>
    obtain ⟨k, hk, rfl, ho, S⟩ := hrel
    by_cases hlt : k < L.length
    · obtain ⟨g, o, rfl, c0, c1, c2, c3, c4, c5, c6, c7, c8, c9, c10⟩ := (hL.same S).row k hlt
      have hs := sel_take L p k hlt
      have hle := sel_le (L.take k) p
      have hle2 : (sel (L.take k) p).length ≤ 64 := by rw [List.length_take] at hle; omega
      clear hle
      have HS := hid hs; clear hs
      generalize L[k] = x at *
      have S1 := S.alloc (.cells #[.int .i64 x.id, .int .i64 x.fa, .int .i64 x.fc, .int .i64 x.ta, .int .i64 x.tc, .int .i64 x.inst, .int .i64 x.qty, .int .i64 x.price, .int .i64 x.group, .int .i64 x.day, .int .i64 x.state] 29)
      cases hst : x.state == 1
      · rw [hst, Bool.false_and, if_neg (by decide), List.append_nil] at HS
        go_wp2_with fail
        go_roundw
        case rel => exact ⟨k + 1, by omega, by go_num, by rw [HS.out]; exact ho.same ((Same.refl _).alloc _), S1⟩
        case measure => simp [intOf]; omega
      · rw [hst, Bool.true_and] at HS
        go_wp2_with fail
        refine (HP.out _ x S1).mono ?_
        rintro en w1 ⟨rfl, S2⟩
        have S3 := S1.trans S2
        have hz1 := S3.size
        have cc : w1.cell? ⟨wr.heap.size, 0, none⟩ = some (.int .i64 x.id) := (S2.cell (by simp)).trans (by simp)
        cases hpx : p x
        · rw [hpx, if_neg (by decide), List.append_nil] at HS
          go_wp2_with fail
          go_roundw
          case rel => exact ⟨k + 1, by omega, by go_num, by rw [HS.out]; exact ho.same (((Same.refl _).alloc _).trans S2), S3⟩
          case measure => simp [intOf]; omega
        · rw [hpx, if_pos rfl] at HS
          have ho1 := ho.same (((Same.refl _).alloc (.cells #[.int .i64 x.id, .int .i64 x.fa, .int .i64 x.fc, .int .i64 x.ta, .int .i64 x.tc, .int .i64 x.inst, .int .i64 x.qty, .int .i64 x.price, .int .i64 x.group, .int .i64 x.day, .int .i64 x.state] 29)).trans S2)
          have ho2 := ho1.same ((Same.refl _).alloc (.cells #[.int .i64 x.id] 3))
          go_wp2_with (at_builtin; refine wpList_append_int rfl (.tmp 22) (.tmp 25) 39 tyInts rfl ho2 (int_made w1 x.id) rfl rfl (by simp; omega) (by simp; omega) ?_; intro x1 w2 ho3 hg1; have S4 := OwnI.grown (S3.alloc _) ho2 (Nat.le_refl _) hg1)
          go_roundw
          case rel => exact ⟨k + 1, by omega, by go_num, by rw [HS.out]; exact ho3, S4⟩
          case measure => simp [intOf]; omega
    · obtain rfl : k = L.length := by omega
      have HT : Hid (L.take L.length = L) := List.take_length
      go_wp2_with fail
      go_ret
      rw [HT.out] at ho
      exact ⟨_, rfl, ho, S⟩
theorem call22 (args : Array Value) (W : World) : (callFunc 22 args).run Try.prog W = .ok (.enter 22 args) W := by kernel_rfl
theorem call23 (args : Array Value) (W : World) : (callFunc 23 args).run Try.prog W = .ok (.enter 23 args) W := by kernel_rfl

set_option maxHeartbeats 400000 in
theorem lateIs (w : World) (x : Gv) (b : Nat) (day : Int) (hb : w.cell? ⟨b, 0, none⟩ = some (.int .i64 day)) :
    Calls Try.prog 22 #[.agg #[.int .i64 x.id, .int .i64 x.fa, .int .i64 x.fc, .int .i64 x.ta, .int .i64 x.tc, .int .i64 x.inst, .int .i64 x.qty, .int .i64 x.price, .int .i64 x.group, .int .i64 x.day, .int .i64 x.state], .pointer (some ⟨b, 0, none⟩)] w (RetSame (.bool (decide (x.day < day))) w) := by
  have hlt := World.block_lt_of_cell? w _ hb
  go_enter Try.func22, Try.ntmps22
  go_wp2_with fail
  go_ret
  exact ⟨rfl, (Same.refl w).alloc _⟩

def isOf (ua uc : Int) (x : Gv) : Bool := (x.fa == ua && x.fc == uc) || (x.ta == ua && x.tc == uc)
set_option maxHeartbeats 400000 in
theorem ofIs (w : World) (x : Gv) (b : Nat) (ua uc : Int) (hb : w.cell? ⟨b, 0, none⟩ = some (.int .i64 ua)) (hb1 : w.cell? ⟨b, 1, none⟩ = some (.int .i64 uc)) :
    Calls Try.prog 23 #[.agg #[.int .i64 x.id, .int .i64 x.fa, .int .i64 x.fc, .int .i64 x.ta, .int .i64 x.tc, .int .i64 x.inst, .int .i64 x.qty, .int .i64 x.price, .int .i64 x.group, .int .i64 x.day, .int .i64 x.state], .pointer (some ⟨b, 0, none⟩)] w (RetSame (.bool (isOf ua uc x)) w) := by
  have hlt := World.block_lt_of_cell? w _ hb
  cases h1 : x.fa == ua <;> cases h2 : x.fc == uc <;> cases h3 : x.ta == ua <;> cases h4 : x.tc == uc
  all_goals
    have H := hid (show isOf ua uc x = _ from by unfold isOf; rw [h1, h2, h3, h4])
    go_enter Try.func23, Try.ntmps23
    go_wp2_with fail
    go_ret
    exact ⟨congrArg (fun b => Ending.returned (.bool b)) H.out.symm, (Same.refl w).alloc _⟩

theorem giveLate (w : World) (v : Value) (L : List Gv) (day : Int) (hL : Gs w v L) (hlen : L.length ≤ 64) :
    Calls Try.prog 9 #[v, .int .i64 day] w fun en w' => ∃ v, en = .returned v ∧ Ints w' 3 v (sel L fun g => decide (g.day < day)) ∧ Same w w' := by
  have S1 := (Same.refl w).alloc (.cells #[.int .i64 day] 3)
  have HI := hid (giveIds (w.alloc (.cells #[.int .i64 day] 3)) v L 22 w.heap.size (fun g => decide (g.day < day)) (hL.same S1) hlen call22
    (fun wr x S => lateIs wr x w.heap.size day ((S.cell (by simp)).trans (by simp))))
  go_enter Try.func9, Try.ntmps9
  go_wp2_with fail
  refine HI.out.mono ?_
  rintro en w1 hr
  obtain ⟨v1, rfl, hi, S2⟩ := hr.weak S1
  go_wp2_with fail
  go_ret
  exact ⟨_, rfl, hi, S2⟩
theorem giveOf (w : World) (v : Value) (L : List Gv) (ua uc : Int) (hL : Gs w v L) (hlen : L.length ≤ 64) :
    Calls Try.prog 17 #[v, .agg #[.int .i64 ua, .int .i64 uc]] w fun en w' => ∃ v, en = .returned v ∧ Ints w' 3 v (sel L (isOf ua uc)) ∧ Same w w' := by
  have S1 := (Same.refl w).alloc (.cells #[.int .i64 ua, .int .i64 uc] 25)
  have HI := hid (giveIds (w.alloc (.cells #[.int .i64 ua, .int .i64 uc] 25)) v L 23 w.heap.size (isOf ua uc) (hL.same S1) hlen call23
    (fun wr x S => ofIs wr x w.heap.size ua uc ((S.cell (by simp)).trans (by simp)) ((S.cell (by simp)).trans (by simp))))
  go_enter Try.func17, Try.ntmps17
  go_wp2_with fail
  refine HI.out.mono ?_
  rintro en w1 hr
  obtain ⟨v1, rfl, hi, S2⟩ := hr.weak S1
  go_wp2_with fail
  go_ret
  exact ⟨_, rfl, hi, S2⟩

theorem take_ext_int {l r : List Int} (k : Nat) (h1 : k < l.length) (h2 : k < r.length) (h : l.take k = r.take k) (hk : l[k] = r[k]) : l.take (k + 1) = r.take (k + 1) := by
  rw [List.take_succ_eq_append_getElem h1, List.take_succ_eq_append_getElem h2, h, hk]
theorem ne_of_at_int {l r : List Int} (k : Nat) (h1 : k < l.length) (h2 : k < r.length) (h : l[k] ≠ r[k]) : decide (l = r) = false := by
  apply decide_eq_false
  intro e
  subst e
  exact h rfl

set_option maxHeartbeats 800000 in
theorem refSameIds (w : World) (e1 e2 : TypeId) (v1 v2 : Value) (l r : List Int) (hl : Ints w e1 v1 l) (hr : Ints w e2 v2 r) :
    Calls Try.prog 15 #[v1, v2] w (RetSame (.bool (decide (l = r))) w) := by
  obtain ⟨a1, c1, rfl, h1, h2⟩ := hl.form
  obtain ⟨a2, c2, rfl, h3, h4⟩ := hr.form
  unfold maxLen at h2 h4
  by_cases hlen : l.length = r.length
  · have hd : ((l.length : Int) != (r.length : Int)) = false := by simp [hlen]
    have hl1 : l.length ≤ r.length := by omega
    have hl2 : r.length ≤ l.length := by omega
    have HL := hid hlen; clear hlen
    go_enter Try.func15, Try.ntmps15
    go_wp2
    go_loopw [5] (fun i wr => ∃ k : Nat, k ≤ l.length ∧ i = .int .i64 k ∧ l.take k = r.take k ∧ Same w wr) (fun i _ => l.length - (intOf i).toNat)
    case atStart => exact ⟨0, Nat.zero_le _, rfl, rfl, Same.refl w⟩
    case round =>
      obtain ⟨k, hk, rfl, ht, S⟩ := hrel
      have HT := hid ht; clear ht
      by_cases hlt : k < l.length
      · obtain ⟨g, o, rfl, hcell⟩ := (hl.same S).at (by omega)
        obtain ⟨g', o', rfl, hcell'⟩ := (hr.same S).at (by omega)
        have hk2 : k < r.length := by omega
        have hc1 := hcell k hlt
        have hc2 := hcell' k hk2
        clear hcell hcell'
        by_cases hne : l[k] = r[k]
        · have HN := hid hne
          have hq : (l[k] != r[k]) = false := by simp [hne]
          clear hne
          go_wp2
          go_quiet (fail)
          go_wp2
          go_roundw
          case rel => exact ⟨k + 1, by omega, by go_num, take_ext_int k hlt hk2 HT.out HN.out, S.drewN _⟩
          case measure => simp [intOf]; omega
        · have HN := hid (ne_of_at_int k hlt hk2 hne)
          have hq : (l[k] != r[k]) = true := by simp [hne]
          clear hne
          go_wp2
          go_quiet (fail)
          go_wp2
          go_ret
          rw [HN.out]
          exact ⟨rfl, S.drewN _⟩
      · have HE : Hid (decide (l = r) = true) := by
          apply decide_eq_true
          have h5 := HT.out
          rwa [List.take_of_length_le (by omega), List.take_of_length_le (by omega)] at h5
        go_wp2
        go_ret
        rw [HE.out]
        exact ⟨rfl, S⟩
  · have hd : ((l.length : Int) != (r.length : Int)) = true := by simp; omega
    have HE : Hid (decide (l = r) = false) := decide_eq_false (fun e => hlen (by rw [e]))
    clear hlen
    go_enter Try.func15, Try.ntmps15
    go_wp2
    go_ret
    rw [HE.out]
    exact ⟨rfl, Same.refl w⟩
end Go.Proofs.Ytijdjpmceclmhaa
