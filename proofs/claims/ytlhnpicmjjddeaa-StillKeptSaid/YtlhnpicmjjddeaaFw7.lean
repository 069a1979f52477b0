/- FRAME: Join. -/
import Derived.Test.YtlhnpicmjjddeaaFs
namespace Go.Proofs.Ytlhnpicmjjddeaa
open Go.RowKit

/-! rows of bytes that lie anywhere, in an array of the call's own -/
def OwnA (w : World) (base : Nat) (v : Value) (ls : List (List UInt8)) : Prop :=
  ∃ us, w.ownsRow base 23 1 v ls.length us ∧ ∀ i (h : i < ls.length) u, us[i]? = some u → (∃ e', Bytes w e' u ls[i]) ∧ ∀ g, homeOf u = some g → g < base
theorem OwnA.nil (w : World) (base : Nat) : OwnA w base (.slice none 0 0) [] := ⟨[], World.ownsRow_nil w base 23 1, fun _ h => absurd h (Nat.not_lt_zero _)⟩
theorem OwnA.rows {w : World} {base : Nat} {v : Value} {ls : List (List UInt8)} (h : OwnA w base v ls) : Rows2 w 23 v ls := by
  obtain ⟨us, h1, h2⟩ := h
  exact ⟨us, by have := h1.1; omega, Sl.of_owns h1, fun i hi u hu => (h2 i hi u hu).1⟩
theorem OwnA.lt {w : World} {base : Nat} {v : Value} {ls : List (List UInt8)} (h : OwnA w base v ls) : ∀ k, v.ownBlock = some k → base ≤ k ∧ k < w.heap.size := fun k e => let ⟨_, h1, _⟩ := h; World.ownsRow.lt h1 k e
theorem OwnA.same {w w' : World} {base : Nat} {v : Value} {ls : List (List UInt8)} (h : OwnA w base v ls) (S : Same w w') : OwnA w' base v ls :=
  let ⟨us, h1, h2⟩ := h; ⟨us, owns_keep h1 S fun _ _ x => x, fun i hi u hu => let ⟨⟨e', hb⟩, hn⟩ := h2 i hi u hu; ⟨⟨e', hb.same S⟩, hn⟩⟩
theorem wpList_append_any {P : Program} {w : World} {ops : Array Oper} {rest : List Oper} {o : Oper} {a : Act} {Q : Exit → Act → World → Prop} (hgd : o.guard = none) (s x : Operand)
    (t : TypeId) (T : RowTy P t 23 1 24 (.slice none 0 0)) (ho : o.op = .call { callee := .builtin .append, args := #[s, x], argTypes := #[t, t] })
    {base : Nat} {v : Value} {ls : List (List UInt8)} (hown : OwnA w base v ls) {e' e2 : TypeId} {y u : Value} {l : List UInt8} (hy : Sl w e' 1 y 1 [u]) (hu : Bytes w e2 u l) (hn : ∀ g, homeOf u = some g → g < base)
    (hs : a.eval s = v) (hx : a.eval x = y) (hb : ls.length ≤ 1000000) (hbase : base ≤ w.heap.size)
    (h : ∀ v' w', OwnA w' base v' (ls ++ [l]) → Keep (fun k => v.ownBlock = some k) w w' → wpList P ops Q rest (a.put o.dst v') w') : wpList P ops Q (o :: rest) a w := by
  obtain ⟨us0, h1, h2⟩ := id hown
  refine wpList_append_sl hgd s x T ho h1 hy hs hx ?_ (by unfold maxLen; omega) (by omega) hbase ?_
  · intro z hz
    simp at hz
    subst hz
    exact hu.one
  · intro v' w' h3 h4
    have K : Keep (fun k => v.ownBlock = some k) w w' := (Keep.refl _ w).grown h4 fun k e => .inl e
    refine h v' w' ⟨us0 ++ [u], by rw [List.length_append]; exact h3, ?_⟩ K
    have h0 : us0.length = ls.length := by have := h1.1; omega
    intro i hi z hz
    rw [List.length_append] at hi
    rcases Nat.lt_or_ge i ls.length with hl | hl
    · rw [List.getElem?_append_left (by omega)] at hz
      rw [List.getElem_append_left hl]
      obtain ⟨⟨e', q1⟩, q2⟩ := h2 i hl z hz
      exact ⟨⟨e', q1.keep K fun g hg hm => by have := q2 g hg; have := (hown.lt g hm).1; omega⟩, q2⟩
    · simp only [List.length_singleton] at hi
      obtain rfl : i = ls.length := by omega
      rw [List.getElem?_append_right (by omega), h0] at hz
      simp at hz
      subst hz
      rw [List.getElem_append_right (Nat.le_refl _)]
      simp only [Nat.sub_self, List.getElem_cons_zero]
      exact ⟨⟨e2, hu.keep K fun g hg hm => by have := hn g hg; have := (hown.lt g hm).1; omega⟩, hn⟩

def joinsB (L : List Fr) : Bool := match L with
  | [] => false
  | f :: _ => decide ((L.length : Int) = f.parts) && (List.range L.length).all fun i => ((L[i]?).map fun g => g.fits f i).getD false
theorem joinsB_iff {L : List Fr} : joinsB L = true ↔ Joins L := by
  cases L with
  | nil => simp [joinsB, Joins]
  | cons f L =>
    unfold joinsB Joins
    simp only [Bool.and_eq_true, decide_eq_true_eq, List.all_eq_true, List.mem_range]
    constructor
    · rintro ⟨h1, h2⟩
      refine ⟨f, rfl, h1, fun i g hg => ?_⟩
      have hi := (List.getElem?_eq_some_iff.1 hg).1
      have := h2 i hi
      rw [hg] at this
      exact this
    · rintro ⟨d, hd, h1, h2⟩
      simp at hd
      subst hd
      refine ⟨h1, fun i hi => ?_⟩
      rw [List.getElem?_eq_getElem hi]
      exact h2 i _ (List.getElem?_eq_getElem hi)
def joinOf (L : List Fr) : List UInt8 := if joinsB L then joined L else []
/-- the bytes of the first k frames -/
def datas (L : List Fr) (k : Nat) : List (List UInt8) := (L.take k).map (·.data)
theorem datas_succ (L : List Fr) (k : Nat) (hk : k < L.length) : datas L (k + 1) = datas L k ++ [L[k].data] := by
  unfold datas; rw [List.take_succ_eq_append_getElem hk, List.map_append]; rfl
theorem datas_length (L : List Fr) (k : Nat) (hk : k ≤ L.length) : (datas L k).length = k := by unfold datas; simp; omega
theorem datas_all (L : List Fr) : (datas L L.length).flatten = joined L := by unfold datas joined; rw [List.take_length]
theorem joined_length (L : List Fr) (h : ∀ f ∈ L, f.data.length ≤ 80) : (joined L).length ≤ L.length * 80 := by
  unfold joined
  induction L with
  | nil => simp
  | cons f L ih =>
    have h1 := ih fun g hg => h g (List.mem_cons_of_mem _ hg)
    have h2 := h f (List.mem_cons_self ..)
    simp only [List.map_cons, List.flatten_cons, List.length_append, List.length_cons]
    omega
/-- frames as Decode hands them back -/
def Small (L : List Fr) : Prop := ∀ f ∈ L, 0 ≤ f.parts ∧ f.parts ≤ 255 ∧ f.data.length ≤ 80

theorem Cells6.same {w w' : World} {g o : Nat} {f : Fr} {u : Value} (h : Cells6 w g o f u) (S : Same w w') : Cells6 w' g o f u := by
  obtain ⟨c0, c1, c2, c3, c4, c5⟩ := h
  have hg := World.block_lt_of_cell? w _ c0
  refine ⟨?_, ?_, ?_, ?_, ?_, ?_⟩
  · rw [S.cell (p := ⟨g, o, none⟩) hg]; exact c0
  · rw [S.cell (p := ⟨g, o + 1, none⟩) hg]; exact c1
  · rw [S.cell (p := ⟨g, o + 2, none⟩) hg]; exact c2
  · rw [S.cell (p := ⟨g, o + 3, none⟩) hg]; exact c3
  · rw [S.cell (p := ⟨g, o + 4, none⟩) hg]; exact c4
  · rw [S.cell (p := ⟨g, o + 5, none⟩) hg]; exact c5
theorem allfits_to {L : List Fr} {f : Fr} (h : ∀ j (hj : j < L.length), L[j].fits f j = true) : (List.range L.length).all (fun i => ((L[i]?).map fun g => g.fits f i).getD false) = true := by
  rw [List.all_eq_true]
  intro i hi
  rw [List.mem_range] at hi
  rw [List.getElem?_eq_getElem hi]
  exact h i hi
theorem allfits_no {L : List Fr} {f : Fr} {k : Nat} (hk : k < L.length) (h : L[k].fits f k = false) : (List.range L.length).all (fun i => ((L[i]?).map fun g => g.fits f i).getD false) = false := by
  rw [List.all_eq_false]
  refine ⟨k, List.mem_range.2 hk, ?_⟩
  rw [List.getElem?_eq_getElem hk]
  simp [h]
set_option maxHeartbeats 3200000 in
set_option maxRecDepth 100000 in
theorem fJoin (w : World) (e : TypeId) (v : Value) (L : List Fr) (hL : Frs w e v L) (hs : Small L) (hn : L.length ≤ 5000) : Calls Try.prog 54 #[v] w (RetOpen (joinOf L) (joinsB L) w) := by
  obtain ⟨ao, cap, rfl, h1, h2⟩ := hL.form
  unfold maxLen at h2
  by_cases h0 : L.length = 0
  · obtain rfl := List.eq_nil_of_length_eq_zero h0
    go_enter Try.func54, Try.ntmps54
    go_wp2_with fail
    go_ret2
    exact ⟨_, rfl, OwnB.nil _ _, Same.refl _⟩
  · have hpos : 0 < L.length := by omega
    obtain ⟨g, o, rfl, hrow⟩ := hL.rows h0
    have HRow := hid hrow
    have HL := hid hL
    have Hs := hid hs
    obtain ⟨a0, c0, e0, hc0, hb0⟩ := hrow 0 hpos
    rw [Nat.zero_mul, Nat.add_zero] at hc0
    have hJ : joinsB L = (decide ((L.length : Int) = (L[0]'hpos).parts) && (List.range L.length).all fun i => ((L[i]?).map fun g => g.fits (L[0]'hpos) i).getD false) := by
      cases L with
      | nil => exact absurd rfl h0
      | cons f L => rfl
    have HJ := hid hJ
    have HB0 := hid hb0
    have hlenI : ((L.length : Int) == 0) = false := by rw [beq_eq_false_iff_ne]; omega
    clear hL hs hrow hJ hb0
    obtain ⟨d0, d1, d2, d3, d4, d5⟩ := hc0
    by_cases hp : (L.length : Int) = (L[0]'hpos).parts
    · have hpb : ((L.length : Int) != (L[0]'hpos).parts) = false := by rw [bne_eq_false_iff_eq]; exact hp
      have HF := hid fFits
      have HJ2 : Hid (joinsB L = (List.range L.length).all fun i => ((L[i]?).map fun g => g.fits (L[0]'hpos) i).getD false) := by
        show _ = _
        rw [HJ.out, decide_eq_true hp, Bool.true_and]
      have hsm := Hs.out _ (List.getElem_mem hpos)
      have C0 := hid (show Cells6 w g o (L[0]'hpos) _ from ⟨d0, d1, d2, d3, d4, d5⟩)
      clear hp
      go_enter Try.func54, Try.ntmps54
      go_wp2_with fail
      go_loopw [4, 21] (fun out i wr => ∃ k : Nat, k ≤ L.length ∧ i = .int .i64 k ∧ OwnA wr w.heap.size out (datas L k) ∧ Same w wr ∧ ∀ j (hj : j < L.length), j < k → L[j].fits (L[0]'hpos) j = true) (fun _ i _ => L.length - (intOf i).toNat)
      case atStart => exact ⟨0, Nat.zero_le _, rfl, OwnA.nil _ _, Same.refl w, fun j _ hj => absurd hj (Nat.not_lt_zero j)⟩
      case round =>
        obtain ⟨k, hk, rfl, hO, S, hf⟩ := hrel
        have HO := hid hO
        have HS := hid S
        have Hf := hid hf
        clear hO S hf d0 d1 d2 d3 d4 d5
        by_cases hlt : k < L.length
        · obtain ⟨a, c, e', hck, hbk⟩ := HRow.out k hlt
          have hhome : Hid (∀ g', homeOf (.slice a L[k].data.length c) = some g' → g' < w.heap.size) := fun g' hg' => Sl.home_lt hbk hg'
          have hsk := Hs.out _ (List.getElem_mem hlt)
          have HBk := hid hbk
          obtain ⟨d0, d1, d2, d3, d4, d5⟩ := C0.out.same HS.out
          obtain ⟨q0, q1, q2, q3, q4, q5⟩ := hck.same HS.out
          have hg0 := World.block_lt_of_cell? wr _ q0
          have HD := hid (datas_succ L k hlt)
          have HDl := hid (datas_length L k hk)
          have HFk := hid (fun (x : After (wr.alloc (.cells #[.int .i64 L[k].life, .int .i64 L[k].era, .int .i64 L[k].seq, .int .i64 L[k].part, .int .i64 L[k].parts, .slice a L[k].data.length c] 60))) => Calls.after (HF.out x.to _ _ L[k] (L[0]'hpos) k
            ⟨_, e', rfl, hbk.same ((HS.out.alloc _).trans x.same)⟩ ⟨_, e0, rfl, HB0.out.same ((HS.out.alloc _).trans x.same)⟩ (by omega)))
          have HX := hid (Box6.new wr (.int .i64 L[k].life) (.int .i64 L[k].era) (.int .i64 L[k].seq) (.int .i64 L[k].part) (.int .i64 L[k].parts) (.slice a L[k].data.length c))
          have HNo := hid (fun h => allfits_no (f := L[0]'hpos) hlt h)
          have HYes : Hid (L[k].fits (L[0]'hpos) k = true → ∀ j (hj : j < L.length), j < k + 1 → L[j].fits (L[0]'hpos) j = true) := fun h j hj hjk => by
            by_cases e : j = k
            · subst e; exact h
            · exact Hf.out j hj (by omega)
          unfold Fr.agg at HFk
          clear hck hbk
          generalize hfit : L[k].fits (L[0]'hpos) k = r at *
          go_wp2_with fail
          clear d0 d1 d2 d3 d4 d5 q0 q1 q2 q3 q4 q5
          obtain ⟨b0, b1, b2, b3, b4, b5⟩ := HX.out.cells
          obtain ⟨d0, d1, d2, d3, d4, d5⟩ := C0.out.same (HS.out.alloc (.cells #[.int .i64 L[k].life, .int .i64 L[k].era, .int .i64 L[k].seq, .int .i64 L[k].part, .int .i64 L[k].parts, .slice a L[k].data.length c] 60))
          have xb0 := fun x => After.cell b0 x
          have xb1 := fun x => After.cell b1 x
          have xb2 := fun x => After.cell b2 x
          have xb3 := fun x => After.cell b3 x
          have xb4 := fun x => After.cell b4 x
          have xb5 := fun x => After.cell b5 x
          have xd0 := fun x => After.cell d0 x
          have xd1 := fun x => After.cell d1 x
          have xd2 := fun x => After.cell d2 x
          have xd3 := fun x => After.cell d3 x
          have xd4 := fun x => After.cell d4 x
          have xd5 := fun x => After.cell d5 x
          clear b0 b1 b2 b3 b4 b5 d0 d1 d2 d3 d4 d5
          refine wp_region_after (by kernel_rfl) (by kernel_rfl) ?_
          repeat (go_big_quiet_step (first | (go_at_call 101; with_reducible exact HFk.out _)))
          refine wpQuiet_nil ?_
          intro _ hw'
          obtain ⟨x5, hw''⟩ := hw'
          subst hw''
          have B5 := xb5 x5
          have S5 := hid ((HS.out.alloc (.cells #[.int .i64 L[k].life, .int .i64 L[k].era, .int .i64 L[k].seq, .int .i64 L[k].part, .int .i64 L[k].parts, .slice a L[k].data.length c] 60)).trans x5.same)
          have HO5 := hid (HO.out.same (((Same.refl wr).alloc (.cells #[.int .i64 L[k].life, .int .i64 L[k].era, .int .i64 L[k].seq, .int .i64 L[k].part, .int .i64 L[k].parts, .slice a L[k].data.length c] 60)).trans x5.same))
          have HB5 := hid (HBk.out.same S5.out)
          clear xb0 xb1 xb2 xb3 xb4 xb5 xd0 xd1 xd2 xd3 xd4 xd5 HFk HX
          generalize x5.to = w5 at *
          cases r
          · have hz : Hid (joinsB L = false ∧ joinOf L = []) := by
              have : joinsB L = false := by rw [HJ2.out]; exact HNo.out rfl
              exact ⟨this, by unfold joinOf; rw [this]; rfl⟩
            clear hfit
            go_wp2_with fail
            go_ret2
            rw [hz.out.1, hz.out.2]
            exact ⟨_, rfl, OwnB.nil _ _, S5.out⟩
          · have HY := hid (HYes.out rfl)
            clear hfit
            have hone : Hid (Sl (w5.alloc (.cells #[.slice a L[k].data.length c] 23)) 23 1 (.slice (some ⟨w5.heap.size, 0, none⟩) 1 1) 1 [.slice a L[k].data.length c]) := Sl.made 23 1 w5.heap.size 1 1 _ _ (heap_alloc_new w5 _) (Nat.le_refl _) (by decide) rfl ⟨[], rfl⟩
            go_wp2_with (at_builtin; refine wpList_append_any rfl (.tmp 33) (.tmp 36) 36 tyRows rfl (HO5.out.same ((Same.refl w5).alloc _)) hone.out (HB5.out.same ((Same.refl w5).alloc _)) hhome.out rfl rfl (by rw [HDl.out]; omega) (by have := S5.out.size; simp; omega) ?_; intro x1 w6 ho6 K6)
            go_roundw
            case rel => exact ⟨k + 1, by omega, by go_num, by rw [HD.out]; exact ho6, (S5.out.alloc _).keepOwn K6 fun j hj => (HO5.out.lt j hj).1, HY.out⟩
            case measure => simp [intOf]; omega
        · obtain rfl : k = L.length := by omega
          have hj : joinsB L = true := by
            rw [HJ2.out]
            exact allfits_to fun j hj => Hf.out j hj hj
          have hz : Hid (joinsB L = true ∧ joinOf L = (datas L L.length).flatten) := ⟨hj, by unfold joinOf; rw [hj, datas_all]; rfl⟩
          have hle : Hid ((datas L L.length).flatten.length ≤ 1000000) := by
            have := joined_length L fun f hf => (Hs.out f hf).2.2
            rw [← datas_all] at this
            show _ ≤ _
            omega
          clear hj
          go_wp2_with fail
          refine (concatBytes _ _ _ _ HO.out.rows hle.out).mono ?_
          rintro en w7 ⟨v7, rfl, O7, S7⟩
          go_wp2_with fail
          go_ret2
          rw [hz.out.1, hz.out.2]
          exact ⟨_, rfl, O7.mono HS.out.size, HS.out.trans S7⟩
    · have hpb : ((L.length : Int) != (L[0]'hpos).parts) = true := by rw [bne_iff_ne]; exact hp
      have hz : Hid (joinsB L = false ∧ joinOf L = []) := by
        have : joinsB L = false := by rw [HJ.out, decide_eq_false hp]; rfl
        exact ⟨this, by unfold joinOf; rw [this]; rfl⟩
      rw [hz.out.1, hz.out.2]
      clear hp
      go_enter Try.func54, Try.ntmps54
      go_wp2_with fail
      go_ret2
      exact ⟨_, rfl, OwnB.nil _ _, Same.refl _⟩
end Go.Proofs.Ytlhnpicmjjddeaa
