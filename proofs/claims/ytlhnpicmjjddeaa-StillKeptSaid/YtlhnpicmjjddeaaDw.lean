/- DISK: the whole drive in memory; Write. -/
import Derived.Test.YtlhnpicmjjddeaaDr6
import Derived.Test.YtlhnpicmjjddeaaDvPure
namespace Go.Proofs.Ytlhnpicmjjddeaa
open Go.RowKit

theorem flat_getElem : ∀ (C : List (List UInt8)) (hC : ∀ c ∈ C, c.length = 96) (i j : Nat) (hi : i < C.length), j < 96 → C.flatten[i * 96 + j]? = C[i][j]?
  | [], _, i, _, hi, _ => absurd hi (Nat.not_lt_zero i)
  | c :: C, hC, 0, j, _, hj => by
    have hc := hC c (by simp)
    simp only [List.flatten_cons, Nat.zero_mul, Nat.zero_add, List.getElem_cons_zero]
    rw [List.getElem?_append_left (by omega)]
  | c :: C, hC, i + 1, j, hi, hj => by
    have hc := hC c (by simp)
    rw [List.flatten_cons, List.getElem?_append_right (by omega), hc, show (i + 1) * 96 + j - 96 = i * 96 + j from by omega]
    simpa using flat_getElem C (fun x hx => hC x (by simp [hx])) i j (by simpa using hi) hj
theorem flat_length : ∀ (C : List (List UInt8)) (hC : ∀ c ∈ C, c.length = 96), C.flatten.length = C.length * 96
  | [], _ => rfl
  | c :: C, hC => by
    rw [List.flatten_cons, List.length_append, flat_length C (fun x hx => hC x (by simp [hx])), hC c (by simp), List.length_cons]; omega
theorem flat_set : ∀ (C : List (List UInt8)) (hC : ∀ c ∈ C, c.length = 96) (i : Nat) (l : List UInt8), i < C.length → (C.set i l).flatten = C.flatten.take (i * 96) ++ l ++ C.flatten.drop (i * 96 + 96)
  | [], _, i, _, hi => absurd hi (Nat.not_lt_zero i)
  | c :: C, hC, 0, l, _ => by
    have hc := hC c (by simp)
    simp only [List.set_cons_zero, List.flatten_cons, Nat.zero_mul, List.take_zero, List.nil_append, Nat.zero_add]
    rw [List.drop_left' hc]
  | c :: C, hC, i + 1, l, hi => by
    have hc := hC c (by simp)
    simp only [List.set_cons_succ, List.flatten_cons]
    rw [flat_set C (fun x hx => hC x (by simp [hx])) i l (by simpa using hi)]
    rw [show (i + 1) * 96 = c.length + i * 96 from by omega, List.take_length_add_append, show c.length + i * 96 + 96 = c.length + (i * 96 + 96) from by omega, List.drop_length_add_append]
    simp
/-- the cells of a drive's sectors -/
def flat (C : List (List UInt8)) : List Value := C.flatten.map u8
theorem flat_splice (C : List (List UInt8)) (hC : ∀ c ∈ C, c.length = 96) (i : Nat) (l : List UInt8) (hi : i < C.length) (hl : l.length = 96) : splice (flat C) (i * 96) (l.map u8) = flat (C.set i l) := by
  unfold flat splice
  rw [flat_set C hC i l hi]
  simp [hl]
theorem Cb.whole {w : World} {cb : Nat} {C : List (List UInt8)} (h : w.heap[cb]? = some (.cells (flat C).toArray 143 (0, 0))) (hC : ∀ c ∈ C, c.length = 96) : Cb w cb C := by
  refine ⟨(Array.getElem?_eq_some_iff.1 h).1, fun i hi => ⟨hC _ (List.getElem_mem hi), fun j v hv => ?_⟩⟩
  rw [cell_of_row w cb (i * 96 + j) _ 143 (fr := (0, 0)) h]
  have hj : j < C[i].length := by
    have := (List.getElem?_eq_some_iff.1 hv).1
    simpa using this
  have := flat_getElem C hC i j hi (by rw [← hC _ (List.getElem_mem hi)]; exact hj)
  unfold flat
  simp only [List.getElem?_toArray, List.getElem?_map] at hv ⊢
  rw [this]
  exact hv

/-! ### landed -/
theorem landed_succ_yes (C : List (List UInt8)) (at_ : Nat) (ls : List (List UInt8)) (is : Nat → Bool) (k : Nat) (hk : k < ls.length) (hC : at_ + ls.length ≤ C.length) (h : is k = true) :
    landed C at_ ls is (k + 1) = (landed C at_ ls is k).set (at_ + k) ls[k] := by
  refine List.ext_getElem? fun i => ?_
  rw [List.getElem?_set, landed_length, landed_at, landed_at]
  by_cases hi : at_ + k = i
  · subst hi
    rw [if_pos ⟨by omega, by omega, by rw [show at_ + k - at_ = k from by omega]; exact h, by omega⟩, if_pos rfl, if_pos (by omega)]
    rw [show at_ + k - at_ = k from by omega, List.getElem?_eq_getElem hk]
  · rw [if_neg hi]
    by_cases h2 : at_ ≤ i ∧ i < at_ + min k ls.length ∧ is (i - at_) = true ∧ i < C.length
    · rw [if_pos h2, if_pos ⟨h2.1, by omega, h2.2.2⟩]
    · rw [if_neg h2, if_neg]
      rintro ⟨a, b, c⟩
      exact h2 ⟨a, by omega, c⟩
theorem landed_succ_no (C : List (List UInt8)) (at_ : Nat) (ls : List (List UInt8)) (is : Nat → Bool) (k : Nat) (h : is k = false) :
    landed C at_ ls is (k + 1) = landed C at_ ls is k := by
  refine List.ext_getElem? fun i => ?_
  rw [landed_at, landed_at]
  by_cases hi : at_ ≤ i ∧ i = at_ + k
  · obtain ⟨h1, rfl⟩ := hi
    rw [if_neg, if_neg]
    · rintro ⟨a, b, c, d⟩; rw [show at_ + k - at_ = k from by omega, h] at c; cases c
    · rintro ⟨a, b, c, d⟩; rw [show at_ + k - at_ = k from by omega, h] at c; cases c
  · by_cases h2 : at_ ≤ i ∧ i < at_ + min k ls.length ∧ is (i - at_) = true ∧ i < C.length
    · rw [if_pos h2, if_pos ⟨h2.1, by omega, h2.2.2⟩]
    · rw [if_neg h2, if_neg]
      rintro ⟨a, b, c⟩
      exact h2 ⟨a, by omega, c⟩
theorem landed_96 {C : List (List UInt8)} {at_ : Nat} {ls : List (List UInt8)} {is : Nat → Bool} {k : Nat} (hC : ∀ c ∈ C, c.length = 96) (hl : ∀ c ∈ ls, c.length = 96) : ∀ c ∈ landed C at_ ls is k, c.length = 96 := by
  intro c hc
  obtain ⟨i, hi⟩ := List.mem_iff_getElem?.1 hc
  rw [landed_at] at hi
  split at hi
  · exact hl c (List.mem_of_getElem? hi)
  · exact hC c (List.mem_of_getElem? hi)

/-! ### copy -/
theorem wpList_copy_keep {P : Program} {w : World} {ops : Array Oper} {rest : List Oper} {o : Oper} {a : Act} {Q : Exit → Act → World → Prop} (hgd : o.guard = none) (d s : Operand) (t : TypeId)
    (ho : o.op = .call { callee := .builtin .copy, args := #[d, s], argTypes := #[t, t] }) (hu : P.underlying t = some (.slice 5)) (hsz : (P.info? 5).map (·.size) = some 1)
    {g off dLen dCap : Nat} {e' : TypeId} {y : Value} {r : List UInt8} (hy : Bytes w e' y r) (hd : a.eval d = .slice (some ⟨g, off, none⟩) dLen dCap) (hs : a.eval s = y)
    {cur : List Value} {T : TypeId} (hg : w.heap[g]? = some (.cells cur.toArray T (0, 0))) (hfit : off + dLen ≤ cur.length)
    (h : ∀ w', Hid (w'.heap[g]? = some (.cells (splice cur off ((r.take dLen).map u8)).toArray T (0, 0))) → Keep (fun k => k = g) w w' → wpList P ops Q rest (a.put o.dst (goInt (r.take dLen).length)) w') :
    wpList P ops Q (o :: rest) a w := by
  obtain ⟨ao, cap, rfl, h1, h2⟩ := hy.form
  have hlen : ((r.take dLen).map u8).length = Nat.min r.length dLen := by rw [List.length_map, List.length_take]; exact Nat.min_comm _ _
  by_cases h0 : (r.take dLen).length = 0
  · have hnil : r.take dLen = [] := List.eq_nil_of_length_eq_zero h0
    refine wpList_copy_nothing hgd d s t t ho 5 hu hsz _ _ dLen dCap r.length cap hd hs (by rw [← hlen, List.length_map, h0]) ?_
    have := h w (show _ = _ by rw [hnil]; simpa [splice] using hg) (Keep.refl _ _)
    rw [h0] at this
    exact this
  · have hr : r.length ≠ 0 := fun e => h0 (by rw [List.length_take, e]; exact Nat.min_zero _)
    obtain ⟨g', o', rfl, hc⟩ := hy.cells hr
    have hle : (r.take dLen).length ≤ dLen := List.length_take_le _ _
    refine wpList_copy_own hgd d s t t ho 5 hu hsz g off dLen dCap ⟨g', o', none⟩ r.length cap hd hs cur.toArray T hg ((r.take dLen).map u8) hlen ?_ (by simp only [List.length_map, List.size_toArray]; omega) (bytes_one _) ?_
    · intro j u hu
      rw [List.getElem?_map] at hu
      have hj : j < (r.take dLen).length := by
        rcases Nat.lt_or_ge j (r.take dLen).length with h | h
        · exact h
        · rw [List.getElem?_eq_none h] at hu; cases hu
      have hj' : j < r.length := by rw [List.length_take] at hj; omega
      rw [Addr.add_mid]
      rw [List.getElem?_eq_getElem hj, List.getElem_take] at hu
      simp only [Option.map_some, Option.some.injEq] at hu
      subst hu
      exact hc j hj'
    · have hk : Keep (fun k => k = g) w (w.setRow g (cur.toArray.toList.take off ++ ((r.take dLen).map u8 ++ cur.toArray.toList.drop (off + ((r.take dLen).map u8).length))).toArray) :=
        ⟨rfl, rfl, rfl, by simp, fun k _ hk => setRow_other w g k _ hk⟩
      have := h _ (show _ = _ by simpa [splice] using setRow_heap w g _ _ T _ hg) hk
      rw [show ((r.take dLen).map u8).length = (r.take dLen).length from List.length_map ..]
      simpa [splice] using this

/-! ### slices whose blocks are none of M -/
/-- rows of bytes; none of their blocks is one of M -/
def Rows2N (M : Nat → Prop) (w : World) (e : TypeId) (v : Value) (ls : List (List UInt8)) : Prop :=
  ∃ us, us.length = ls.length ∧ Sl w e 1 v ls.length us ∧ (∀ g, homeOf v = some g → ¬ M g) ∧ ∀ i (h : i < ls.length) u, us[i]? = some u → (∃ e', Bytes w e' u ls[i]) ∧ ∀ g, homeOf u = some g → ¬ M g
theorem Rows2N.rows {M : Nat → Prop} {w : World} {e : TypeId} {v : Value} {ls : List (List UInt8)} (h : Rows2N M w e v ls) : Rows2 w e v ls :=
  let ⟨us, h1, h2, _, h4⟩ := h; ⟨us, h1, h2, fun i hi u hu => (h4 i hi u hu).1⟩
theorem Rows2N.keep {M : Nat → Prop} {w w' : World} {e : TypeId} {v : Value} {ls : List (List UInt8)} (h : Rows2N M w e v ls) (k : Keep M w w') : Rows2N M w' e v ls :=
  let ⟨us, h1, h2, h3, h4⟩ := h
  ⟨us, h1, h2.keep k h3, h3, fun i hi u hu => let ⟨⟨e', hb⟩, hn⟩ := h4 i hi u hu; ⟨⟨e', hb.keep k hn⟩, hn⟩⟩
theorem Rows2N.of_rows {M : Nat → Prop} {w w0 : World} {e : TypeId} {v : Value} {ls : List (List UInt8)} (h : Rows2 w0 e v ls) (S : Same w0 w) (hM : ∀ k, M k → w0.heap.size ≤ k) : Rows2N M w e v ls :=
  let ⟨us, h1, h2, h3⟩ := h
  ⟨us, h1, h2.same S, fun g hg hm => by have := h2.home_lt hg; have := hM g hm; omega, fun i hi u hu => let ⟨e', hb⟩ := h3 i hi u hu; ⟨⟨e', hb.same S⟩, fun g hg hm => by have := Sl.home_lt hb hg; have := hM g hm; omega⟩⟩

/-! ### the drive -/
/-- The pointer p is a drive that reads as D; all its blocks lie in F. -/
def IsDv (w : World) (p : Value) (F : Nat → Prop) (D : Dv) : Prop :=
  ∃ b cb kv n, p = .pointer (some ⟨b, 0, none⟩) ∧ Dc w b D.off D.fused D.left kv (.slice (some ⟨cb, 0, none⟩) D.C.length D.C.length) n ∧ Fz w b ∧
    w.heap[cb]? = some (.cells (flat D.C).toArray 143 (0, 0)) ∧ b ≠ cb ∧ F b ∧ F cb ∧ Ints w 3 kv D.keep ∧ (∀ g, homeOf kv = some g → F g ∧ g ≠ b ∧ g ≠ cb) ∧ D.Ok
theorem Dc.keep {w w' : World} {M : Nat → Prop} {b : Nat} {off fused : Bool} {left n : Int} {kv cv : Value} (h : Dc w b off fused left kv cv n) (S : Keep M w w') (hm : ¬ M b) : Dc w' b off fused left kv cv n := by
  obtain ⟨c0, c1, c2, c3, c4, c5⟩ := h
  have hb := cell_lt c0
  have e : ∀ o, w'.cell? ⟨b, o, none⟩ = w.cell? ⟨b, o, none⟩ := fun o => World.cell?_of_block (w := w) (a := ⟨b, o, none⟩) (S.block b hb hm)
  refine ⟨?_, ?_, ?_, ?_, ?_, ?_⟩
  all_goals (rw [e]; assumption)
theorem IsDv.keep {w w' : World} {p : Value} {F M : Nat → Prop} {D : Dv} (h : IsDv w p F D) (k : Keep M w w') (hd : ∀ i, F i → ¬ M i) : IsDv w' p F D := by
  obtain ⟨b, cb, kv, n, rfl, h1, h2, h3, h4, h5, h6, h7, h8, h9⟩ := h
  refine ⟨b, cb, kv, n, rfl, h1.keep k (hd b h5), h2.keep k (hd b h5), ?_, h4, h5, h6, Sl.keep h7 k fun g hg => hd g (h8 g hg).1, h8, h9⟩
  rw [k.block cb (Array.getElem?_eq_some_iff.1 h3).1 (hd cb h6)]
  exact h3
theorem IsDv.same {w w' : World} {p : Value} {F : Nat → Prop} {D : Dv} (h : IsDv w p F D) (k : Same w w') : IsDv w' p F D := h.keep k fun _ _ x => x
theorem IsDv.foot {w : World} {p : Value} {F F' : Nat → Prop} {D : Dv} (h : IsDv w p F D) (hF : ∀ i, i < w.heap.size → F i → F' i) : IsDv w p F' D := by
  obtain ⟨b, cb, kv, n, rfl, h1, h2, h3, h4, h5, h6, h7, h8, h9⟩ := h
  exact ⟨b, cb, kv, n, rfl, h1, h2, h3, h4, hF _ h2.1 h5, hF _ (Array.getElem?_eq_some_iff.1 h3).1 h6, h7, fun g hg => ⟨hF _ (Sl.home_lt h7 hg) (h8 g hg).1, (h8 g hg).2⟩, h9⟩
theorem IsDv.ok {w : World} {p : Value} {F : Nat → Prop} {D : Dv} (h : IsDv w p F D) : D.Ok := let ⟨_, _, _, _, _, _, _, _, _, _, _, _, _, h9⟩ := h; h9
end Go.Proofs.Ytlhnpicmjjddeaa
