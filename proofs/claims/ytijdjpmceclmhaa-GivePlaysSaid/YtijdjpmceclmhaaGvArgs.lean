/- GIVE: a slice of steps that came in. -/
import Derived.Test.YtijdjpmceclmhaaGv6
import Derived.ProofKit
import Derived.OpenShut
import Derived.Deep.Slices
namespace Go.Proofs.Ytijdjpmceclmhaa
open Go.RowKit Go.Deep

/-- all that this type holds is numbers of 64 bits -/
def leafInt (P : Program) : Nat → TypeId → Bool
  | 0, _ => false
  | n + 1, t => match P.underlying t with
    | some (.int .i64) => true
    | some (.struct fs) => fs.all (fun f => leafInt P n f.type) && (List.range (P.cellsOf t)).all fun j => fs.any fun f => decide (f.offset ≤ j) && decide (j < f.offset + P.cellsOf f.type)
    | _ => false

theorem leafInt_cells {H : Type} {enc : TypeId × Value → H} {P : Program} {w : World} {base : Nat} {spare : Nat → Bool} {held : Bool} :
    ∀ (n : Nat) (t : TypeId) (fuel : Nat) (cs : List Value) (x : DataW H × List MemPlace), leafInt P n t = true → DataW.trod enc P w base spare held fuel t cs = some x → ∀ c ∈ cs, ∃ k, c = .int .i64 k
  | 0, _, _, _, _, h, _ => by cases h
  | n + 1, t, fuel, cs, x, h, ht => by
    unfold leafInt at h
    split at h
    · rename_i hu
      obtain ⟨a, e0, _⟩ := DataW.trod_int hu ht
      intro c hc
      rw [e0] at hc
      exact ⟨a, by simpa using hc⟩
    · rename_i fs hu
      obtain ⟨xs, m, _, _, hl, hx, hf⟩ := DataW.trod_struct hu ht
      simp only [Bool.and_eq_true, Array.all_eq_true_iff_forall_mem, List.all_eq_true, List.mem_range, Array.any_eq_true, decide_eq_true_eq] at h
      intro c hc
      obtain ⟨j, hj, rfl⟩ := List.mem_iff_getElem.1 hc
      obtain ⟨i, hi, h1, h2⟩ := h.2 j (by omega)
      have hfi := hf i fs[i] (Array.getElem?_eq_getElem hi)
      rw [List.getElem?_eq_getElem (by omega)] at hfi
      refine leafInt_cells n _ _ _ _ (h.1 fs[i] (Array.getElem_mem hi)) hfi _ ?_
      refine List.mem_iff_getElem.2 ⟨j - fs[i].offset, by simp; omega, ?_⟩
      simp only [List.getElem_take, List.getElem_drop]
      congr 1
      omega
    · cases h
theorem addr_add_add (a : Addr) (m n : Nat) : (a.add m).add n = a.add (m + n) := by
  unfold Addr.add
  by_cases hm : m = 0
  · subst hm; simp
  · by_cases hn : n = 0
    · subst hn; simp [hm]
    · simp [hm, hn, Nat.add_assoc]

theorem cells_get {w : World} {base : Nat} {a : Addr} {n : Nat} {cs : List Value} (h : w.cells? base a n = some cs) : cs.length = n ∧ ∀ j u, cs[j]? = some u → w.cell? (a.add j) = some u := by
  unfold World.cells? at h
  split at h
  · have hl := mapM_some_length h
    simp only [List.length_range] at hl
    refine ⟨hl, fun j u hu => ?_⟩
    have hj : j < n := by
      have := (List.getElem?_eq_some_iff.1 hu).1
      omega
    have := mapM_some_get h j j (by simp [hj])
    rw [this, hu]
  · cases h

theorem dv_of_ints (cs : List Value) (hl : cs.length = 15) (hi : ∀ c ∈ cs, ∃ k, c = .int .i64 k) : ∃ d : Dv, cs = d.cells := by
  match cs, hl with
  | [a0, a1, a2, a3, a4, a5, a6, a7, a8, a9, a10, a11, a12, a13, a14], _ =>
    obtain ⟨k0, rfl⟩ := hi a0 (by simp)
    obtain ⟨k1, rfl⟩ := hi a1 (by simp)
    obtain ⟨k2, rfl⟩ := hi a2 (by simp)
    obtain ⟨k3, rfl⟩ := hi a3 (by simp)
    obtain ⟨k4, rfl⟩ := hi a4 (by simp)
    obtain ⟨k5, rfl⟩ := hi a5 (by simp)
    obtain ⟨k6, rfl⟩ := hi a6 (by simp)
    obtain ⟨k7, rfl⟩ := hi a7 (by simp)
    obtain ⟨k8, rfl⟩ := hi a8 (by simp)
    obtain ⟨k9, rfl⟩ := hi a9 (by simp)
    obtain ⟨k10, rfl⟩ := hi a10 (by simp)
    obtain ⟨k11, rfl⟩ := hi a11 (by simp)
    obtain ⟨k12, rfl⟩ := hi a12 (by simp)
    obtain ⟨k13, rfl⟩ := hi a13 (by simp)
    obtain ⟨k14, rfl⟩ := hi a14 (by simp)
    exact ⟨⟨k0, k1, k2, k3, ⟨k4, k5, k6, k7, k8, k9, k10, k11, k12, k13, k14⟩⟩, rfl⟩

theorem list_of_lt {α : Type} (n : Nat) (R : Nat → α → Prop) (h : ∀ i, i < n → ∃ x, R i x) : ∃ L : List α, L.length = n ∧ ∀ i (hi : i < L.length), R i L[i] := by
  induction n with
  | zero => exact ⟨[], rfl, fun i hi => absurd hi (Nat.not_lt_zero i)⟩
  | succ n ih =>
    obtain ⟨L, hl, hL⟩ := ih fun i hi => h i (by omega)
    obtain ⟨x, hx⟩ := h n (by omega)
    refine ⟨L ++ [x], by simp [hl], fun i hi => ?_⟩
    by_cases hlt : i < L.length
    · rw [List.getElem_append_left hlt]; exact hL i hlt
    · have : i = n := by simp at hi; omega
      subst this
      rw [List.getElem_append_right (by omega)]
      simpa using hx

theorem block_of_cell {w : World} {a : Addr} {u : Value} (h : w.cell? a = some u) : ∃ cur e fr, w.heap[a.block]? = some (.cells cur e fr) ∧ a.spot = none ∧ cur[a.off]? = some u := by
  unfold World.cell? at h
  split at h
  · rename_i c e fr hc
    split at h
    · cases h
    · rename_i hs
      exact ⟨c, e, fr, hc, by cases hh : a.spot <;> simp_all, h⟩
  · cases h
/-- cells behind an address, told as a row -/
theorem Sl.of_cells {w : World} (size : Nat) {a : Addr} {n cap : Nat} {xs : List Value} (hx : xs.length = n * size) (hs : 0 < size) (hn : n ≤ cap) (hm : cap ≤ maxLen)
    (hc : ∀ j u, xs[j]? = some u → w.cell? (a.add j) = some u) : ∃ e, Sl w e size (.slice (some a) n cap) n xs := by
  cases n with
  | zero => exact ⟨0, hx, some a, cap, rfl, hn, hm, (fun x => nomatch x), .inl rfl⟩
  | succ n =>
    have h0 : 0 < xs.length := by rw [hx]; exact Nat.mul_pos (by omega) hs
    have c0 := hc 0 xs[0] (List.getElem?_eq_getElem h0)
    have ha : a.add 0 = a := by simp [Addr.add]
    rw [ha] at c0
    obtain ⟨cur, e, fr, hb, hsp, _⟩ := block_of_cell c0
    obtain ⟨b, o, sp⟩ := a
    simp only at hsp hb
    subst hsp
    refine ⟨e, hx, _, cap, rfl, hn, hm, (fun x => nomatch x), .inr ⟨b, o, cur, fr, rfl, hb, ?_⟩⟩
    refine List.prefix_iff_getElem?.2 fun i hi => ?_
    have ci := hc i _ (List.getElem?_eq_getElem hi)
    have hadd : (⟨b, o, none⟩ : Addr).add i = ⟨b, o + i, none⟩ := by unfold Addr.add; split <;> simp_all
    rw [hadd, cell_of_row w b (o + i) cur e fr hb] at ci
    rw [List.getElem?_drop, Array.getElem?_toList, ci]

theorem flat_get {α : Type} (f : α → List Value) (s : Nat) (hs : 0 < s) (hf : ∀ x, (f x).length = s) (L : List α) (j : Nat) (u : Value) (h : (L.flatMap f)[j]? = some u) :
    ∃ (k : Nat) (hk : k < L.length), (f L[k])[j % s]? = some u ∧ j = k * s + j % s ∧ k = j / s := by
  have hlen : (L.flatMap f).length = L.length * s := by
    clear h
    induction L with
    | nil => simp
    | cons x L ih => simp only [List.flatMap_cons, List.length_append, hf, ih, List.length_cons, Nat.succ_mul]; omega
  have hj : j < L.length * s := by rw [← hlen]; exact (List.getElem?_eq_some_iff.1 h).1
  have hk : j / s < L.length := Nat.div_lt_of_lt_mul (by rw [Nat.mul_comm]; exact hj)
  have hd : j = j / s * s + j % s := by have := Nat.div_add_mod j s; rw [Nat.mul_comm] at this; exact this.symm
  refine ⟨j / s, hk, ?_, hd, rfl⟩
  rw [← flat_at f s hf L (j / s) (j % s) hk (Nat.mod_lt _ hs), ← hd]
  exact h

theorem cellsDo : Try.prog.cellsOf 31 = 15 := by kernel_rfl
theorem leafDo : leafInt Try.prog 4 31 = true := by kernel_rfl
theorem open_Ds {H : Type} {enc : TypeId × Value → H} {w : World} {base : Nat} {spare : Nat → Bool} {held : Bool} {fuel : Nat} {a1 : Option Addr} {len1 cap1 : Nat} {x : DataW H × List MemPlace}
    (h : DataW.trod enc Try.prog w base spare held fuel 22 (Value.cells (.slice a1 len1 cap1)).toList = some x) : ∃ e L, Ds w e (.slice a1 len1 cap1) L := by
  rcases open_slice Try.underlying22 h with ⟨hcs, _⟩ | ⟨a, len, cap, m, n, D, Pl, hcs, hb, hl, hm, hmm, _, hel⟩
  · simp [Value.cells] at hcs
    obtain ⟨rfl, rfl, rfl⟩ := hcs
    exact ⟨0, [], Sl.nil w 0 15⟩
  · simp [Value.cells] at hcs
    obtain ⟨rfl, rfl, rfl⟩ := hcs
    have hlm : len1 ≤ m := by rw [hmm]; split <;> omega
    obtain ⟨L, hL, hR⟩ := list_of_lt len1 (fun i (d : Dv) => ∀ j u, d.cells[j]? = some u → w.cell? (a.add (i * 15 + j)) = some u) fun i hi => by
      obtain ⟨cs', hc, ht⟩ := hel i (by omega)
      rw [cellsDo] at hc
      obtain ⟨h15, hg⟩ := cells_get hc
      obtain ⟨d, rfl⟩ := dv_of_ints cs' h15 (leafInt_cells 4 31 _ _ _ leafDo ht)
      exact ⟨d, fun j u hu => by rw [← addr_add_add]; exact hg j u hu⟩
    have hxl : (L.flatMap Dv.cells).length = L.length * 15 := by
      clear hR hL
      induction L with
      | nil => simp
      | cons x L ih => rw [List.flatMap_cons, List.length_append, ih]; simp [Dv.cells, Gv.cells]; omega
    obtain ⟨e, he⟩ := Sl.of_cells (w := w) 15 (a := a) (n := L.length) (cap := cap1) (xs := L.flatMap Dv.cells) hxl (by decide) (by omega) hm fun j u hu => by
      obtain ⟨k, hk, h1, h2, _⟩ := flat_get Dv.cells 15 (by decide) (fun _ => rfl) L j u hu
      rw [h2]
      exact hR k hk _ u h1
    rw [← hL]
    exact ⟨e, L, he⟩
end Go.Proofs.Ytijdjpmceclmhaa
