/- GIVE: give-ups in memory: eleven numbers each. -/
import Derived.Test.YtijdjpmceclmhaaRows
import Derived.Test.YtijdjpmceclmhaaMem
namespace Go.Proofs.Ytijdjpmceclmhaa
open Go.RowKit

structure Gv where
  id : Int
  fa : Int
  fc : Int
  ta : Int
  tc : Int
  inst : Int
  qty : Int
  price : Int
  group : Int
  day : Int
  state : Int

def i64 (n : Int) : Value := .int .i64 n
def Gv.cells (g : Gv) : List Value := [i64 g.id, i64 g.fa, i64 g.fc, i64 g.ta, i64 g.tc, i64 g.inst, i64 g.qty, i64 g.price, i64 g.group, i64 g.day, i64 g.state]

theorem flat_at {α : Type} (f : α → List Value) (s : Nat) (hf : ∀ x, (f x).length = s) : ∀ (L : List α) (k j : Nat) (hk : k < L.length), j < s → (L.flatMap f)[k * s + j]? = (f L[k])[j]?
  | [], k, j, hk, _ => absurd hk (Nat.not_lt_zero k)
  | x :: L, 0, j, _, hj => by
    rw [List.flatMap_cons, List.getElem?_append_left (by rw [hf]; omega)]
    simp
  | x :: L, k + 1, j, hk, hj => by
    rw [List.flatMap_cons, List.getElem?_append_right (by rw [hf, Nat.succ_mul]; omega), hf]
    rw [show (k + 1) * s + j - s = k * s + j from by rw [Nat.succ_mul]; omega]
    exact flat_at f s hf L k j (by simpa using hk) hj

/-- The slice value v reads as these give-ups; nil, where there are none. -/
def Gs (w : World) (v : Value) (L : List Gv) : Prop := Sl w 29 11 v L.length (L.flatMap Gv.cells) ∧ (L = [] → v = .slice none 0 0)
theorem Gs.form {w : World} {v : Value} {L : List Gv} (h : Gs w v L) : ∃ ao cap, v = .slice ao L.length cap ∧ L.length ≤ cap ∧ cap ≤ maxLen := Sl.form h.1
theorem Gs.nil (w : World) : Gs w (.slice none 0 0) [] := ⟨Sl.nil w 29 11, fun _ => rfl⟩
theorem Gs.same {w w' : World} {v : Value} {L : List Gv} (h : Gs w v L) (k : Same w w') : Gs w' v L := ⟨Sl.same h.1 k, h.2⟩
theorem Gs.at {w : World} {ao : Option Addr} {cap : Nat} {L : List Gv} (h : Gs w (.slice ao L.length cap) L) (hn : L.length ≠ 0) :
    ∃ g o, ao = some ⟨g, o, none⟩ ∧ ∀ k (hk : k < L.length) j u, (Gv.cells L[k])[j]? = some u → w.cell? ⟨g, o + (k * 11 + j), none⟩ = some u := by
  obtain ⟨g, o, h1, h2⟩ := Sl.cells h.1 hn
  refine ⟨g, o, h1, fun k hk j u hu => h2 _ u ?_⟩
  have hj : j < 11 := by
    have := (List.getElem?_eq_some_iff.1 hu).1
    simpa [Gv.cells] using this
  rw [flat_at Gv.cells 11 (fun _ => rfl) L k j hk hj]
  exact hu

/-- the eleven cells of one give-up -/
def Cells11 (w : World) (g b : Nat) (x : Gv) : Prop :=
  w.cell? ⟨g, b, none⟩ = some (.int .i64 x.id) ∧ w.cell? ⟨g, b + 1, none⟩ = some (.int .i64 x.fa) ∧ w.cell? ⟨g, b + 2, none⟩ = some (.int .i64 x.fc) ∧ w.cell? ⟨g, b + 3, none⟩ = some (.int .i64 x.ta) ∧
  w.cell? ⟨g, b + 4, none⟩ = some (.int .i64 x.tc) ∧ w.cell? ⟨g, b + 5, none⟩ = some (.int .i64 x.inst) ∧ w.cell? ⟨g, b + 6, none⟩ = some (.int .i64 x.qty) ∧ w.cell? ⟨g, b + 7, none⟩ = some (.int .i64 x.price) ∧
  w.cell? ⟨g, b + 8, none⟩ = some (.int .i64 x.group) ∧ w.cell? ⟨g, b + 9, none⟩ = some (.int .i64 x.day) ∧ w.cell? ⟨g, b + 10, none⟩ = some (.int .i64 x.state)
theorem Gs.row {w : World} {ao : Option Addr} {cap : Nat} {L : List Gv} (h : Gs w (.slice ao L.length cap) L) (k : Nat) (hk : k < L.length) :
    ∃ g o, ao = some ⟨g, o, none⟩ ∧ Cells11 w g (o + k * 11) L[k] := by
  obtain ⟨g, o, h1, h2⟩ := h.at (by omega)
  have c := fun j u hu => h2 k hk j u hu
  refine ⟨g, o, h1, c 0 _ rfl, ?_, ?_, ?_, ?_, ?_, ?_, ?_, ?_, ?_, ?_⟩
  · rw [Nat.add_assoc]; exact c 1 _ rfl
  · rw [Nat.add_assoc]; exact c 2 _ rfl
  · rw [Nat.add_assoc]; exact c 3 _ rfl
  · rw [Nat.add_assoc]; exact c 4 _ rfl
  · rw [Nat.add_assoc]; exact c 5 _ rfl
  · rw [Nat.add_assoc]; exact c 6 _ rfl
  · rw [Nat.add_assoc]; exact c 7 _ rfl
  · rw [Nat.add_assoc]; exact c 8 _ rfl
  · rw [Nat.add_assoc]; exact c 9 _ rfl
  · rw [Nat.add_assoc]; exact c 10 _ rfl
/-- a give-up by value -/
def Gv.agg (g : Gv) : Value := .agg #[.int .i64 g.id, .int .i64 g.fa, .int .i64 g.fc, .int .i64 g.ta, .int .i64 g.tc, .int .i64 g.inst, .int .i64 g.qty, .int .i64 g.price, .int .i64 g.group, .int .i64 g.day, .int .i64 g.state]

/-- where the first of a number is (as long as the list, if there is none) -/
def fnd (L : List Gv) (id : Int) : Nat := L.findIdx (fun g => g.id == id)
theorem fnd_le (L : List Gv) (id : Int) : fnd L id ≤ L.length := List.findIdx_le_length
theorem fnd_hit {L : List Gv} {id : Int} {k : Nat} (hk : k < L.length) (h : k ≤ fnd L id) (hp : (L[k].id == id) = true) : fnd L id = k := by
  rcases Nat.lt_or_ge k (fnd L id) with hlt | hge
  · have h2 := List.not_of_lt_findIdx (p := fun g : Gv => g.id == id) hlt
    simp_all
  · omega
theorem fnd_miss {L : List Gv} {id : Int} {k : Nat} (hk : k < L.length) (h : k ≤ fnd L id) (hp : (L[k].id == id) = false) : k + 1 ≤ fnd L id := by
  rcases Nat.lt_or_ge k (fnd L id) with hlt | hge
  · exact hlt
  · have e : fnd L id = k := by omega
    have hl : fnd L id < L.length := by omega
    have := List.findIdx_getElem (p := fun g : Gv => g.id == id) (w := hl)
    have e2 : L[fnd L id]'hl = L[k] := by congr 1
    unfold fnd at e2 hl
    simp only [e2] at this
    rw [hp] at this
    cases this
def fndI (L : List Gv) (id : Int) : Int := if fnd L id < L.length then (fnd L id : Int) else -1

set_option maxHeartbeats 400000 in
theorem atIs (w : World) (x : Gv) (b : Nat) (id : Int) (hb : w.cell? ⟨b, 0, none⟩ = some (.int .i64 id)) :
    Calls Try.prog 25 #[x.agg, .pointer (some ⟨b, 0, none⟩)] w (RetSame (.bool (x.id == id)) w) := by
  have hlt := World.block_lt_of_cell? w _ hb
  unfold Gv.agg
  go_enter Try.func25, Try.ntmps25
  go_wp2_with fail
  go_ret
  exact ⟨rfl, (Same.refl w).alloc _⟩

set_option maxHeartbeats 800000 in
theorem indexIs (w : World) (v : Value) (L : List Gv) (b : Nat) (id : Int) (hL : Gs w v L) (hb : w.cell? ⟨b, 0, none⟩ = some (.int .i64 id)) :
    Calls Try.prog 24 #[v, .func (.func 25) #[] #[.pointer (some ⟨b, 0, none⟩)]] w (RetSame (.int .i64 (fndI L id)) w) := by
  obtain ⟨ao, cap, rfl, h1, h2⟩ := hL.form
  unfold maxLen at h2
  have hlt0 := World.block_lt_of_cell? w _ hb
  have HB := hid hb; clear hb
  go_enter Try.func24, Try.ntmps24
  go_wp2_with fail
  go_loopw [8] (fun i wr => ∃ k : Nat, k ≤ L.length ∧ i = .int .i64 k ∧ k ≤ fnd L id ∧ Same w wr) (fun i _ => L.length - (intOf i).toNat)
  case atStart => exact ⟨0, Nat.zero_le _, rfl, Nat.zero_le _, Same.refl w⟩
  case round =>
    obtain ⟨k, hk, rfl, hf, S⟩ := hrel
    by_cases hlt : k < L.length
    · obtain ⟨g, o, rfl, c0, c1, c2, c3, c4, c5, c6, c7, c8, c9, c10⟩ := (hL.same S).row k hlt
      have HF := hid hf; clear hf
      have hb : wr.cell? ⟨b, 0, none⟩ = some (.int .i64 id) := (S.cell hlt0).trans HB.out
      have HA := hid (atIs wr L[k] b id hb)
      have HM := fun h => hid (fnd_miss hlt HF.out h)
      have HH := fun h => hid (fnd_hit hlt HF.out h)
      unfold Gv.agg at HA
      generalize L[k] = x at *
      clear hb
      go_wp2_with fail
      refine HA.out.mono ?_
      rintro en w1 ⟨rfl, S1⟩
      have S2 := S.trans S1
      cases hp : x.id == id
      · have HP := hid (HM hp).out
        clear HM HH hp
        go_wp2_with fail
        go_roundw
        case rel => exact ⟨k + 1, by omega, by go_num, HP.out, S2⟩
        case measure => simp [intOf]; omega
      · have HP := hid (HH hp).out
        clear HM HH hp
        go_wp2_with fail
        go_ret
        refine ⟨?_, S2⟩
        unfold fndI
        rw [HP.out, if_pos hlt]
        rfl
    · have : fndI L id = -1 := by
        have := fnd_le L id
        unfold fndI; rw [if_neg (by omega)]
      have HE := hid this; clear this
      go_wp2_with fail
      go_ret
      rw [HE.out]
      exact ⟨rfl, S⟩

set_option maxHeartbeats 400000 in
theorem giveAt (w : World) (v : Value) (L : List Gv) (id : Int) (hL : Gs w v L) :
    Calls Try.prog 19 #[v, .int .i64 id] w (RetSame (.int .i64 (fndI L id)) w) := by
  have HI := hid (indexIs (w.alloc (.cells #[.int .i64 id] 3)) v L w.heap.size id (hL.same ((Same.refl w).alloc _)) (by simp))
  go_enter Try.func19, Try.ntmps19
  go_wp2_with fail
  refine HI.out.mono ?_
  rintro en w1 ⟨rfl, S1⟩
  go_wp2_with fail
  go_ret
  exact ⟨rfl, ((Same.refl w).alloc _).trans S1⟩
end Go.Proofs.Ytijdjpmceclmhaa
