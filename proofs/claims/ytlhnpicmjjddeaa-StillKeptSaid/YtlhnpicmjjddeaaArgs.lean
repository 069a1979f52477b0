/- What comes in: a slice of bytes that came in reads as bytes. -/
import Derived.Test.YtlhnpicmjjddeaaMem
import Derived.ProofKit
import Derived.OpenShut
namespace Go.Proofs.Ytlhnpicmjjddeaa
open Go.RowKit

/-- a slice of integers that came in: nil, or a row of 'cap' cells -/
def IsRow (k : IntKind) (w : World) (a : Option Addr) (len cap : Nat) (zs : List Int) : Prop :=
  (a = none ∧ len = 0 ∧ cap = 0 ∧ zs = []) ∨
  ∃ x, a = some x ∧ len ≤ cap ∧ cap ≤ maxLen ∧ zs.length = cap ∧ (∀ i, i < zs.length → w.cell? (x.add i) = some (.int k (zs.getD i 0))) ∧ ∀ n ∈ zs, (Lit.int k n).wf = true

theorem block_of_cell {w : World} {a : Addr} {u : Value} (h : w.cell? a = some u) : ∃ cur e fr, w.heap[a.block]? = some (.cells cur e fr) ∧ a.spot = none ∧ cur[a.off]? = some u := by
  unfold World.cell? at h
  split at h
  · rename_i c e fr hc
    split at h
    · cases h
    · rename_i hs
      exact ⟨c, e, fr, hc, by cases hh : a.spot <;> simp_all, h⟩
  · cases h

/-- cells behind an address, told as a row -/
theorem Sl.of_cells {w : World} (size : Nat) {a : Addr} {n cap : Nat} {xs : List Value} (hx : xs.length = n * size) (hs : 0 < size) (hn : n ≤ cap) (hm : cap ≤ maxLen)
    (hc : ∀ j u, xs[j]? = some u → w.cell? (a.add j) = some u) : ∃ e, Sl w e size (.slice (some a) n cap) n xs := by
  cases n with
  | zero => exact ⟨0, hx, some a, cap, rfl, hn, hm, (fun x => nomatch x), .inl rfl⟩
  | succ n =>
    have h0 : 0 < xs.length := by rw [hx]; exact Nat.mul_pos (by omega) hs
    have c0 := hc 0 xs[0] (List.getElem?_eq_getElem h0)
    have ha : a.add 0 = a := by simp [Addr.add]
    rw [ha] at c0
    obtain ⟨cur, e, fr, hb, hsp, _⟩ := block_of_cell c0
    obtain ⟨b, o, sp⟩ := a
    simp only at hsp hb
    subst hsp
    refine ⟨e, hx, _, cap, rfl, hn, hm, (fun x => nomatch x), .inr ⟨b, o, cur, fr, rfl, hb, ?_⟩⟩
    refine List.prefix_iff_getElem?.2 fun i hi => ?_
    have ci := hc i _ (List.getElem?_eq_getElem hi)
    have hadd : (⟨b, o, none⟩ : Addr).add i = ⟨b, o + i, none⟩ := by unfold Addr.add; split <;> simp_all
    rw [hadd, cell_of_row w b (o + i) cur e fr hb] at ci
    rw [List.getElem?_drop, Array.getElem?_toList, ci]

theorem u8_of_wf {n : Int} (h : (Lit.int .u8 n).wf = true) : 0 ≤ n ∧ n < 256 := by
  have : 0 ≤ n ∧ n ≤ 255 := by simpa [Lit.wf, IntKind.min, IntKind.max, IntKind.signed, IntKind.bits] using h
  omega

theorem u32_of_wf {n : Int} (h : (Lit.int .u32 n).wf = true) : 0 ≤ n ∧ n < 4294967296 := by
  have : 0 ≤ n ∧ n ≤ 4294967295 := by simpa [Lit.wf, IntKind.min, IntKind.max, IntKind.signed, IntKind.bits] using h
  omega
theorem i64_of_wf {n : Int} (h : (Lit.int .i64 n).wf = true) : -9223372036854775808 ≤ n ∧ n ≤ 9223372036854775807 := by
  simpa [Lit.wf, IntKind.min, IntKind.max, IntKind.signed, IntKind.bits] using h

theorem Bytes.of_row {w : World} {a : Option Addr} {len cap : Nat} {zs : List Int} (h : IsRow .u8 w a len cap zs) : ∃ e l, Bytes w e (.slice a len cap) l := by
  rcases h with ⟨rfl, rfl, rfl, rfl⟩ | ⟨x, rfl, h1, h2, h3, h4, h5⟩
  · exact ⟨0, [], Bytes.nil w 0⟩
  · have hl : ((zs.take len).map fun z => UInt8.ofNat z.toNat).length = len := by simp; omega
    have key : ∀ j u, (((zs.take len).map fun z => UInt8.ofNat z.toNat).map u8)[j]? = some u → w.cell? (x.add j) = some u := by
      intro j u hu
      have hj : j < len := by
        have := (List.getElem?_eq_some_iff.1 hu).1
        simpa [hl] using Nat.lt_of_lt_of_le this (by simp; omega)
      have hz : j < zs.length := by omega
      rw [h4 j hz]
      simp [hz, hj] at hu
      subst hu
      have hw := u8_of_wf (h5 zs[j] (List.getElem_mem hz))
      simp only [u8, List.getD_eq_getElem?_getD, List.getElem?_eq_getElem hz, Option.getD_some]
      congr 2
      simp
      omega
    obtain ⟨e, he⟩ := Sl.of_cells (w := w) 1 (a := x) (n := len) (cap := cap) (xs := (((zs.take len).map fun z => UInt8.ofNat z.toNat).map u8)) (by rw [List.length_map, hl]; omega) (by omega) h1 h2 key
    refine ⟨e, (zs.take len).map fun z => UInt8.ofNat z.toNat, ?_⟩
    unfold Bytes
    rw [hl]
    exact he
end Go.Proofs.Ytlhnpicmjjddeaa
