/- STILL: frames. -/
import Derived.Test.YtlhnpicmjjddeaaStPure
import Derived.Test.YtlhnpicmjjddeaaFw7
import Derived.Deep.RegionHeld3
import Derived.Deep.RegionLaw
namespace Go.Proofs.Ytlhnpicmjjddeaa
open Go.RowKit

def Good (D : Dv) (at_ most : Int) (m : Nat) : Prop := 1 ≤ m ∧ (m : Int) ≤ most ∧ ∀ i : Nat, i < m → (decF (D.sector (at_ + i))).right = true ∧ (decF (D.sector (at_ + i))).parts = m
/-- k frames are read; the last one says that there are P -/
def Rd (D : Dv) (at_ most : Int) (k : Nat) (P : Int) : Prop :=
  (∀ i : Nat, i < k → (decF (D.sector (at_ + i))).right = true ∧ (decF (D.sector (at_ + i))).parts ≤ most) ∧ (k : Int) ≤ P ∧ P ≤ 255 ∧
  ((k = 0 ∧ P = 1) ∨ (1 ≤ k ∧ P = (decF (D.sector (at_ + ((k - 1 : Nat) : Int)))).parts)) ∧ ∀ m, Good D at_ most m → k ≤ m
theorem Rd.zero (D : Dv) (at_ most : Int) : Rd D at_ most 0 1 := ⟨fun i hi => absurd hi (Nat.not_lt_zero i), by omega, by omega, .inl ⟨rfl, rfl⟩, fun m _ => Nat.zero_le m⟩
theorem Rd.lt {D : Dv} {at_ most : Int} {k : Nat} {P : Int} (h : Rd D at_ most k P) (hk : (k : Int) < P) {m : Nat} (g : Good D at_ most m) : k < m := by
  obtain ⟨h1, h2, h3, h4, h5⟩ := h
  have hm := h5 m g
  rcases Nat.lt_or_ge k m with h | h
  · exact h
  · exfalso
    obtain rfl : k = m := by omega
    have g1 := g.1
    rcases h4 with ⟨h4, _⟩ | ⟨h4, h6⟩
    · omega
    · have := (g.2.2 (k - 1) (by omega)).2
      omega
theorem read_zero {D : Dv} {at_ most : Int} (h : ∀ m, ¬ Good D at_ most m) : Read D at_ most 0 :=
  ⟨fun i hi => absurd hi (Nat.not_lt_zero i), fun m h1 h2 h3 => absurd ⟨h1, h2, h3⟩ (h m)⟩
theorem Rd.fail {D : Dv} {at_ most : Int} {k : Nat} {P : Int} (h : Rd D at_ most k P) (hk : (k : Int) < P) (hf : ¬ ((decF (D.sector (at_ + k))).right = true ∧ (decF (D.sector (at_ + k))).parts ≤ most)) : Read D at_ most 0 :=
  read_zero fun m g => hf (by
    have := g.2.2 k (h.lt hk g)
    exact ⟨this.1, by rw [this.2]; exact g.2.1⟩)
theorem Rd.short {D : Dv} {at_ most : Int} {k : Nat} {P : Int} (h : Rd D at_ most k P) (hk : (k : Int) < P) (hf : (decF (D.sector (at_ + k))).parts < (k : Int) + 1) : Read D at_ most 0 :=
  read_zero fun m g => by
    have h1 := h.lt hk g
    have := (g.2.2 k h1).2
    omega
theorem Rd.next {D : Dv} {at_ most : Int} {k : Nat} {P : Int} (h : Rd D at_ most k P) (hk : (k : Int) < P) (hr : (decF (D.sector (at_ + k))).right = true) (hm : (decF (D.sector (at_ + k))).parts ≤ most) (hf : ¬ (decF (D.sector (at_ + k))).parts < (k : Int) + 1) :
    Rd D at_ most (k + 1) (decF (D.sector (at_ + k))).parts := by
  refine ⟨fun i hi => ?_, by omega, (right_parts hr).2.1, .inr ⟨by omega, by rw [show k + 1 - 1 = k from by omega]⟩, fun m g => h.lt hk g⟩
  rcases Nat.lt_or_ge i k with h1 | h1
  · exact h.1 i h1
  · obtain rfl : i = k := by omega
    exact ⟨hr, hm⟩
theorem Rd.done {D : Dv} {at_ most : Int} {k : Nat} {P : Int} (h : Rd D at_ most k P) (hk : ¬ (k : Int) < P) : Read D at_ most k := by
  obtain ⟨h1, h2, h3, h4, h5⟩ := h
  refine ⟨h1, fun m g1 g2 g3 => ?_⟩
  have hm := h5 m ⟨g1, g2, g3⟩
  rcases h4 with ⟨rfl, h4⟩ | ⟨h4, h6⟩
  · omega
  · have := (g3 (k - 1) (by omega)).2
    omega

/-- append of one frame, as a step of a region that draws its order -/
theorem step_append_frame {P : Program} {w : World} {ops : Array Oper} {o : Oper} {a : Act} {K : Act → World → Prop} {Q : Exit → Act → World → Prop} {E : Prop} (hgd : o.guard = none) (s x : Operand)
    (t : TypeId) (T : RowTy P t 60 6 64 (.agg #[.int .i64 0, .int .i64 0, .int .i64 0, .int .i64 0, .int .i64 0, .slice none 0 0])) (ho : o.op = .call { callee := .builtin .append, args := #[s, x], argTypes := #[t, t] })
    {base : Nat} {v : Value} {L : List Fr} (hown : OwnF w base v L) {f : Fr} {u : Value} {e' : TypeId} {y : Value} (hy : Sl w e' 6 y 1 (FV.cells (f, u))) (hu : Bytes w 5 u f.data) (hs : a.eval s = v) (hx : a.eval x = y)
    (hb : L.length ≤ 1000000) (hbase : base ≤ w.heap.size)
    (h : ∀ v' w', OwnF w' base v' (L ++ [f]) → Keep (fun k => v.ownBlock = some k) w w' → K (a.put o.dst v') w') :
    if Region.wanted o (yielded ops a.tmps) = true then Oper.wp P o a w K Q else E := by
  have hw : Region.wanted o (yielded ops a.tmps) = true := by simp [Region.wanted, hgd]
  rw [if_pos hw]
  obtain ⟨P0, h1, h2, h3⟩ := id hown
  have hone : ∀ z ∈ FV.cells (f, u), z.oneCell' = true := by
    intro z hz
    simp [FV.cells] at hz
    rcases hz with rfl | rfl | rfl | rfl | rfl | rfl
    · rfl
    · rfl
    · rfl
    · rfl
    · rfl
    · exact hu.one
  obtain ⟨v', w', hr, q1, q2⟩ := run_append_sl (P := P) w T o.type h2 hy hone (by unfold maxLen; omega) (by omega) hbase
  have K' : Keep (fun k => v.ownBlock = some k) w w' := (Keep.refl _ w).grown q2 fun k e => .inl e
  have keepB : ∀ {u0 : Value} {l0 : List UInt8}, Bytes w 5 u0 l0 → Bytes w' 5 u0 l0 := fun {u0 l0} hb => hb.keep K' fun g hg hm => by
    obtain ⟨c1, f1, e1⟩ := bytes_block hb hg
    obtain ⟨c2, e2⟩ := owns_block h2 hm
    rw [e1] at e2
    simp at e2
  have hfin := h v' w' ⟨P0 ++ [(f, u)], by simp [h1], by rw [List.length_append, List.flatMap_append]; simpa using q1, fun p hp => by
    rcases List.mem_append.1 hp with hp | hp
    · exact keepB (h3 p hp)
    · simp at hp
      subst hp
      exact keepB hu⟩ K'
  unfold Oper.wp execOp
  simp only [ho, resolve, invoke, builtin, Sem.run_bind, Sem.run_pure, Result.andThen_ok, List.map_toArray, List.map_cons, List.map_nil, hs, hx, hr]
  exact hfin

def RetFrames (D : Dv) (at_ most : Int) (w : World) (en : Ending) (w' : World) : Prop := ∃ v n, en = .returned v ∧ OwnF w' w.heap.size v (D.frs at_ n) ∧ Same w w' ∧ Read D at_ most n ∧ n ≤ 255
set_option maxHeartbeats 6400000 in
set_option maxRecDepth 100000 in
theorem sFrames (w : World) (p : Value) (F : Nat → Prop) (D : Dv) (at_ most : Int) (hD : IsDv w p F D) (ha : 0 ≤ at_ ∧ at_ ≤ 10000) : Calls Try.prog 120 #[p, .int .i64 at_, .int .i64 most] w (RetFrames D at_ most w) := by
  have HD := hid hD
  have HRd := hid (fun w' (S : Same w w') (i : Int) => dReadD w' p F D i (hD.same S))
  have HDe := hid fDecode
  have h96 : Hid (∀ i : Int, (D.sector i).length ≤ 900000) := by
    intro i
    unfold Dv.sector
    split
    · rw [List.getD_eq_getElem?_getD]
      cases h : D.C[i.toNat]? with
      | none => simp
      | some c =>
        have := hD.ok.2.2.1 c (List.mem_of_getElem? h)
        simp
        omega
    · simp
  obtain ⟨b, hp⟩ : ∃ b, p = .pointer (some ⟨b, 0, none⟩) := by obtain ⟨b, _, _, _, e, _⟩ := hD; exact ⟨b, e⟩
  subst hp
  clear hD
  go_enter Try.func120, Try.ntmps120
  go_wp2_with fail
  go_loopw [7, 8] (fun l q wr => ∃ (k : Nat) (P : Int), q = .int .i64 P ∧ OwnF wr w.heap.size l (D.frs at_ k) ∧ Same w wr ∧ Rd D at_ most k P) (fun l _ _ => match l with | .slice _ n _ => 300 - n | _ => 0)
  case atStart => exact ⟨0, 1, rfl, OwnF.nil _ _, Same.refl _, Rd.zero _ _ _⟩
  case round =>
    obtain ⟨k, P, rfl, hO, S, hR⟩ := hrel
    have HS := hid S
    have HR := hid hR
    have hb255 : (k : Int) ≤ P ∧ P ≤ 255 := ⟨hR.2.1, hR.2.2.1⟩
    have hfl : (D.frs at_ k).length = k := D.frs_length at_ k
    obtain ⟨al, cl, rfl, _, _⟩ := hO.frs.form
    rw [hfl] at hO ⊢
    have HO := hid hO
    clear hO S hR
    by_cases hlt : (k : Int) < P
    · have HRk := hid (HRd.out _ HS.out (at_ + k))
      have HDk := hid (fun wz ez vz (hz : Bytes wz ez vz (D.sector (at_ + k))) => HDe.out wz ez vz _ hz (h96.out _))
      have HFail := hid (HR.out.fail hlt)
      have HShort := hid (HR.out.short hlt)
      have HNext := hid (HR.out.next hlt)
      have HSuc := hid (D.frs_succ at_ k)
      have HE0 := hid (@decE_zero (D.sector (at_ + k)))
      have HE3 := hid (@decE_three (D.sector (at_ + k)))
      generalize D.sector (at_ + k) = sec at *
      generalize D.readE (at_ + k) = re at *
      generalize decE sec = de at *
      generalize decF sec = f at *
      go_wp2_with fail
      refine HRk.out.mono ?_
      rintro en w1 ⟨v1, e1, rfl, B1, S1, _⟩
      go_wp2_with fail
      refine (HDk.out _ _ _ B1).mono ?_
      rintro en w2 ⟨x2, rfl, F2, S2⟩
      obtain ⟨u2, rfl, O2⟩ := F2
      obtain ⟨a2, c2, rfl, _, _⟩ := O2.bytes.form
      have O2 := hid O2
      have S3 := hid ((HS.out.trans S1).trans S2)
      have HO3 := hid (HO.out.same (S1.trans S2))
      unfold Fr.agg
      clear S1 S2 B1
      have hnil : Hid (∀ wz, Same w wz → Read D at_ most 0 → ∃ v n, (.returned (.slice none 0 0) : Ending) = .returned v ∧ OwnF wz w.heap.size v (D.frs at_ n) ∧ Same w wz ∧ Read D at_ most n ∧ n ≤ 255) :=
        fun wz S R => ⟨_, 0, rfl, OwnF.nil _ _, S, R, by omega⟩
      by_cases hde : de = 0
      · have hr : f.right = true := HE0.out.1 hde
        subst hde
        by_cases hm : f.parts ≤ most
        · have hmd : decide (most < f.parts) = false := by simp; omega
          have Hr := hid hr
          have Hm := hid hm
          have S4 := hid (S3.out.alloc (.cells #[.int .i64 f.life, .int .i64 f.era, .int .i64 f.seq, .int .i64 f.part, .int .i64 f.parts, .slice a2 f.data.length c2] 60))
          have BX := hid (Box6.new w2 (.int .i64 f.life) (.int .i64 f.era) (.int .i64 f.seq) (.int .i64 f.part) (.int .i64 f.parts) (.slice a2 f.data.length c2))
          have HOne := hid (one_frame (w2.alloc (.cells #[.int .i64 f.life, .int .i64 f.era, .int .i64 f.seq, .int .i64 f.part, .int .i64 f.parts, .slice a2 f.data.length c2] 60)).drew f (.slice a2 f.data.length c2))
          have HOB := hid (HO3.out.same ((((Same.refl w2).alloc (.cells #[.int .i64 f.life, .int .i64 f.era, .int .i64 f.seq, .int .i64 f.part, .int .i64 f.parts, .slice a2 f.data.length c2] 60)).drew).alloc (.cells #[.int .i64 f.life, .int .i64 f.era, .int .i64 f.seq, .int .i64 f.part, .int .i64 f.parts, .slice a2 f.data.length c2] 60)))
          have HBB := hid (O2.out.bytes.same ((((Same.refl w2).alloc (.cells #[.int .i64 f.life, .int .i64 f.era, .int .i64 f.seq, .int .i64 f.part, .int .i64 f.parts, .slice a2 f.data.length c2] 60)).drew).alloc (.cells #[.int .i64 f.life, .int .i64 f.era, .int .i64 f.seq, .int .i64 f.part, .int .i64 f.parts, .slice a2 f.data.length c2] 60)))
          have S6 := hid ((S4.out.drew).alloc (.cells #[.int .i64 f.life, .int .i64 f.era, .int .i64 f.seq, .int .i64 f.part, .int .i64 f.parts, .slice a2 f.data.length c2] 60))
          have hs2 : (w2.alloc (.cells #[.int .i64 f.life, .int .i64 f.era, .int .i64 f.seq, .int .i64 f.part, .int .i64 f.parts, .slice a2 f.data.length c2] 60)).drew.heap.size = w2.heap.size + 1 := by simp
          rw [hs2] at HOne
          clear hr hm hs2
          go_wp2_with fail
          obtain ⟨c0, c1, c2', c3, c4, c5⟩ := BX.out.cells
          go_region_held3 (fun w' => w'.cell? ⟨w2.heap.size, 0, none⟩ = some (.int .i64 f.life) ∧ w'.cell? ⟨w2.heap.size, 1, none⟩ = some (.int .i64 f.era) ∧ w'.cell? ⟨w2.heap.size, 2, none⟩ = some (.int .i64 f.seq) ∧ w'.cell? ⟨w2.heap.size, 3, none⟩ = some (.int .i64 f.part) ∧ w'.cell? ⟨w2.heap.size, 4, none⟩ = some (.int .i64 f.parts) ∧ w'.cell? ⟨w2.heap.size, 5, none⟩ = some (.slice a2 f.data.length c2)) (first | go_keep | exact ⟨by assumption, by assumption, by assumption, by assumption, by assumption, by assumption⟩)
            ((refine step_append_frame (by rfl) (.tmp 39) (.tmp 41) 77 tyFrames (by rfl) HOB.out HOne.out HBB.out (by rfl) (by rfl) (by rw [D.frs_length]; omega) S6.out.size ?_; intro x5 w5 ho5 K5; have S7 := S6.out.keepOwn K5 (fun j hj => (HOB.out.lt j hj).1)
              have K5' : ∀ o, w5.cell? ⟨w2.heap.size, o, none⟩ = (w2.alloc (.cells #[.int .i64 f.life, .int .i64 f.era, .int .i64 f.seq, .int .i64 f.part, .int .i64 f.parts, .slice a2 f.data.length c2] 60)).cell? ⟨w2.heap.size, o, none⟩ := fun o => (cell_keep K5 (by simp; omega) (fun hm => by have := (HO3.out.lt _ hm).2; omega)).trans (((Same.refl (w2.alloc (.cells #[.int .i64 f.life, .int .i64 f.era, .int .i64 f.seq, .int .i64 f.part, .int .i64 f.parts, .slice a2 f.data.length c2] 60))).drew.alloc (.cells #[.int .i64 f.life, .int .i64 f.era, .int .i64 f.seq, .int .i64 f.part, .int .i64 f.parts, .slice a2 f.data.length c2] 60)).cell (p := ⟨w2.heap.size, o, none⟩) (by simp))
              obtain ⟨c0, c1, c2', c3, c4, c5⟩ := BX.out.cells
              rw [← K5'] at c0 c1 c2' c3 c4 c5))
          have S7 := hid S7
          rw [← HSuc.out] at ho5
          have HO5 := hid ho5
          clear ho5 K5 K5' c0 c1 c2' c3 c4 c5 HOne HOB HBB
          obtain ⟨a5, q5, rfl, _, _⟩ := HO5.out.frs.form
          have hfl5 : (D.frs at_ (k + 1)).length = k + 1 := D.frs_length at_ (k + 1)
          rw [hfl5] at HO5 ⊢
          by_cases hs : f.parts < (k : Int) + 1
          · have hz := hid (HShort.out hs)
            go_wp2_with fail
            go_ret
            exact hnil.out _ S7.out hz.out
          · have hn := hid (HNext.out Hr.out Hm.out (by omega))
            have hsd : decide (f.parts < (k : Int) + 1) = false := by simp; omega
            clear hs
            go_wp2_with fail
            go_roundw
            case rel => exact ⟨k + 1, f.parts, rfl, HO5.out, S7.out, hn.out⟩
            case measure => simp; omega
        · have hmd : decide (most < f.parts) = true := by simp; omega
          have hz := hid (HFail.out (fun x => hm x.2))
          clear hr hm
          go_wp2_with fail
          go_ret
          exact hnil.out _ (S3.out.alloc _) hz.out
      · have hd3 : de = 3 := HE3.out hde
        have hz := hid (HFail.out (fun x => hde (HE0.out.2 x.1)))
        subst hd3
        clear hde
        go_wp2_with fail
        go_ret
        exact hnil.out _ (S3.out.alloc _) hz.out
    · have hz := hid (HR.out.done hlt)
      have hlt' : decide ((k : Int) < P) = false := by simpa using hlt
      clear hlt
      go_wp2_with fail
      go_ret
      exact ⟨_, k, rfl, HO.out, HS.out, hz.out, by omega⟩
end Go.Proofs.Ytlhnpicmjjddeaa
