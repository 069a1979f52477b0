/- SCROLL's reference: Read. Printed by mkrf08b.py. STILL's reference: place. Printed by mkrf09.py. DRIVE's reference: has. DRIVE's reference: a drive that reads as a plain one. DRIVE's reference: Write. Printed by mkrf06d.py. DRIVE's reference: Fused. SCROLL's reference: a scroll in memory. -/
import Derived.Test.YtlhnpicmjjddeaaGrp4
import Derived.Test.YtlhnpicmjjddeaaGrp5
import Derived.Test.YtlhnpicmjjddeaaGrp0
import Derived.Test.YtlhnpicmjjddeaaGrp3
import Derived.Test.YtlhnpicmjjddeaaGrp1
set_option linter.unusedVariables false
set_option linter.unusedSimpArgs false
namespace Go.Proofs.Ytlhnpicmjjddeaa
open Go.RowKit

theorem tyFramesR : RowTy Try.prog 169 59 6 64 (.agg #[.int .i64 0, .int .i64 0, .int .i64 0, .int .i64 0, .int .i64 0, .slice none 0 0]) := ⟨Try.underlying169, by kernel_rfl, rfl, by decide⟩
/-- A row of the reference's frames of the call's own; the bytes of its frames lie in blocks of bytes. -/
def OwnG (w : World) (base : Nat) (v : Value) (L : List Fr) : Prop := ∃ P : List FV, P.map Prod.fst = L ∧ w.ownsRow base 59 6 v L.length (P.flatMap FV.cells) ∧ ∀ p ∈ P, Bytes w 5 p.2 p.1.data
theorem OwnG.frs {w : World} {base : Nat} {v : Value} {L : List Fr} (h : OwnG w base v L) : Frs w 59 v L := let ⟨P, h1, h2, h3⟩ := h; ⟨P, h1, Sl.of_owns h2, fun p hp => ⟨5, h3 p hp⟩⟩
theorem OwnG.nil (w : World) (base : Nat) : OwnG w base (.slice none 0 0) [] := ⟨[], rfl, World.ownsRow_nil w base 59 6, by simp⟩
theorem OwnG.same {w w' : World} {base : Nat} {v : Value} {L : List Fr} (h : OwnG w base v L) (S : Same w w') : OwnG w' base v L :=
  let ⟨P, h1, h2, h3⟩ := h; ⟨P, h1, owns_keep h2 S fun _ _ x => x, fun p hp => (h3 p hp).same S⟩
theorem OwnG.lt {w : World} {base : Nat} {v : Value} {L : List Fr} (h : OwnG w base v L) : ∀ k, v.ownBlock = some k → base ≤ k ∧ k < w.heap.size := fun k e => let ⟨_, _, h2, _⟩ := h; World.ownsRow.lt h2 k e
theorem one_frameR (w : World) (f : Fr) (u : Value) :
    Sl (w.alloc (.cells #[.int .i64 f.life, .int .i64 f.era, .int .i64 f.seq, .int .i64 f.part, .int .i64 f.parts, u] 59)) 59 6 (.slice (some ⟨w.heap.size, 0, none⟩) 1 1) 1 (FV.cells (f, u)) :=
  Sl.made 59 6 w.heap.size 1 1 _ _ (heap_alloc_new w _) (Nat.le_refl _) (by decide) rfl ⟨[], rfl⟩
/-- append of one frame -/
theorem wpList_append_frameR {P : Program} {w : World} {ops : Array Oper} {rest : List Oper} {o : Oper} {a : Act} {Q : Exit → Act → World → Prop} (hgd : o.guard = none) (s x : Operand)
    (t : TypeId) (T : RowTy P t 59 6 64 (.agg #[.int .i64 0, .int .i64 0, .int .i64 0, .int .i64 0, .int .i64 0, .slice none 0 0])) (ho : o.op = .call { callee := .builtin .append, args := #[s, x], argTypes := #[t, t] })
    {base : Nat} {v : Value} {L : List Fr} (hown : OwnG w base v L) {f : Fr} {u : Value} {e' : TypeId} {y : Value} (hy : Sl w e' 6 y 1 (FV.cells (f, u))) (hu : Bytes w 5 u f.data) (hs : a.eval s = v) (hx : a.eval x = y)
    (hb : L.length ≤ 1000000) (hbase : base ≤ w.heap.size)
    (h : ∀ v' w', OwnG w' base v' (L ++ [f]) → Keep (fun k => v.ownBlock = some k) w w' → wpList P ops Q rest (a.put o.dst v') w') : wpList P ops Q (o :: rest) a w := by
  obtain ⟨P0, h1, h2, h3⟩ := id hown
  have hone : ∀ z ∈ FV.cells (f, u), z.oneCell' = true := by
    intro z hz
    simp [FV.cells] at hz
    rcases hz with rfl | rfl | rfl | rfl | rfl | rfl
    · rfl
    · rfl
    · rfl
    · rfl
    · rfl
    · exact hu.one
  refine wpList_append_sl hgd s x T ho h2 hy hs hx hone (by unfold maxLen; omega) (by omega) hbase ?_
  intro v' w' q1 q2
  have K : Keep (fun k => v.ownBlock = some k) w w' := (Keep.refl _ w).grown q2 fun k e => .inl e
  have keepB : ∀ {u0 : Value} {l0 : List UInt8}, Bytes w 5 u0 l0 → Bytes w' 5 u0 l0 := fun {u0 l0} hb => hb.keep K fun g hg hm => by
    obtain ⟨c1, f1, e1⟩ := bytes_block hb hg
    obtain ⟨c2, e2⟩ := owns_block h2 hm
    rw [e1] at e2
    simp at e2
  refine h v' w' ⟨P0 ++ [(f, u)], by simp [h1], by rw [List.length_append, List.flatMap_append]; simpa using q1, fun p hp => ?_⟩ K
  rcases List.mem_append.1 hp with hp | hp
  · exact keepB (h3 p hp)
  · simp at hp
    subst hp
    exact keepB hu

/-- a row of rows lies in no box of a frame -/
theorem OwnR.apartR {w : World} {base b : Nat} {v : Value} {ls : List (List UInt8)} {c0 c1 c2 c3 c4 c5 : Value} (h : OwnR w base v ls) (hb : BoxR w b c0 c1 c2 c3 c4 c5) : v.ownBlock ≠ some b := by
  obtain ⟨us, h1, _⟩ := h
  intro e
  obtain ⟨c, hc⟩ := owns_block h1 e
  unfold BoxR at hb
  rw [hb] at hc
  simp at hc
/-- what Read leaves -/
def RetReadR (D : Dv) (y era x : Int) (w : World) (en : Ending) (w' : World) : Prop :=
  ∃ v, en = .returned (.tuple #[v, .int .i64 ((D.read y era x 1 0).2.1 - x)]) ∧ OwnR w' w.heap.size v (D.read y era x 1 0).1 ∧ Same w w'
theorem may_is {D : Dv} {S : Sc} : S.may D = true ↔ S.at_ < S.till ∧ ((decF (D.sector S.at_)).era = S.era ∧ (decF (D.sector S.at_)).seq = S.all.length + 1 ∧ S.last ≤ (decF (D.sector S.at_)).life ∧ (decF (D.sector S.at_)).parts ≤ S.till - S.at_) ∧ joinsB (D.frs S.at_ (decF (D.sector S.at_)).parts.toNat) = true := by
  unfold Sc.may
  exact recAt_iff
theorem ret_i64 {x y : Int} (h : x = y) : Value.int .i64 x = Value.int .i64 y := by rw [h]
theorem Reads.over {D : Dv} {a b life era : Int} {S : Sc} (h : Reads D a b life era S) (hm : S.may D = false) : (D.read b era a 1 0).1 = S.all ∧ (D.read b era a 1 0).2.1 = S.at_ := by
  have := h.done hm
  rw [this]
  exact ⟨rfl, rfl⟩
set_option maxHeartbeats 12800000 in
set_option maxRecDepth 100000 in
theorem rRead (w : World) (b : Nat) (rv c1 c2 c3 c4 : Value) (D : Dv) (x y : Nat) (era : Int) (hB : Box5 w b rv c1 c2 c3 c4) (hR : Rows2 w 23 rv D.C) (hx : x ≤ y) (hy : y ≤ D.C.length) (hC : D.C.length ≤ 2048) :
    Calls Try.prog 107 #[.pointer (some ⟨b, 0, none⟩), .int .i64 x, .int .i64 y, .int .i64 era] w (RetReadR D y era x w) := by
  obtain ⟨ra, rc, rfl, _, _⟩ := hR.form
  have HB := hid hB
  have HR := hid hR
  have HD := hid rDecode
  have HJ := hid rJoin
  have hsec : ∀ k : Nat, ∀ h : k < D.C.length, D.sector (k : Int) = D.C[k] := fun k h => by
    unfold Dv.sector
    rw [if_pos (by omega), Int.toNat_natCast, List.getD_eq_getElem?_getD, List.getElem?_eq_getElem h]
    rfl
  have HSc := hid hsec
  clear hB hR hsec
  go_enter Try.func107, Try.ntmps107
  go_wp2_with fail
  go_loopg [10, 11, 12, 13] (y - x) (fun gk out at_ life n wr => ∃ (S : Sc) (a n0 : Nat), a + gk = y ∧ x ≤ a ∧ Hid (Reads D x y 1 era S) ∧ Hid (S.at_ = a) ∧ Hid (S.all.length + 1 = n0) ∧ n0 + x ≤ a + 1 ∧ at_ = .int .i64 a ∧ life = .int .i64 S.last ∧ n = .int .i64 n0 ∧ OwnR wr w.heap.size out S.all ∧ Same w wr)
  case atStart => exact ⟨Sc.new x y 1 era, x, 1, by omega, by omega, hid (Reads.new D x y 1 era), hid rfl, hid rfl, by omega, rfl, rfl, rfl, OwnR.nil _ _, Same.refl _⟩
  case round =>
    obtain ⟨S, a, n0, hg, hxa, HRd, HA, HN, hn0, rfl, rfl, rfl, hO, hS⟩ := hrel
    have HO := hid hO
    have HS := hid hS
    have HG := hid hg
    have hay : a ≤ y := by omega
    have hSt : Hid (S.from_ = x ∧ S.till = y ∧ S.era = era) := ⟨HRd.out.1, HRd.out.2.1, HRd.out.2.2.2.1⟩
    obtain ⟨oa, oc, rfl, _, _⟩ := hO.rows.form
    clear hO hS hg
    have HEnd : Hid (S.may D = false → ∀ w', Same wr w' → RetReadR D y era x w (.returned (.tuple #[.slice oa S.all.length oc, .int .i64 ((a : Int) - (x : Int))])) w') := fun hm w' Z => by
      obtain ⟨q1, q2⟩ := HRd.out.over hm
      unfold RetReadR
      rw [q1, q2, HA.out]
      exact ⟨_, rfl, HO.out.same Z, HS.out.trans Z⟩
    have HMay := hid (@may_is D S)
    have hal : Hid (S.all.length ≤ 2048) := show _ ≤ _ by have := HN.out; omega
    by_cases hlt : a < y
    case neg =>
      have HZ := hid (HEnd.out (may_false fun h => by have := (HMay.out.1 h).1; rw [HA.out, hSt.out.2.1] at this; omega))
      generalize S.all.length = na at *
      go_wp2_with fail
      go_ret2
      exact HZ.out _ (Same.refl _)
    have hac : a < D.C.length := by omega
    obtain ⟨g, o, a0, q0, e0, rfl, hcell, hby⟩ := (HR.out.same HS.out).row a hac
    obtain ⟨d0, d1, d2, d3, d4⟩ := (HB.out.same HS.out).cells
    have HDk := hid (HD.out wr e0 _ _ hby)
    have hse := HSc.out a hac
    have hse2 : D.sector S.at_ = D.C[a] := by rw [HA.out]; exact hse
    rw [hse2, HA.out, hSt.out.2.1, hSt.out.2.2] at HMay
    have HT := hid (dec_two D.C[a])
    have HSm := hid (small_decF D.C[a])
    have HLf := hid (life_bound D.C[a])
    have HSe := hid hse2
    have hNn : ((S.all.length : Int) + 1) = (n0 : Int) := by have := HN.out; omega
    rw [hNn] at HMay
    clear hse hse2 hby hNn
    generalize D.C[a].length = la at *
    generalize hck : D.C[a] = ck at *
    generalize hfk : decF ck = f at *
    have HFK : Hid (decF (D.sector S.at_) = f) := by show _ = _; rw [HSe.out]; exact hfk
    rcases HT.out with hd | ⟨hd, hz⟩
    case inr =>
      have HZ := hid (HEnd.out (may_false fun h => by have := (HMay.out.1 h).2.2; rw [hz] at this; cases this))
      rw [hd] at HDk
      clear hd hz HT hck hfk
      go_wp2_with fail
      refine HDk.out.mono ?_
      rintro en w3 ⟨x3, rfl, ⟨u3, rfl, O3⟩, S3⟩
      obtain ⟨a3, q3, rfl, _, _⟩ := O3.bytes.form
      have S4 := hid (S3.alloc (.cells #[.int .i64 f.life, .int .i64 f.era, .int .i64 f.seq, .int .i64 f.part, .int .i64 f.parts, .slice a3 f.data.length q3] 59))
      unfold Fr.agg
      clear O3 S3 d0 d1 d2 d3 d4 hcell
      generalize S.all.length = na at *
      go_wp2_with fail
      go_ret2
      exact HZ.out _ S4.out
    rw [hd] at HDk
    clear hd HT hck hfk
    have hp1 := HSm.out.1
    have hp2 := HSm.out.2.1
    have hall : f.era ≠ era ∨ (f.era = era ∧ f.seq ≠ n0) ∨ (f.era = era ∧ f.seq = n0 ∧ f.life < S.last) ∨ (f.era = era ∧ f.seq = n0 ∧ ¬ f.life < S.last ∧ (y : Int) - (a : Int) < f.parts) ∨ (f.era = era ∧ f.seq = n0 ∧ ¬ f.life < S.last ∧ ¬ (y : Int) - (a : Int) < f.parts) := by
      by_cases q1 : f.era = era
      case neg => exact .inl q1
      refine .inr ?_
      by_cases q2 : f.seq = n0
      case neg => exact .inl ⟨q1, q2⟩
      refine .inr ?_
      by_cases q3 : f.life < S.last
      case pos => exact .inl ⟨q1, q2, q3⟩
      refine .inr ?_
      by_cases q4 : (y : Int) - (a : Int) < f.parts
      · exact .inl ⟨q1, q2, q3, q4⟩
      · exact .inr ⟨q1, q2, q3, q4⟩
    rcases hall with q1 | ⟨q1, q2⟩ | ⟨q1, q2, q3⟩ | ⟨q1, q2, q3, q4⟩ | ⟨q1, q2, q3, q4⟩
    · have HZ := hid (HEnd.out (may_false fun h => q1 (HMay.out.1 h).2.1.1))
      have p1 : (f.era != era) = true := by rw [bne_iff_ne]; exact q1
      clear q1
      go_wp2_with fail
      refine HDk.out.mono ?_
      rintro en w3 ⟨x3, rfl, ⟨u3, rfl, O3⟩, S3⟩
      obtain ⟨a3, q3, rfl, _, _⟩ := O3.bytes.form
      have S4 := hid (S3.alloc (.cells #[.int .i64 f.life, .int .i64 f.era, .int .i64 f.seq, .int .i64 f.part, .int .i64 f.parts, .slice a3 f.data.length q3] 59))
      unfold Fr.agg
      clear O3 S3 d0 d1 d2 d3 d4 hcell
      generalize S.all.length = na at *
      go_wp2_with fail
      go_ret2
      exact HZ.out _ S4.out
    · have HZ := hid (HEnd.out (may_false fun h => q2 (HMay.out.1 h).2.1.2.1))
      have p1 : (f.era != era) = false := by rw [bne_eq_false_iff_eq]; exact q1
      have p2 : (f.seq != (n0 : Int)) = true := by rw [bne_iff_ne]; exact q2
      clear q1 q2
      go_wp2_with fail
      refine HDk.out.mono ?_
      rintro en w3 ⟨x3, rfl, ⟨u3, rfl, O3⟩, S3⟩
      obtain ⟨a3, q3, rfl, _, _⟩ := O3.bytes.form
      have S4 := hid (S3.alloc (.cells #[.int .i64 f.life, .int .i64 f.era, .int .i64 f.seq, .int .i64 f.part, .int .i64 f.parts, .slice a3 f.data.length q3] 59))
      unfold Fr.agg
      clear O3 S3 d0 d1 d2 d3 d4 hcell
      generalize S.all.length = na at *
      go_wp2_with fail
      go_ret2
      exact HZ.out _ S4.out
    · have HZ := hid (HEnd.out (may_false fun h => by have := (HMay.out.1 h).2.1.2.2.1; omega))
      have p1 : (f.era != era) = false := by rw [bne_eq_false_iff_eq]; exact q1
      have p2 : (f.seq != (n0 : Int)) = false := by rw [bne_eq_false_iff_eq]; exact q2
      have p3 : decide (f.life < S.last) = true := decide_eq_true q3
      clear q1 q2 q3
      go_wp2_with fail
      refine HDk.out.mono ?_
      rintro en w3 ⟨x3, rfl, ⟨u3, rfl, O3⟩, S3⟩
      obtain ⟨a3, q3, rfl, _, _⟩ := O3.bytes.form
      have S4 := hid (S3.alloc (.cells #[.int .i64 f.life, .int .i64 f.era, .int .i64 f.seq, .int .i64 f.part, .int .i64 f.parts, .slice a3 f.data.length q3] 59))
      unfold Fr.agg
      clear O3 S3 d0 d1 d2 d3 d4 hcell
      generalize S.all.length = na at *
      go_wp2_with fail
      go_ret2
      exact HZ.out _ S4.out
    · have HZ := hid (HEnd.out (may_false fun h => by have := (HMay.out.1 h).2.1.2.2.2; omega))
      have p1 : (f.era != era) = false := by rw [bne_eq_false_iff_eq]; exact q1
      have p2 : (f.seq != (n0 : Int)) = false := by rw [bne_eq_false_iff_eq]; exact q2
      have p3 : decide (f.life < S.last) = false := decide_eq_false q3
      have p4 : decide ((y : Int) - (a : Int) < f.parts) = true := decide_eq_true q4
      clear q1 q2 q3 q4
      go_wp2_with fail
      refine HDk.out.mono ?_
      rintro en w3 ⟨x3, rfl, ⟨u3, rfl, O3⟩, S3⟩
      obtain ⟨a3, q3, rfl, _, _⟩ := O3.bytes.form
      have S4 := hid (S3.alloc (.cells #[.int .i64 f.life, .int .i64 f.era, .int .i64 f.seq, .int .i64 f.part, .int .i64 f.parts, .slice a3 f.data.length q3] 59))
      unfold Fr.agg
      clear O3 S3 d0 d1 d2 d3 d4 hcell
      generalize S.all.length = na at *
      go_wp2_with fail
      go_ret2
      exact HZ.out _ S4.out
    have HQ := hid (And.intro q1 (And.intro q2 (And.intro q3 q4)))
    have p1 : (f.era != era) = false := by rw [bne_eq_false_iff_eq]; exact q1
    have p2 : (f.seq != (n0 : Int)) = false := by rw [bne_eq_false_iff_eq]; exact q2
    have p3 : decide (f.life < S.last) = false := decide_eq_false q3
    have p4 : decide ((y : Int) - (a : Int) < f.parts) = false := decide_eq_false q4
    have hpy : (a : Int) + f.parts ≤ (y : Int) := by omega
    clear q1 q2 q3 q4
    go_wp2_with fail
    refine HDk.out.mono ?_
    rintro en w3 ⟨x3, rfl, ⟨u3, rfl, O3⟩, S3⟩
    obtain ⟨a3, q3, rfl, _, _⟩ := O3.bytes.form
    have BX := hid (BoxR.new w3 (.int .i64 f.life) (.int .i64 f.era) (.int .i64 f.seq) (.int .i64 f.part) (.int .i64 f.parts) (.slice a3 f.data.length q3))
    have S4 := hid (S3.alloc (.cells #[.int .i64 f.life, .int .i64 f.era, .int .i64 f.seq, .int .i64 f.part, .int .i64 f.parts, .slice a3 f.data.length q3] 59))
    unfold Fr.agg
    clear O3 S3 d0 d1 d2 d3 d4 hcell HDk
    go_wp2_with fail
    generalize hw4 : w3.alloc (.cells #[.int .i64 f.life, .int .i64 f.era, .int .i64 f.seq, .int .i64 f.part, .int .i64 f.parts, .slice a3 f.data.length q3] 59) = w4 at *
    generalize w3.heap.size = fb at *
    clear hw4
    clear p1 p2 p3 p4
    go_loopg [16, 17] f.parts.toNat (fun gk l i wz => ∃ k : Nat, k + gk = f.parts.toNat ∧ i = .int .i64 k ∧ OwnG wz w4.heap.size l (D.frs (a : Int) k) ∧ Same w4 wz)
    case atStart => exact ⟨0, by omega, rfl, OwnG.nil _ _, Same.refl _⟩
    case round =>
      obtain ⟨k, hk, rfl, hO2, Z⟩ := hrel
      have hfl : (D.frs (a : Int) k).length = k := D.frs_length (a : Int) k
      obtain ⟨la, lc, rfl, _, _⟩ := hO2.frs.form
      rw [hfl] at hO2 ⊢
      have HO2 := hid hO2
      have HZ := hid Z
      have HFl := hid hfl
      have hkk : k ≤ f.parts.toNat := by omega
      have HK := hid hk
      clear hO2 Z hfl hk
      have ZW := hid (HS.out.trans (S4.out.trans HZ.out))
      have ZR := hid (S4.out.trans HZ.out)
      obtain ⟨y0, y1, y2, y3, y4, y5⟩ := (BX.out.same HZ.out).cells
      obtain ⟨d0, d1, d2, d3, d4⟩ := (HB.out.same ZW.out).cells
      by_cases hkl : k < f.parts.toNat
      case pos =>
        have hkp : decide ((k : Int) < f.parts) = true := decide_eq_true (by omega)
        have hak : a + k < D.C.length := by omega
        obtain ⟨g2, o2, a2, q2, e2, hgo, hcell2, hby2⟩ := (HR.out.same ZW.out).row (a + k) hak
        obtain ⟨rfl, rfl⟩ : g = g2 ∧ o = o2 := by simp only [Option.some.injEq, Addr.mk.injEq] at hgo; exact ⟨hgo.1, hgo.2.1⟩
        have HDj := hid (HD.out _ e2 _ _ hby2)
        have hse := HSc.out (a + k) hak
        have hse2 : D.sector ((a : Int) + (k : Int)) = D.C[a + k] := by rw [← hse]; congr 1
        have HT := hid (dec_two D.C[a + k])
        have HSuc := hid (D.frs_succ (a : Int) k)
        rw [hse2] at HSuc
        have HBad : Hid (decF D.C[a + k] = Fr.zero → S.may D = false) := fun hz => may_false fun h => by
          have h3 := (HMay.out.1 h).2.2
          have h4 := ((joins_frs h3).2.2 k hkl).1
          rw [hse2, hz] at h4
          cases h4
        clear hgo hse hse2 hby2
        generalize D.C[a + k].length = lb at *
        generalize D.C[a + k] = ck2 at *
        generalize decF ck2 = f2 at *
        rcases HT.out with hd | ⟨hd, hz⟩
        case inr =>
          have HE := hid (HEnd.out (HBad.out hz))
          rw [hd] at HDj
          clear hd hz HT HBad
          go_wp2_with fail
          refine HDj.out.mono ?_
          rintro en w5 ⟨x5, rfl, ⟨u5, rfl, O5⟩, S5⟩
          obtain ⟨a5, q5, rfl, _, _⟩ := O5.bytes.form
          have S6 := hid (ZR.out.trans (S5.alloc (.cells #[.int .i64 f2.life, .int .i64 f2.era, .int .i64 f2.seq, .int .i64 f2.part, .int .i64 f2.parts, .slice a5 f2.data.length q5] 59)))
          unfold Fr.agg
          clear O5 S5 d0 d1 d2 d3 d4 hcell2 y0 y1 y2 y3 y4 y5
          generalize S.all.length = na at *
          go_wp2_with fail
          go_ret2
          exact HE.out _ S6.out
        rw [hd] at HDj
        clear hd HT HBad
        go_wp2_with fail
        refine HDj.out.mono ?_
        rintro en w5 ⟨x5, rfl, ⟨u5, rfl, O5⟩, S5⟩
        obtain ⟨a5, q5, rfl, _, _⟩ := O5.bytes.form
        unfold Fr.agg
        have BY := BoxR.new w5 (.int .i64 f2.life) (.int .i64 f2.era) (.int .i64 f2.seq) (.int .i64 f2.part) (.int .i64 f2.parts) (.slice a5 f2.data.length q5)
        have T6 := hid (S5.alloc (.cells #[.int .i64 f2.life, .int .i64 f2.era, .int .i64 f2.seq, .int .i64 f2.part, .int .i64 f2.parts, .slice a5 f2.data.length q5] 59))
        have O6 := hid (O5.bytes.same ((Same.refl w5).alloc (.cells #[.int .i64 f2.life, .int .i64 f2.era, .int .i64 f2.seq, .int .i64 f2.part, .int .i64 f2.parts, .slice a5 f2.data.length q5] 59)))
        clear O5 S5 d0 d1 d2 d3 d4 hcell2 y0 y1 y2 y3 y4 y5
        obtain ⟨n0', n1', n2', n3', n4', n5'⟩ := BY.cells
        clear BY
        go_upto_region 17 with fail
        generalize hw6 : w5.alloc (.cells #[.int .i64 f2.life, .int .i64 f2.era, .int .i64 f2.seq, .int .i64 f2.part, .int .i64 f2.parts, .slice a5 f2.data.length q5] 59) = w6 at *
        generalize w5.heap.size = fb2 at *
        clear hw6
        have HX := hid (one_frameR w6 f2 (.slice a5 f2.data.length q5))
        have T7 := hid (T6.out.alloc (.cells #[.int .i64 f2.life, .int .i64 f2.era, .int .i64 f2.seq, .int .i64 f2.part, .int .i64 f2.parts, .slice a5 f2.data.length q5] 59))
        have HY := hid (O6.out.same ((Same.refl w6).alloc (.cells #[.int .i64 f2.life, .int .i64 f2.era, .int .i64 f2.seq, .int .i64 f2.part, .int .i64 f2.parts, .slice a5 f2.data.length q5] 59)))
        have HO7 := hid (HO2.out.same T7.out)
        have hsz : Hid (w4.heap.size ≤ (w6.alloc (.cells #[.int .i64 f2.life, .int .i64 f2.era, .int .i64 f2.seq, .int .i64 f2.part, .int .i64 f2.parts, .slice a5 f2.data.length q5] 59)).heap.size) := (HZ.out.trans T7.out).size
        have HFlk := hid (show (D.frs (a : Int) k).length ≤ 1000000 by rw [HFl.out]; omega)
        go_wp2_with (at_builtin; refine wpList_append_frameR rfl (.tmp 96) (.tmp 98) 169 tyFramesR rfl HO7.out HX.out HY.out rfl rfl HFlk.out hsz.out ?_; intro x8 w8 ho8 K8)
        go_roundg (gk - 1)
        case measure => have := HK.out; omega
        case rel => exact ⟨k + 1, by have := HK.out; omega, by go_num, by rw [HSuc.out]; exact ho8, (HZ.out.trans T7.out).keepOwn K8 (fun j hj => (HO7.out.lt j hj).1)⟩
      case neg =>
        have hkp : decide ((k : Int) < f.parts) = false := decide_eq_false (by omega)
        obtain rfl : k = f.parts.toNat := by omega
        have HJk := hid (HJ.out _ 59 _ _ HO2.out.frs (small_frs D (a : Int) f.parts.toNat) (by rw [HFl.out]; omega))
        have hjo : joinsB (D.frs (a : Int) f.parts.toNat) = true → joinOf (D.frs (a : Int) f.parts.toNat) = joined (D.frs (a : Int) f.parts.toNat) := fun h => by unfold joinOf; rw [if_pos h]
        have HJo := hid hjo
        clear hjo hkl hkk
        generalize hfr : D.frs (a : Int) f.parts.toNat = L at *
        have HFr := hid hfr
        clear hfr
        generalize joinOf L = rec at *
        go_wp2_with fail
        refine HJk.out.mono ?_
        rintro en w7 ⟨v7, rfl, O7, Z7⟩
        have Z7 := hid Z7
        have T7 := hid (ZR.out.trans Z7.out)
        obtain ⟨a7, q7, rfl, _, _⟩ := O7.bytes.form
        have O7 := hid O7
        clear y0 y1 y2 y3 y4 y5 d0 d1 d2 d3 d4
        cases hj : joinsB L
        case false =>
          have HE := hid (HEnd.out (may_false fun h => by have h3 := (HMay.out.1 h).2.2; rw [hj] at h3; cases h3))
          clear hj
          generalize S.all.length = na at *
          go_wp2_with fail
          go_ret2
          exact HE.out _ T7.out
        case true =>
          have hm : S.may D = true := HMay.out.2 ⟨by omega, ⟨HQ.out.1, HQ.out.2.1, by have := HQ.out.2.2.1; omega, by have := HQ.out.2.2.2; omega⟩, hj⟩
          have htk : S.took D = { S with all := S.all ++ [rec], at_ := (a : Int) + f.parts, last := f.life } := by
            rw [took_yes hm]
            have e1 : D.parts S.at_ = f.parts := by unfold Dv.parts; rw [HFK.out]
            have e2 : D.lifeAt S.at_ = f.life := by unfold Dv.lifeAt; rw [HFK.out]
            have e3 : D.recd S.at_ = rec := by unfold Dv.recd; rw [e1, HA.out, HFr.out, HJo.out hj]
            rw [e1, e2, e3, HA.out]
          have hp0 := (may_lt hm).2.2.2
          have e1 : D.parts S.at_ = f.parts := by unfold Dv.parts; rw [HFK.out]
          rw [e1] at hp0
          have HTk := hid htk
          have HRn := hid (HRd.out.next hm)
          rw [htk] at HRn
          clear hj hm htk e1
          obtain ⟨y0, y1, y2, y3, y4, y5⟩ := (BX.out.same (HZ.out.trans Z7.out)).cells
          have hOf : Hid (∀ g', homeOf (.slice a7 rec.length q7) = some g' → w.heap.size ≤ g') := fun g' hg' => by have := O7.out.fresh g' hg'; have := ZW.out.size; omega
          have HR1 := hid (one_row O7.out.bytes hOf.out)
          have TA := hid ((Same.refl w7).alloc (.cells #[.slice a7 rec.length q7] 23))
          have HO8 := hid (HO.out.same (T7.out.trans TA.out))
          have hsz : Hid (w.heap.size ≤ (w7.alloc (.cells #[.slice a7 rec.length q7] 23)).heap.size) := show _ ≤ _ by have := (ZW.out.trans (Z7.out.trans TA.out)).size; omega
          obtain ⟨yy0, yy1, yy2, yy3, yy4, yy5⟩ := ((BX.out.same (HZ.out.trans Z7.out)).same TA.out).cells
          have hna := hal.out
          go_wp2_with (at_builtin; refine wpList_append_rows rfl (.tmp 111) (.tmp 113) 36 tyRows rfl HO8.out HR1.out.1 HR1.out.2 rfl rfl (by simp; omega) hsz.out ?_; intro x9 w9 ho9 K9; have HB9 := hid ((BX.out.same (HZ.out.trans (Z7.out.trans TA.out))).keep K9 (fun e => HO8.out.apartR ((BX.out.same (HZ.out.trans Z7.out)).same TA.out) e)); obtain ⟨m0, m1, m2, m3, m4, m5⟩ := HB9.out.cells; have ho9 := hid ho9; have T9 := hid ((ZW.out.trans (Z7.out.trans TA.out)).keepOwn K9 (fun g e => (HO8.out.lt g e).1)); clear K9)
          have hgk := HG.out
          have hNN := HN.out
          clear m0 m1 m2 m3 m4 m5 yy0 yy1 yy2 yy3 yy4 yy5 y0 y1 y2 y3 y4 y5
          go_roundg (y - (a + f.parts.toNat))
          case measure => omega
          case rel => exact ⟨{ S with all := S.all ++ [rec], at_ := (a : Int) + f.parts, last := f.life }, a + f.parts.toNat, n0 + 1, by omega, by omega, HRn, hid (by show (a : Int) + f.parts = _; omega), hid (by show (S.all ++ [rec]).length + 1 = n0 + 1; rw [List.length_append, List.length_singleton]; omega), by omega, ret_i64 (by omega), rfl, ret_i64 (by omega), ho9.out, T9.out⟩
end Go.Proofs.Ytlhnpicmjjddeaa
namespace Go.Proofs.Ytlhnpicmjjddeaa
open Go.RowKit

def RetPlace (r : Int × List UInt8) (w : World) (en : Ending) (w' : World) : Prop := ∃ v, en = .returned (.tuple #[.int .i64 r.1, v]) ∧ OwnB w' w.heap.size v r.2 ∧ Same w w'
theorem place_no {D : Dv} {a each odd : Int} (h : ¬ ((decF (D.sector a)).parts ≤ each ∧ joinsB (D.frs a (decF (D.sector a)).parts.toNat) = true ∧ (decF (D.sector a)).seq = 1 ∧ (decF (D.sector a)).era % 2 = odd)) : D.place a each odd = (0, []) := by
  unfold Dv.place Dv.holds
  rw [if_neg]
  simp only [Bool.and_eq_true, decide_eq_true_eq]
  exact fun x => h ⟨x.1, x.2.1, x.2.2.1, x.2.2.2⟩
theorem place_yes {D : Dv} {a each odd : Int} (h : (decF (D.sector a)).parts ≤ each ∧ joinsB (D.frs a (decF (D.sector a)).parts.toNat) = true ∧ (decF (D.sector a)).seq = 1 ∧ (decF (D.sector a)).era % 2 = odd) : D.place a each odd = ((decF (D.sector a)).era, joined (D.frs a (decF (D.sector a)).parts.toNat)) := by
  unfold Dv.place Dv.holds
  rw [if_pos]
  simp only [Bool.and_eq_true, decide_eq_true_eq]
  exact ⟨h.1, h.2.1, h.2.2.1, h.2.2.2⟩
theorem era_pos (b : List UInt8) : 0 ≤ (decF b).era ∧ (decF b).era ≤ 16777215 := by
  by_cases hr : (decF b).right = true
  · have := stampOk_iff.1 (Fr.right_iff.1 hr).1; omega
  · rw [decF_wrong hr]; exact ⟨by decide, by decide⟩
set_option maxHeartbeats 12800000 in
set_option maxRecDepth 100000 in
theorem rPlace (w : World) (b : Nat) (rv c1 c2 c3 c4 : Value) (D : Dv) (a : Nat) (each odd : Int) (hB : Box5 w b rv c1 c2 c3 c4) (hR : Rows2 w 23 rv D.C) (hE : 1 ≤ each) (hy : (a : Int) + each ≤ D.C.length) (hC : D.C.length ≤ 2048) :
    Calls Try.prog 124 #[.pointer (some ⟨b, 0, none⟩), .int .i64 a, .int .i64 each, .int .i64 odd] w (RetPlace (D.place a each odd) w) := by
  obtain ⟨ra, rc, rfl, _, _⟩ := hR.form
  have HB := hid hB
  have HR := hid hR
  have HD := hid rDecode
  have HJ := hid rJoin
  have hsec : ∀ k : Nat, ∀ h : k < D.C.length, D.sector (k : Int) = D.C[k] := fun k h => by
    unfold Dv.sector
    rw [if_pos (by omega), Int.toNat_natCast, List.getD_eq_getElem?_getD, List.getElem?_eq_getElem h]
    rfl
  have HSc := hid hsec
  have HNone : Hid (D.place a each odd = (0, []) → ∀ w', Same w w' → RetPlace (D.place a each odd) w (.returned (.tuple #[.int .i64 0, .slice none 0 0])) w') := fun h w' Z => by
    rw [h]
    exact ⟨_, rfl, OwnB.nil _ _, Z⟩
  have hac : a < D.C.length := by omega
  obtain ⟨g, o, a0, q0, e0, rfl, hcell, hby⟩ := hR.row a hac
  obtain ⟨d0, d1, d2, d3, d4⟩ := hB.cells
  have HDk := hid (HD.out w e0 _ _ hby)
  have hse := hsec a hac
  have HNo := hid (@place_no D (a : Int) each odd)
  have HYes := hid (@place_yes D (a : Int) each odd)
  rw [hse] at HNo HYes
  have HT := hid (dec_two D.C[a])
  have HSm := hid (small_decF D.C[a])
  have HEr := hid (era_pos D.C[a])
  clear hse hby hB hR hsec
  generalize D.C[a].length = la at *
  generalize hck : D.C[a] = ck at *
  generalize hfk : decF ck = f at *
  have her1 := HEr.out.1
  have her2 := HEr.out.2
  have hp1 := HSm.out.1
  have hp2 := HSm.out.2.1
  go_enter Try.func124, Try.ntmps124
  rcases HT.out with hd | ⟨hd, hz⟩
  case inr =>
    have HZ := hid (HNo.out (fun h => by have := h.2.1; rw [hz] at this; cases this))
    rw [hd] at HDk
    clear hd hz HT hck hfk
    go_wp2_with fail
    refine HDk.out.mono ?_
    rintro en w3 ⟨x3, rfl, ⟨u3, rfl, O3⟩, S3⟩
    obtain ⟨a3, q3, rfl, _, _⟩ := O3.bytes.form
    have S4 := hid (S3.alloc (.cells #[.int .i64 f.life, .int .i64 f.era, .int .i64 f.seq, .int .i64 f.part, .int .i64 f.parts, .slice a3 f.data.length q3] 59))
    unfold Fr.agg
    clear O3 S3 d0 d1 d2 d3 d4 hcell
    go_wp2_with fail
    go_ret2
    exact HNone.out HZ.out _ S4.out
  rw [hd] at HDk
  clear hd HT hck hfk
  have hall : each < f.parts ∨ (¬ each < f.parts ∧ f.seq ≠ 1) ∨ (¬ each < f.parts ∧ f.seq = 1 ∧ f.era % 2 ≠ odd) ∨ (¬ each < f.parts ∧ f.seq = 1 ∧ f.era % 2 = odd) := by
    by_cases q1 : each < f.parts
    case pos => exact .inl q1
    refine .inr ?_
    by_cases q2 : f.seq = 1
    case neg => exact .inl ⟨q1, q2⟩
    refine .inr ?_
    by_cases q3 : f.era % 2 = odd
    · exact .inr ⟨q1, q2, q3⟩
    · exact .inl ⟨q1, q2, q3⟩
  rcases hall with q1 | ⟨q1, q2⟩ | ⟨q1, q2, q3⟩ | ⟨q1, q2, q3⟩
  · have HZ := hid (HNo.out (fun h => by have := h.1; omega))
    have p1 : decide (each < f.parts) = true := decide_eq_true q1
    clear q1
    go_wp2_with fail
    refine HDk.out.mono ?_
    rintro en w3 ⟨x3, rfl, ⟨u3, rfl, O3⟩, S3⟩
    obtain ⟨a3, q3, rfl, _, _⟩ := O3.bytes.form
    have S4 := hid (S3.alloc (.cells #[.int .i64 f.life, .int .i64 f.era, .int .i64 f.seq, .int .i64 f.part, .int .i64 f.parts, .slice a3 f.data.length q3] 59))
    unfold Fr.agg
    clear O3 S3 d0 d1 d2 d3 d4 hcell
    go_wp2_with fail
    go_ret2
    exact HNone.out HZ.out _ S4.out
  · have HZ := hid (HNo.out (fun h => q2 h.2.2.1))
    have p1 : decide (each < f.parts) = false := decide_eq_false q1
    have p2 : (f.seq != 1) = true := by rw [bne_iff_ne]; exact q2
    clear q1 q2
    go_wp2_with fail
    refine HDk.out.mono ?_
    rintro en w3 ⟨x3, rfl, ⟨u3, rfl, O3⟩, S3⟩
    obtain ⟨a3, q3, rfl, _, _⟩ := O3.bytes.form
    have S4 := hid (S3.alloc (.cells #[.int .i64 f.life, .int .i64 f.era, .int .i64 f.seq, .int .i64 f.part, .int .i64 f.parts, .slice a3 f.data.length q3] 59))
    unfold Fr.agg
    clear O3 S3 d0 d1 d2 d3 d4 hcell
    go_wp2_with fail
    go_ret2
    exact HNone.out HZ.out _ S4.out
  · have HZ := hid (HNo.out (fun h => q3 h.2.2.2))
    have p1 : decide (each < f.parts) = false := decide_eq_false q1
    have p2 : (f.seq != 1) = false := by rw [bne_eq_false_iff_eq]; exact q2
    have p3 : (f.era % 2 != odd) = true := by rw [bne_iff_ne]; exact q3
    clear q1 q2 q3
    go_wp2_with fail
    refine HDk.out.mono ?_
    rintro en w3 ⟨x3, rfl, ⟨u3, rfl, O3⟩, S3⟩
    obtain ⟨a3, q3, rfl, _, _⟩ := O3.bytes.form
    have S4 := hid (S3.alloc (.cells #[.int .i64 f.life, .int .i64 f.era, .int .i64 f.seq, .int .i64 f.part, .int .i64 f.parts, .slice a3 f.data.length q3] 59))
    unfold Fr.agg
    clear O3 S3 d0 d1 d2 d3 d4 hcell
    go_wp2_with fail
    go_ret2
    exact HNone.out HZ.out _ S4.out
  · have HQ := hid (And.intro q1 (And.intro q2 q3))
    have p1 : decide (each < f.parts) = false := decide_eq_false q1
    have p2 : (f.seq != 1) = false := by rw [bne_eq_false_iff_eq]; exact q2
    have p3 : (f.era % 2 != odd) = false := by rw [bne_eq_false_iff_eq]; exact q3
    have hpy : (a : Int) + f.parts ≤ (a : Int) + each := by omega
    clear q1 q2 q3
    go_wp2_with fail
    refine HDk.out.mono ?_
    rintro en w3 ⟨x3, rfl, ⟨u3, rfl, O3⟩, S3⟩
    obtain ⟨a3, q3, rfl, _, _⟩ := O3.bytes.form
    have BX := hid (BoxR.new w3 (.int .i64 f.life) (.int .i64 f.era) (.int .i64 f.seq) (.int .i64 f.part) (.int .i64 f.parts) (.slice a3 f.data.length q3))
    have S4 := hid (S3.alloc (.cells #[.int .i64 f.life, .int .i64 f.era, .int .i64 f.seq, .int .i64 f.part, .int .i64 f.parts, .slice a3 f.data.length q3] 59))
    unfold Fr.agg
    clear O3 S3 d0 d1 d2 d3 d4 hcell HDk
    go_wp2_with fail
    generalize hw4 : w3.alloc (.cells #[.int .i64 f.life, .int .i64 f.era, .int .i64 f.seq, .int .i64 f.part, .int .i64 f.parts, .slice a3 f.data.length q3] 59) = w4 at *
    generalize w3.heap.size = fb at *
    clear hw4
    clear p1 p2 p3
    go_loopg [12, 13] f.parts.toNat (fun gk l i wz => ∃ k : Nat, k + gk = f.parts.toNat ∧ i = .int .i64 k ∧ OwnG wz w4.heap.size l (D.frs (a : Int) k) ∧ Same w4 wz)
    case atStart => exact ⟨0, by omega, rfl, OwnG.nil _ _, Same.refl _⟩
    case round =>
      obtain ⟨k, hk, rfl, hO2, Z⟩ := hrel
      have hfl : (D.frs (a : Int) k).length = k := D.frs_length (a : Int) k
      obtain ⟨la, lc, rfl, _, _⟩ := hO2.frs.form
      rw [hfl] at hO2 ⊢
      have HO2 := hid hO2
      have HZ := hid Z
      have HFl := hid hfl
      have hkk : k ≤ f.parts.toNat := by omega
      have HK := hid hk
      clear hO2 Z hfl hk
      have ZW := hid (S4.out.trans HZ.out)
      have ZR := hid (S4.out.trans HZ.out)
      obtain ⟨y0, y1, y2, y3, y4, y5⟩ := (BX.out.same HZ.out).cells
      obtain ⟨d0, d1, d2, d3, d4⟩ := (HB.out.same ZW.out).cells
      by_cases hkl : k < f.parts.toNat
      case pos =>
        have hkp : decide ((k : Int) < f.parts) = true := decide_eq_true (by omega)
        have hak : a + k < D.C.length := by omega
        obtain ⟨g2, o2, a2, q2, e2, hgo, hcell2, hby2⟩ := (HR.out.same ZW.out).row (a + k) hak
        obtain ⟨rfl, rfl⟩ : g = g2 ∧ o = o2 := by simp only [Option.some.injEq, Addr.mk.injEq] at hgo; exact ⟨hgo.1, hgo.2.1⟩
        have HDj := hid (HD.out _ e2 _ _ hby2)
        have hse := HSc.out (a + k) hak
        have hse2 : D.sector ((a : Int) + (k : Int)) = D.C[a + k] := by rw [← hse]; congr 1
        have HT := hid (dec_two D.C[a + k])
        have HSuc := hid (D.frs_succ (a : Int) k)
        rw [hse2] at HSuc
        have HBad : Hid (decF D.C[a + k] = Fr.zero → D.place a each odd = (0, [])) := fun hz => HNo.out fun h => by
          have h3 := h.2.1
          have h4 := ((joins_frs h3).2.2 k hkl).1
          rw [hse2, hz] at h4
          cases h4
        clear hgo hse hse2 hby2
        generalize D.C[a + k].length = lb at *
        generalize D.C[a + k] = ck2 at *
        generalize decF ck2 = f2 at *
        rcases HT.out with hd | ⟨hd, hz⟩
        case inr =>
          have HE := hid (HBad.out hz)
          rw [hd] at HDj
          clear hd hz HT HBad
          go_wp2_with fail
          refine HDj.out.mono ?_
          rintro en w5 ⟨x5, rfl, ⟨u5, rfl, O5⟩, S5⟩
          obtain ⟨a5, q5, rfl, _, _⟩ := O5.bytes.form
          have S6 := hid (ZR.out.trans (S5.alloc (.cells #[.int .i64 f2.life, .int .i64 f2.era, .int .i64 f2.seq, .int .i64 f2.part, .int .i64 f2.parts, .slice a5 f2.data.length q5] 59)))
          unfold Fr.agg
          clear O5 S5 d0 d1 d2 d3 d4 hcell2 y0 y1 y2 y3 y4 y5
          skip
          go_wp2_with fail
          go_ret2
          exact HNone.out HE.out _ S6.out
        rw [hd] at HDj
        clear hd HT HBad
        go_wp2_with fail
        refine HDj.out.mono ?_
        rintro en w5 ⟨x5, rfl, ⟨u5, rfl, O5⟩, S5⟩
        obtain ⟨a5, q5, rfl, _, _⟩ := O5.bytes.form
        unfold Fr.agg
        have BY := BoxR.new w5 (.int .i64 f2.life) (.int .i64 f2.era) (.int .i64 f2.seq) (.int .i64 f2.part) (.int .i64 f2.parts) (.slice a5 f2.data.length q5)
        have T6 := hid (S5.alloc (.cells #[.int .i64 f2.life, .int .i64 f2.era, .int .i64 f2.seq, .int .i64 f2.part, .int .i64 f2.parts, .slice a5 f2.data.length q5] 59))
        have O6 := hid (O5.bytes.same ((Same.refl w5).alloc (.cells #[.int .i64 f2.life, .int .i64 f2.era, .int .i64 f2.seq, .int .i64 f2.part, .int .i64 f2.parts, .slice a5 f2.data.length q5] 59)))
        clear O5 S5 d0 d1 d2 d3 d4 hcell2 y0 y1 y2 y3 y4 y5
        obtain ⟨n0', n1', n2', n3', n4', n5'⟩ := BY.cells
        clear BY
        go_upto_region 11 with fail
        generalize hw6 : w5.alloc (.cells #[.int .i64 f2.life, .int .i64 f2.era, .int .i64 f2.seq, .int .i64 f2.part, .int .i64 f2.parts, .slice a5 f2.data.length q5] 59) = w6 at *
        generalize w5.heap.size = fb2 at *
        clear hw6
        have HX := hid (one_frameR w6 f2 (.slice a5 f2.data.length q5))
        have T7 := hid (T6.out.alloc (.cells #[.int .i64 f2.life, .int .i64 f2.era, .int .i64 f2.seq, .int .i64 f2.part, .int .i64 f2.parts, .slice a5 f2.data.length q5] 59))
        have HY := hid (O6.out.same ((Same.refl w6).alloc (.cells #[.int .i64 f2.life, .int .i64 f2.era, .int .i64 f2.seq, .int .i64 f2.part, .int .i64 f2.parts, .slice a5 f2.data.length q5] 59)))
        have HO7 := hid (HO2.out.same T7.out)
        have hsz : Hid (w4.heap.size ≤ (w6.alloc (.cells #[.int .i64 f2.life, .int .i64 f2.era, .int .i64 f2.seq, .int .i64 f2.part, .int .i64 f2.parts, .slice a5 f2.data.length q5] 59)).heap.size) := (HZ.out.trans T7.out).size
        have HFlk := hid (show (D.frs (a : Int) k).length ≤ 1000000 by rw [HFl.out]; omega)
        go_wp2_with (at_builtin; refine wpList_append_frameR rfl (.tmp 70) (.tmp 72) 169 tyFramesR rfl HO7.out HX.out HY.out rfl rfl HFlk.out hsz.out ?_; intro x8 w8 ho8 K8)
        go_roundg (gk - 1)
        case measure => have := HK.out; omega
        case rel => exact ⟨k + 1, by have := HK.out; omega, by go_num, by rw [HSuc.out]; exact ho8, (HZ.out.trans T7.out).keepOwn K8 (fun j hj => (HO7.out.lt j hj).1)⟩
      case neg =>
        have hkp : decide ((k : Int) < f.parts) = false := decide_eq_false (by omega)
        obtain rfl : k = f.parts.toNat := by omega
        have HJk := hid (HJ.out _ 59 _ _ HO2.out.frs (small_frs D (a : Int) f.parts.toNat) (by rw [HFl.out]; omega))
        have hjo : joinsB (D.frs (a : Int) f.parts.toNat) = true → joinOf (D.frs (a : Int) f.parts.toNat) = joined (D.frs (a : Int) f.parts.toNat) := fun h => by unfold joinOf; rw [if_pos h]
        have HJo := hid hjo
        clear hjo hkl hkk
        generalize hfr : D.frs (a : Int) f.parts.toNat = L at *
        have HFr := hid hfr
        clear hfr
        generalize joinOf L = rec at *
        go_wp2_with fail
        refine HJk.out.mono ?_
        rintro en w7 ⟨v7, rfl, O7, Z7⟩
        have Z7 := hid Z7
        have T7 := hid (ZR.out.trans Z7.out)
        obtain ⟨a7, q7, rfl, _, _⟩ := O7.bytes.form
        have O7 := hid O7
        clear y0 y1 y2 y3 y4 y5 d0 d1 d2 d3 d4
        cases hj : joinsB L
        case false =>
          have HE := hid (HNo.out fun h => by have h3 := h.2.1; rw [hj] at h3; cases h3)
          clear hj
          skip
          go_wp2_with fail
          go_ret2
          exact HNone.out HE.out _ T7.out
        case true =>
          have HY := hid (HYes.out ⟨by have := HQ.out.1; omega, hj, HQ.out.2.1, HQ.out.2.2⟩)
          rw [← HJo.out hj] at HY
          have HT7 := hid T7.out
          obtain ⟨y0, y1, y2, y3, y4, y5⟩ := (BX.out.same (HZ.out.trans Z7.out)).cells
          clear hj
          go_wp2_with fail
          go_ret2
          rw [HY.out]
          exact ⟨_, rfl, O7.out.mono (ZW.out).size, T7.out⟩
end Go.Proofs.Ytlhnpicmjjddeaa
namespace Go.Proofs.Ytlhnpicmjjddeaa
open Go.RowKit

set_option maxHeartbeats 800000 in
theorem rHas (w : World) (e : TypeId) (v : Value) (l : List Int) (n : Int) (h : Ints w e v l) :
    Calls Try.prog 121 #[v, .int .i64 n] w (RetSame (.bool (l.any fun x => n == x)) w) := by
  obtain ⟨ao, cap, rfl, h1, h2⟩ := h.form
  unfold maxLen at h2
  go_enter Try.func121, Try.ntmps121
  go_wp2_with fail
  go_loopw [5] (fun i wr => ∃ k : Nat, k ≤ l.length ∧ i = .int .i64 k ∧ (∀ j (hj : j < l.length), j < k → (n == l[j]) = false) ∧ Same w wr) (fun i _ => l.length - (intOf i).toNat)
  case atStart => exact ⟨0, Nat.zero_le _, rfl, fun j _ hj => absurd hj (Nat.not_lt_zero j), Same.refl w⟩
  case round =>
    obtain ⟨k, hk, rfl, hb, S⟩ := hrel
    by_cases hlt : k < l.length
    · obtain ⟨g, o, rfl, hc⟩ := (h.same S).at (by omega)
      have c1 := hc k hlt
      clear hc
      have HB := hid hb
      clear hb
      cases hq : n == l[k]
      · have HI : ∀ j (hj : j < l.length), j < k + 1 → (n == l[j]) = false := fun j hj hjk => by
          by_cases e : j = k
          · subst e; exact hq
          · exact HB.out j hj (by omega)
        have HI := hid HI
        have hq2 : (l[k] == n) = false := by rw [beq_eq_false_iff_ne] at hq ⊢; exact fun e => hq e.symm
        clear hq
        generalize l[k] = x at *
        go_wp2_with fail
        go_roundw
        case rel => exact ⟨k + 1, by omega, by go_num, HI.out, S⟩
        case measure => simp [intOf]; omega
      · have HZ : Hid ((l.any fun x => n == x) = true) := List.any_eq_true.2 ⟨l[k], List.getElem_mem hlt, hq⟩
        have hq2 : (l[k] == n) = true := by rw [beq_iff_eq] at hq ⊢; exact hq.symm
        clear hq
        generalize l[k] = x at *
        go_wp2_with fail
        go_ret
        exact ⟨by rw [HZ.out]; rfl, S⟩
    · have HZ : Hid ((l.any fun x => n == x) = false) := by
        show _ = _
        rw [List.any_eq_false]
        intro x hx
        obtain ⟨j, hj, rfl⟩ := List.mem_iff_getElem.1 hx
        rw [hb j hj (by omega)]
        simp
      clear hb
      go_wp2_with fail
      go_ret
      exact ⟨by rw [HZ.out]; rfl, S⟩
end Go.Proofs.Ytlhnpicmjjddeaa
namespace Go.Proofs.Ytlhnpicmjjddeaa
open Go.RowKit

section
variable {w w' : World} {b : Nat} {c0 c1 c2 c3 c4 : Value}
theorem Box5.set1 (h : Box5 w b c0 c1 c2 c3 c4) (u : Value) : Box5 (w.setCell ⟨b, 1, none⟩ u) b c0 u c2 c3 c4 := heap_setCell_same w b 1 _ 117 u h
theorem Box5.set2 (h : Box5 w b c0 c1 c2 c3 c4) (u : Value) : Box5 (w.setCell ⟨b, 2, none⟩ u) b c0 c1 u c3 c4 := heap_setCell_same w b 2 _ 117 u h
theorem Box5.set3 (h : Box5 w b c0 c1 c2 c3 c4) (u : Value) : Box5 (w.setCell ⟨b, 3, none⟩ u) b c0 c1 c2 u c4 := heap_setCell_same w b 3 _ 117 u h
theorem Box5.set4 (h : Box5 w b c0 c1 c2 c3 c4) (u : Value) : Box5 (w.setCell ⟨b, 4, none⟩ u) b c0 c1 c2 c3 u := heap_setCell_same w b 4 _ 117 u h
theorem OwnQ.apart5 {F : Nat → Prop} {v : Value} {ls : List (List UInt8)} (h : OwnQ w F v ls) (hb : Box5 w b c0 c1 c2 c3 c4) : v.ownBlock ≠ some b := by
  obtain ⟨us, h1, _⟩ := h
  intro e
  obtain ⟨c, hc⟩ := owns_block h1 e
  unfold Box5 at hb
  rw [hb] at hc
  simp at hc
theorem Bytes.apart5 {u : Value} {l : List UInt8} (h : Bytes w 5 u l) (hb : Box5 w b c0 c1 c2 c3 c4) : homeOf u ≠ some b := by
  intro e
  obtain ⟨c, fr, hc⟩ := bytes_block h e
  unfold Box5 at hb
  rw [hb] at hc
  simp at hc
theorem Ints.apart5 {u : Value} {l : List Int} (h : Ints w 3 u l) (hb : Box5 w b c0 c1 c2 c3 c4) : homeOf u ≠ some b := by
  intro e
  obtain ⟨c, fr, hc⟩ := Sl.lt h e
  unfold Box5 at hb
  rw [hb] at hc
  simp at hc
/-- stores into the drive's own cells keep its rows -/
theorem OwnQ.box5 {F : Nat → Prop} {v : Value} {ls : List (List UInt8)} (h : OwnQ w F v ls) (hb : Box5 w b c0 c1 c2 c3 c4) (K : Keep (fun k => k = b) w w') : OwnQ w' F v ls := by
  have ha := h.apart5 hb
  obtain ⟨us, h1, h2, h3⟩ := h
  exact ⟨us, owns_keep h1 K fun g hg e => ha (by rw [hg, e]), h2, fun i hi u hu => ⟨(h3 i hi u hu).1.keep K fun g hg e => (h3 i hi u hu).1.apart5 hb (by rw [hg, e]), (h3 i hi u hu).2⟩⟩
theorem Ints.box5 {v : Value} {l : List Int} (h : Ints w 3 v l) (hb : Box5 w b c0 c1 c2 c3 c4) (K : Keep (fun k => k = b) w w') : Ints w' 3 v l :=
  Sl.keep h K fun g hg e => h.apart5 hb (by rw [hg, e])
end
/-- a row of rows that is not empty starts at its block's head -/
theorem OwnQ.slice {w : World} {F : Nat → Prop} {v : Value} {ls : List (List UInt8)} (h : OwnQ w F v ls) (h0 : ls ≠ []) : ∃ g c, v = .slice (some ⟨g, 0, none⟩) ls.length c ∧ F g := by
  obtain ⟨us, ⟨h1, h2⟩, h3, _⟩ := h
  rcases h2 with ⟨rfl, hz⟩ | ⟨g, cap, cur, rfl, _⟩
  · exact absurd (List.eq_nil_of_length_eq_zero hz) h0
  · exact ⟨g, cap, rfl, h3 g rfl⟩
theorem OwnQ.blockIs {w : World} {F : Nat → Prop} {g n c : Nat} {ls : List (List UInt8)} (h : OwnQ w F (.slice (some ⟨g, 0, none⟩) n c) ls) : ∃ cur, w.heap[g]? = some (.cells cur 23 (0, 0)) := by
  obtain ⟨us, h1, _⟩ := h
  exact owns_block h1 rfl
theorem OwnQ.frozen {w : World} {F : Nat → Prop} {g c : Nat} {ls : List (List UInt8)} (h : OwnQ w F (.slice (some ⟨g, 0, none⟩) ls.length c) ls) (j : Nat) : w.frozen? ⟨g, j, none⟩ = false := by
  obtain ⟨us, h1, _⟩ := h
  exact h1.frozenAt j
theorem OwnQ.cellAt {w : World} {F : Nat → Prop} {g c : Nat} {ls : List (List UInt8)} (h : OwnQ w F (.slice (some ⟨g, 0, none⟩) ls.length c) ls) (j : Nat) (hj : j < ls.length) : ∃ u, w.cell? ⟨g, j, none⟩ = some u ∧ Bytes w 5 u ls[j] := by
  obtain ⟨us, h1, _, h3⟩ := h
  have hl := h1.1
  have e := h1.cellAt j (by omega)
  rw [List.getElem?_eq_getElem (by omega)] at e
  exact ⟨_, e, (h3 j hj _ (List.getElem?_eq_getElem (by omega))).1⟩
/-- one row put in another's place -/
theorem OwnQ.put {w : World} {F : Nat → Prop} {g c : Nat} {ls : List (List UInt8)} (h : OwnQ w F (.slice (some ⟨g, 0, none⟩) ls.length c) ls) (k : Nat) {u : Value} {l : List UInt8} (hu : Bytes w 5 u l) (hf : ∀ g, homeOf u = some g → F g) :
    OwnQ (w.setCell ⟨g, k, none⟩ u) F (.slice (some ⟨g, 0, none⟩) ls.length c) (ls.set k l) := by
  obtain ⟨us, h1, h2, h3⟩ := h
  obtain ⟨q1, q2⟩ := h1.stored k u
  have K : Keep (fun j => j = g) w (w.setCell ⟨g, k, none⟩ u) := (Keep.refl (fun j => j = g) w).setCell (p := ⟨g, k, none⟩) (.inl rfl) _
  have hg : ∃ cur, w.heap[g]? = some (.cells cur 23 (0, 0)) := owns_block h1 rfl
  have keepB : ∀ {u0 : Value} {l0 : List UInt8}, Bytes w 5 u0 l0 → Bytes (w.setCell ⟨g, k, none⟩ u) 5 u0 l0 := fun {u0 l0} hb => hb.keep K fun g' hg' e => by
    obtain ⟨c1, f1, e1⟩ := bytes_block hb hg'
    obtain ⟨c2, e2⟩ := hg
    rw [e, e2] at e1
    simp at e1
  refine ⟨us.set k u, by rw [List.length_set]; exact q1, h2, fun i hi x hx => ?_⟩
  rw [List.length_set] at hi
  by_cases e : k = i
  · subst e
    rw [List.getElem?_set] at hx
    have hl : us.length = ls.length := by have := h1.1; omega
    rw [if_pos rfl, if_pos (by omega)] at hx
    cases hx
    rw [List.getElem_set_self]
    exact ⟨keepB hu, hf⟩
  · rw [List.getElem?_set_ne e] at hx
    rw [List.getElem_set_ne e]
    exact ⟨keepB (h3 i hi x hx).1, (h3 i hi x hx).2⟩

/-- The pointer p is a reference's drive that reads as D; all its blocks lie in F. -/
def IsRd (w : World) (p : Value) (F : Nat → Prop) (D : Dv) : Prop :=
  ∃ b rv fz kv ks n, p = .pointer (some ⟨b, 0, none⟩) ∧ Box5 w b rv (.bool D.off) (.int .i64 fz) kv (.int .i64 n) ∧ F b ∧ OwnQ w F rv D.C ∧ Ints w 3 kv ks ∧ (∀ g, homeOf kv = some g → F g) ∧
    (D.off = false → fz = if D.fused then D.left else -1) ∧ (D.fused = true → ks = D.keep) ∧ D.Ok
theorem IsRd.keep {w w' : World} {p : Value} {F M : Nat → Prop} {D : Dv} (h : IsRd w p F D) (k : Keep M w w') (hd : ∀ i, F i → ¬ M i) : IsRd w' p F D := by
  obtain ⟨b, rv, fz, kv, ks, n, rfl, h1, h2, h3, h4, h5, h6⟩ := h
  exact ⟨b, rv, fz, kv, ks, n, rfl, h1.keep k (hd b h2), h2, h3.keep k hd, Sl.keep h4 k fun g hg => hd g (h5 g hg), h5, h6⟩
theorem IsRd.same {w w' : World} {p : Value} {F : Nat → Prop} {D : Dv} (h : IsRd w p F D) (k : Same w w') : IsRd w' p F D := h.keep k fun _ _ x => x
theorem IsRd.foot {w : World} {p : Value} {F F' : Nat → Prop} {D : Dv} (h : IsRd w p F D) (hF : ∀ i, F i → F' i) : IsRd w p F' D := by
  obtain ⟨b, rv, fz, kv, ks, n, rfl, h1, h2, h3, h4, h5, h6⟩ := h
  exact ⟨b, rv, fz, kv, ks, n, rfl, h1, hF b h2, h3.foot hF, h4, fun g hg => hF g (h5 g hg), h6⟩
theorem IsRd.ok {w : World} {p : Value} {F : Nat → Prop} {D : Dv} (h : IsRd w p F D) : D.Ok := let ⟨_, _, _, _, _, _, _, _, _, _, _, _, _, _, h9⟩ := h; h9
theorem IsRd.ptr {w : World} {p : Value} {F : Nat → Prop} {D : Dv} (h : IsRd w p F D) : ∃ b, p = .pointer (some ⟨b, 0, none⟩) := let ⟨b, _, _, _, _, _, h1, _⟩ := h; ⟨b, h1⟩
/-- what a call on the reference's drive leaves -/
def RetRd (r : Int × Dv) (p : Value) (F : Nat → Prop) (w : World) (en : Ending) (w' : World) : Prop := ∃ F', en = .returned (.int .i64 r.1) ∧ Keep F w w' ∧ IsRd w' p F' r.2 ∧ Grow F F' w w'
/-- F, and all that is new -/
def FG (F : Nat → Prop) (w w' : World) (k : Nat) : Prop := F k ∨ (w.heap.size ≤ k ∧ k < w'.heap.size)
theorem FG.old {F : Nat → Prop} {w w' : World} {k : Nat} (h : F k) : FG F w w' k := .inl h
theorem FG.mono {F : Nat → Prop} {w w1 w2 : World} (h : w1.heap.size ≤ w2.heap.size) {k : Nat} (hk : FG F w w1 k) : FG F w w2 k := hk.imp id fun x => ⟨x.1, Nat.lt_of_lt_of_le x.2 h⟩
theorem FG.grow (F : Nat → Prop) (w w' : World) : Grow F (FG F w w') w w' := fun _ h => h
theorem rNewD (w : World) (n : Nat) (h1 : 1 ≤ n) (h2 : n ≤ 2048) : Calls Try.prog 59 #[.int .i64 n] w fun en w' =>
    ∃ p F, en = .returned p ∧ Same w w' ∧ IsRd w' p F (Dv.new n) ∧ Bnd F w.heap.size w'.heap.size := by
  refine (rNew w n h2).mono ?_
  rintro en w1 ⟨rv, rfl, hB, ⟨us, hO1, hO2⟩, S⟩
  have hsz := hB.lt
  refine ⟨_, fun k => w.heap.size ≤ k ∧ k < w1.heap.size, rfl, S, ⟨w.heap.size, rv, -1, .slice none 0 0, [], 0, rfl, hB, ⟨Nat.le_refl _, hsz⟩, ⟨us, ?_, fun g hg => ?_, fun i hi u hu => ⟨(hO2 i hi u hu).1, fun g hg => ?_⟩⟩, Ints.nil _ _, (fun g hg => by simp [homeOf] at hg), (fun _ => rfl), (fun x => by cases x), ?_⟩, fun k hk => hk⟩
  · obtain ⟨q1, q2⟩ := hO1
    refine ⟨q1, ?_⟩
    rcases q2 with q2 | ⟨g, cap, cur, a, b, c⟩
    · exact .inl q2
    · exact .inr ⟨g, cap, cur, a, Nat.zero_le _, c⟩
  · have := World.ownsRow.lt hO1 g hg
    exact ⟨by omega, this.2⟩
  · have := (hO2 i hi u hu).2 g hg
    exact ⟨by omega, Sl.home_lt (hO2 i hi u hu).1 hg⟩
  · refine ⟨by simp [Dv.new]; omega, by simp [Dv.new]; omega, ?_, (fun _ x => by cases x), by simp [Dv.new], by simp [Dv.new], by simp [Dv.new]⟩
    intro c hc
    have hc' : c ∈ List.replicate n (List.replicate 96 (0 : UInt8)) := hc
    obtain ⟨_, rfl⟩ := List.mem_replicate.1 hc'
    simp
end Go.Proofs.Ytlhnpicmjjddeaa
namespace Go.Proofs.Ytlhnpicmjjddeaa
open Go.RowKit

theorem OwnQ.frozen' {w : World} {F : Nat → Prop} {g n c : Nat} {ls : List (List UInt8)} (h : OwnQ w F (.slice (some ⟨g, 0, none⟩) n c) ls) (j : Nat) : w.frozen? ⟨g, j, none⟩ = false := by
  obtain ⟨us, h1, _⟩ := h
  rcases h1.2 with ⟨h', _⟩ | ⟨g', cap', cur, h', hb, hg, _⟩
  · simp at h'
  · simp only [Value.slice.injEq, Option.some.injEq, Addr.mk.injEq, and_true, true_and] at h'
    obtain ⟨rfl, _⟩ := h'
    unfold World.frozen?
    rw [hg]
    by_cases h0 : 0 ≤ j <;> simp
theorem OwnQ.cellAt' {w : World} {F : Nat → Prop} {g n c : Nat} {ls : List (List UInt8)} (h : OwnQ w F (.slice (some ⟨g, 0, none⟩) n c) ls) (j : Nat) (hn : ls.length = n) (hj : j < n) : ∃ u, w.cell? ⟨g, j, none⟩ = some u := by
  subst hn
  obtain ⟨u, hu, _⟩ := h.cellAt j hj
  exact ⟨u, hu⟩
/-- amid Write: k sectors are done -/
structure WrMid (w wr : World) (F : Nat → Prop) (D : Dv) (at_ : Nat) (ls : List (List UInt8)) (b g0 cc : Nat) (bl : Bool) (fz : Int) (kv : Value) (ks : List Int) (n : Int) (k : Nat) : Prop where
  box : Box5 wr b (.slice (some ⟨g0, 0, none⟩) D.C.length cc) (.bool bl) (.int .i64 fz) kv (.int .i64 n)
  rows : OwnQ wr (FG F w wr) (.slice (some ⟨g0, 0, none⟩) D.C.length cc) (landed D.C at_ ls D.keeps k)
  ints : Ints wr 3 kv ks
  old : Keep F w wr
section
variable {w wr w3 : World} {F : Nat → Prop} {D : Dv} {at_ : Nat} {ls : List (List UInt8)} {b g0 cc : Nat} {bl : Bool} {fz : Int} {kv : Value} {ks : List Int} {n : Int} {k : Nat}
theorem WrMid.next (h : WrMid w wr F D at_ ls b g0 cc bl fz kv ks n k) (hg : F g0) (hk : k < ls.length) (hC : at_ + ls.length ≤ D.C.length) (hs : D.keeps k = true) (S3 : Same wr w3) {v3 : Value} (O3 : OwnB w3 wr.heap.size v3 ls[k]) :
    WrMid w (w3.setCell ⟨g0, at_ + k, none⟩ v3) F D at_ ls b g0 cc bl fz kv ks n (k + 1) := by
  have Q3 := h.rows.same S3
  have B3 := h.box.same S3
  obtain ⟨cur, hcur⟩ := Q3.blockIs
  have hne : b ≠ g0 := fun e => by
    subst e
    unfold Box5 at B3
    rw [hcur] at B3
    simp at B3
  have K : Keep (fun j => j = g0) w3 (w3.setCell ⟨g0, at_ + k, none⟩ v3) := (Keep.refl (fun j => j = g0) w3).setCell (p := ⟨g0, at_ + k, none⟩) (.inl rfl) _
  have hsz : (w3.setCell ⟨g0, at_ + k, none⟩ v3).heap.size = w3.heap.size := by simp
  refine ⟨B3.keep K hne, ?_, Sl.keep (h.ints.same S3) K fun g hg e => ?_, (h.old.same S3).trans (K.weak' fun i e => by subst e; exact hg)⟩
  · rw [landed_succ_yes _ _ _ _ _ hk hC hs]
    have hl := landed_length D.C at_ ls D.keeps k
    have Q4 : OwnQ w3 (FG F w w3) (.slice (some ⟨g0, 0, none⟩) (landed D.C at_ ls D.keeps k).length cc) (landed D.C at_ ls D.keeps k) := by
      rw [hl]
      exact Q3.foot fun i hi => hi.mono S3.size
    have Q5 := Q4.put (at_ + k) (u := v3) (l := ls[k]) O3.bytes (fun g hg => by
      have h1 := O3.fresh g hg
      have h2 := (O3.lt g (home_own hg)).2
      exact .inr ⟨Nat.le_trans h.old.size h1, h2⟩)
    rw [hl] at Q5
    exact Q5.foot fun i hi => hi.mono (by rw [hsz]; exact Nat.le_refl _)
  · obtain ⟨c1, f1, e1⟩ := Sl.lt (h.ints.same S3) hg
    rw [e, hcur] at e1
    simp at e1
theorem WrMid.skip (h : WrMid w wr F D at_ ls b g0 cc bl fz kv ks n k) (hs : D.keeps k = false) (S3 : Same wr w3) : WrMid w w3 F D at_ ls b g0 cc bl fz kv ks n (k + 1) := by
  refine ⟨h.box.same S3, ?_, h.ints.same S3, h.old.same S3⟩
  rw [landed_succ_no _ _ _ _ _ hs]
  exact (h.rows.same S3).foot fun i hi => hi.mono S3.size
theorem WrMid.same (h : WrMid w wr F D at_ ls b g0 cc bl fz kv ks n k) (S3 : Same wr w3) : WrMid w w3 F D at_ ls b g0 cc bl fz kv ks n k :=
  ⟨h.box.same S3, (h.rows.same S3).foot fun i hi => hi.mono S3.size, h.ints.same S3, h.old.same S3⟩
theorem WrMid.less (h : WrMid w wr F D at_ ls b g0 cc bl fz kv ks n k) (hb : F b) (fz' : Int) : WrMid w (wr.setCell ⟨b, 2, none⟩ (.int .i64 fz')) F D at_ ls b g0 cc bl fz' kv ks n k := by
  have K : Keep (fun j => j = b) wr (wr.setCell ⟨b, 2, none⟩ (.int .i64 fz')) := (Keep.refl (fun j => j = b) wr).setCell (p := ⟨b, 2, none⟩) (.inl rfl) _
  have hsz : (wr.setCell ⟨b, 2, none⟩ (.int .i64 fz')).heap.size = wr.heap.size := by simp
  exact ⟨h.box.set2 _, (h.rows.box5 h.box K).foot fun i hi => hi.mono (by rw [hsz]; exact Nat.le_refl _), h.ints.box5 h.box K, h.old.trans (K.weak' fun i e => by subst e; exact hb)⟩
theorem WrMid.done (h : WrMid w wr F D at_ ls b g0 cc bl fz kv ks n ls.length) (hb : F b) (hkv : ∀ g, homeOf kv = some g → F g) (hok : D.Ok) (ho : D.off = false) (h96 : ∀ c ∈ ls, c.length = 96) (hbl : bl = D.blown)
    (hfz : D.blown = false → fz = if D.fused then D.left - 1 else -1) (hks : D.fused = true → ks = D.keep) : IsRd wr (.pointer (some ⟨b, 0, none⟩)) (FG F w wr) (D.wrote at_ ls) := by
  refine ⟨b, _, fz, kv, ks, n, rfl, ?_, .inl hb, h.rows, h.ints, fun g hg => .inl (hkv g hg), fun e => ?_, fun e => hks e, D.stage_ok hok ho at_ ls h96 ls.length⟩
  · have := h.box
    rw [hbl] at this
    exact this
  · have e2 : D.blown = false := e
    rw [hfz e2]
    show _ = if D.fused then (if D.fused then D.left - 1 else D.left) else -1
    split <;> rfl
end
set_option maxHeartbeats 12800000 in
set_option maxRecDepth 100000 in
theorem rWrite (w : World) (p : Value) (F : Nat → Prop) (D : Dv) (at_ : Int) (e : TypeId) (v : Value) (ls : List (List UInt8)) (hD : IsRd w p F D) (hR : Rows2N F w e v ls) :
    Calls Try.prog 104 #[p, .int .i64 at_, v] w (RetRd (D.write at_ ls) p F w) := by
  have HD := hid hD
  have HO := hid hD.ok
  have hcl := hD.ok.1
  obtain ⟨ao, cap, rfl, f1, f2⟩ := hR.rows.form
  unfold maxLen at f2
  have HR := hid hR
  obtain ⟨b, rv, fz, kv, ks, n, rfl, h1, h2, h3, h4, h5, h6, h7, h8⟩ := hD
  obtain ⟨g0, cc, rfl, hg0⟩ := h3.slice (fun x => by have := h8.2.1; rw [x] at this; simp at this)
  obtain ⟨ka, kc, rfl, _, _⟩ := h4.form
  have H2 := hid h2
  have H3 := hid h3
  have H4 := hid h4
  have H5 := hid h5
  have H6 := hid h6
  have H7 := hid h7
  have HG := hid hg0
  have hW9 := fun ho : D.off = true => (show D.write at_ ls = (9, D) from by unfold Dv.write; rw [if_pos ho])
  have hW2 := fun (ho : D.off = false) (hb : D.bad at_ ls = true) => (show D.write at_ ls = (2, D) from by unfold Dv.write; rw [if_neg (by rw [ho]; simp), if_pos hb])
  have hW0 := fun (ho : D.off = false) (hb : D.bad at_ ls = false) (hn : ls = []) => (show D.write at_ ls = (0, D) from by unfold Dv.write; rw [if_neg (by rw [ho]; simp), if_neg (by rw [hb]; simp), if_pos hn])
  have hW := fun (ho : D.off = false) (hb : D.bad at_ ls = false) (hn : ls ≠ []) => (show D.write at_ ls = (if D.blown then 9 else 0, D.wrote at_ ls) from by unfold Dv.write; rw [if_neg (by rw [ho]; simp), if_neg (by rw [hb]; simp), if_neg hn])
  have HW9 := hid hW9
  have HW2 := hid hW2
  have HW0 := hid hW0
  have HW := hid hW
  have hbad : D.bad at_ ls = (decide (at_ < 0) || (decide ((D.C.length : Int) < at_) || (decide ((D.C.length : Int) - at_ < ls.length) || ls.any isLong))) := rfl
  have HBad := hid hbad
  have hln : ls.length ≤ 9223372036854775807 := by omega
  clear hR h2 h3 h4 h5 h6 h7 h8 hg0 hW9 hW2 hW0 hW hbad f1
  cases hoff : D.off
  case true =>
    rw [hoff] at h1
    have HZ := hid (HW9.out hoff)
    obtain ⟨c0, c1, c2, c3, c4⟩ := h1.cells
    clear h1 hoff
    go_enter Try.func104, Try.ntmps104
    go_wp2_with fail
    go_ret
    rw [HZ.out]
    exact ⟨F, rfl, Keep.refl _ _, HD.out, Grow.refl _ _ _⟩
  rw [hoff] at h1
  have HB := hid h1
  have Hoff := hid hoff
  obtain ⟨c0, c1, c2, c3, c4⟩ := h1.cells
  clear h1 hoff
  go_enter Try.func104, Try.ntmps104
  go_wp2_with fail
  go_loop [7] (fun i => ∃ k : Nat, k ≤ ls.length ∧ i = .int .i64 k ∧ ∀ j (hj : j < ls.length), j < k → isLong ls[j] = false) (fun i => ls.length - (intOf i).toNat)
  case atStart => exact ⟨0, Nat.zero_le _, rfl, fun j _ hj => absurd hj (Nat.not_lt_zero j)⟩
  case round =>
    obtain ⟨k, hk, rfl, hb⟩ := hrel
    have HBk := hid hb
    clear hb
    by_cases hlt : k < ls.length
    case pos =>
      obtain ⟨g, o, a, c, e', rfl, cr, _⟩ := HR.out.row k hlt
      cases hq : isLong ls[k]
      case false =>
        have HI : Hid (∀ j (hj : j < ls.length), j < k + 1 → isLong ls[j] = false) := fun j hj hjk => by
          by_cases ej : j = k
          · subst ej; exact hq
          · exact HBk.out j hj (by omega)
        have hq' : ((ls[k].length : Int) != 96) = false := by
          unfold isLong at hq
          rw [bne_eq_false_iff_eq]
          simp at hq
          omega
        clear hq HBk c0 c1 c2 c3 c4
        generalize ls[k].length = n1 at *
        go_wp2_with fail
        go_round
        case rel => exact ⟨k + 1, by omega, by go_num, HI.out⟩
        case measure => simp [intOf]; omega
      case true =>
        have HZ := hid (HW2.out Hoff.out (by
          rw [HBad.out, show ls.any isLong = true from List.any_eq_true.2 ⟨_, List.getElem_mem hlt, hq⟩]
          simp))
        have hq' : ((ls[k].length : Int) != 96) = true := by
          unfold isLong at hq
          rw [bne_iff_ne]
          simp at hq
          omega
        clear hq HBk c0 c1 c2 c3 c4
        generalize ls[k].length = n1 at *
        go_wp2_with fail
        go_ret
        rw [HZ.out]
        exact ⟨F, rfl, Keep.refl _ _, HD.out, Grow.refl _ _ _⟩
    case neg =>
      have hnl : ls.any isLong = false := by
        rw [List.any_eq_false]
        intro x hx
        obtain ⟨j, hj, rfl⟩ := List.mem_iff_getElem.1 hx
        rw [HBk.out j hj (by omega)]
        simp
      rw [hnl] at HBad
      have h96 : ∀ c ∈ ls, c.length = 96 := by
        intro c hc
        have := List.any_eq_false.1 hnl c hc
        unfold isLong at this
        simpa using this
      have H96 := hid h96
      clear hnl h96 HBk
      by_cases g1 : at_ < 0
      case pos =>
        have HZ := hid (HW2.out Hoff.out (by rw [HBad.out, decide_eq_true g1]; rfl))
        go_wp2_with fail
        go_ret
        rw [HZ.out]
        exact ⟨F, rfl, Keep.refl _ _, HD.out, Grow.refl _ _ _⟩
      obtain ⟨at_, rfl⟩ := Int.eq_ofNat_of_zero_le (a := at_) (by omega)
      have g1' : decide ((at_ : Int) < 0) = false := by simp
      by_cases g2 : D.C.length < at_
      case pos =>
        have HZ := hid (HW2.out Hoff.out (by rw [HBad.out, show decide ((D.C.length : Int) < (at_ : Int)) = true from by simpa using g2]; simp))
        have g2' : decide (D.C.length < at_) = true := by simpa using g2
        clear g1
        go_wp2_with fail
        go_ret
        rw [HZ.out]
        exact ⟨F, rfl, Keep.refl _ _, HD.out, Grow.refl _ _ _⟩
      have g2' : decide (D.C.length < at_) = false := by simpa using g2
      by_cases g3 : (D.C.length : Int) - at_ < ls.length
      case pos =>
        have HZ := hid (HW2.out Hoff.out (by rw [HBad.out, decide_eq_true g3]; simp))
        have g3' : decide ((D.C.length : Int) - at_ < ls.length) = true := by simpa using g3
        have g2n : at_ ≤ D.C.length := by omega
        clear g1 g2 g3
        go_wp2_with fail
        go_ret
        rw [HZ.out]
        exact ⟨F, rfl, Keep.refl _ _, HD.out, Grow.refl _ _ _⟩
      have g3' : decide ((D.C.length : Int) - at_ < ls.length) = false := by simpa using g3
      have HBf : Hid (D.bad (at_ : Int) ls = false) := by
        show _ = _
        rw [HBad.out, decide_eq_false g1, decide_eq_false (show ¬ ((D.C.length : Int) < (at_ : Int)) by omega), decide_eq_false g3]
        rfl
      have g4 : at_ + ls.length ≤ D.C.length := by omega
      by_cases hne : ls.length = 0
      case pos =>
        have HZ := hid (HW0.out Hoff.out HBf.out (List.eq_nil_of_length_eq_zero hne))
        have hne' : ((ls.length : Int) == 0) = true := by rw [beq_iff_eq]; omega
        clear g1 g2 g3 hne
        go_wp2_with fail
        go_ret
        rw [HZ.out]
        exact ⟨F, rfl, Keep.refl _ _, HD.out, Grow.refl _ _ _⟩
      have hne' : ((ls.length : Int) == 0) = false := by rw [beq_eq_false_iff_ne]; omega
      have HZ := hid (HW.out Hoff.out HBf.out (fun x => hne (by rw [x]; rfl)))
      have hbd : D.blown = (D.fused && decide (D.left - 1 < 0)) := rfl
      have hfzD := H6.out Hoff.out
      have z4 := HB.out.free 4
      have z1 := HB.out.free 1
      have HHas := hid rHas
      clear g1 g2 g3 hne HBad HW9 HW2 HW0 HW HBf
      cases hB : D.blown
      case false =>
        have hfz : (fz == 0) = false := by
          rw [beq_eq_false_iff_ne]
          intro e0
          rw [hB] at hbd
          cases hf : D.fused
          · rw [hf] at hfzD; simp at hfzD; omega
          · rw [hf] at hfzD hbd
            have h0 := HO.out.2.2.2.1 Hoff.out hf
            simp at hfzD hbd
            omega
        have hI : WrMid w ((w.setCell ⟨b, 4, none⟩ (.int .i64 (wrap64 (n + 1)))).setCell ⟨b, 1, none⟩ (.bool false)) F D at_ ls b g0 cc false fz (.slice ka ks.length kc) ks (wrap64 (n + 1)) 0 := by
          have K : Keep (fun j => j = b) w ((w.setCell ⟨b, 4, none⟩ (.int .i64 (wrap64 (n + 1)))).setCell ⟨b, 1, none⟩ (.bool false)) := ((Keep.refl (fun j => j = b) w).setCell (p := ⟨b, 4, none⟩) (.inl rfl) _).setCell (p := ⟨b, 1, none⟩) (.inl rfl) _
          refine ⟨(HB.out.set4 _).set1 _, ?_, H4.out.box5 HB.out K, K.weak' fun i e => by subst e; exact H2.out⟩
          rw [landed_zero]
          exact (H3.out.box5 HB.out K).foot fun i hi => .inl hi
        have HI := hid hI
        have HBl := hid hB
        have HKt : Hid (∀ i, D.keeps i = true) := fun i => by show (!D.blown || _) = true; rw [HBl.out]; rfl
        have Hfz := hid hfzD
        clear hI hB hbd hfzD
        go_wp2_with fail
        clear c0 c1 c2 c3 c4 z4 z1 hfz
        go_loopw [8] (fun i wr => ∃ k : Nat, k ≤ ls.length ∧ i = .int .i64 k ∧ WrMid w wr F D at_ ls b g0 cc false fz (.slice ka ks.length kc) ks (wrap64 (n + 1)) k) (fun i _ => ls.length - (intOf i).toNat)
        case atStart => exact ⟨0, Nat.zero_le _, rfl, HI.out⟩
        case round =>
          obtain ⟨k, hk, rfl, M⟩ := hrel
          have HM := hid M
          clear M HI
          obtain ⟨c0, c1, c2, c3, c4⟩ := HM.out.box.cells
          by_cases hlt : k < ls.length
          case pos =>
            obtain ⟨g, o, a, c, e', rfl, cr, hby⟩ := (HR.out.keep HM.out.old).row k hlt
            have h96 := H96.out _ (List.getElem_mem hlt)
            have H96k := hid h96
            have HBy := hid hby
            have HNx := hid (fun w3 v3 (S3 : Same wr w3) (O3 : OwnB w3 wr.heap.size v3 ls[k]) => HM.out.next HG.out hlt g4 (HKt.out k) S3 O3)
            rw [h96] at cr
            rw [h96] at HBy
            have hw : IntKind.i64.wrap ((at_ : Int) + (k : Int)) = (at_ : Int) + (k : Int) := by rw [IntKind.wrap_i64]; omega
            have hx1 : 0 ≤ (at_ : Int) + (k : Int) := by omega
            have hx2 : (at_ : Int) + (k : Int) < (D.C.length : Int) := by omega
            have hx3 : ((at_ : Int) + (k : Int)).toNat = at_ + k := by omega
            clear hby h96
            generalize ls[k] = lk at *
            go_upto_region 19 with fail
            obtain ⟨SS, hSS⟩ : ∃ SS : Bool → World → Prop, ∀ bz wz, SS bz wz ↔ (bz = false → wz.cell? ⟨b, 0, none⟩ = some (.slice (some ⟨g0, 0, none⟩) D.C.length cc) ∧ wz.cell? ⟨g, o + k, none⟩ = some (.slice a 96 c)) := ⟨fun bz wz => bz = false → wz.cell? ⟨b, 0, none⟩ = some (.slice (some ⟨g0, 0, none⟩) D.C.length cc) ∧ wz.cell? ⟨g, o + k, none⟩ = some (.slice a 96 c), fun _ _ => Iff.rfl⟩
            have HSS := hid hSS
            clear hSS
            refine wp_region_B 14 SS (by kernel_rfl) ((HSS.out _ _).2 fun _ => ⟨c0, cr⟩) (fun hHeld => ?_)
            refine' wpAnyB_take (i := 0) (b := false) rfl (by kernel_rfl) (by kernel_rfl) (by kernel_rfl) (by decide) (by kernel_rfl) (fun _ _ _ h => h) (by assumption) (.inl ⟨by rfl, ?_⟩) ?_
            rotate_left
            · (intro wz hSw; go_simp; try with_reducible rfl)
            try simp only [Act.put, List.setIfInBounds_toArray, List.set_cons_zero, List.set_cons_succ]
            refine' wpAnyB_take (i := 1) (b := false) rfl (by kernel_rfl) (by kernel_rfl) (by kernel_rfl) (by decide) (by kernel_rfl) (fun _ _ _ h => h) (by assumption) (.inl ⟨by rfl, ?_⟩) ?_
            rotate_left
            · (intro wz hSw; go_simp; try with_reducible rfl)
            try simp only [Act.put, List.setIfInBounds_toArray, List.set_cons_zero, List.set_cons_succ]
            refine' wpAnyB_take (i := 2) (b := false) rfl (by kernel_rfl) (by kernel_rfl) (by kernel_rfl) (by decide) (by kernel_rfl) (fun _ _ _ h => h) (by assumption) (.inl ⟨by rfl, ?_⟩) ?_
            rotate_left
            · (intro wz hSw; go_simp; try with_reducible rfl)
            try simp only [Act.put, List.setIfInBounds_toArray, List.set_cons_zero, List.set_cons_succ]
            refine' wpAnyB_early (i := 3) rfl (by kernel_rfl) (by kernel_rfl) (by kernel_rfl) (by decide) (by kernel_rfl) (by kernel_rfl) (fun _ _ _ h => h) (by assumption) (.inl ⟨by rfl, ?_⟩) ?_
            rotate_left
            · (intro wz hSw; obtain ⟨h7, h6⟩ := (HSS.out _ _).1 hSw rfl; go_simp; try with_reducible rfl)
            try simp only [Act.put, List.setIfInBounds_toArray, List.set_cons_zero, List.set_cons_succ]
            refine' wpAnyB_take (i := 4) (b := false) rfl (by kernel_rfl) (by kernel_rfl) (by kernel_rfl) (by decide) (by kernel_rfl) (fun _ _ _ h => h) (by assumption) (.inl ⟨by rfl, ?_⟩) ?_
            rotate_left
            · (intro wz hSw; go_simp; try with_reducible rfl)
            try simp only [Act.put, List.setIfInBounds_toArray, List.set_cons_zero, List.set_cons_succ]
            refine' wpAnyB_take (i := 5) (b := false) rfl (by kernel_rfl) (by kernel_rfl) (by kernel_rfl) (by decide) (by kernel_rfl) (fun _ _ _ h => h) (by assumption) (.inl ⟨by rfl, ?_⟩) ?_
            rotate_left
            · (intro wz hSw; go_simp; try with_reducible rfl)
            try simp only [Act.put, List.setIfInBounds_toArray, List.set_cons_zero, List.set_cons_succ]
            refine' wpAnyB_take (i := 6) (b := false) rfl (by kernel_rfl) (by kernel_rfl) (by kernel_rfl) (by decide) (by kernel_rfl) (fun _ _ _ h => h) (by assumption) (.inl ⟨by rfl, ?_⟩) ?_
            rotate_left
            · (intro wz hSw; go_simp; try with_reducible rfl)
            try simp only [Act.put, List.setIfInBounds_toArray, List.set_cons_zero, List.set_cons_succ]
            refine' wpAnyB_take (i := 7) (b := false) rfl (by kernel_rfl) (by kernel_rfl) (by kernel_rfl) (by decide) (by kernel_rfl) (fun _ _ _ h => h) (by assumption) (.inl ⟨by rfl, ?_⟩) ?_
            rotate_left
            · (intro wz hSw; go_simp; try with_reducible rfl)
            try simp only [Act.put, List.setIfInBounds_toArray, List.set_cons_zero, List.set_cons_succ]
            refine' wpAnyB_take (i := 8) (b := false) rfl (by kernel_rfl) (by kernel_rfl) (by kernel_rfl) (by decide) (by kernel_rfl) (fun _ _ _ h => h) (by assumption) (.inl ⟨by rfl, ?_⟩) ?_
            rotate_left
            · (intro wz hSw; go_simp; try with_reducible rfl)
            try simp only [Act.put, List.setIfInBounds_toArray, List.set_cons_zero, List.set_cons_succ]
            refine' wpAnyB_take (i := 9) (b := false) rfl (by kernel_rfl) (by kernel_rfl) (by kernel_rfl) (by decide) (by kernel_rfl) (fun _ _ _ h => h) (by assumption) (.inl ⟨by rfl, ?_⟩) ?_
            rotate_left
            · (intro wz hSw; go_simp; try with_reducible rfl)
            try simp only [Act.put, List.setIfInBounds_toArray, List.set_cons_zero, List.set_cons_succ]
            refine' wpAnyB_take (i := 10) (b := false) rfl (by kernel_rfl) (by kernel_rfl) (by kernel_rfl) (by decide) (by kernel_rfl) (fun _ _ _ h => h) (by assumption) (.inl ⟨by rfl, ?_⟩) ?_
            rotate_left
            · (intro wz hSw; go_simp; try with_reducible rfl)
            try simp only [Act.put, List.setIfInBounds_toArray, List.set_cons_zero, List.set_cons_succ]
            refine' wpAnyB_early (i := 11) rfl (by kernel_rfl) (by kernel_rfl) (by kernel_rfl) (by decide) (by kernel_rfl) (by kernel_rfl) (fun _ _ _ h => h) (by assumption) (.inl ⟨by rfl, ?_⟩) ?_
            rotate_left
            · (intro wz hSw; obtain ⟨h7, h6⟩ := (HSS.out _ _).1 hSw rfl; go_simp; try with_reducible rfl)
            try simp only [Act.put, List.setIfInBounds_toArray, List.set_cons_zero, List.set_cons_succ]
            refine wpAnyB_only (i := 12) (b := false) rfl (by kernel_rfl) (by kernel_rfl) (fun K hK => ?_)
            refine step_append_bytes (by rfl) (.tmp 94) (.tmp 98) 23 tyBytes (by rfl) (OwnB.nil _ wr.heap.size) (HBy.out.same (Same.refl wr).drew) (by rfl) (by rfl) (by have := H96k.out; simp; omega) (by simp) ?_
            intro x3 w3 ho3 hg3
            have S3 := hid (((Same.refl wr).drew).grown_own (OwnB.nil _ wr.heap.size) (Nat.le_refl _) hg3)
            rw [List.nil_append] at ho3
            have O3 := hid ho3
            obtain ⟨a3, q3, rfl, _, _⟩ := O3.out.bytes.form
            have QQ := hid (HM.out.rows.same S3.out)
            obtain ⟨y0, y1, y2, y3, y4⟩ := (HM.out.box.same S3.out).cells
            have crn := (S3.out.cell (p := ⟨g, o + k, none⟩) (World.block_lt_of_cell? wr _ cr)).trans cr
            have zz := QQ.out.frozen' (at_ + k)
            obtain ⟨uo, hco⟩ := QQ.out.cellAt' (at_ + k) (by rw [landed_length]) (by omega)
            clear ho3 hg3
            refine hK.out _ _ ((HSS.out _ _).2 fun _ => ⟨y0, crn⟩) (fun hHeld => ?_)
            clear hK K
            try simp only [Act.put, List.setIfInBounds_toArray, List.set_cons_zero, List.set_cons_succ]
            refine' wpAnyB_take (i := 13) (b := false) rfl (by kernel_rfl) (by kernel_rfl) (by kernel_rfl) (by decide) (by kernel_rfl) (fun _ _ _ h => h) (by assumption) (.inl ⟨by rfl, ?_⟩) ?_
            rotate_left
            · (intro wz hSw; go_simp; try with_reducible rfl)
            try simp only [Act.put, List.setIfInBounds_toArray, List.set_cons_zero, List.set_cons_succ]
            refine wpAnyB_only (i := 14) (b := true) rfl (by kernel_rfl) (by kernel_rfl) (fun K hK => ?_)
            go_simp
            refine hK.out _ _ ((HSS.out _ _).2 fun h => Bool.noConfusion h) (fun hHeld => ?_)
            clear hK K
            try simp only [Act.put, List.setIfInBounds_toArray, List.set_cons_zero, List.set_cons_succ]
            refine wpAnyB_done (by kernel_rfl) ?_ _
            have MN := hid (HNx.out w3 _ S3.out O3.out)
            clear HNx y0 y1 y2 y3 y4 crn zz hco hHeld c0 c1 c2 c3 c4 cr
            go_wp2_with fail
            go_roundw
            case rel => exact ⟨k + 1, by omega, by go_num, MN.out⟩
            case measure => simp [intOf]; omega
          case neg =>
            obtain rfl : k = ls.length := by omega
            cases hf : D.fused
            case false =>
              have hz : fz = -1 := by rw [Hfz.out, hf]; rfl
              have MD := hid (HM.out.done H2.out H5.out HO.out Hoff.out H96.out HBl.out.symm (fun _ => by rw [hz, hf]; rfl) H7.out)
              subst hz
              clear hf
              go_wp2_with fail
              go_ret
              rw [HZ.out, HBl.out]
              exact ⟨_, rfl, HM.out.old, MD.out, FG.grow _ _ _⟩
            case true =>
              have hz : fz = D.left := by rw [Hfz.out, hf]; rfl
              have h0 : 1 ≤ fz := by
                have h1 := HBl.out
                unfold Dv.blown at h1
                rw [hf] at h1
                simp at h1
                omega
              have h2 : fz ≤ 9223372036854775807 := by have := HO.out.2.2.2.2.2.1; omega
              have h3 : decide (0 < fz) = true := decide_eq_true (by omega)
              have MD := hid ((HM.out.less H2.out (fz - 1)).done H2.out H5.out HO.out Hoff.out H96.out HBl.out.symm (fun _ => by rw [hz, hf]; rfl) H7.out)
              have ML := hid (HM.out.less H2.out (fz - 1)).old
              have z2 := HM.out.box.free 2
              clear hf hz
              go_wp2_with fail
              go_ret
              rw [HZ.out, HBl.out]
              exact ⟨_, rfl, ML.out, MD.out, FG.grow _ _ _⟩
      case true =>
        have hbt : D.fused = true ∧ D.left - 1 < 0 := by
          rw [hB] at hbd
          simpa using hbd.symm
        have hfz : fz = 0 := by
          rw [hfzD, hbt.1]
          have h0 := HO.out.2.2.2.1 Hoff.out hbt.1
          simp
          omega
        have hks := H7.out hbt.1
        subst hfz
        subst hks
        have hI : WrMid w ((w.setCell ⟨b, 4, none⟩ (.int .i64 (wrap64 (n + 1)))).setCell ⟨b, 1, none⟩ (.bool true)) F D at_ ls b g0 cc true 0 (.slice ka D.keep.length kc) D.keep (wrap64 (n + 1)) 0 := by
          have K : Keep (fun j => j = b) w ((w.setCell ⟨b, 4, none⟩ (.int .i64 (wrap64 (n + 1)))).setCell ⟨b, 1, none⟩ (.bool true)) := ((Keep.refl (fun j => j = b) w).setCell (p := ⟨b, 4, none⟩) (.inl rfl) _).setCell (p := ⟨b, 1, none⟩) (.inl rfl) _
          refine ⟨(HB.out.set4 _).set1 _, ?_, H4.out.box5 HB.out K, K.weak' fun i e => by subst e; exact H2.out⟩
          rw [landed_zero]
          exact (H3.out.box5 HB.out K).foot fun i hi => .inl hi
        have HI := hid hI
        have HBl := hid hB
        have HKt : Hid (∀ i : Nat, D.keeps i = D.keep.any fun x => (i : Int) == x) := fun i => by show (!D.blown || _) = _; rw [HBl.out]; rfl
        clear hI hB hbd hfzD hbt
        go_wp2_with fail
        clear c0 c1 c2 c3 c4 z4 z1
        go_loopw [8] (fun i wr => ∃ k : Nat, k ≤ ls.length ∧ i = .int .i64 k ∧ WrMid w wr F D at_ ls b g0 cc true 0 (.slice ka D.keep.length kc) D.keep (wrap64 (n + 1)) k) (fun i _ => ls.length - (intOf i).toNat)
        case atStart => exact ⟨0, Nat.zero_le _, rfl, HI.out⟩
        case round =>
          obtain ⟨k, hk, rfl, M⟩ := hrel
          have HM := hid M
          clear M HI
          obtain ⟨c0, c1, c2, c3, c4⟩ := HM.out.box.cells
          by_cases hlt : k < ls.length
          case pos =>
            have HKk := hid (HKt.out k)
            have HCk := hid (HHas.out wr 3 _ _ (k : Int) HM.out.ints)
            cases hq : D.keep.any fun x => (k : Int) == x
            case false =>
              rw [hq] at HKk HCk
              clear hq
              go_wp2_with fail
              refine HCk.out.mono ?_
              rintro en w5 ⟨rfl, S5⟩
              have MN := hid (HM.out.skip HKk.out S5)
              go_wp2_with fail
              go_roundw
              case rel => exact ⟨k + 1, by omega, by go_num, MN.out⟩
              case measure => simp [intOf]; omega
            case true =>
              rw [hq] at HKk HCk
              clear hq
              go_wp2_with fail
              refine HCk.out.mono ?_
              rintro en w5 ⟨rfl, S5⟩
              have HM5 := hid (HM.out.same S5)
              clear c0 c1 c2 c3 c4
              obtain ⟨c0, c1, c2, c3, c4⟩ := HM5.out.box.cells
              obtain ⟨g, o, a, c, e', rfl, cr, hby⟩ := (HR.out.keep HM5.out.old).row k hlt
              have h96 := H96.out _ (List.getElem_mem hlt)
              have H96k := hid h96
              have HBy := hid hby
              have HNx := hid (fun w3 v3 (S3 : Same w5 w3) (O3 : OwnB w3 w5.heap.size v3 ls[k]) => HM5.out.next HG.out hlt g4 HKk.out S3 O3)
              rw [h96] at cr
              rw [h96] at HBy
              have hw : IntKind.i64.wrap ((at_ : Int) + (k : Int)) = (at_ : Int) + (k : Int) := by rw [IntKind.wrap_i64]; omega
              have hx1 : 0 ≤ (at_ : Int) + (k : Int) := by omega
              have hx2 : (at_ : Int) + (k : Int) < (D.C.length : Int) := by omega
              have hx3 : ((at_ : Int) + (k : Int)).toNat = at_ + k := by omega
              clear hby h96
              generalize ls[k] = lk at *
              go_upto_region 19 with fail
              obtain ⟨SS, hSS⟩ : ∃ SS : Bool → World → Prop, ∀ bz wz, SS bz wz ↔ (bz = false → wz.cell? ⟨b, 0, none⟩ = some (.slice (some ⟨g0, 0, none⟩) D.C.length cc) ∧ wz.cell? ⟨g, o + k, none⟩ = some (.slice a 96 c)) := ⟨fun bz wz => bz = false → wz.cell? ⟨b, 0, none⟩ = some (.slice (some ⟨g0, 0, none⟩) D.C.length cc) ∧ wz.cell? ⟨g, o + k, none⟩ = some (.slice a 96 c), fun _ _ => Iff.rfl⟩
              have HSS := hid hSS
              clear hSS
              refine wp_region_B 14 SS (by kernel_rfl) ((HSS.out _ _).2 fun _ => ⟨c0, cr⟩) (fun hHeld => ?_)
              refine' wpAnyB_take (i := 0) (b := false) rfl (by kernel_rfl) (by kernel_rfl) (by kernel_rfl) (by decide) (by kernel_rfl) (fun _ _ _ h => h) (by assumption) (.inl ⟨by rfl, ?_⟩) ?_
              rotate_left
              · (intro wz hSw; go_simp; try with_reducible rfl)
              try simp only [Act.put, List.setIfInBounds_toArray, List.set_cons_zero, List.set_cons_succ]
              refine' wpAnyB_take (i := 1) (b := false) rfl (by kernel_rfl) (by kernel_rfl) (by kernel_rfl) (by decide) (by kernel_rfl) (fun _ _ _ h => h) (by assumption) (.inl ⟨by rfl, ?_⟩) ?_
              rotate_left
              · (intro wz hSw; go_simp; try with_reducible rfl)
              try simp only [Act.put, List.setIfInBounds_toArray, List.set_cons_zero, List.set_cons_succ]
              refine' wpAnyB_take (i := 2) (b := false) rfl (by kernel_rfl) (by kernel_rfl) (by kernel_rfl) (by decide) (by kernel_rfl) (fun _ _ _ h => h) (by assumption) (.inl ⟨by rfl, ?_⟩) ?_
              rotate_left
              · (intro wz hSw; go_simp; try with_reducible rfl)
              try simp only [Act.put, List.setIfInBounds_toArray, List.set_cons_zero, List.set_cons_succ]
              refine' wpAnyB_early (i := 3) rfl (by kernel_rfl) (by kernel_rfl) (by kernel_rfl) (by decide) (by kernel_rfl) (by kernel_rfl) (fun _ _ _ h => h) (by assumption) (.inl ⟨by rfl, ?_⟩) ?_
              rotate_left
              · (intro wz hSw; obtain ⟨h7, h6⟩ := (HSS.out _ _).1 hSw rfl; go_simp; try with_reducible rfl)
              try simp only [Act.put, List.setIfInBounds_toArray, List.set_cons_zero, List.set_cons_succ]
              refine' wpAnyB_take (i := 4) (b := false) rfl (by kernel_rfl) (by kernel_rfl) (by kernel_rfl) (by decide) (by kernel_rfl) (fun _ _ _ h => h) (by assumption) (.inl ⟨by rfl, ?_⟩) ?_
              rotate_left
              · (intro wz hSw; go_simp; try with_reducible rfl)
              try simp only [Act.put, List.setIfInBounds_toArray, List.set_cons_zero, List.set_cons_succ]
              refine' wpAnyB_take (i := 5) (b := false) rfl (by kernel_rfl) (by kernel_rfl) (by kernel_rfl) (by decide) (by kernel_rfl) (fun _ _ _ h => h) (by assumption) (.inl ⟨by rfl, ?_⟩) ?_
              rotate_left
              · (intro wz hSw; go_simp; try with_reducible rfl)
              try simp only [Act.put, List.setIfInBounds_toArray, List.set_cons_zero, List.set_cons_succ]
              refine' wpAnyB_take (i := 6) (b := false) rfl (by kernel_rfl) (by kernel_rfl) (by kernel_rfl) (by decide) (by kernel_rfl) (fun _ _ _ h => h) (by assumption) (.inl ⟨by rfl, ?_⟩) ?_
              rotate_left
              · (intro wz hSw; go_simp; try with_reducible rfl)
              try simp only [Act.put, List.setIfInBounds_toArray, List.set_cons_zero, List.set_cons_succ]
              refine' wpAnyB_take (i := 7) (b := false) rfl (by kernel_rfl) (by kernel_rfl) (by kernel_rfl) (by decide) (by kernel_rfl) (fun _ _ _ h => h) (by assumption) (.inl ⟨by rfl, ?_⟩) ?_
              rotate_left
              · (intro wz hSw; go_simp; try with_reducible rfl)
              try simp only [Act.put, List.setIfInBounds_toArray, List.set_cons_zero, List.set_cons_succ]
              refine' wpAnyB_take (i := 8) (b := false) rfl (by kernel_rfl) (by kernel_rfl) (by kernel_rfl) (by decide) (by kernel_rfl) (fun _ _ _ h => h) (by assumption) (.inl ⟨by rfl, ?_⟩) ?_
              rotate_left
              · (intro wz hSw; go_simp; try with_reducible rfl)
              try simp only [Act.put, List.setIfInBounds_toArray, List.set_cons_zero, List.set_cons_succ]
              refine' wpAnyB_take (i := 9) (b := false) rfl (by kernel_rfl) (by kernel_rfl) (by kernel_rfl) (by decide) (by kernel_rfl) (fun _ _ _ h => h) (by assumption) (.inl ⟨by rfl, ?_⟩) ?_
              rotate_left
              · (intro wz hSw; go_simp; try with_reducible rfl)
              try simp only [Act.put, List.setIfInBounds_toArray, List.set_cons_zero, List.set_cons_succ]
              refine' wpAnyB_take (i := 10) (b := false) rfl (by kernel_rfl) (by kernel_rfl) (by kernel_rfl) (by decide) (by kernel_rfl) (fun _ _ _ h => h) (by assumption) (.inl ⟨by rfl, ?_⟩) ?_
              rotate_left
              · (intro wz hSw; go_simp; try with_reducible rfl)
              try simp only [Act.put, List.setIfInBounds_toArray, List.set_cons_zero, List.set_cons_succ]
              refine' wpAnyB_early (i := 11) rfl (by kernel_rfl) (by kernel_rfl) (by kernel_rfl) (by decide) (by kernel_rfl) (by kernel_rfl) (fun _ _ _ h => h) (by assumption) (.inl ⟨by rfl, ?_⟩) ?_
              rotate_left
              · (intro wz hSw; obtain ⟨h7, h6⟩ := (HSS.out _ _).1 hSw rfl; go_simp; try with_reducible rfl)
              try simp only [Act.put, List.setIfInBounds_toArray, List.set_cons_zero, List.set_cons_succ]
              refine wpAnyB_only (i := 12) (b := false) rfl (by kernel_rfl) (by kernel_rfl) (fun K hK => ?_)
              refine step_append_bytes (by rfl) (.tmp 94) (.tmp 98) 23 tyBytes (by rfl) (OwnB.nil _ w5.heap.size) (HBy.out.same (Same.refl w5).drew) (by rfl) (by rfl) (by have := H96k.out; simp; omega) (by simp) ?_
              intro x3 w3 ho3 hg3
              have S3 := hid (((Same.refl w5).drew).grown_own (OwnB.nil _ w5.heap.size) (Nat.le_refl _) hg3)
              rw [List.nil_append] at ho3
              have O3 := hid ho3
              obtain ⟨a3, q3, rfl, _, _⟩ := O3.out.bytes.form
              have QQ := hid (HM5.out.rows.same S3.out)
              obtain ⟨y0, y1, y2, y3, y4⟩ := (HM5.out.box.same S3.out).cells
              have crn := (S3.out.cell (p := ⟨g, o + k, none⟩) (World.block_lt_of_cell? w5 _ cr)).trans cr
              have zz := QQ.out.frozen' (at_ + k)
              obtain ⟨uo, hco⟩ := QQ.out.cellAt' (at_ + k) (by rw [landed_length]) (by omega)
              clear ho3 hg3
              refine hK.out _ _ ((HSS.out _ _).2 fun _ => ⟨y0, crn⟩) (fun hHeld => ?_)
              clear hK K
              try simp only [Act.put, List.setIfInBounds_toArray, List.set_cons_zero, List.set_cons_succ]
              refine' wpAnyB_take (i := 13) (b := false) rfl (by kernel_rfl) (by kernel_rfl) (by kernel_rfl) (by decide) (by kernel_rfl) (fun _ _ _ h => h) (by assumption) (.inl ⟨by rfl, ?_⟩) ?_
              rotate_left
              · (intro wz hSw; go_simp; try with_reducible rfl)
              try simp only [Act.put, List.setIfInBounds_toArray, List.set_cons_zero, List.set_cons_succ]
              refine wpAnyB_only (i := 14) (b := true) rfl (by kernel_rfl) (by kernel_rfl) (fun K hK => ?_)
              go_simp
              refine hK.out _ _ ((HSS.out _ _).2 fun h => Bool.noConfusion h) (fun hHeld => ?_)
              clear hK K
              try simp only [Act.put, List.setIfInBounds_toArray, List.set_cons_zero, List.set_cons_succ]
              refine wpAnyB_done (by kernel_rfl) ?_ _
              have MN := hid (HNx.out w3 _ S3.out O3.out)
              clear HNx y0 y1 y2 y3 y4 crn zz hco hHeld c0 c1 c2 c3 c4 cr
              go_wp2_with fail
              go_roundw
              case rel => exact ⟨k + 1, by omega, by go_num, MN.out⟩
              case measure => simp [intOf]; omega
          case neg =>
            obtain rfl : k = ls.length := by omega
            have MD := hid (HM.out.done H2.out H5.out HO.out Hoff.out H96.out HBl.out.symm (fun x => by rw [HBl.out] at x; cases x) (fun _ => rfl))
            go_wp2_with fail
            go_ret
            rw [HZ.out, HBl.out]
            exact ⟨_, rfl, HM.out.old, MD.out, FG.grow _ _ _⟩
end Go.Proofs.Ytlhnpicmjjddeaa
namespace Go.Proofs.Ytlhnpicmjjddeaa
open Go.RowKit

set_option maxHeartbeats 3200000 in
set_option maxRecDepth 100000 in
theorem rFused (w : World) (p v : Value) (F : Nat → Prop) (D : Dv) (m : Int) (ks' : List Int) (e : TypeId) (hD : IsRd w p F D) (hk : Ints w e v ks') (hnb : ∀ g, homeOf v = some g → ¬ F g) (hl : ks'.length ≤ 1000) (hm : -9223372036854775808 ≤ m ∧ m ≤ 9223372036854775807) :
    Calls Try.prog 71 #[p, .int .i64 m, v] w (RetRd (D.fuse m ks') p F w) := by
  have HD := hid hD
  have HO := hid hD.ok
  obtain ⟨ao, cap, rfl, f1, f2⟩ := hk.form
  obtain ⟨b, rv, fz, kv, ks, n, rfl, h1, h2, h3, h4, h5, h6, h7, h8⟩ := hD
  have Hm := hid hm
  have HK := hid hk
  have HNb := hid hnb
  have H2 := hid h2
  have H3 := hid h3
  have hl1 := hid hl
  clear h3 h4 h5 h6 h7 h8 h2 hnb hk hm f1 f2
  cases ho : D.off
  case true =>
    have HZ : Hid (D.fuse m ks' = (9, D)) := by show _ = _; unfold Dv.fuse; rw [if_pos ho]
    rw [ho] at h1
    obtain ⟨c0, c1, c2, c3, c4⟩ := h1.cells
    clear h1 ho
    go_enter Try.func71, Try.ntmps71
    go_wp2_with fail
    go_ret
    rw [HZ.out]
    exact ⟨F, rfl, Keep.refl _ _, HD.out, Grow.refl _ _ _⟩
  have HZ : Hid (D.fuse m ks' = (0, { D with fused := decide (0 ≤ m), left := m, keep := ks' })) := by show _ = _; unfold Dv.fuse; rw [if_neg (by rw [ho]; simp)]
  rw [ho] at h1
  have HB := hid h1
  have Ho := hid ho
  obtain ⟨c0, c1, c2, c3, c4⟩ := h1.cells
  have z2 := h1.free 2
  have z3 := h1.free 3
  clear h1 ho
  have key : ∀ fz' : Int, fz' = (if decide (0 ≤ m) then m else -1) → ∀ w1, Keep (fun j => j = b) w w1 → Box5 w1 b rv (.bool false) (.int .i64 fz') (.slice none 0 0) (.int .i64 n) → ∀ v' w2, w2.ownsRow w1.heap.size 3 1 v' ks'.length (ks'.map i64) → Same w1 w2 →
      RetRd (D.fuse m ks') (.pointer (some ⟨b, 0, none⟩)) F w (.returned (.int .i64 0)) (w2.setCell ⟨b, 3, none⟩ v') := fun fz' hfz w1 K1 B1 v' w2 ho2 S2 => by
    rw [HZ.out]
    have B2 := B1.same S2
    have K3 : Keep (fun j => j = b) w2 (w2.setCell ⟨b, 3, none⟩ v') := (Keep.refl (fun j => j = b) w2).setCell (p := ⟨b, 3, none⟩) (.inl rfl) _
    have K : Keep (fun j => j = b) w (w2.setCell ⟨b, 3, none⟩ v') := (K1.same S2).trans K3
    have hsz : (w2.setCell ⟨b, 3, none⟩ v').heap.size = w2.heap.size := by simp
    have hI : Ints w2 3 v' ks' := Sl.of_owns ho2
    refine ⟨FG F w (w2.setCell ⟨b, 3, none⟩ v'), rfl, K.weak' fun i e => by subst e; exact H2.out, ⟨b, rv, fz', v', ks', n, rfl, ?_, .inl H2.out, ?_, hI.box5 B2 K3, fun g hg => ?_, fun _ => hfz, fun _ => rfl, ?_⟩, FG.grow _ _ _⟩
    · show Box5 _ b rv (.bool D.off) _ _ _
      rw [Ho.out]
      exact B2.set3 _
    · exact (H3.out.box5 HB.out K).foot fun i hi => .inl hi
    · have h1 := (World.ownsRow.lt ho2 g (home_own hg))
      have h2 := K1.size
      exact .inr ⟨by omega, by rw [hsz]; exact h1.2⟩
    · obtain ⟨q1, q2, q3, q4, q5, q6, q7⟩ := HO.out
      exact ⟨q1, q2, q3, fun _ x => by simpa using x, Hm.out.1, Hm.out.2, hl1.out⟩
  have HKey := hid key
  clear key
  by_cases hm0 : m < 0
  case pos =>
    have hf := hid (show (-1 : Int) = (if decide (0 ≤ m) then m else -1) from by rw [decide_eq_false (by omega)]; rfl)
    have hd : decide (m < 0) = true := decide_eq_true hm0
    have K1 : Keep (fun j => j = b) w (((w.setCell ⟨b, 2, none⟩ (.int .i64 m)).setCell ⟨b, 2, none⟩ (.int .i64 (-1))).setCell ⟨b, 3, none⟩ (.slice none 0 0)) := (((Keep.refl (fun j => j = b) w).setCell (p := ⟨b, 2, none⟩) (.inl rfl) _).setCell (p := ⟨b, 2, none⟩) (.inl rfl) _).setCell (p := ⟨b, 3, none⟩) (.inl rfl) _
    have K1 := hid K1
    have B1 : Hid (Box5 (((w.setCell ⟨b, 2, none⟩ (.int .i64 m)).setCell ⟨b, 2, none⟩ (.int .i64 (-1))).setCell ⟨b, 3, none⟩ (.slice none 0 0)) b rv (.bool false) (.int .i64 (-1)) (.slice none 0 0) (.int .i64 n)) := ((HB.out.set2 (.int .i64 m)).set2 (.int .i64 (-1))).set3 (.slice none 0 0)
    have I1 : Hid (Ints (((w.setCell ⟨b, 2, none⟩ (.int .i64 m)).setCell ⟨b, 2, none⟩ (.int .i64 (-1))).setCell ⟨b, 3, none⟩ (.slice none 0 0)) e (.slice ao ks'.length cap) ks') := Sl.keep HK.out K1.out fun g hg e => HNb.out g hg (by rw [e]; exact H2.out)
    clear hm0
    go_enter Try.func71, Try.ntmps71
    go_upto_region 8 with fail
    generalize (((w.setCell ⟨b, 2, none⟩ (.int .i64 m)).setCell ⟨b, 2, none⟩ (.int .i64 (-1))).setCell ⟨b, 3, none⟩ (.slice none 0 0)) = w1 at *
    obtain ⟨d0, d1, d2, d3, d4⟩ := B1.out.cells
    have z3 := B1.out.free 3
    go_wp2_with (at_builtin; refine wpList_append_sl rfl (.tmp 29) (.tmp 30) tyInts rfl (World.ownsRow_nil w1 w1.heap.size 3 1) I1.out rfl rfl (ints_one _) (by have := hl1.out; simp [maxLen]; omega) (by have := hl1.out; simp; omega) (Nat.le_refl _) ?_; intro x2 w2 ho2 hg2; rw [Nat.zero_add, List.nil_append] at ho2; have S2 := hid ((Same.refl w1).grown_nil hg2); have O2 := hid ho2; have B2 := B1.out.same S2.out; have z3' := B2.free 3; obtain ⟨y0, y1, y2, y3, y4⟩ := B2.cells; have hI2 := Sl.of_owns ho2; obtain ⟨xa, xc, rfl, _, _⟩ := hI2.form; clear ho2 hg2 hI2 B2)
    go_ret
    exact HKey.out _ hf.out _ K1.out B1.out _ _ O2.out S2.out
  case neg =>
    have hf := hid (show m = (if decide (0 ≤ m) then m else -1) from by rw [decide_eq_true (by omega)]; rfl)
    have hd : decide (m < 0) = false := decide_eq_false hm0
    have K1 : Keep (fun j => j = b) w ((w.setCell ⟨b, 2, none⟩ (.int .i64 m)).setCell ⟨b, 3, none⟩ (.slice none 0 0)) := ((Keep.refl (fun j => j = b) w).setCell (p := ⟨b, 2, none⟩) (.inl rfl) _).setCell (p := ⟨b, 3, none⟩) (.inl rfl) _
    have K1 := hid K1
    have B1 : Hid (Box5 ((w.setCell ⟨b, 2, none⟩ (.int .i64 m)).setCell ⟨b, 3, none⟩ (.slice none 0 0)) b rv (.bool false) (.int .i64 m) (.slice none 0 0) (.int .i64 n)) := (HB.out.set2 (.int .i64 m)).set3 (.slice none 0 0)
    have I1 : Hid (Ints ((w.setCell ⟨b, 2, none⟩ (.int .i64 m)).setCell ⟨b, 3, none⟩ (.slice none 0 0)) e (.slice ao ks'.length cap) ks') := Sl.keep HK.out K1.out fun g hg e => HNb.out g hg (by rw [e]; exact H2.out)
    clear hm0
    go_enter Try.func71, Try.ntmps71
    go_upto_region 8 with fail
    generalize ((w.setCell ⟨b, 2, none⟩ (.int .i64 m)).setCell ⟨b, 3, none⟩ (.slice none 0 0)) = w1 at *
    obtain ⟨d0, d1, d2, d3, d4⟩ := B1.out.cells
    have z3 := B1.out.free 3
    go_wp2_with (at_builtin; refine wpList_append_sl rfl (.tmp 29) (.tmp 30) tyInts rfl (World.ownsRow_nil w1 w1.heap.size 3 1) I1.out rfl rfl (ints_one _) (by have := hl1.out; simp [maxLen]; omega) (by have := hl1.out; simp; omega) (Nat.le_refl _) ?_; intro x2 w2 ho2 hg2; rw [Nat.zero_add, List.nil_append] at ho2; have S2 := hid ((Same.refl w1).grown_nil hg2); have O2 := hid ho2; have B2 := B1.out.same S2.out; have z3' := B2.free 3; obtain ⟨y0, y1, y2, y3, y4⟩ := B2.cells; have hI2 := Sl.of_owns ho2; obtain ⟨xa, xc, rfl, _, _⟩ := hI2.form; clear ho2 hg2 hI2 B2)
    go_ret
    exact HKey.out _ hf.out _ K1.out B1.out _ _ O2.out S2.out
end Go.Proofs.Ytlhnpicmjjddeaa
namespace Go.Proofs.Ytlhnpicmjjddeaa
open Go.RowKit

/-- a reference's scroll: a box of eight cells -/
def Box8 (w : World) (b : Nat) (c0 c1 c2 c3 c4 c5 c6 c7 : Value) : Prop := w.heap[b]? = some (.cells #[c0, c1, c2, c3, c4, c5, c6, c7] 101 (0, 0))
section
variable {w w' : World} {b : Nat} {c0 c1 c2 c3 c4 c5 c6 c7 : Value}
theorem Box8.lt (h : Box8 w b c0 c1 c2 c3 c4 c5 c6 c7) : b < w.heap.size := (Array.getElem?_eq_some_iff.1 h).1
theorem Box8.keep {M : Nat → Prop} (h : Box8 w b c0 c1 c2 c3 c4 c5 c6 c7) (K : Keep M w w') (hm : ¬ M b) : Box8 w' b c0 c1 c2 c3 c4 c5 c6 c7 := (K.block b h.lt hm).trans h
theorem Box8.same (h : Box8 w b c0 c1 c2 c3 c4 c5 c6 c7) (S : Same w w') : Box8 w' b c0 c1 c2 c3 c4 c5 c6 c7 := h.keep S fun x => x
theorem Box8.new (w : World) (c0 c1 c2 c3 c4 c5 c6 c7 : Value) : Box8 (w.alloc (.cells #[c0, c1, c2, c3, c4, c5, c6, c7] 101)) w.heap.size c0 c1 c2 c3 c4 c5 c6 c7 := heap_alloc_new w _
theorem Box8.cells (h : Box8 w b c0 c1 c2 c3 c4 c5 c6 c7) :
    w.cell? ⟨b, 0, none⟩ = some c0 ∧ w.cell? ⟨b, 1, none⟩ = some c1 ∧ w.cell? ⟨b, 2, none⟩ = some c2 ∧ w.cell? ⟨b, 3, none⟩ = some c3 ∧ w.cell? ⟨b, 4, none⟩ = some c4 ∧ w.cell? ⟨b, 5, none⟩ = some c5 ∧ w.cell? ⟨b, 6, none⟩ = some c6 ∧ w.cell? ⟨b, 7, none⟩ = some c7 := by
  refine ⟨?_, ?_, ?_, ?_, ?_, ?_, ?_, ?_⟩
  all_goals (rw [cell_of_row w b _ _ 101 _ h]; rfl)
theorem Box8.free (h : Box8 w b c0 c1 c2 c3 c4 c5 c6 c7) (o : Nat) : w.frozen? ⟨b, o, none⟩ = false := by
  unfold World.frozen?
  rw [h]
  by_cases h0 : 0 ≤ o <;> simp
theorem Box8.set5 (h : Box8 w b c0 c1 c2 c3 c4 c5 c6 c7) (u : Value) : Box8 (w.setCell ⟨b, 5, none⟩ u) b c0 c1 c2 c3 c4 u c6 c7 := heap_setCell_same w b 5 _ 101 u h
theorem Box8.set6 (h : Box8 w b c0 c1 c2 c3 c4 c5 c6 c7) (u : Value) : Box8 (w.setCell ⟨b, 6, none⟩ u) b c0 c1 c2 c3 c4 c5 u c7 := heap_setCell_same w b 6 _ 101 u h
theorem Box8.set7 (h : Box8 w b c0 c1 c2 c3 c4 c5 c6 c7) (u : Value) : Box8 (w.setCell ⟨b, 7, none⟩ u) b c0 c1 c2 c3 c4 c5 c6 u := heap_setCell_same w b 7 _ 101 u h
end
/-- a row of rows that is its own; its rows lie in N, and are not its own -/
def OwnP (w : World) (F N : Nat → Prop) (v : Value) (ls : List (List UInt8)) : Prop :=
  ∃ us, w.ownsRow 0 23 1 v ls.length us ∧ (∀ g, v.ownBlock = some g → F g) ∧ ∀ i (h : i < ls.length) u, us[i]? = some u → (∃ e, Bytes w e u ls[i]) ∧ ∀ g, homeOf u = some g → N g
theorem OwnP.rows {w : World} {F N : Nat → Prop} {v : Value} {ls : List (List UInt8)} (h : OwnP w F N v ls) : Rows2 w 23 v ls :=
  let ⟨us, h1, _, h3⟩ := h; ⟨us, by have := h1.1; omega, Sl.of_owns h1, fun i hi u hu => (h3 i hi u hu).1⟩
theorem OwnP.keep {w w' : World} {F N M : Nat → Prop} {v : Value} {ls : List (List UInt8)} (h : OwnP w F N v ls) (k : Keep M w w') (hd : ∀ i, F i → ¬ M i) (hn : ∀ i, N i → ¬ M i) : OwnP w' F N v ls :=
  let ⟨us, h1, h2, h3⟩ := h; ⟨us, owns_keep h1 k fun g hg => hd g (h2 g hg), h2, fun i hi u hu => let ⟨⟨e, hb⟩, hn'⟩ := h3 i hi u hu; ⟨⟨e, hb.keep k fun g hg => hn g (hn' g hg)⟩, hn'⟩⟩
theorem OwnP.foot {w : World} {F F' N N' : Nat → Prop} {v : Value} {ls : List (List UInt8)} (h : OwnP w F N v ls) (hF : ∀ i, F i → F' i) (hN : ∀ i, N i → N' i) : OwnP w F' N' v ls :=
  let ⟨us, h1, h2, h3⟩ := h; ⟨us, h1, fun g hg => hF g (h2 g hg), fun i hi u hu => ⟨(h3 i hi u hu).1, fun g hg => hN g ((h3 i hi u hu).2 g hg)⟩⟩
/-- one row more -/
theorem OwnP.push {w w' : World} {F N : Nat → Prop} {v v' : Value} {ls : List (List UInt8)} (h : OwnP w F N v ls) (hFN : ∀ g, N g → ¬ F g) {u : Value} {l : List UInt8} {e : TypeId} (hu : Bytes w e u l) (hf : ∀ g, homeOf u = some g → N g)
    (ho : ∀ us, w.ownsRow 0 23 1 v ls.length us → w'.ownsRow 0 23 1 v' (ls.length + 1) (us ++ [u])) (hg : w.grownBy w' v.ownBlock) (hv : ∀ k, v'.ownBlock = some k → v.ownBlock = some k ∨ w.heap.size ≤ k) :
    OwnP w' (FG F w w') N v' (ls ++ [l]) := by
  obtain ⟨us, h1, h2, h3⟩ := h
  have K : Keep (fun k => v.ownBlock = some k) w w' := (Keep.refl _ w).grown hg fun k e => .inl e
  have h0 : us.length = ls.length := by have := h1.1; omega
  have ho' := ho us h1
  refine ⟨us ++ [u], by rw [List.length_append]; exact ho', fun g hg' => ?_, fun i hi x hx => ?_⟩
  · rcases hv g hg' with e | e
    · exact .inl (h2 g e)
    · exact .inr ⟨e, (World.ownsRow.lt ho' g hg').2⟩
  · rw [List.length_append, List.length_singleton] at hi
    rcases Nat.lt_or_ge i ls.length with hl | hl
    · rw [List.getElem?_append_left (by omega)] at hx
      rw [List.getElem_append_left hl]
      obtain ⟨⟨e2, q1⟩, q2⟩ := h3 i hl x hx
      exact ⟨⟨e2, q1.keep K fun g hg hm => hFN g (q2 g hg) (h2 g hm)⟩, q2⟩
    · obtain rfl : i = ls.length := by omega
      rw [List.getElem?_append_right (by omega), h0] at hx
      simp at hx
      subst hx
      rw [List.getElem_append_right (Nat.le_refl _)]
      simp only [Nat.sub_self, List.getElem_cons_zero]
      exact ⟨⟨e, hu.keep K fun g hg hm => hFN g (hf g hg) (h2 g hm)⟩, hf⟩
/-- append of one row -/
theorem wpList_append_p {w : World} {ops : Array Oper} {rest : List Oper} {o : Oper} {a : Act} {Q : Exit → Act → World → Prop} (hgd : o.guard = none) (s x : Operand)
    (t : TypeId) (T : RowTy Try.prog t 23 1 24 (.slice none 0 0)) (ho : o.op = .call { callee := .builtin .append, args := #[s, x], argTypes := #[t, t] })
    {F N : Nat → Prop} {v : Value} {ls : List (List UInt8)} (hown : OwnP w F N v ls) (hFN : ∀ g, N g → ¬ F g) {e e' : TypeId} {y u : Value} {l : List UInt8} (hy : Sl w e' 1 y 1 [u]) (hu : Bytes w e u l) (hf : ∀ g, homeOf u = some g → N g)
    (hs : a.eval s = v) (hx : a.eval x = y) (hb : ls.length ≤ 1000000)
    (h : ∀ v' w', OwnP w' (FG F w w') N v' (ls ++ [l]) → Keep (fun k => v.ownBlock = some k) w w' → wpList Try.prog ops Q rest (a.put o.dst v') w') : wpList Try.prog ops Q (o :: rest) a w :=
  wpList_plain hgd fun _ hK => by
    obtain ⟨us, h1, h2, h3⟩ := id hown
    have hone : ∀ z ∈ [u], z.oneCell' = true := by
      intro z hz
      simp at hz
      subst hz
      exact hu.one
    obtain ⟨v', w', hr, q1, q2, q3⟩ := run_append_home (P := Try.prog) w T o.type h1 hy hone (by unfold maxLen; omega) (by omega)
    have K' : Keep (fun k => v.ownBlock = some k) w w' := (Keep.refl _ w).grown q2 fun k e => .inl e
    have hfin := h v' w' (hown.push hFN hu hf (fun us2 h2 => by
      obtain ⟨v2, w2, hr2, q1', q2', _⟩ := run_append_home (P := Try.prog) w T o.type h2 hy hone (by unfold maxLen; omega) (by omega)
      rw [hr] at hr2
      cases hr2
      exact q1') q2 q3) K'
    unfold Oper.wp execOp
    simp only [ho, resolve, invoke, builtin, Sem.run_bind, Sem.run_pure, Result.andThen_ok, List.map_toArray, List.map_cons, List.map_nil, hs, hx, hr]
    exact hK _ _ hfin
/-- The pointer s is a reference's scroll of the drive p that reads as S; it is written in F alone, its rows lie in N. -/
def IsRs (w : World) (s p : Value) (F N : Nat → Prop) (S : Sc) : Prop :=
  ∃ b v, s = .pointer (some ⟨b, 0, none⟩) ∧ Box8 w b p (.int .i64 S.from_) (.int .i64 S.till) (.int .i64 S.life) (.int .i64 S.era) v (.int .i64 (S.at_ - S.from_)) (.bool S.dead) ∧ F b ∧ OwnP w F N v S.all ∧ ∀ g, N g → ¬ F g
theorem IsRs.keep {w w' : World} {s p : Value} {F N M : Nat → Prop} {S : Sc} (h : IsRs w s p F N S) (k : Keep M w w') (hd : ∀ i, F i → ¬ M i) (hn : ∀ i, N i → ¬ M i) : IsRs w' s p F N S :=
  let ⟨b, v, h1, h2, h3, h4, h5⟩ := h; ⟨b, v, h1, h2.keep k (hd b h3), h3, h4.keep k hd hn, h5⟩
theorem IsRs.same {w w' : World} {s p : Value} {F N : Nat → Prop} {S : Sc} (h : IsRs w s p F N S) (k : Same w w') : IsRs w' s p F N S := h.keep k (fun _ _ x => x) fun _ _ x => x
theorem IsRs.ptr {w : World} {s p : Value} {F N : Nat → Prop} {S : Sc} (h : IsRs w s p F N S) : ∃ b, s = .pointer (some ⟨b, 0, none⟩) := let ⟨b, _, h1, _⟩ := h; ⟨b, h1⟩
theorem OwnP.apart8 {w : World} {F N : Nat → Prop} {v : Value} {ls : List (List UInt8)} (h : OwnP w F N v ls) {b : Nat} {c0 c1 c2 c3 c4 c5 c6 c7 : Value} (hb : Box8 w b c0 c1 c2 c3 c4 c5 c6 c7) : v.ownBlock ≠ some b := by
  obtain ⟨us, h1, _⟩ := h
  intro e
  obtain ⟨c, hc⟩ := owns_block h1 e
  unfold Box8 at hb
  rw [hb] at hc
  simp at hc
/-- stores into the scroll's own cells keep its rows -/
theorem OwnP.box8 {w w' : World} {F N : Nat → Prop} {v : Value} {ls : List (List UInt8)} (h : OwnP w F N v ls) {b : Nat} {c0 c1 c2 c3 c4 c5 c6 c7 : Value} (hb : Box8 w b c0 c1 c2 c3 c4 c5 c6 c7) (hN : ¬ N b) (K : Keep (fun k => k = b) w w') : OwnP w' F N v ls := by
  have ha := h.apart8 hb
  obtain ⟨us, h1, h2, h3⟩ := h
  exact ⟨us, owns_keep h1 K fun g hg e => ha (by rw [hg, e]), h2, fun i hi u hu => let ⟨⟨e, hy⟩, hn⟩ := h3 i hi u hu; ⟨⟨e, hy.keep K fun g hg e => hN (by rw [← e]; exact hn g hg)⟩, hn⟩⟩
theorem OwnR.bytes_apart8 {w : World} {u : Value} {l : List UInt8} (h : Bytes w 5 u l) {b : Nat} {c0 c1 c2 c3 c4 c5 c6 c7 : Value} (hb : Box8 w b c0 c1 c2 c3 c4 c5 c6 c7) : homeOf u ≠ some b := by
  intro e
  obtain ⟨c, fr, hc⟩ := bytes_block h e
  unfold Box8 at hb
  rw [hb] at hc
  simp at hc
/-- what Open of the reference leaves -/
def RetOpenR (D : Dv) (p : Value) (a b life era : Int) (w : World) (en : Ending) (w' : World) : Prop :=
  (D.openE a b life era = 2 ∧ en = .returned (.tuple #[.pointer none, .int .i64 2]) ∧ Same w w') ∨
  (D.openE a b life era = 0 ∧ ∃ s F N, en = .returned (.tuple #[s, .int .i64 0]) ∧ IsRs w' s p F N (D.opened a b life era) ∧ Same w w' ∧ Bnd F w.heap.size w'.heap.size ∧ Bnd N w.heap.size w'.heap.size)
theorem IsRs.new {D : Dv} {p : Value} {a b life era : Int} {w w1 : World} {v : Value} (hO : OwnR w1 w.heap.size v (D.read b era a 1 0).1) (Z : Same w w1) (hE : D.openE a b life era = 0) (used : Int) (hu : used = (D.read b era a 1 0).2.1 - a) :
    RetOpenR D p a b life era w (.returned (.tuple #[.pointer (some ⟨w1.heap.size, 0, none⟩), .int .i64 0])) (w1.alloc (.cells #[p, .int .i64 a, .int .i64 b, .int .i64 life, .int .i64 era, v, .int .i64 used, .bool false] 101)) := by
  have hs := Z.size
  have T : Same w1 (w1.alloc (.cells #[p, .int .i64 a, .int .i64 b, .int .i64 life, .int .i64 era, v, .int .i64 used, .bool false] 101)) := (Same.refl w1).alloc _
  have hz : (w1.alloc (.cells #[p, .int .i64 a, .int .i64 b, .int .i64 life, .int .i64 era, v, .int .i64 used, .bool false] 101)).heap.size = w1.heap.size + 1 := by simp
  have hB := Box8.new w1 p (.int .i64 a) (.int .i64 b) (.int .i64 life) (.int .i64 era) v (.int .i64 used) (.bool false)
  obtain ⟨us, hO1, hO2⟩ := hO.same T
  have hap : ∀ i (h : i < (D.read b era a 1 0).1.length) u, us[i]? = some u → ∀ g, homeOf u = some g → w.heap.size ≤ g ∧ g < w1.heap.size + 1 ∧ g ≠ w1.heap.size ∧ v.ownBlock ≠ some g := fun i hi u hx g hg => by
    obtain ⟨q1, q2⟩ := hO2 i hi u hx
    have h1 := Sl.home_lt q1 hg
    rw [hz] at h1
    refine ⟨q2 g hg, h1, fun e => OwnR.bytes_apart8 q1 hB (by rw [hg, e]), fun e => ?_⟩
    obtain ⟨c1, f1, e1⟩ := bytes_block q1 hg
    obtain ⟨c2, e2⟩ := owns_block hO1 e
    rw [e1] at e2
    simp at e2
  refine .inr ⟨hE, _, (fun g => g = w1.heap.size ∨ v.ownBlock = some g), (fun g => w.heap.size ≤ g ∧ g < w1.heap.size + 1 ∧ g ≠ w1.heap.size ∧ v.ownBlock ≠ some g), rfl, ⟨w1.heap.size, v, rfl, ?_, .inl rfl, ⟨us, ?_, fun g hg => .inr hg, fun i hi u hx => ⟨⟨5, (hO2 i hi u hx).1⟩, hap i hi u hx⟩⟩, fun g hg hf => ?_⟩, Z.trans T, fun g hg => ?_, fun g hg => ⟨hg.1, by rw [hz]; exact hg.2.1⟩⟩
  · have e : (D.opened a b life era).at_ - (D.opened a b life era).from_ = used := hu.symm
    rw [e]
    exact hB
  · obtain ⟨q1, q2⟩ := hO1
    refine ⟨q1, ?_⟩
    rcases q2 with q2 | ⟨g, cap, cur, a', b', c'⟩
    · exact .inl q2
    · exact .inr ⟨g, cap, cur, a', Nat.zero_le _, c'⟩
  · rcases hf with hf | hf
    · exact hg.2.2.1 hf
    · exact hg.2.2.2 hf
  · rw [hz]
    rcases hg with rfl | hg
    · omega
    · have h1 := World.ownsRow.lt hO1 g hg
      rw [hz] at h1
      exact h1
end Go.Proofs.Ytlhnpicmjjddeaa
