/- STILL: the walk of StillKept. -/
import Derived.Test.YtlhnpicmjjddeaaStK
import Derived.Test.YtlhnpicmjjddeaaLFew
import Derived.Test.YtlhnpicmjjddeaaOpen3
namespace Go.Proofs.Ytlhnpicmjjddeaa
open Go.RowKit

/-- bytes that lie apart from the drive -/
def Apart (F : Nat → Prop) (w : World) (v : Value) (l : List UInt8) : Prop := ∃ e, Bytes w e v l ∧ ∀ g, homeOf v = some g → ¬ F g
theorem Apart.keep {F : Nat → Prop} {w w' : World} {v : Value} {l : List UInt8} (h : Apart F w v l) (k : Keep F w w') : Apart F w' v l := let ⟨e, h1, h2⟩ := h; ⟨e, h1.keep k h2, h2⟩
theorem Apart.same {F : Nat → Prop} {w w' : World} {v : Value} {l : List UInt8} (h : Apart F w v l) (k : Same w w') : Apart F w' v l := let ⟨e, h1, h2⟩ := h; ⟨e, h1.same k, h2⟩
theorem Apart.grow {F F' : Nat → Prop} {w w' : World} {v : Value} {l : List UInt8} (h : Apart F w v l) (k : Keep F w w') (g : Grow F F' w w') : Apart F' w' v l :=
  let ⟨e, h1, h2⟩ := h; ⟨e, h1.keep k h2, fun b hb hm => by
    rcases g b hm with x | x
    · exact h2 b hb x
    · have := Sl.home_lt h1 hb; omega⟩
theorem Apart.low {F : Nat → Prop} {w w' : World} {e : TypeId} {v : Value} {l : List UInt8} (h : Bytes w e v l) (S : Same w w') {c : Nat} (B : Bnd F w.heap.size c) : Apart F w' v l :=
  ⟨e, h.same S, fun g hg hm => by have := Sl.home_lt h hg; have := (B g hm).1; omega⟩
theorem Apart.fresh {F : Nat → Prop} {w : World} {b : Nat} {v : Value} {l : List UInt8} (h : OwnB w b v l) {a : Nat} (B : Bnd F a b) : Apart F w v l :=
  ⟨_, h.bytes, fun g hg hm => by have := h.fresh g hg; have := (B g hm).2; omega⟩
/-- a drive of the walk's own -/
structure Mid (w0 w : World) (p : Value) (F : Nat → Prop) (D : Dv) : Prop where
  dv : IsDv w p F D
  bnd : Bnd F w0.heap.size w.heap.size
  old : Same w0 w
theorem Mid.same {w0 w w' : World} {p : Value} {F : Nat → Prop} {D : Dv} (h : Mid w0 w p F D) (S : Same w w') : Mid w0 w' p F D := ⟨h.dv.same S, h.bnd.mono S.size, h.old.trans S⟩
theorem Mid.fuse {w0 w : World} {p : Value} {F : Nat → Prop} {D : Dv} (h : Mid w0 w p F D) (ho : D.off = false) (v : Value) (e : TypeId) (m : Int) (ks : List Int) (hk : Ints w e v ks) (hl : ks.length ≤ 1000) (hm : -9223372036854775808 ≤ m ∧ m ≤ 9223372036854775807) :
    Calls Try.prog 35 #[p, .int .i64 m, v] w fun en w' => ∃ F' D', en = .returned (.int .i64 0) ∧ Keep F w w' ∧ Grow F F' w w' ∧ Mid w0 w' p F' D' ∧ D'.C = D.C ∧ D'.off = false := by
  have hf : D.fuse m ks = (0, { D with fused := decide (0 ≤ m), left := m, keep := ks }) := by unfold Dv.fuse; rw [ho]; rfl
  refine (dFuseD w p v F D m ks e h.dv hk hl hm).mono ?_
  rintro en w' ⟨F', rfl, K, I, G⟩
  rw [hf] at I ⊢
  exact ⟨F', _, rfl, K, G, ⟨I, h.bnd.grow G K.size h.old.size, h.old.keepOwn K (fun k hk => (h.bnd k hk).1)⟩, rfl, ho⟩
theorem Mid.save {w0 w : World} {p : Value} {F : Nat → Prop} {D : Dv} (h : Mid w0 w p F D) {E L : Int} {was : List UInt8} (hK : Kp D E L was) (he : 0 ≤ E ∧ E ≤ 50) (hL : 1 ≤ L ∧ L ≤ 50) (v : Value) (e : TypeId) (b : List UInt8) (hb : Bytes w e v b) (hl : b.length ≤ 700) :
    Calls Try.prog 56 #[p, .int .i64 2, .int .i64 9, .int .i64 L, .int .i64 (E + 1), v] w fun en w' => ∃ r D', en = .returned (.int .i64 r) ∧ Keep F w w' ∧ Mid w0 w' p F D' ∧
      ((r = 0 ∧ Kp D'.start (E + 1) (L + 1) b) ∨ (r = 9 ∧ (Kp D'.start E (L + 1) was ∨ Kp D'.start (E + 1) (L + 1) b))) := by
  refine (sSave w p v F D 2 9 L (E + 1) b e h.dv (fun k hk => (h.bnd k hk).2) hb (by omega) (by omega) (by omega)).mono ?_
  rintro en w' ⟨rfl, K, I⟩
  exact ⟨_, _, rfl, K, ⟨I, h.bnd.mono K.size, h.old.keepOwn K (fun k hk => (h.bnd k hk).1)⟩, hK.save he hL hl⟩
theorem Mid.start {w0 w : World} {p : Value} {F : Nat → Prop} {D : Dv} (h : Mid w0 w p F D) :
    Calls Try.prog 41 #[p] w fun en w' => en = .returned (.int .i64 0) ∧ Keep F w w' ∧ Mid w0 w' p F D.start := by
  refine (dStartD w p F D h.dv).mono ?_
  rintro en w' ⟨rfl, K, I⟩
  exact ⟨rfl, K, ⟨I, h.bnd.mono K.size, h.old.keepOwn K (fun k hk => (h.bnd k hk).1)⟩⟩
theorem Kp.load' {D : Dv} {era life : Int} {was : List UInt8} (h : Kp D era life was) (he : 0 ≤ era) : D.loadR 2 9 = (era, was, if era = 0 then 11 else 0) := by
  rw [h.load he]
  by_cases h0 : era = 0
  · rw [if_pos h0, if_pos h0, h.nought h0, h0]
  · rw [if_neg h0, if_neg h0]
theorem Mid.load {w0 w : World} {p : Value} {F : Nat → Prop} {D : Dv} (h : Mid w0 w p F D) {E L : Int} {was : List UInt8} (hK : Kp D E L was) (he : 0 ≤ E) :
    Calls Try.prog 55 #[p, .int .i64 2, .int .i64 9] w fun en w' => ∃ a c, en = .returned (.tuple #[.int .i64 E, .slice a was.length c, .int .i64 (if E = 0 then 11 else 0)]) ∧ Apart F w' (.slice a was.length c) was ∧ Mid w0 w' p F D ∧ Same w w' := by
  refine (sLoad w p F D 2 9 h.dv (by omega)).mono ?_
  rw [hK.load' he]
  rintro en w' ⟨v, rfl, O, S⟩
  obtain ⟨a, c, rfl, _, _⟩ := O.bytes.form
  exact ⟨a, c, rfl, Apart.fresh O h.bnd, h.same S, S⟩
theorem Apart.form {F : Nat → Prop} {w : World} {v : Value} {l : List UInt8} (h : Apart F w v l) : ∃ a c, v = .slice a l.length c := by obtain ⟨e, h1, _⟩ := h; obtain ⟨a, c, rfl, _, _⟩ := h1.form; exact ⟨a, c, rfl⟩
theorem Apart.eqs {F : Nat → Prop} {w : World} {v1 v2 : Value} {l : List UInt8} (h1 : Apart F w v1 l) (h2 : Apart F w v2 l) : Calls Try.prog 29 #[v1, v2] w (RetSame (.bool true) w) := by
  obtain ⟨e1, q1, _⟩ := h1
  obtain ⟨e2, q2, _⟩ := h2
  have := r01SameS w e1 e2 v1 v2 l l q1 q2
  simpa using this

set_option maxHeartbeats 12800000 in
set_option maxRecDepth 100000 in
theorem stillKeptWalk (w : World) (v : Value) (n : Nat) (hv : SDos w v n) : Calls Try.prog 14 #[v] w (RetSame (.bool true) w) := by
  have H9 := hid sLives
  have HCt := hid r01Cut0
  have HFe := hid lFew
  obtain ⟨ao, cap, rfl, hn1, hn2, hrows⟩ := hv
  unfold maxLen at hn2
  have HRows := hid hrows
  clear hrows
  go_enter Try.func14, Try.ntmps14
  go_wp2_with fail
  refine (dNewD w 20 (by omega) (by omega)).mono ?_
  rintro en w1 ⟨p, F, rfl, S1, D1, B1⟩
  have M1 : Hid (Mid w w1 p F (Dv.new 20)) := ⟨D1, B1, S1⟩
  obtain ⟨pb, hp⟩ : ∃ b, p = .pointer (some ⟨b, 0, none⟩) := by obtain ⟨b, _, _, _, e, _⟩ := D1; exact ⟨b, e⟩
  subst hp
  clear D1 B1 S1
  go_wp2_with fail
  go_loopw [5, 6, 7, 8, 9] (fun era life wv mb i wr => ∃ (k E : Nat) (F : Nat → Prop) (D : Dv) (wb : List UInt8), k ≤ 30 ∧ E ≤ k ∧ i = .int .i64 k ∧ era = .int .i64 E ∧ life = .int .i64 ((k : Int) + 1) ∧ Mid w wr (.pointer (some ⟨pb, 0, none⟩)) F D ∧ Kp D E ((k : Int) + 1) wb ∧ Apart F wr wv wb) (fun _ _ _ _ i _ => 30 - (intOf i).toNat)
  case atStart => exact ⟨0, 0, F, _, [], by omega, by omega, rfl, rfl, rfl, M1.out, Kp.new, ⟨23, Bytes.nil _ _, fun g hg => by cases hg⟩⟩
  case round =>
    obtain ⟨k, E, F, D, wb, hk, hE, rfl, rfl, rfl, M, KP, AW⟩ := hrel
    have M := hid M
    have KP := hid KP
    obtain ⟨wa, wc, rfl⟩ := AW.form
    have AW := hid AW
    by_cases hlt : k < n
    case neg =>
      go_wp2_with fail
      refine (H9.out _).mono ?_
      rintro en w3 ⟨rfl, S3⟩
      go_wp2_with fail
      go_ret
      exact ⟨rfl, M.out.old.trans S3⟩
    by_cases hlt2 : k < 30
    case neg =>
      go_wp2_with fail
      refine (H9.out _).mono ?_
      rintro en w3 ⟨rfl, S3⟩
      go_wp2_with fail
      go_ret
      exact ⟨rfl, M.out.old.trans S3⟩
    obtain ⟨g, o, hao, hall⟩ : ∃ g o, ao = some ⟨g, o, none⟩ ∧ ∀ i, i < n → ∃ d, SDoAt w g (o + i * 8) d := by
      rcases HRows.out with h0 | h0
      · omega
      · exact h0
    subst hao
    obtain ⟨d, ab, cb, eb, ak, ck, ek, c0, _, _, _, _, _, c6, hb, c7, hks, hks2⟩ := hall k hlt
    have hg0 := World.block_lt_of_cell? w _ c0
    have C0 := hid (fun (wz : World) (S : Same w wz) => (S.cell (p := ⟨g, o + k * 8, none⟩) hg0).trans c0)
    have C7 := hid (fun (wz : World) (S : Same w wz) => (S.cell (p := ⟨g, o + k * 8 + 7, none⟩) hg0).trans c7)
    have c6' : wr.cell? ⟨g, o + k * 8 + 6, none⟩ = _ := (M.out.old.cell (p := ⟨g, o + k * 8 + 6, none⟩) hg0).trans c6
    have HB := hid hb
    have HK := hid hks
    have hgr : g < wr.heap.size := Nat.lt_of_lt_of_le hg0 M.out.old.size
    clear hall c0 c6 c7 hb hks hks2
    go_wp2_with fail
    refine (show Calls Try.prog 22 #[_, .int .i64 700] wr _ from HCt.out w wr eb _ d.b 700 HB.out).mono ?_
    rintro en w1' ⟨v1, rfl, B1, rfl⟩
    have hle : (d.b.take 700).length ≤ 700 := by rw [List.length_take]; omega
    have B1 := hid B1
    clear c6' HB
    generalize d.b.take 700 = b at *
    obtain ⟨a1, c1, rfl, _, _⟩ := B1.out.form
    have hoff := KP.out.on
    go_wp2_with fail
    refine (M.out.fuse hoff _ 3 (-1) [] (Ints.nil _ _) (by simp) (by omega)).mono ?_
    rintro en w2 ⟨F2, D2, rfl, K2, G2, M2, hC2, ho2⟩
    have M2 := hid M2
    have KP2 := hid (KP.out.of_C hC2 ho2)
    have AW2 := hid (AW.out.grow K2 G2)
    clear M KP AW K2 G2 hC2 hoff
    have c0 := C0.out w2 M2.out.old
    have hgr : g < w2.heap.size := Nat.lt_of_lt_of_le hg0 M2.out.old.size
    by_cases hk1 : d.kind = 1
    case pos =>
      rw [hk1] at c0
      have c7 := C7.out w2 M2.out.old
      clear C0 C7 hk1
      go_wp2_with fail
      refine (HFe.out w2 ek _ d.keep (HK.out.same M2.out.old)).mono ?_
      rintro en w2' ⟨kv, rfl, HKI, rfl⟩
      have hlk : (d.keep.take 20).length ≤ 1000 := by rw [List.length_take]; omega
      generalize d.keep.take 20 = ks at *
      obtain ⟨ka, kc, rfl, _, _⟩ := HKI.form
      have HKI := hid HKI
      go_wp2_with fail
      refine (M2.out.fuse ho2 _ ek 0 ks HKI.out hlk (by omega)).mono ?_
      rintro en w3 ⟨F3, D3, rfl, K3, G3, M3, hC3, ho3⟩
      have M3 := hid M3
      have KP3 := hid (KP2.out.of_C hC3 ho3)
      have AW3 := hid (AW2.out.grow K3 G3)
      clear M2 KP2 AW2 K3 G3 hC3 ho2 ho3 c0 c7 HK HKI
      go_wp2_with fail
      have AB := hid (Apart.low B1.out M3.out.old M3.out.bnd)
      refine (M3.out.save KP3.out (by omega) (by omega) _ _ b (B1.out.same M3.out.old) hle).mono ?_
      rintro en w4 ⟨r, D4, rfl, K4, M4, hR⟩
      have M4 := hid M4
      have AW4 := hid (AW3.out.keep K4)
      have AB4 := hid (AB.out.keep K4)
      clear M3 KP3 AW3 AB K4
      rcases hR with ⟨rfl, hK⟩ | ⟨rfl, hK | hK⟩
      · have KP4 := hid hK
        clear hK
        go_wp2_with fail
        refine M4.out.start.mono ?_
        rintro en w5 ⟨rfl, K5, M5⟩
        have M5 := hid M5
        have AW5 := hid (AW4.out.keep K5)
        have AB5 := hid (AB4.out.keep K5)
        clear M4 AW4 AB4 K5
        go_wp2_with fail
        refine (M5.out.load KP4.out (by omega)).mono ?_
        rintro en w6 ⟨la, lc, rfl, AL6, M6, S6⟩
        have M6 := hid M6
        have AL6 := hid AL6
        have AW6 := hid (AW5.out.same S6)
        have AB6 := hid (AB5.out.same S6)
        clear M5 AW5 AB5 S6
        rw [if_neg (by omega : ¬ (E : Int) + 1 = 0)]
        have x1 : ((E : Int) + 1 == (E : Int) + 1 + 1) = false := by rw [beq_eq_false_iff_ne]; omega
        have x2 : decide ((0 : Int) < (E : Int) + 1) = true := by rw [decide_eq_true_eq]; omega
        go_wp2_with fail
        refine (AL6.out.eqs AB6.out).mono ?_
        rintro en w7 ⟨rfl, S7⟩
        go_wp2_with fail
        go_roundw
        case rel => exact ⟨k + 1, E + 1, _, _, b, by omega, by omega, by go_num, by go_num, by go_num, M6.out.same S7, KP4.out, AB6.out.same S7⟩
        case measure => simp [intOf]; omega
      · have KP4 := hid hK
        clear hK
        go_wp2_with fail
        refine M4.out.start.mono ?_
        rintro en w5 ⟨rfl, K5, M5⟩
        have M5 := hid M5
        have AW5 := hid (AW4.out.keep K5)
        have AB5 := hid (AB4.out.keep K5)
        clear M4 AW4 AB4 K5
        go_wp2_with fail
        refine (M5.out.load KP4.out (by omega)).mono ?_
        rintro en w6 ⟨la, lc, rfl, AL6, M6, S6⟩
        have M6 := hid M6
        have AL6 := hid AL6
        have AW6 := hid (AW5.out.same S6)
        have AB6 := hid (AB5.out.same S6)
        clear M5 AW5 AB5 S6
        have x1 : ((E : Int) == (E : Int) + 1) = false := by rw [beq_eq_false_iff_ne]; omega
        by_cases hE0 : (E : Int) = 0
        case pos =>
          rw [if_pos hE0]
          obtain rfl : E = 0 := by omega
          clear x1 hE0
          go_wp2_with fail
          refine (AL6.out.eqs AW6.out).mono ?_
          rintro en w7 ⟨rfl, S7⟩
          go_wp2_with fail
          go_roundw
          case rel => exact ⟨k + 1, 0, _, _, wb, by omega, by omega, by go_num, rfl, by go_num, M6.out.same S7, KP4.out, AW6.out.same S7⟩
          case measure => simp [intOf]; omega
        case neg =>
          rw [if_neg hE0]
          have x2 : decide ((0 : Int) < (E : Int)) = true := by rw [decide_eq_true_eq]; omega
          have x3 : decide (0 < E) = true := by rw [decide_eq_true_eq]; omega
          have x4 : 0 < E := by omega
          go_wp2_with fail
          refine (AL6.out.eqs AW6.out).mono ?_
          rintro en w7 ⟨rfl, S7⟩
          go_wp2_with fail
          go_roundw
          case rel => exact ⟨k + 1, E, _, _, wb, by omega, by omega, by go_num, rfl, by go_num, M6.out.same S7, KP4.out, AW6.out.same S7⟩
          case measure => simp [intOf]; omega
      · have KP4 := hid hK
        clear hK
        go_wp2_with fail
        refine M4.out.start.mono ?_
        rintro en w5 ⟨rfl, K5, M5⟩
        have M5 := hid M5
        have AW5 := hid (AW4.out.keep K5)
        have AB5 := hid (AB4.out.keep K5)
        clear M4 AW4 AB4 K5
        go_wp2_with fail
        refine (M5.out.load KP4.out (by omega)).mono ?_
        rintro en w6 ⟨la, lc, rfl, AL6, M6, S6⟩
        have M6 := hid M6
        have AL6 := hid AL6
        have AW6 := hid (AW5.out.same S6)
        have AB6 := hid (AB5.out.same S6)
        clear M5 AW5 AB5 S6
        rw [if_neg (by omega : ¬ (E : Int) + 1 = 0)]
        have y1 : ((E : Int) + 1 == (E : Int) + 1 + 1) = false := by rw [beq_eq_false_iff_ne]; omega
        have x2 : decide ((0 : Int) < (E : Int) + 1) = true := by rw [decide_eq_true_eq]; omega
        go_wp2_with fail
        refine (AL6.out.eqs AB6.out).mono ?_
        rintro en w7 ⟨rfl, S7⟩
        have M7 := hid (M6.out.same S7)
        have AL7 := hid (AL6.out.same S7)
        clear M6 AL6 AW6 AB6 S7
        go_wp2_with fail
        refine (AL7.out.eqs AL7.out).mono ?_
        rintro en w8 ⟨rfl, S8⟩
        go_wp2_with fail
        go_roundw
        case rel => exact ⟨k + 1, E + 1, _, _, b, by omega, by omega, by go_num, by go_num, by go_num, M7.out.same S8, KP4.out, AL7.out.same S8⟩
        case measure => simp [intOf]; omega
    case neg =>
      have hk2 : (d.kind == 1) = false := by rw [beq_eq_false_iff_ne]; exact hk1
      clear C0 C7 hk1 HK
      go_wp2_with fail
      have AB := hid (Apart.low B1.out M2.out.old M2.out.bnd)
      refine (M2.out.save KP2.out (by omega) (by omega) _ _ b (B1.out.same M2.out.old) hle).mono ?_
      rintro en w4 ⟨r, D4, rfl, K4, M4, hR⟩
      have M4 := hid M4
      have AW4 := hid (AW2.out.keep K4)
      have AB4 := hid (AB.out.keep K4)
      clear M2 KP2 AW2 AB K4
      rcases hR with ⟨rfl, hK⟩ | ⟨rfl, hK | hK⟩
      · have KP4 := hid hK
        clear hK
        go_wp2_with fail
        refine M4.out.start.mono ?_
        rintro en w5 ⟨rfl, K5, M5⟩
        have M5 := hid M5
        have AW5 := hid (AW4.out.keep K5)
        have AB5 := hid (AB4.out.keep K5)
        clear M4 AW4 AB4 K5
        go_wp2_with fail
        refine (M5.out.load KP4.out (by omega)).mono ?_
        rintro en w6 ⟨la, lc, rfl, AL6, M6, S6⟩
        have M6 := hid M6
        have AL6 := hid AL6
        have AW6 := hid (AW5.out.same S6)
        have AB6 := hid (AB5.out.same S6)
        clear M5 AW5 AB5 S6
        rw [if_neg (by omega : ¬ (E : Int) + 1 = 0)]
        have x1 : ((E : Int) + 1 == (E : Int) + 1 + 1) = false := by rw [beq_eq_false_iff_ne]; omega
        have x2 : decide ((0 : Int) < (E : Int) + 1) = true := by rw [decide_eq_true_eq]; omega
        go_wp2_with fail
        refine (AL6.out.eqs AB6.out).mono ?_
        rintro en w7 ⟨rfl, S7⟩
        go_wp2_with fail
        go_roundw
        case rel => exact ⟨k + 1, E + 1, _, _, b, by omega, by omega, by go_num, by go_num, by go_num, M6.out.same S7, KP4.out, AB6.out.same S7⟩
        case measure => simp [intOf]; omega
      · have KP4 := hid hK
        clear hK
        go_wp2_with fail
        refine M4.out.start.mono ?_
        rintro en w5 ⟨rfl, K5, M5⟩
        have M5 := hid M5
        have AW5 := hid (AW4.out.keep K5)
        have AB5 := hid (AB4.out.keep K5)
        clear M4 AW4 AB4 K5
        go_wp2_with fail
        refine (M5.out.load KP4.out (by omega)).mono ?_
        rintro en w6 ⟨la, lc, rfl, AL6, M6, S6⟩
        have M6 := hid M6
        have AL6 := hid AL6
        have AW6 := hid (AW5.out.same S6)
        have AB6 := hid (AB5.out.same S6)
        clear M5 AW5 AB5 S6
        have x1 : ((E : Int) == (E : Int) + 1) = false := by rw [beq_eq_false_iff_ne]; omega
        by_cases hE0 : (E : Int) = 0
        case pos =>
          rw [if_pos hE0]
          obtain rfl : E = 0 := by omega
          clear x1 hE0
          go_wp2_with fail
          refine (AL6.out.eqs AW6.out).mono ?_
          rintro en w7 ⟨rfl, S7⟩
          go_wp2_with fail
          go_roundw
          case rel => exact ⟨k + 1, 0, _, _, wb, by omega, by omega, by go_num, rfl, by go_num, M6.out.same S7, KP4.out, AW6.out.same S7⟩
          case measure => simp [intOf]; omega
        case neg =>
          rw [if_neg hE0]
          have x2 : decide ((0 : Int) < (E : Int)) = true := by rw [decide_eq_true_eq]; omega
          have x3 : decide (0 < E) = true := by rw [decide_eq_true_eq]; omega
          have x4 : 0 < E := by omega
          go_wp2_with fail
          refine (AL6.out.eqs AW6.out).mono ?_
          rintro en w7 ⟨rfl, S7⟩
          go_wp2_with fail
          go_roundw
          case rel => exact ⟨k + 1, E, _, _, wb, by omega, by omega, by go_num, rfl, by go_num, M6.out.same S7, KP4.out, AW6.out.same S7⟩
          case measure => simp [intOf]; omega
      · have KP4 := hid hK
        clear hK
        go_wp2_with fail
        refine M4.out.start.mono ?_
        rintro en w5 ⟨rfl, K5, M5⟩
        have M5 := hid M5
        have AW5 := hid (AW4.out.keep K5)
        have AB5 := hid (AB4.out.keep K5)
        clear M4 AW4 AB4 K5
        go_wp2_with fail
        refine (M5.out.load KP4.out (by omega)).mono ?_
        rintro en w6 ⟨la, lc, rfl, AL6, M6, S6⟩
        have M6 := hid M6
        have AL6 := hid AL6
        have AW6 := hid (AW5.out.same S6)
        have AB6 := hid (AB5.out.same S6)
        clear M5 AW5 AB5 S6
        rw [if_neg (by omega : ¬ (E : Int) + 1 = 0)]
        have y1 : ((E : Int) + 1 == (E : Int) + 1 + 1) = false := by rw [beq_eq_false_iff_ne]; omega
        have x2 : decide ((0 : Int) < (E : Int) + 1) = true := by rw [decide_eq_true_eq]; omega
        go_wp2_with fail
        refine (AL6.out.eqs AB6.out).mono ?_
        rintro en w7 ⟨rfl, S7⟩
        have M7 := hid (M6.out.same S7)
        have AL7 := hid (AL6.out.same S7)
        clear M6 AL6 AW6 AB6 S7
        go_wp2_with fail
        refine (AL7.out.eqs AL7.out).mono ?_
        rintro en w8 ⟨rfl, S8⟩
        go_wp2_with fail
        go_roundw
        case rel => exact ⟨k + 1, E + 1, _, _, b, by omega, by omega, by go_num, by go_num, by go_num, M7.out.same S8, KP4.out, AL7.out.same S8⟩
        case measure => simp [intOf]; omega
end Go.Proofs.Ytlhnpicmjjddeaa
