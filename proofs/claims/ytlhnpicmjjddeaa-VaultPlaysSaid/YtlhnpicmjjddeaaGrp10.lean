/- SCROLL: the walk of ScrollPlays. Printed by mksp.py. VAULT: lives of layer 10; the walk of VaultNobody. VAULT: the walk of VaultPlays. Printed by mkvp.py. -/
import Derived.Test.YtlhnpicmjjddeaaGrp9
import Derived.Test.YtlhnpicmjjddeaaGrp8
set_option linter.unusedVariables false
set_option linter.unusedSimpArgs false
namespace Go.Proofs.Ytlhnpicmjjddeaa
open Go.RowKit

theorem mid_first {w w1 w2 : World} {p px : Value} {FD FX : Nat → Prop} {D D2 : Dv} (h1 : IsDv w1 p FD D) (S1 : Same w w1) (B1 : Bnd FD w.heap.size w1.heap.size) (h2 : IsRd w2 px FX D2) (S2 : Same w1 w2) (B2 : Bnd FX w1.heap.size w2.heap.size) : MidE w w2 p px D D2 :=
  ⟨FD, FX, h1.same S2, h2, fun i hi hn => by have := (B1 i hi).2; have := (B2 i hn).1; omega, B1.mono S2.size, fun k hk => ⟨by have := (B2 k hk).1; have := S1.size; omega, (B2 k hk).2⟩, S1.trans S2⟩
theorem rSameEq (w : World) (e1 e2 : TypeId) (v1 v2 : Value) (l : List (List UInt8)) (h1 : Rows2 w e1 v1 l) (h2 : Rows2 w e2 v2 l) : Calls Try.prog 64 #[v1, v2] w (RetSame (.bool true) w) := by
  have := rSame2 w e1 e2 v1 v2 l l h1 h2
  rwa [decide_eq_true (rfl : l = l)] at this
/-- what stays so in ScrollPlays -/
structure Pl (D : Dv) (S : Sc) (L : Int) : Prop where
  len : D.C.length = 14
  low : Low D L
  life : S.life ≤ L
theorem Pl.new {A : Nat} {E : Int} (hA : A ≤ 3) (hE : 0 ≤ E ∧ E ≤ 5) : (Dv.new 14).openE A 14 1 E = 0 ∧ Pl (Dv.new 14) ((Dv.new 14).opened A 14 1 E) 1 := by
  have hl : (Dv.new 14).C.length = 14 := by simp [Dv.new]
  have hf : (0 : Int) ≤ A ∧ (A : Int) ≤ 14 ∧ (14 : Int) ≤ (Dv.new 14).C.length := by rw [hl]; omega
  exact ⟨open_zero hf (by omega) (by omega) (new_low 14 1), hl, fun i h => Int.le_of_lt (new_low 14 1 i h), Int.le_refl _⟩
theorem Pl.append {D : Dv} {S : Sc} {L : Int} (h : Pl D S L) (h0 : 0 ≤ S.at_) (b : List UInt8) : Pl (S.append D b).2.2 (S.append D b).2.1 L := by
  have q := h.low.append (b := b) h.life h0
  exact ⟨(append_len S D b).trans h.len, q.1, by rw [q.2]; exact h.life⟩
theorem Pl.fuse {D : Dv} {S : Sc} {L : Int} (h : Pl D S L) (m : Int) (ks : List Int) : Pl (D.fuse m ks).2 S L := by
  have q := h.low.fuse m ks
  exact ⟨q.2.trans h.len, q.1, h.life⟩
theorem Pl.reopen {D : Dv} {S : Sc} {L : Int} (h : Pl D S L) (hL : 0 ≤ L ∧ L ≤ 200) {A : Nat} {E r : Int} (hA : A ≤ 3) (hE : 0 ≤ E ∧ E ≤ 5) (hr : 1 ≤ r ∧ r ≤ 3) :
    0 ≤ D.start.newest 0 14 ∧ D.start.newest 0 14 ≤ 200 ∧ D.start.openE A 14 (D.start.newest 0 14 + r) E = 0 ∧ Pl D.start (D.start.opened A 14 (D.start.newest 0 14 + r) E) (L + 3) := by
  have hs : Low D.start L := h.low
  have hlen : D.start.C.length = 14 := h.len
  have hn := hs.newest hL.1 0 14
  have hn0 := (newest_bound D.start 0 14).1
  have hsub := newest_sub (D := D.start) (a := 0) (b := A) (c := 14) (by omega) (by omega) (by omega)
  refine ⟨hn0, by omega, if_pos ⟨decide_eq_true ⟨by omega, by omega, by omega⟩, by omega, by omega, by omega, by omega, ?_⟩, hlen, fun i hi => by have := hs i hi; omega, by show D.start.newest 0 14 + r ≤ L + 3; omega⟩
  have e : D.start.newest ((0 : Nat) : Int) ((14 : Nat) : Int) = D.start.newest 0 14 := rfl
  rw [e] at hsub
  have e2 : D.start.newest (A : Int) ((14 : Nat) : Int) = D.start.newest (A : Int) 14 := rfl
  rw [e2] at hsub
  omega
set_option maxHeartbeats 25600000 in
set_option maxRecDepth 100000 in
theorem scrollPlaysWalk (w : World) (fr er : Int) (v : Value) (n : Nat) (hv : KDos w v n) : Calls Try.prog 17 #[.int .i64 fr, .int .i64 er, v] w (RetSame (.bool true) w) := by
  have H9 := hid cLives
  have HCt := hid r01Cut0
  have HFe := hid lFew0
  have HSa := hid rSameEq
  have HIn := hid r01In
  obtain ⟨ao, cap, rfl, hn1, hn2, hrows⟩ := hv
  unfold maxLen at hn2
  have HRows := hid hrows
  clear hrows
  go_enter Try.func17, Try.ntmps17
  go_wp2_with fail
  refine (HIn.out _ _ _ _).mono ?_
  rintro en w1 ⟨rfl, rfl⟩
  obtain ⟨A, hA, eA⟩ : ∃ A : Nat, A ≤ 3 ∧ (if fr < 0 then (0 : Int) else if 3 < fr then 3 else fr) = A := by
    by_cases h1 : fr < 0
    · exact ⟨0, by omega, by rw [if_pos h1]; rfl⟩
    by_cases h2 : 3 < fr
    · exact ⟨3, by omega, by rw [if_neg h1, if_pos h2]; rfl⟩
    · exact ⟨fr.toNat, by omega, by rw [if_neg h1, if_neg h2]; omega⟩
  rw [eA]
  clear eA
  go_wp2_with fail
  refine (HIn.out _ _ _ _).mono ?_
  rintro en w1 ⟨rfl, rfl⟩
  obtain ⟨E, hE, eE⟩ : ∃ E : Int, (0 ≤ E ∧ E ≤ 5) ∧ (if er < 0 then (0 : Int) else if 5 < er then 5 else er) = E := by
    by_cases h1 : er < 0
    · exact ⟨0, by omega, by rw [if_pos h1]⟩
    by_cases h2 : 5 < er
    · exact ⟨5, by omega, by rw [if_neg h1, if_pos h2]⟩
    · exact ⟨er, by omega, by rw [if_neg h1, if_neg h2]⟩
  rw [eE]
  clear eE
  have HAE := hid (And.intro hA hE)
  clear hA hE
  go_wp2_with fail
  refine (dNewD w 14 (by omega) (by omega)).mono ?_
  rintro en w1 ⟨p, FD, rfl, S1, D1, B1⟩
  obtain ⟨pb, rfl⟩ := D1.ptr
  have X1 := hid (And.intro D1 (And.intro S1 B1))
  clear D1 S1 B1
  go_wp2_with fail
  refine (rNewD w1 14 (by omega) (by omega)).mono ?_
  rintro en w2 ⟨px, FX, rfl, S2, D2, B2⟩
  obtain ⟨xb, rfl⟩ := D2.ptr
  have M2 := hid (mid_first X1.out.1 X1.out.2.1 X1.out.2.2 D2 S2 B2)
  clear X1 D2 S2 B2
  have HPl := hid (Pl.new (A := A) (E := E) HAE.out.1 HAE.out.2)
  go_wp2_with fail
  refine (M2.out.open A 14 1 E HPl.out.1).mono ?_
  rintro en w3 ⟨s, rfl, M3⟩
  obtain ⟨sb, rfl⟩ := M3.sptr
  have M3 := hid M3
  clear M2
  go_wp2_with fail
  refine (M3.out.ropen A 14 1 E HPl.out.1).mono ?_
  rintro en w4 ⟨sx, rfl, M4⟩
  obtain ⟨yb, rfl⟩ := M4.ptrs.2.2.2
  have M4 := hid M4
  clear M3
  go_wp2_with fail
  go_loopw [10, 12, 14] (fun s y i wr => ∃ (k sb yb : Nat) (L : Int) (D : Dv) (S : Sc), k ≤ 40 ∧ 1 ≤ L ∧ L ≤ 3 * k + 1 ∧ s = .pointer (some ⟨sb, 0, none⟩) ∧ y = .pointer (some ⟨yb, 0, none⟩) ∧ i = .int .i64 k ∧
    MidX NoA w wr (.pointer (some ⟨pb, 0, none⟩)) s (.pointer (some ⟨xb, 0, none⟩)) y D S D S ∧ Pl D S L) (fun _ _ i _ => 40 - (intOf i).toNat)
  case atStart => exact ⟨0, sb, yb, 1, _, _, by omega, by omega, by omega, rfl, rfl, rfl, M4.out, HPl.out.2⟩
  case round =>
    clear M4 HPl
    obtain ⟨k, sb, yb, L, D, S, hk, hL1, hL2, rfl, rfl, rfl, M, P⟩ := hrel
    have M := hid M
    have P := hid P
    by_cases hlt : k < n
    case neg =>
      go_wp2_with fail
      refine (H9.out _).mono ?_
      rintro en w5 ⟨rfl, S5⟩
      go_wp2_with fail
      go_ret
      exact ⟨rfl, M.out.old.trans S5⟩
    by_cases hlt2 : k < 40
    case neg =>
      go_wp2_with fail
      refine (H9.out _).mono ?_
      rintro en w5 ⟨rfl, S5⟩
      go_wp2_with fail
      go_ret
      exact ⟨rfl, M.out.old.trans S5⟩
    obtain ⟨g, o, hao, hall⟩ : ∃ g o, ao = some ⟨g, o, none⟩ ∧ ∀ i, i < n → ∃ d, KDoAt w g (o + i * 4) d := by
      rcases HRows.out with h0 | h0
      · omega
      · exact h0
    subst hao
    obtain ⟨d, ab, cb, eb, ak, ck, ek, c0, c1, c2, hb, c3, hks, hdn⟩ := hall k hlt
    have hg0 := World.block_lt_of_cell? w _ c0
    have r0 : wr.cell? ⟨g, o + k * 4, none⟩ = _ := (M.out.old.cell (p := ⟨g, o + k * 4, none⟩) hg0).trans c0
    have r1 : wr.cell? ⟨g, o + k * 4 + 1, none⟩ = _ := (M.out.old.cell (p := ⟨g, o + k * 4 + 1, none⟩) hg0).trans c1
    have r2 : wr.cell? ⟨g, o + k * 4 + 2, none⟩ = _ := (M.out.old.cell (p := ⟨g, o + k * 4 + 2, none⟩) hg0).trans c2
    have r3 : wr.cell? ⟨g, o + k * 4 + 3, none⟩ = _ := (M.out.old.cell (p := ⟨g, o + k * 4 + 3, none⟩) hg0).trans c3
    have HB := hid hb
    have HK := hid hks
    have Hdn := hid hdn
    have M1 := hid (M.out.put (.cells #[.int .i64 d.kind, .int .i64 d.n, .slice ab d.b.length cb, .slice ak d.keep.length ck] 113))
    have hki : (0 : Int) ≤ (k : Int) := by omega
    have hkn : (k : Int) < (n : Int) := by omega
    clear hall c0 c1 c2 c3 hb hks hg0 hdn M
    go_wp2_with fail
    generalize hw1 : wr.alloc (.cells #[.int .i64 d.kind, .int .i64 d.n, .slice ab d.b.length cb, .slice ak d.keep.length ck] 113) = w1 at *
    have hBx := M1.out.aside (g := wr.heap.size) (o := .cells #[.int .i64 d.kind, .int .i64 d.n, .slice ab d.b.length cb, .slice ak d.keep.length ck] 113) (.inr ⟨rfl, rfl⟩)
    have HBox : Hid (∀ wz : World, wz.heap[wr.heap.size]? = some (.cells #[.int .i64 d.kind, .int .i64 d.n, .slice ab d.b.length cb, .slice ak d.keep.length ck] 113 (0, 0)) →
        wz.cell? ⟨wr.heap.size, 0, none⟩ = some (.int .i64 d.kind) ∧ wz.cell? ⟨wr.heap.size, 1, none⟩ = some (.int .i64 d.n) ∧ wz.cell? ⟨wr.heap.size, 3, none⟩ = some (.slice ak d.keep.length ck)) := fun wz hz => ⟨by rw [cell_of_row wz _ _ _ 113 _ hz]; rfl, by rw [cell_of_row wz _ _ _ 113 _ hz]; rfl, by rw [cell_of_row wz _ _ _ 113 _ hz]; rfl⟩
    have HAs : Hid (∀ (wz : World) (D : Dv) (S : Sc) (D2 : Dv) (S2 : Sc) (s y : Value), MidX (fun g x => NoA g x ∨ (g = wr.heap.size ∧ x = .cells #[.int .i64 d.kind, .int .i64 d.n, .slice ab d.b.length cb, .slice ak d.keep.length ck] 113)) w wz (.pointer (some ⟨pb, 0, none⟩)) s (.pointer (some ⟨xb, 0, none⟩)) y D S D2 S2 →
        wz.cell? ⟨wr.heap.size, 0, none⟩ = some (.int .i64 d.kind) ∧ wz.cell? ⟨wr.heap.size, 1, none⟩ = some (.int .i64 d.n) ∧ wz.cell? ⟨wr.heap.size, 3, none⟩ = some (.slice ak d.keep.length ck)) := fun _ _ _ _ _ _ _ h => HBox.out _ (h.aside (.inr ⟨rfl, rfl⟩))
    clear hw1 hBx r0 r1 r2 r3 HBox
    generalize wr.heap.size = fb at *
    obtain ⟨b0, b1, b3⟩ := HAs.out _ _ _ _ _ _ _ M1.out
    refine (show Calls Try.prog 22 #[_, .int .i64 250] w1 _ from HCt.out w w1 eb _ d.b 250 HB.out).mono ?_
    rintro en w1' ⟨v1, rfl, Y1, rfl⟩
    have hle : (d.b.take 250).length ≤ 250 := by rw [List.length_take]; omega
    have Y1 := hid Y1
    clear HB
    generalize d.b.take 250 = x at *
    obtain ⟨a1, q1, rfl, _, _⟩ := Y1.out.form
    by_cases k0 : d.kind = 0
    case pos =>
      rw [k0] at b0
      have hok := hid M1.out.ok
      have P4 := hid (P.out.append (by have := hok.out.fit; omega) x)
      clear k0
      go_wp2_with fail
      refine (M1.out.append _ eb x Y1.out (by omega)).mono ?_
      rintro en w4 ⟨rfl, M4⟩
      have M4 := hid M4
      clear M1 b0 b1 b3
      go_wp2_with fail
      refine (M4.out.rappend hok.out _ eb x Y1.out (by omega)).mono ?_
      rintro en w5 ⟨rfl, M5⟩
      have M5 := hid M5
      clear M4
      generalize (S.append D x).2.2 = D5 at *
      generalize (S.append D x).2.1 = S5 at *
      generalize (S.append D x).1 = r5 at *
      obtain ⟨e0, e1, e3⟩ := HAs.out _ _ _ _ _ _ _ M5.out
      go_wp2_with fail
      obtain ⟨yb', yv, hyb, n5, n6, HRy⟩ := M5.out.seen
      obtain rfl : yb = yb' := by simpa using hyb
      obtain ⟨ya, yc, rfl, _, _⟩ := HRy.form
      have HRy := hid HRy
      have H5 := hid (fun (wz : World) (Z : Same w5 wz) => And.intro ((Z.cell (p := ⟨yb, 5, none⟩) (World.block_lt_of_cell? w5 ⟨yb, 5, none⟩ n5)).trans n5) ((Z.cell (p := ⟨yb, 6, none⟩) (World.block_lt_of_cell? w5 ⟨yb, 6, none⟩ n6)).trans n6))
      have HRc := hid (M5.out.same (Same.refl w5).drew).records
      have HSm := hid (fun (wz : World) (v7 : Value) (Z : Same w5 wz) (h : Rows2 wz 23 v7 S5.all) => HSa.out wz 23 23 v7 _ _ h (HRy.out.same Z))
      have HUs := hid (fun (wz : World) (Z : Same w5 wz) => (M5.out.same Z).used)
      clear hyb HRy
      go_region_held3 (fun w' => w'.cell? ⟨yb, 5, none⟩ = some (.slice ya S5.all.length yc) ∧ w'.cell? ⟨yb, 6, none⟩ = some (.int .i64 (S5.at_ - S5.from_)))
        (first | with_reducible exact ⟨by assumption, by assumption⟩ | go_keep)
        (first
          | (go_at_call 65; (with_reducible refine HRc.out.mono ?_); rintro en w7 ⟨v7, rfl, O7, Z7⟩; obtain ⟨a7, q7, rfl, _, _⟩ := O7.rows.form; have Z7 := hid ((Same.refl w5).drew.trans Z7); have R7 := hid O7.rows; obtain ⟨h5, h6⟩ := H5.out _ Z7.out; clear O7)
          | (go_at_call 64; (with_reducible refine (HSm.out w7 _ Z7.out R7.out).mono ?_); rintro en w8 ⟨rfl, Z8⟩; have Z8 := hid (Z7.out.trans Z8); obtain ⟨h5', h6'⟩ := H5.out _ Z8.out)
          | (go_at_call 66; (with_reducible refine (HUs.out w8 Z8.out).mono ?_); rintro en w9 ⟨rfl, Z9⟩; have Z9 := hid (Z8.out.trans Z9); obtain ⟨h5'', h6''⟩ := H5.out _ Z9.out))
      clear n5 n6 h5 h6 h5' h6' h5'' h6''
      have MF := hid (M5.out.same Z9.out).bare
      go_wp2_with fail
      go_roundw
      case rel => exact ⟨k + 1, sb, yb, L, D5, S5, by omega, by omega, by omega, rfl, rfl, by go_num, MF.out, P4.out⟩
      case measure => simp [intOf]; omega
    have k0b : (d.kind == 0) = false := by rw [beq_eq_false_iff_ne]; exact k0
    by_cases k1 : d.kind = 1
    case pos =>
      rw [k1] at b0
      obtain ⟨ks, hks⟩ : ∃ ks, d.keep.take 20 = ks := ⟨_, rfl⟩
      have hlk : ks.length ≤ 1000 := by rw [← hks, List.length_take]; omega
      have HFk := hid (fun wz => HFe.out w wz ek _ d.keep HK.out)
      rw [hks] at HFk
      clear hks k0 k1 k0b
      have MD := hid (M1.out.same (Same.refl w1).drew)
      have hdn := Hdn.out
      go_wp2_with fail
      clear b0
      go_region_held3 (fun w' => w'.cell? ⟨fb, 1, none⟩ = some (.int .i64 d.n) ∧ w'.cell? ⟨fb, 3, none⟩ = some (.slice ak d.keep.length ck))
        (first | with_reducible exact ⟨by assumption, by assumption⟩ | go_keep)
        (first
          | (go_at_call 58; (with_reducible refine (HFk.out _).mono ?_); rintro en wk ⟨kv, rfl, HKI, rfl⟩; obtain ⟨ka, kc, rfl, _, _⟩ := HKI.form; have HKI := hid HKI)
          | (go_at_call 35; (with_reducible refine (MD.out.fuse _ ek d.n ks HKI.out hlk hdn).mono ?_); rintro en w3 ⟨rfl, M3⟩; have M3 := hid M3; obtain ⟨g0', g1', g3'⟩ := HAs.out _ _ _ _ _ _ _ M3.out)
          | (go_at_call 71; (with_reducible refine (M3.out.rfuse _ ek d.n ks HKI.out hlk hdn).mono ?_); rintro en w4 ⟨rfl, M4⟩; have M4 := hid M4; obtain ⟨h0', h1', h3'⟩ := HAs.out _ _ _ _ _ _ _ M4.out))
      have P4 := hid (P.out.fuse d.n ks)
      clear b1 b3 g0' g1' g3' h1' h3' MD M3 HKI HFk
      generalize (D.fuse d.n ks).2 = D5 at *
      generalize (D.fuse d.n ks).1 = r5 at *
      go_wp2_with fail
      obtain ⟨yb', yv, hyb, n5, n6, HRy⟩ := M4.out.seen
      obtain rfl : yb = yb' := by simpa using hyb
      obtain ⟨ya, yc, rfl, _, _⟩ := HRy.form
      have HRy := hid HRy
      have H5 := hid (fun (wz : World) (Z : Same w4 wz) => And.intro ((Z.cell (p := ⟨yb, 5, none⟩) (World.block_lt_of_cell? w4 ⟨yb, 5, none⟩ n5)).trans n5) ((Z.cell (p := ⟨yb, 6, none⟩) (World.block_lt_of_cell? w4 ⟨yb, 6, none⟩ n6)).trans n6))
      have HRc := hid (M4.out.same (Same.refl w4).drew).records
      have HSm := hid (fun (wz : World) (v7 : Value) (Z : Same w4 wz) (h : Rows2 wz 23 v7 S.all) => HSa.out wz 23 23 v7 _ _ h (HRy.out.same Z))
      have HUs := hid (fun (wz : World) (Z : Same w4 wz) => (M4.out.same Z).used)
      clear hyb HRy
      go_region_held3 (fun w' => w'.cell? ⟨yb, 5, none⟩ = some (.slice ya S.all.length yc) ∧ w'.cell? ⟨yb, 6, none⟩ = some (.int .i64 (S.at_ - S.from_)))
        (first | with_reducible exact ⟨by assumption, by assumption⟩ | go_keep)
        (first
          | (go_at_call 65; (with_reducible refine HRc.out.mono ?_); rintro en w7 ⟨v7, rfl, O7, Z7⟩; obtain ⟨a7, q7, rfl, _, _⟩ := O7.rows.form; have Z7 := hid ((Same.refl w4).drew.trans Z7); have R7 := hid O7.rows; obtain ⟨h5, h6⟩ := H5.out _ Z7.out; clear O7)
          | (go_at_call 64; (with_reducible refine (HSm.out w7 _ Z7.out R7.out).mono ?_); rintro en w8 ⟨rfl, Z8⟩; have Z8 := hid (Z7.out.trans Z8); obtain ⟨h5', h6'⟩ := H5.out _ Z8.out)
          | (go_at_call 66; (with_reducible refine (HUs.out w8 Z8.out).mono ?_); rintro en w9 ⟨rfl, Z9⟩; have Z9 := hid (Z8.out.trans Z9); obtain ⟨h5'', h6''⟩ := H5.out _ Z9.out))
      clear n5 n6 h5 h6 h5' h6' h5'' h6''
      have MF := hid (M4.out.same Z9.out).bare
      go_wp2_with fail
      go_roundw
      case rel => exact ⟨k + 1, sb, yb, L, D5, S, by omega, by omega, by omega, rfl, rfl, by go_num, MF.out, P4.out⟩
      case measure => simp [intOf]; omega
    have k1b : (d.kind == 1) = false := by rw [beq_eq_false_iff_ne]; exact k1
    by_cases k2 : d.kind = 2
    case neg =>
      have k2b : (d.kind == 2) = false := by rw [beq_eq_false_iff_ne]; exact k2
      clear k0 k1 k2
      go_wp2_with fail
      refine (M1.out.forget.newest 0 14).mono ?_
      rintro en w3 ⟨rfl, Z3⟩
      have M3 := hid (M1.out.same Z3)
      clear b0 b1 b3 Z3
      have HN := hid (show Calls Try.prog 68 #[.pointer (some ⟨xb, 0, none⟩), .int .i64 0, .int .i64 14] w3 (RetSame (.int .i64 (D.newest 0 14)) w3) from M3.out.forget.rnewest 0 14 (by omega) (by have := P.out.len; omega))
      generalize D.newest 0 14 = nw at *
      go_wp2_with fail
      refine HN.out.mono ?_
      rintro en w4 ⟨rfl, Z4⟩
      have M4 := hid (M3.out.same Z4)
      clear Z4
      go_wp2_with fail
      obtain ⟨yb', yv, hyb, n5, n6, HRy⟩ := M4.out.seen
      obtain rfl : yb = yb' := by simpa using hyb
      obtain ⟨ya, yc, rfl, _, _⟩ := HRy.form
      have HRy := hid HRy
      have H5 := hid (fun (wz : World) (Z : Same w4 wz) => And.intro ((Z.cell (p := ⟨yb, 5, none⟩) (World.block_lt_of_cell? w4 ⟨yb, 5, none⟩ n5)).trans n5) ((Z.cell (p := ⟨yb, 6, none⟩) (World.block_lt_of_cell? w4 ⟨yb, 6, none⟩ n6)).trans n6))
      have HRc := hid (M4.out.same (Same.refl w4).drew).records
      have HSm := hid (fun (wz : World) (v7 : Value) (Z : Same w4 wz) (h : Rows2 wz 23 v7 S.all) => HSa.out wz 23 23 v7 _ _ h (HRy.out.same Z))
      have HUs := hid (fun (wz : World) (Z : Same w4 wz) => (M4.out.same Z).used)
      clear hyb HRy
      go_region_held3 (fun w' => w'.cell? ⟨yb, 5, none⟩ = some (.slice ya S.all.length yc) ∧ w'.cell? ⟨yb, 6, none⟩ = some (.int .i64 (S.at_ - S.from_)))
        (first | with_reducible exact ⟨by assumption, by assumption⟩ | go_keep)
        (first
          | (go_at_call 65; (with_reducible refine HRc.out.mono ?_); rintro en w7 ⟨v7, rfl, O7, Z7⟩; obtain ⟨a7, q7, rfl, _, _⟩ := O7.rows.form; have Z7 := hid ((Same.refl w4).drew.trans Z7); have R7 := hid O7.rows; obtain ⟨h5, h6⟩ := H5.out _ Z7.out; clear O7)
          | (go_at_call 64; (with_reducible refine (HSm.out w7 _ Z7.out R7.out).mono ?_); rintro en w8 ⟨rfl, Z8⟩; have Z8 := hid (Z7.out.trans Z8); obtain ⟨h5', h6'⟩ := H5.out _ Z8.out)
          | (go_at_call 66; (with_reducible refine (HUs.out w8 Z8.out).mono ?_); rintro en w9 ⟨rfl, Z9⟩; have Z9 := hid (Z8.out.trans Z9); obtain ⟨h5'', h6''⟩ := H5.out _ Z9.out))
      clear n5 n6 h5 h6 h5' h6' h5'' h6''
      have MF := hid (M4.out.same Z9.out).bare
      go_wp2_with fail
      go_roundw
      case rel => exact ⟨k + 1, sb, yb, L, D, S, by omega, by omega, by omega, rfl, rfl, by go_num, MF.out, P.out⟩
      case measure => simp [intOf]; omega
    rw [k2] at b0
    clear k0 k1 k2
    obtain ⟨r, hr, er⟩ : ∃ r : Int, (1 ≤ r ∧ r ≤ 3) ∧ (if d.n < 1 then (1 : Int) else if 3 < d.n then 3 else d.n) = r := by
      by_cases h1 : d.n < 1
      · exact ⟨1, by omega, by rw [if_pos h1]⟩
      by_cases h2 : 3 < d.n
      · exact ⟨3, by omega, by rw [if_neg h1, if_pos h2]⟩
      · exact ⟨d.n, by omega, by rw [if_neg h1, if_neg h2]⟩
    have HInr := hid (fun wz => HIn.out wz d.n 1 3)
    rw [er] at HInr
    have HRe := hid (P.out.reopen (A := A) (E := E) (r := r) (by omega) HAE.out.1 HAE.out.2 hr)
    have hlen2 : Hid (D.start.C.length = 14) := P.out.len
    clear er
    go_wp2_with fail
    refine M1.out.start.mono ?_
    rintro en w3 ⟨rfl, M3⟩
    obtain ⟨⟨v1, v2, x1, x2, z1, z2⟩, M4⟩ := M3.rstart
    have M4 := hid M4
    clear M1 b0 b1 b3
    go_wp2_with fail
    generalize hw5 : (w3.setCell ⟨xb, 1, none⟩ (.bool false)).setCell ⟨xb, 2, none⟩ (.int .i64 (-1)) = w5 at *
    obtain ⟨e0, e1, e3⟩ := HAs.out _ _ _ _ _ _ _ M4.out
    clear hw5 M3 x1 x2 z1 z2
    have HN := hid (show Calls Try.prog 68 #[.pointer (some ⟨xb, 0, none⟩), .int .i64 0, .int .i64 14] w5.drew (RetSame (.int .i64 (D.start.newest 0 14)) w5.drew) from (M4.out.same (Same.refl w5).drew).forget.rnewest 0 14 (by omega) (by have := hlen2.out; omega))
    generalize D.start.newest 0 14 = nw at *
    have hn0 := HRe.out.1
    have hn9 := HRe.out.2.1
    have hwr : IntKind.i64.wrap (nw + r) = nw + r := by rw [IntKind.wrap_i64]; omega
    go_region_held3 (fun w' => w'.cell? ⟨fb, 1, none⟩ = some (.int .i64 d.n))
      (first | with_reducible exact (by assumption) | go_keep)
      (first
        | (go_at_call 68; (with_reducible refine HN.out.mono ?_); rintro en w6 ⟨rfl, Z6⟩; have Z6 := hid ((Same.refl w5).drew.trans Z6); obtain ⟨g0', g1', g3'⟩ := HAs.out _ _ _ _ _ _ _ (M4.out.same Z6.out))
        | (go_at_call 31; (with_reducible refine (HInr.out _).mono ?_); rintro en w7 ⟨rfl, rfl⟩))
    have M6 := hid (M4.out.same Z6.out).forget
    clear M4 e0 e1 e3 g0' g1' g3' hwr
    go_wp2_with fail
    refine (M6.out.open A 14 (nw + r) E HRe.out.2.2.1).mono ?_
    rintro en w8 ⟨s', rfl, M8⟩
    obtain ⟨sb', rfl⟩ := M8.sptr
    have M8 := hid M8
    clear M6
    go_wp2_with fail
    refine (M8.out.ropen A 14 (nw + r) E HRe.out.2.2.1).mono ?_
    rintro en w9' ⟨sx', rfl, M9⟩
    obtain ⟨yb2, rfl⟩ := M9.ptrs.2.2.2
    have M9 := hid M9
    have P4 := hid HRe.out.2.2.2
    clear M8 HRe HN
    generalize D.start.opened A 14 (nw + r) E = S5 at *
    generalize D.start = D5 at *
    go_wp2_with fail
    obtain ⟨yb', yv, hyb, n5, n6, HRy⟩ := M9.out.seen
    obtain rfl : yb2 = yb' := by simpa using hyb
    obtain ⟨ya, yc, rfl, _, _⟩ := HRy.form
    have HRy := hid HRy
    have H5 := hid (fun (wz : World) (Z : Same w9' wz) => And.intro ((Z.cell (p := ⟨yb2, 5, none⟩) (World.block_lt_of_cell? w9' ⟨yb2, 5, none⟩ n5)).trans n5) ((Z.cell (p := ⟨yb2, 6, none⟩) (World.block_lt_of_cell? w9' ⟨yb2, 6, none⟩ n6)).trans n6))
    have HRc := hid (M9.out.same (Same.refl w9').drew).records
    have HSm := hid (fun (wz : World) (v7 : Value) (Z : Same w9' wz) (h : Rows2 wz 23 v7 S5.all) => HSa.out wz 23 23 v7 _ _ h (HRy.out.same Z))
    have HUs := hid (fun (wz : World) (Z : Same w9' wz) => (M9.out.same Z).used)
    clear hyb HRy
    go_region_held3 (fun w' => w'.cell? ⟨yb2, 5, none⟩ = some (.slice ya S5.all.length yc) ∧ w'.cell? ⟨yb2, 6, none⟩ = some (.int .i64 (S5.at_ - S5.from_)))
      (first | with_reducible exact ⟨by assumption, by assumption⟩ | go_keep)
      (first
        | (go_at_call 65; (with_reducible refine HRc.out.mono ?_); rintro en w7 ⟨v7, rfl, O7, Z7⟩; obtain ⟨a7, q7, rfl, _, _⟩ := O7.rows.form; have Z7 := hid ((Same.refl w9').drew.trans Z7); have R7 := hid O7.rows; obtain ⟨h5, h6⟩ := H5.out _ Z7.out; clear O7)
        | (go_at_call 64; (with_reducible refine (HSm.out w7 _ Z7.out R7.out).mono ?_); rintro en w8 ⟨rfl, Z8⟩; have Z8 := hid (Z7.out.trans Z8); obtain ⟨h5', h6'⟩ := H5.out _ Z8.out)
        | (go_at_call 66; (with_reducible refine (HUs.out w8 Z8.out).mono ?_); rintro en w9 ⟨rfl, Z9⟩; have Z9 := hid (Z8.out.trans Z9); obtain ⟨h5'', h6''⟩ := H5.out _ Z9.out))
    clear n5 n6 h5 h6 h5' h6' h5'' h6''
    have MF := hid (M9.out.same Z9.out).bare
    go_wp2_with fail
    go_roundw
    case rel => exact ⟨k + 1, sb', yb2, (L + 3), D5, S5, by omega, by omega, by omega, rfl, rfl, by go_num, MF.out, P4.out⟩
    case measure => simp [intOf]; omega
end Go.Proofs.Ytlhnpicmjjddeaa
namespace Go.Proofs.Ytlhnpicmjjddeaa
open Go.RowKit

def l10a : Vt := (Dv.new 12).vopened 3
def l10b : Int × Vt × Dv := l10a.append (Dv.new 12) [97]
def l10c : Int × Vt × Dv := l10b.2.1.compact l10b.2.2 [115]
def l10d : Int × Vt × Dv := l10c.2.1.append l10c.2.2 [98]
def l10e : Vt := l10d.2.2.vopened 3
theorem l10_1 : (Dv.new 12).vopenE 3 = 0 := by kernel_rfl
theorem l10_2 : l10b.1 = 0 := by kernel_rfl
theorem l10_3 : l10c.1 = 0 := by kernel_rfl
theorem l10_4 : l10d.1 = 0 := by kernel_rfl
theorem l10_5 : l10d.2.2.vopenE 3 = 0 := by kernel_rfl
theorem l10_6 : l10e.state = [115] := by kernel_rfl
theorem l10_7 : l10e.era = 1 := by kernel_rfl
theorem l10_8 : l10e.S.all = [[98]] := by kernel_rfl
theorem l10_9 : l10b.2.1.era = 0 := by kernel_rfl
theorem l10_10 : (l10b.2.2.save 0 l10b.2.1.each l10b.2.1.life (l10b.2.1.era + 1) [115]).2.openE (2 * l10b.2.1.each) (l10b.2.2.save 0 l10b.2.1.each l10b.2.1.life (l10b.2.1.era + 1) [115]).2.C.length (l10b.2.1.life + 1) (l10b.2.1.era + 1) = 0 := by kernel_rfl
set_option maxHeartbeats 6400000 in
set_option maxRecDepth 100000 in
theorem vLives (w : World) : Calls Try.prog 79 #[] w (RetSame (.bool true) w) := by
  have A1 := hid l10_1
  have A2 := hid l10_2
  have A3 := hid l10_3
  have A4 := hid l10_4
  have A5 := hid l10_5
  have A6 := hid l10_6
  have A7 := hid l10_7
  have A8 := hid l10_8
  have A9 := hid l10_9
  have A10 := hid l10_10
  have HS := hid rSame2
  have kcc := fun (w : World) (C : Array Value) (n c : Nat) => Lib.run_convert_bytes_const (P := Try.prog) w 23 5 C n c Try.underlying23 Try.underlying5
  go_enter Try.func79, Try.ntmps79
  go_wp2_with fail
  refine (dNewD w 12 (by omega) (by omega)).mono ?_
  rintro en w1 ⟨p, F, rfl, S1, D1, B1⟩
  have M1 : Hid (Mid w w1 p F (Dv.new 12)) := ⟨D1, B1, S1⟩
  obtain ⟨pb, rfl⟩ := D1.ptr
  clear D1 B1 S1
  go_wp2_with fail
  refine (MidV.first M1.out 3 A1.out (by omega)).mono ?_
  rintro en w2 ⟨v, F2, rfl, _, M2⟩
  obtain ⟨vb, rfl⟩ := M2.vptr
  have M2 : Hid (MidV w w2 (.pointer (some ⟨pb, 0, none⟩)) (.pointer (some ⟨vb, 0, none⟩)) F2 (Dv.new 12) l10a) := M2
  clear M1
  go_wp2_with fail
  have T2 := hid ((Same.refl w2).alloc (.cells #[.int .u8 97] 5 (1, 2)))
  refine ((M2.out.same T2.out).append _ 5 [97] (b1_made' w2 97 (by omega) (1, 2)) (by simp) (b1_apart M2.out.bnd)).mono ?_
  rintro en w3 ⟨F3, rfl, _, _, M3⟩
  have e3 : (l10a.append (Dv.new 12) [97]).1 = 0 := A2.out
  rw [e3]
  have M3 : Hid (MidV w w3 (.pointer (some ⟨pb, 0, none⟩)) (.pointer (some ⟨vb, 0, none⟩)) F3 l10b.2.2 l10b.2.1) := M3
  clear e3 M2 T2
  go_wp2_with fail
  have T3 := hid ((Same.refl w3).alloc (.cells #[.int .u8 115] 5 (1, 2)))
  refine ((M3.out.same T3.out).compact _ 5 [115] (b1_made' w3 115 (by omega) (1, 2)) (by simp) (b1_apart M3.out.bnd) (fun _ _ _ => ⟨by rw [A9.out]; omega, A10.out⟩)).mono ?_
  rintro en w4 ⟨F4, rfl, _, _, M4⟩
  have e4 : (l10b.2.1.compact l10b.2.2 [115]).1 = 0 := A3.out
  rw [e4]
  have M4 : Hid (MidV w w4 (.pointer (some ⟨pb, 0, none⟩)) (.pointer (some ⟨vb, 0, none⟩)) F4 l10c.2.2 l10c.2.1) := M4
  clear e4 M3 T3
  go_wp2_with fail
  have T4 := hid ((Same.refl w4).alloc (.cells #[.int .u8 98] 5 (1, 2)))
  refine ((M4.out.same T4.out).append _ 5 [98] (b1_made' w4 98 (by omega) (1, 2)) (by simp) (b1_apart M4.out.bnd)).mono ?_
  rintro en w5 ⟨F5, rfl, _, _, M5⟩
  have e5 : (l10c.2.1.append l10c.2.2 [98]).1 = 0 := A4.out
  rw [e5]
  have M5 : Hid (MidV w w5 (.pointer (some ⟨pb, 0, none⟩)) (.pointer (some ⟨vb, 0, none⟩)) F5 l10d.2.2 l10d.2.1) := M5
  clear e5 M4 T4
  go_wp2_with fail
  refine (M5.out.open 3 A5.out (by omega)).mono ?_
  rintro en w6 ⟨v6, F6, rfl, _, _, M6⟩
  obtain ⟨vb6, rfl⟩ := M6.vptr
  have M6 : Hid (MidV w w6 (.pointer (some ⟨pb, 0, none⟩)) (.pointer (some ⟨vb6, 0, none⟩)) F6 l10d.2.2 l10e) := M6
  clear M5
  go_wp2_with fail
  refine M6.out.state.mono ?_
  rintro en w7 ⟨a7, c7, rfl, _, Y7, S7⟩
  rw [A7.out]
  rw [A6.out] at Y7 ⊢
  have kc := convertBytes w7 5 a7 c7 [115] Y7
  have M7 := hid (M6.out.same S7)
  simp only [List.length_cons, List.length_nil] at *
  clear M6 Y7 S7
  go_wp2_with fail
  refine M7.out.records.mono ?_
  rintro en w8 ⟨a8, c8, rfl, R8, S8⟩
  rw [A8.out] at R8 ⊢
  have R8 := hid R8
  have M8 := hid (M7.out.same S8)
  simp only [List.length_cons, List.length_nil] at *
  clear M7 S8 kc
  go_wp2_with fail
  have T8 := hid (((Same.refl w8).alloc (.cells #[.int .u8 98] 5 (1, 2))).alloc (.cells #[.slice (some ⟨w8.heap.size, 0, none⟩) 1 1] 23))
  have X8 := hid ((Rows2N.one (F := NoB) (b1_made' w8 98 (by omega) (1, 2)) (fun _ _ x => x) (fun x => x)).rows)
  simp only [World.size_alloc] at X8
  refine (HS.out _ 23 23 _ _ _ _ (R8.out.rows.same T8.out) X8.out).mono ?_
  rintro en w9 ⟨rfl, S9⟩
  have M9 := hid ((M8.out.same T8.out).same S9)
  clear M8
  go_wp2_with fail
  refine M9.out.era.mono ?_
  rintro en w10 ⟨rfl, S10⟩
  rw [A7.out]
  go_wp2_with fail
  go_ret
  exact ⟨rfl, M9.out.old.trans S10⟩
theorem NoVault.boxed (w : World) : NoVault (w.alloc (.cells #[.pointer none, .pointer none, .int .i64 0, .int .i64 0, .int .i64 0, .slice none 0 0, .bool false] 122)) (.pointer (some ⟨w.heap.size, 0, none⟩)) :=
  .inr ⟨_, rfl, (Box7.cells (Box7.new w _ _ _ _ _ _ _)).1⟩
set_option maxHeartbeats 6400000 in
set_option maxRecDepth 100000 in
theorem vaultNobodyWalk (w : World) (v : Value) (e : TypeId) (each : Int) (b : List UInt8) (hb : Bytes w e v b) :
    Calls Try.prog 19 #[v, .int .i64 each] w (RetSame (.bool true) w) := by
  have H1 := hid vState_none
  have H2 := hid vOpen_none
  have H3 := hid (fun w' => show Calls Try.prog 22 #[v, .int .i64 90] w' _ from r01Cut0 w w' e v b 90 hb)
  have H4 := hid vAppend_none
  have H5 := hid vCompact_none
  have H6 := hid vRecords_none
  have H7 := hid vEra_none
  have H8 := hid vLeft_none
  have H9 := hid vLives
  have HB := hid Nobody.boxed
  have HC := hid NoVault.boxed
  obtain ⟨av, cv, rfl, _, _⟩ := hb.form
  clear hb
  go_enter Try.func19, Try.ntmps19
  go_wp2_with fail
  refine (H3.out _).mono ?_
  rintro en w2' ⟨v3, rfl, B3, rfl⟩
  obtain ⟨a3, c3, rfl, _, _⟩ := B3.form
  clear B3 H3
  go_wp2_with fail
  go_loopw [5] (fun i wr => ∃ k : Nat, k ≤ 2 ∧ i = .int .i64 k ∧ Same w wr) (fun i _ => 2 - (intOf i).toNat)
  case atStart => exact ⟨0, by omega, rfl, Same.refl w⟩
  case round =>
    obtain ⟨k, hk, rfl, S⟩ := hrel
    have S := hid S
    match k, hk with
    | 2, _ =>
      go_wp2_with fail
      refine (H9.out _).mono ?_
      rintro en w3 ⟨rfl, S3⟩
      go_wp2_with fail
      go_ret
      exact ⟨rfl, S.out.trans S3⟩
    | 0, _ =>
      have N0 : Hid (Nobody wr (.pointer none)) := .inl rfl
      have N1 : Hid (NoVault wr (.pointer none)) := .inl rfl
      go_wp2_with fail
      refine (H1.out _ _ (N1.out)).mono ?_
      rintro en w1 ⟨rfl, S1⟩
      have T1 := hid S1
      clear S1
      go_wp2_with fail
      refine (H2.out _ _ _ (N0.out.same T1.out)).mono ?_
      rintro en w2 ⟨rfl, S2⟩
      have T2 := hid (T1.out.trans S2)
      clear S2
      go_wp2_with fail
      refine (H4.out _ _ _ (N1.out.same T2.out)).mono ?_
      rintro en w3 ⟨rfl, S3⟩
      have T3 := hid (T2.out.trans S3)
      clear S3
      go_wp2_with fail
      refine (H5.out _ _ _ (N1.out.same T3.out)).mono ?_
      rintro en w4 ⟨rfl, S4⟩
      have T4 := hid (T3.out.trans S4)
      clear S4
      go_wp2_with fail
      refine (H6.out _ _ (N1.out.same T4.out)).mono ?_
      rintro en w5 ⟨rfl, S5⟩
      have T5 := hid (T4.out.trans S5)
      clear S5
      go_wp2_with fail
      refine (H7.out _ _ (N1.out.same T5.out)).mono ?_
      rintro en w6 ⟨rfl, S6⟩
      have T6 := hid (T5.out.trans S6)
      clear S6
      go_wp2_with fail
      refine (H8.out _ _ (N1.out.same T6.out)).mono ?_
      rintro en w7 ⟨rfl, S7⟩
      have T7 := hid (T6.out.trans S7)
      clear S7
      go_wp2_with fail
      go_roundw
      case rel => exact ⟨1, by omega, rfl, S.out.trans T7.out⟩
      case measure => simp [intOf]
    | 1, _ =>
      have N1 := hid ((HC.out wr).same ((Same.refl _).alloc (.cells #[.bool false, .bool false, .int .i64 0, .slice none 0 0, .slice none 0 0, .int .i64 0] 55)))
      have N0 := hid (HB.out (wr.alloc (.cells #[.pointer none, .pointer none, .int .i64 0, .int .i64 0, .int .i64 0, .slice none 0 0, .bool false] 122)))
      have Z0 := hid (((Same.refl wr).alloc (.cells #[.pointer none, .pointer none, .int .i64 0, .int .i64 0, .int .i64 0, .slice none 0 0, .bool false] 122)).alloc (.cells #[.bool false, .bool false, .int .i64 0, .slice none 0 0, .slice none 0 0, .int .i64 0] 55))
      simp only [World.size_alloc] at N0
      go_wp2_with fail
      refine (H1.out _ _ (N1.out)).mono ?_
      rintro en w1 ⟨rfl, S1⟩
      have T1 := hid S1
      clear S1
      go_wp2_with fail
      refine (H2.out _ _ _ (N0.out.same T1.out)).mono ?_
      rintro en w2 ⟨rfl, S2⟩
      have T2 := hid (T1.out.trans S2)
      clear S2
      go_wp2_with fail
      refine (H4.out _ _ _ (N1.out.same T2.out)).mono ?_
      rintro en w3 ⟨rfl, S3⟩
      have T3 := hid (T2.out.trans S3)
      clear S3
      go_wp2_with fail
      refine (H5.out _ _ _ (N1.out.same T3.out)).mono ?_
      rintro en w4 ⟨rfl, S4⟩
      have T4 := hid (T3.out.trans S4)
      clear S4
      go_wp2_with fail
      refine (H6.out _ _ (N1.out.same T4.out)).mono ?_
      rintro en w5 ⟨rfl, S5⟩
      have T5 := hid (T4.out.trans S5)
      clear S5
      go_wp2_with fail
      refine (H7.out _ _ (N1.out.same T5.out)).mono ?_
      rintro en w6 ⟨rfl, S6⟩
      have T6 := hid (T5.out.trans S6)
      clear S6
      go_wp2_with fail
      refine (H8.out _ _ (N1.out.same T6.out)).mono ?_
      rintro en w7 ⟨rfl, S7⟩
      have T7 := hid (T6.out.trans S7)
      clear S7
      go_wp2_with fail
      go_roundw
      case rel => exact ⟨2, by omega, rfl, (S.out.trans Z0.out).trans T7.out⟩
      case measure => simp [intOf]
end Go.Proofs.Ytlhnpicmjjddeaa
namespace Go.Proofs.Ytlhnpicmjjddeaa
open Go.RowKit

theorem save_cases (D : Dv) (at_ each life era : Int) (b : List UInt8) :
    (D.save at_ each life era b).2 = D ∧ (D.save at_ each life era b).1 ≠ 0 ∨ (D.loadE at_ each ≠ 2 ∧ 1 ≤ era ∧ cutE life era 1 b = 0 ∧ D.save at_ each life era b = D.write (at_ + era % 2 * each) (cutL life era 1 b)) := by
  unfold Dv.save
  split
  · exact .inl ⟨rfl, fun x => absurd x (by decide : ¬ (2 : Int) = 0)⟩
  split
  · exact .inl ⟨rfl, fun x => absurd x (by decide : ¬ (2 : Int) = 0)⟩
  split
  · rename_i h; exact .inl ⟨rfl, h⟩
  split
  · exact .inl ⟨rfl, fun x => absurd x (by decide : ¬ (10 : Int) = 0)⟩
  · rename_i h1 h2 h3 h4
    exact .inr ⟨h1, by omega, by simpa using h3, rfl⟩
/-- what stays so in VaultPlays -/
structure Pv (D : Dv) (V : Vt) (n : Nat) (each L : Int) : Prop where
  len : D.C.length = n
  ech : V.each = each
  fit : 1 ≤ each ∧ 2 * each < n
  low : Low D V.life
  slife : V.S.life ≤ V.life
  life : 1 ≤ V.life ∧ V.life ≤ L
theorem Low.mono {D : Dv} {L L' : Int} (h : Low D L) (hl : L ≤ L') : Low D L' := fun i hi => by have := h i hi; omega
theorem Pv.save {D : Dv} {V : Vt} {n : Nat} {each L : Int} (h : Pv D V n each L) (b : List UInt8) :
    Low (D.save 0 V.each V.life (V.era + 1) b).2 V.life ∧ (D.save 0 V.each V.life (V.era + 1) b).2.C.length = n ∧
    (V.life < 16777214 → (D.save 0 V.each V.life (V.era + 1) b).1 = 0 → V.era + 1 ≤ 16777215 ∧ (D.save 0 V.each V.life (V.era + 1) b).2.openE (2 * V.each) (D.save 0 V.each V.life (V.era + 1) b).2.C.length (V.life + 1) (V.era + 1) = 0) := by
  have hf := h.fit
  have he := h.ech
  rcases save_cases D 0 V.each V.life (V.era + 1) b with ⟨h1, h2⟩ | ⟨h0, h1, h2, h3⟩
  · rw [h1]
    exact ⟨h.low, h.len, fun _ hz => absurd hz h2⟩
  · have hm : 0 ≤ (0 : Int) + (V.era + 1) % 2 * V.each := by
      rcases Int.emod_two_eq (V.era + 1) with h | h <;> rw [h] <;> omega
    obtain ⟨a, ha⟩ := Int.eq_ofNat_of_zero_le hm
    rw [h3, ha]
    have hlw := h.low.write (Int.le_refl _) a h2
    have hln : (D.write (a : Int) (cutL V.life (V.era + 1) 1 b)).2.C.length = n := (write_len _ _ _).trans h.len
    have hst := stampOk_iff.1 (cutE_zero.1 h2).2
    refine ⟨hlw, hln, fun hlf _ => ⟨hst.2.2.2.1, ?_⟩⟩
    rw [hln]
    have hnw := hlw.newest (by have := h.life; omega) (2 * V.each) n
    have hl1 := h.life.1
    exact if_pos ⟨decide_eq_true ⟨by omega, by omega, by omega⟩, by omega, by omega, by omega, hst.2.2.2.1, by omega⟩
theorem Pv.append {D : Dv} {V : Vt} {n : Nat} {each L : Int} (h : Pv D V n each L) (h0 : 0 ≤ V.S.at_) (b : List UInt8) : Pv (V.append D b).2.2 (V.append D b).2.1 n each L := by
  unfold Vt.append
  split
  · exact h
  · have q := h.low.append (b := b) h.slife h0
    exact ⟨(append_len _ _ _).trans h.len, h.ech, h.fit, q.1, by show (V.S.append D b).2.1.life ≤ V.life; rw [q.2]; exact h.slife, h.life⟩
theorem Pv.compact {D : Dv} {V : Vt} {n : Nat} {each L : Int} (h : Pv D V n each L) (b : List UInt8) : Pv (V.compact D b).2.2 (V.compact D b).2.1 n each (L + 1) := by
  obtain ⟨h1, h2, h3⟩ := h.save b
  have hl := h.life
  unfold Vt.compact
  split
  · exact ⟨h.len, h.ech, h.fit, h.low, h.slife, by show 1 ≤ V.life ∧ V.life ≤ L + 1; omega⟩
  split
  · exact ⟨h.len, h.ech, h.fit, h.low, h.slife, by show 1 ≤ V.life ∧ V.life ≤ L + 1; omega⟩
  split
  · exact ⟨h2, h.ech, h.fit, h1, h.slife, by show 1 ≤ V.life ∧ V.life ≤ L + 1; omega⟩
  · exact ⟨h2, h.ech, h.fit, h1.mono (by show V.life ≤ V.life + 1; omega), Int.le_refl _, by show 1 ≤ V.life + 1 ∧ V.life + 1 ≤ L + 1; omega⟩
theorem Pv.fuse {D : Dv} {V : Vt} {n : Nat} {each L : Int} (h : Pv D V n each L) (m : Int) (ks : List Int) : Pv (D.fuse m ks).2 V n each L := by
  have q := h.low.fuse m ks
  exact ⟨q.2.trans h.len, h.ech, h.fit, q.1, h.slife, h.life⟩
theorem Pv.reopen {D : Dv} {V : Vt} {n : Nat} {each L : Int} (h : Pv D V n each L) (hL : L ≤ 1000) : D.start.vopenE each = 0 ∧ Pv D.start (D.start.vopened each) n each (L + 1) := by
  have hlow : Low D.start V.life := h.low
  have hlen : D.start.C.length = n := h.len
  have hf := h.fit
  have hl := h.life
  have hn := hlow.newest (by omega) 0 D.start.C.length
  have hn0 := (newest_bound D.start 0 D.start.C.length).1
  refine ⟨?_, hlen, rfl, hf, fun i hi => by have := newest_all (D := D.start) i hi; show _ ≤ D.start.newest 0 D.start.C.length + 1; omega, Int.le_refl _, by show 1 ≤ D.start.newest 0 D.start.C.length + 1 ∧ D.start.newest 0 D.start.C.length + 1 ≤ L + 1; omega⟩
  unfold Dv.vopenE
  rw [if_neg (by rw [hlen]; omega), if_neg (by omega)]
theorem Pv.new {n : Nat} {each : Int} (hE : (Dv.new n).vopenE each = 0) : Pv (Dv.new n) ((Dv.new n).vopened each) n each 1 := by
  have hlen : (Dv.new n).C.length = n := by simp [Dv.new]
  have hlow : Low (Dv.new n) 0 := fun i hi => by have := new_low n 1 i hi; omega
  have hn := hlow.newest (Int.le_refl _) 0 (Dv.new n).C.length
  have hn0 := (newest_bound (Dv.new n) 0 (Dv.new n).C.length).1
  unfold Dv.vopenE at hE
  split at hE
  · cases hE
  rename_i hg
  rw [hlen] at hg
  exact ⟨hlen, rfl, by omega, hlow.mono (by show 0 ≤ (Dv.new n).newest 0 (Dv.new n).C.length + 1; omega), Int.le_refl _, by show 1 ≤ (Dv.new n).newest 0 (Dv.new n).C.length + 1 ∧ (Dv.new n).newest 0 (Dv.new n).C.length + 1 ≤ 1; omega⟩
set_option maxHeartbeats 25600000 in
set_option maxRecDepth 100000 in
theorem vaultPlaysWalk (w : World) (sz each : Int) (v : Value) (n : Nat) (he : -9223372036854775808 ≤ each ∧ each ≤ 9223372036854775807) (hv : KDos w v n) : Calls Try.prog 21 #[.int .i64 sz, .int .i64 each, v] w (RetSame (.bool true) w) := by
  have H9 := hid vLives
  have HCt := hid r01Cut0
  have HFe := hid lFew0
  have HIn := hid r01In
  have He := hid he
  obtain ⟨ao, cap, rfl, hn1, hn2, hrows⟩ := hv
  unfold maxLen at hn2
  have HRows := hid hrows
  clear hrows he
  go_enter Try.func21, Try.ntmps21
  go_wp2_with fail
  refine (HIn.out _ _ _ _).mono ?_
  rintro en w1 ⟨rfl, rfl⟩
  obtain ⟨z, hz, eZ⟩ : ∃ z : Nat, (1 ≤ z ∧ z ≤ 40) ∧ (if sz < 1 then (1 : Int) else if 40 < sz then 40 else sz) = z := by
    by_cases h1 : sz < 1
    · exact ⟨1, by omega, by rw [if_pos h1]; rfl⟩
    by_cases h2 : 40 < sz
    · exact ⟨40, by omega, by rw [if_neg h1, if_pos h2]; rfl⟩
    · exact ⟨sz.toNat, by omega, by rw [if_neg h1, if_neg h2]; omega⟩
  rw [eZ]
  clear eZ
  go_wp2_with fail
  refine (dNewD w z (by omega) (by omega)).mono ?_
  rintro en w1 ⟨p, FD, rfl, S1, D1, B1⟩
  obtain ⟨pb, rfl⟩ := D1.ptr
  have X1 := hid (And.intro D1 (And.intro S1 B1))
  clear D1 S1 B1
  go_wp2_with fail
  refine (rNewD w1 z (by omega) (by omega)).mono ?_
  rintro en w2 ⟨px, FX, rfl, S2, D2, B2⟩
  obtain ⟨xb, rfl⟩ := D2.ptr
  have M2 := hid (mid_first X1.out.1 X1.out.2.1 X1.out.2.2 D2 S2 B2)
  clear X1 D2 S2 B2
  by_cases hE : (Dv.new z).vopenE each = 0
  case neg =>
    have HNo1 := hid (fun (wz : World) (Z : Same w2 wz) => (M2.out.same Z).vopenNo each He.out hE)
    have HNo2 := hid (fun (wz : World) (Z : Same w2 wz) => (M2.out.same Z).rvopenNo each He.out hE)
    clear hE
    generalize (Dv.new z).vopenE each = r at *
    go_wp2_with fail
    refine (HNo1.out _ (Same.refl _)).mono ?_
    rintro en w3 ⟨rfl, S3⟩
    have S3 := hid S3
    go_wp2_with fail
    refine (HNo2.out _ S3.out).mono ?_
    rintro en w4 ⟨rfl, S4⟩
    have S4 := hid (S3.out.trans S4)
    go_wp2_with fail
    go_loop [10, 12, 14] (fun v y i => v = .pointer none ∧ y = .pointer none ∧ i = .int .i64 0) (fun _ _ _ => 0)
    case atStart => exact ⟨rfl, rfl, rfl⟩
    case round =>
      obtain ⟨rfl, rfl, rfl⟩ := hrel
      by_cases hlt : 0 < n
      case neg =>
        go_wp2_with fail
        refine (H9.out _).mono ?_
        rintro en w5 ⟨rfl, S5⟩
        go_wp2_with fail
        go_ret
        exact ⟨rfl, M2.out.old.trans (S4.out.trans S5)⟩
      case pos =>
        go_wp2_with fail
        refine (H9.out _).mono ?_
        rintro en w5 ⟨rfl, S5⟩
        go_wp2_with fail
        go_ret
        exact ⟨rfl, M2.out.old.trans (S4.out.trans S5)⟩
  have HPv := hid (Pv.new hE)
  have HE := hid hE
  clear hE
  go_wp2_with fail
  refine (M2.out.vopen each He.out HE.out).mono ?_
  rintro en w3 ⟨v0, rfl, M3⟩
  obtain ⟨vb, rfl⟩ := M3.vptr
  have M3 := hid M3
  clear M2
  go_wp2_with fail
  refine (M3.out.rvopen each He.out HE.out).mono ?_
  rintro en w4 ⟨y, rfl, M4⟩
  obtain ⟨yb, rfl⟩ := M4.ptrs.2.2.2
  have M4 := hid M4
  clear M3 HE
  go_wp2_with fail
  go_loopw [10, 12, 14] (fun v y i wr => ∃ (k vb yb : Nat) (L : Int) (D : Dv) (V : Vt), k ≤ 30 ∧ 1 ≤ L ∧ L ≤ k + 1 ∧ v = .pointer (some ⟨vb, 0, none⟩) ∧ y = .pointer (some ⟨yb, 0, none⟩) ∧ i = .int .i64 k ∧
    MidW NoA w wr (.pointer (some ⟨pb, 0, none⟩)) v (.pointer (some ⟨xb, 0, none⟩)) y D V D V ∧ Pv D V z each L) (fun _ _ i _ => 30 - (intOf i).toNat)
  case atStart => exact ⟨0, vb, yb, 1, _, _, by omega, by omega, by omega, rfl, rfl, rfl, M4.out, HPv.out⟩
  case round =>
    clear M4 HPv
    obtain ⟨k, vb, yb, L, D, V, hk, hL1, hL2, rfl, rfl, rfl, M, P⟩ := hrel
    have M := hid M
    have P := hid P
    by_cases hlt : k < n
    case neg =>
      go_wp2_with fail
      refine (H9.out _).mono ?_
      rintro en w5 ⟨rfl, S5⟩
      go_wp2_with fail
      go_ret
      exact ⟨rfl, M.out.old.trans S5⟩
    by_cases hlt2 : k < 30
    case neg =>
      go_wp2_with fail
      refine (H9.out _).mono ?_
      rintro en w5 ⟨rfl, S5⟩
      go_wp2_with fail
      go_ret
      exact ⟨rfl, M.out.old.trans S5⟩
    obtain ⟨g, o, hao, hall⟩ : ∃ g o, ao = some ⟨g, o, none⟩ ∧ ∀ i, i < n → ∃ d, KDoAt w g (o + i * 4) d := by
      rcases HRows.out with h0 | h0
      · omega
      · exact h0
    subst hao
    obtain ⟨d, ab, cb, eb, ak, ck, ek, c0, c1, c2, hb, c3, hks, hdn⟩ := hall k hlt
    have hg0 := World.block_lt_of_cell? w _ c0
    have r0 : wr.cell? ⟨g, o + k * 4, none⟩ = _ := (M.out.old.cell (p := ⟨g, o + k * 4, none⟩) hg0).trans c0
    have r1 : wr.cell? ⟨g, o + k * 4 + 1, none⟩ = _ := (M.out.old.cell (p := ⟨g, o + k * 4 + 1, none⟩) hg0).trans c1
    have r2 : wr.cell? ⟨g, o + k * 4 + 2, none⟩ = _ := (M.out.old.cell (p := ⟨g, o + k * 4 + 2, none⟩) hg0).trans c2
    have r3 : wr.cell? ⟨g, o + k * 4 + 3, none⟩ = _ := (M.out.old.cell (p := ⟨g, o + k * 4 + 3, none⟩) hg0).trans c3
    have HB := hid hb
    have HK := hid hks
    have Hdn := hid hdn
    have M1 := hid (M.out.put (.cells #[.int .i64 d.kind, .int .i64 d.n, .slice ab d.b.length cb, .slice ak d.keep.length ck] 128))
    have hki : (0 : Int) ≤ (k : Int) := by omega
    have hkn : (k : Int) < (n : Int) := by omega
    clear hall c0 c1 c2 c3 hb hks hg0 hdn M
    go_wp2_with fail
    generalize hw1 : wr.alloc (.cells #[.int .i64 d.kind, .int .i64 d.n, .slice ab d.b.length cb, .slice ak d.keep.length ck] 128) = w1 at *
    have hBx := M1.out.aside (g := wr.heap.size) (o := .cells #[.int .i64 d.kind, .int .i64 d.n, .slice ab d.b.length cb, .slice ak d.keep.length ck] 128) (.inr ⟨rfl, rfl⟩)
    have HBox : Hid (∀ wz : World, wz.heap[wr.heap.size]? = some (.cells #[.int .i64 d.kind, .int .i64 d.n, .slice ab d.b.length cb, .slice ak d.keep.length ck] 128 (0, 0)) →
        wz.cell? ⟨wr.heap.size, 0, none⟩ = some (.int .i64 d.kind) ∧ wz.cell? ⟨wr.heap.size, 1, none⟩ = some (.int .i64 d.n) ∧ wz.cell? ⟨wr.heap.size, 3, none⟩ = some (.slice ak d.keep.length ck)) := fun wz hz => ⟨by rw [cell_of_row wz _ _ _ 128 _ hz]; rfl, by rw [cell_of_row wz _ _ _ 128 _ hz]; rfl, by rw [cell_of_row wz _ _ _ 128 _ hz]; rfl⟩
    have HAs : Hid (∀ (wz : World) (D : Dv) (S : Vt) (D2 : Dv) (S2 : Vt) (s y : Value), MidW (fun g x => NoA g x ∨ (g = wr.heap.size ∧ x = .cells #[.int .i64 d.kind, .int .i64 d.n, .slice ab d.b.length cb, .slice ak d.keep.length ck] 128)) w wz (.pointer (some ⟨pb, 0, none⟩)) s (.pointer (some ⟨xb, 0, none⟩)) y D S D2 S2 →
        wz.cell? ⟨wr.heap.size, 0, none⟩ = some (.int .i64 d.kind) ∧ wz.cell? ⟨wr.heap.size, 1, none⟩ = some (.int .i64 d.n) ∧ wz.cell? ⟨wr.heap.size, 3, none⟩ = some (.slice ak d.keep.length ck)) := fun _ _ _ _ _ _ _ h => HBox.out _ (h.aside (.inr ⟨rfl, rfl⟩))
    clear hw1 hBx r0 r1 r2 r3 HBox
    generalize wr.heap.size = fb at *
    obtain ⟨b0, b1, b3⟩ := HAs.out _ _ _ _ _ _ _ M1.out
    refine (show Calls Try.prog 22 #[_, .int .i64 250] w1 _ from HCt.out w w1 eb _ d.b 250 HB.out).mono ?_
    rintro en w1' ⟨v1, rfl, Y1, rfl⟩
    have hle : (d.b.take 250).length ≤ 250 := by rw [List.length_take]; omega
    have Y1 := hid Y1
    clear HB
    generalize d.b.take 250 = x at *
    obtain ⟨a1, q1, rfl, _, _⟩ := Y1.out.form
    by_cases k0 : d.kind = 0
    case pos =>
      rw [k0] at b0
      have hoks := hid M1.out.vok
      have P4 := hid (P.out.append (by have := hoks.out.2.fit; omega) x)
      clear k0
      go_wp2_with fail
      refine (M1.out.append _ eb x Y1.out (by omega)).mono ?_
      rintro en w4 ⟨rfl, M4⟩
      have M4 := hid M4
      clear M1 b0 b1 b3
      go_wp2_with fail
      refine (M4.out.rappend hoks.out.2 _ eb x Y1.out (by omega)).mono ?_
      rintro en w5 ⟨rfl, M5⟩
      have M5 := hid M5
      clear M4
      generalize (V.append D x).2.2 = D5 at *
      generalize (V.append D x).2.1 = V5 at *
      generalize (V.append D x).1 = r5 at *
      go_wp2_with fail
      refine (vSame83 M5.out).mono ?_
      rintro en wt ⟨rfl, Zt⟩
      have MF := hid (M5.out.same Zt).bare
      clear Zt
      go_wp2_with fail
      go_roundw
      case rel => exact ⟨k + 1, vb, yb, L, D5, V5, by omega, by omega, by omega, rfl, rfl, by go_num, MF.out, P4.out⟩
      case measure => simp [intOf]; omega
    have k0b : (d.kind == 0) = false := by rw [beq_eq_false_iff_ne]; exact k0
    by_cases k1 : d.kind = 1
    case pos =>
      rw [k1] at b0
      have hoks := hid M1.out.vok
      have P4 := hid (P.out.compact x)
      have hsv := hid (P.out.save x).2.2
      clear k0 k1
      go_wp2_with fail
      refine (M1.out.compact _ eb x Y1.out (by omega) (fun _ h1 h2 => hsv.out h1 h2)).mono ?_
      rintro en w4 ⟨rfl, M4⟩
      have M4 := hid M4
      clear M1 b0 b1 b3
      go_wp2_with fail
      refine (M4.out.rcompact hoks.out.1 _ eb x Y1.out (by omega) (fun _ h1 h2 => (hsv.out h1 h2).2)).mono ?_
      rintro en w5 ⟨rfl, M5⟩
      have M5 := hid M5
      clear M4
      generalize (V.compact D x).2.2 = D5 at *
      generalize (V.compact D x).2.1 = V5 at *
      generalize (V.compact D x).1 = r5 at *
      go_wp2_with fail
      refine (vSame83 M5.out).mono ?_
      rintro en wt ⟨rfl, Zt⟩
      have MF := hid (M5.out.same Zt).bare
      clear Zt
      go_wp2_with fail
      go_roundw
      case rel => exact ⟨k + 1, vb, yb, (L + 1), D5, V5, by omega, by omega, by omega, rfl, rfl, by go_num, MF.out, P4.out⟩
      case measure => simp [intOf]; omega
    have k1b : (d.kind == 1) = false := by rw [beq_eq_false_iff_ne]; exact k1
    by_cases k2 : d.kind = 2
    case pos =>
      rw [k2] at b0
      obtain ⟨ks, hks⟩ : ∃ ks, d.keep.take 20 = ks := ⟨_, rfl⟩
      have hlk : ks.length ≤ 1000 := by rw [← hks, List.length_take]; omega
      have HFk := hid (fun wz => HFe.out w wz ek _ d.keep HK.out)
      rw [hks] at HFk
      clear hks k0 k1 k2 k0b k1b
      have MD := hid (M1.out.same (Same.refl w1).drew)
      have hdn := Hdn.out
      go_wp2_with fail
      clear b0
      go_region_held3 (fun w' => w'.cell? ⟨fb, 1, none⟩ = some (.int .i64 d.n) ∧ w'.cell? ⟨fb, 3, none⟩ = some (.slice ak d.keep.length ck))
        (first | with_reducible exact ⟨by assumption, by assumption⟩ | go_keep)
        (first
          | (go_at_call 58; (with_reducible refine (HFk.out _).mono ?_); rintro en wk ⟨kv, rfl, HKI, rfl⟩; obtain ⟨ka, kc, rfl, _, _⟩ := HKI.form; have HKI := hid HKI)
          | (go_at_call 35; (with_reducible refine (MD.out.fuse _ ek d.n ks HKI.out hlk hdn).mono ?_); rintro en w3 ⟨rfl, M3⟩; have M3 := hid M3; obtain ⟨g0', g1', g3'⟩ := HAs.out _ _ _ _ _ _ _ M3.out)
          | (go_at_call 71; (with_reducible refine (M3.out.rfuse _ ek d.n ks HKI.out hlk hdn).mono ?_); rintro en w4 ⟨rfl, M4⟩; have M4 := hid M4; obtain ⟨h0', h1', h3'⟩ := HAs.out _ _ _ _ _ _ _ M4.out))
      have P4 := hid (P.out.fuse d.n ks)
      clear b1 b3 g0' g1' g3' h1' h3' MD M3 HKI HFk
      generalize (D.fuse d.n ks).2 = D5 at *
      generalize (D.fuse d.n ks).1 = r5 at *
      go_wp2_with fail
      refine (vSame83 M4.out).mono ?_
      rintro en wt ⟨rfl, Zt⟩
      have MF := hid (M4.out.same Zt).bare
      clear Zt
      go_wp2_with fail
      go_roundw
      case rel => exact ⟨k + 1, vb, yb, L, D5, V, by omega, by omega, by omega, rfl, rfl, by go_num, MF.out, P4.out⟩
      case measure => simp [intOf]; omega
    have k2b : (d.kind == 2) = false := by rw [beq_eq_false_iff_ne]; exact k2
    by_cases k3 : d.kind = 3
    case neg =>
      have k3b : (d.kind == 3) = false := by rw [beq_eq_false_iff_ne]; exact k3
      clear k0 k1 k2 k3
      obtain ⟨yb', xb', sb', sv', e', a', c', l', cl', hy1, hx1, y0, y1, y3, _⟩ := M1.out.seen
      obtain rfl : yb = yb' := by simpa using hy1
      have HC3 := hid (fun (wz : World) (Z : Same w1 wz) => (Z.cell (p := ⟨yb, 3, none⟩) (World.block_lt_of_cell? w1 ⟨yb, 3, none⟩ y3)).trans y3)
      have HEr := hid (M1.out.same (Same.refl w1).drew).era
      clear hy1 hx1 y0 y1
      go_wp2_with fail
      go_region_held3 (fun w' => w'.cell? ⟨yb, 3, none⟩ = some (.int .i64 V.era))
        (first | with_reducible exact (by assumption) | go_keep)
        (first | (go_at_call 77; (with_reducible refine HEr.out.mono ?_); rintro en w3 ⟨rfl, Z3⟩; have Z3 := hid ((Same.refl w1).drew.trans Z3); have t3 := HC3.out _ Z3.out))
      have M4 := hid (M1.out.same Z3.out)
      clear y3 t3 HEr HC3 b0 b1 b3
      go_wp2_with fail
      refine (vSame83 M4.out).mono ?_
      rintro en wt ⟨rfl, Zt⟩
      have MF := hid (M4.out.same Zt).bare
      clear Zt
      go_wp2_with fail
      go_roundw
      case rel => exact ⟨k + 1, vb, yb, L, D, V, by omega, by omega, by omega, rfl, rfl, by go_num, MF.out, P.out⟩
      case measure => simp [intOf]; omega
    rw [k3] at b0
    have HRe := hid (P.out.reopen (by omega))
    clear k0 k1 k2 k3
    go_wp2_with fail
    refine M1.out.start.mono ?_
    rintro en w3 ⟨rfl, M3⟩
    obtain ⟨⟨v1, v2, x1, x2, z1, z2⟩, M4⟩ := M3.rstart
    have M4 := hid M4.forget
    clear M1 b0 b1 b3 M3
    go_wp2_with fail
    generalize hw5 : (w3.setCell ⟨xb, 1, none⟩ (.bool false)).setCell ⟨xb, 2, none⟩ (.int .i64 (-1)) = w5 at *
    clear hw5 x1 x2 z1 z2
    refine (M4.out.vopen each He.out HRe.out.1).mono ?_
    rintro en w8 ⟨v', rfl, M8⟩
    obtain ⟨vb', rfl⟩ := M8.vptr
    have M8 := hid M8
    clear M4
    go_wp2_with fail
    refine (M8.out.rvopen each He.out HRe.out.1).mono ?_
    rintro en w9' ⟨y', rfl, M9⟩
    obtain ⟨yb2, rfl⟩ := M9.ptrs.2.2.2
    have M9 := hid M9
    have P4 := hid HRe.out.2
    clear M8 HRe
    generalize D.start.vopened each = V5 at *
    generalize D.start = D5 at *
    go_wp2_with fail
    refine (vSame83 M9.out).mono ?_
    rintro en wt ⟨rfl, Zt⟩
    have MF := hid (M9.out.same Zt).bare
    clear Zt
    go_wp2_with fail
    go_roundw
    case rel => exact ⟨k + 1, vb', yb2, (L + 1), D5, V5, by omega, by omega, by omega, rfl, rfl, by go_num, MF.out, P4.out⟩
    case measure => simp [intOf]; omega
end Go.Proofs.Ytlhnpicmjjddeaa
