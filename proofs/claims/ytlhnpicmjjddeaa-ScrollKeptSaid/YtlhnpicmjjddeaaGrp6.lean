/- SCROLL: the walk of ScrollKept. -/
import Derived.Test.YtlhnpicmjjddeaaGrp5
namespace Go.Proofs.Ytlhnpicmjjddeaa
open Go.RowKit

theorem rows_one {w : World} {M : Nat → Prop} {base : Nat} {e : TypeId} {u : Value} {l : List UInt8} (h : Bytes w e u l) (hf : ∀ g, homeOf u = some g → ¬ M g ∧ g < base) :
    Sl (w.alloc (.cells #[u] 23)) 23 1 (.slice (some ⟨w.heap.size, 0, none⟩) 1 1) [l].length [u] ∧
    ∀ i (hi : i < [l].length) x, [u][i]? = some x → (∃ e2, Bytes (w.alloc (.cells #[u] 23)) e2 x [l][i]) ∧ ∀ g, homeOf x = some g → ¬ M g ∧ g < base := by
  refine ⟨Sl.made 23 1 w.heap.size 1 1 _ _ (heap_alloc_new w _) (Nat.le_refl _) (by decide) rfl ⟨[], rfl⟩, ?_⟩
  intro i hi x hx
  match i, hi with
  | 0, _ =>
    simp at hx
    subst hx
    exact ⟨⟨e, h.same ((Same.refl w).alloc _)⟩, hf⟩
set_option maxHeartbeats 12800000 in
set_option maxRecDepth 100000 in
theorem scrollKeptWalk (w : World) (v : Value) (n : Nat) (hv : KDos w v n) : Calls Try.prog 18 #[v] w (RetSame (.bool true) w) := by
  have H9 := hid cLives
  have HCt := hid r01Cut0
  have HFe := hid lFew
  obtain ⟨ao, cap, rfl, hn1, hn2, hrows⟩ := hv
  unfold maxLen at hn2
  have HRows := hid hrows
  clear hrows
  go_enter Try.func18, Try.ntmps18
  go_wp2_with fail
  refine (dNewD w 30 (by omega) (by omega)).mono ?_
  rintro en w1 ⟨p, F, rfl, S1, D1, B1⟩
  have M1 : Hid (Mid w w1 p F (Dv.new 30)) := ⟨D1, B1, S1⟩
  obtain ⟨pb, rfl⟩ := D1.ptr
  clear D1 B1 S1
  go_wp2_with fail
  refine (MidS.first M1.out 2 30 1 7 Kt.new.1).mono ?_
  rintro en w2 ⟨s, F2, rfl, _, M2⟩
  obtain ⟨sb, rfl⟩ := M2.sptr
  have M2 := hid M2
  clear M1
  go_wp2_with fail
  go_loopw [5, 7, 8, 9, 10] (fun s wv mv life i wr => ∃ (k L sb : Nat) (F : Nat → Prop) (D : Dv) (S : Sc) (was mb : List (List UInt8)), k ≤ 40 ∧ 1 ≤ L ∧ L ≤ k + 1 ∧ was.length ≤ 2048 + k ∧ i = .int .i64 k ∧ life = .int .i64 L ∧ s = .pointer (some ⟨sb, 0, none⟩) ∧
    MidS w wr (.pointer (some ⟨pb, 0, none⟩)) s F D S ∧ Kt D S L was mb ∧ Rows2N F wr 23 wv was ∧ Rows2N F wr 23 mv mb) (fun _ _ _ _ i _ => 40 - (intOf i).toNat)
  case atStart => exact ⟨0, 1, sb, F2, _, _, [], [], by omega, by omega, by omega, by simp, rfl, rfl, rfl, M2.out, Kt.new.2, Rows2N.nil _ _ _, Rows2N.nil _ _ _⟩
  case round =>
    clear M2
    obtain ⟨k, L, sb, F, D, S, was, mb, hk, hL1, hL2, hwl, rfl, rfl, rfl, M, KT, AW, AM⟩ := hrel
    have M := hid M
    have KT := hid KT
    obtain ⟨wa, wc, rfl⟩ := AW.form
    obtain ⟨ma, mc, rfl⟩ := AM.form
    have AW := hid AW
    have AM := hid AM
    by_cases hlt : k < n
    case neg =>
      go_wp2_with fail
      refine (H9.out _).mono ?_
      rintro en w3 ⟨rfl, S3⟩
      go_wp2_with fail
      go_ret
      exact ⟨rfl, M.out.old.trans S3⟩
    by_cases hlt2 : k < 40
    case neg =>
      go_wp2_with fail
      refine (H9.out _).mono ?_
      rintro en w3 ⟨rfl, S3⟩
      go_wp2_with fail
      go_ret
      exact ⟨rfl, M.out.old.trans S3⟩
    obtain ⟨g, o, hao, hall⟩ : ∃ g o, ao = some ⟨g, o, none⟩ ∧ ∀ i, i < n → ∃ d, KDoAt w g (o + i * 4) d := by
      rcases HRows.out with h0 | h0
      · omega
      · exact h0
    subst hao
    obtain ⟨d, ab, cb, eb, ak, ck, ek, c0, c1, c2, hb, c3, hks, hdn⟩ := hall k hlt
    have hg0 := World.block_lt_of_cell? w _ c0
    have C1 := hid (fun (wz : World) (S : Same w wz) => (S.cell (p := ⟨g, o + k * 4 + 1, none⟩) hg0).trans c1)
    have C3 := hid (fun (wz : World) (S : Same w wz) => (S.cell (p := ⟨g, o + k * 4 + 3, none⟩) hg0).trans c3)
    have c2' : wr.cell? ⟨g, o + k * 4 + 2, none⟩ = _ := (M.out.old.cell (p := ⟨g, o + k * 4 + 2, none⟩) hg0).trans c2
    have c0' : wr.cell? ⟨g, o + k * 4, none⟩ = _ := (M.out.old.cell (p := ⟨g, o + k * 4, none⟩) hg0).trans c0
    have HB := hid hb
    have HK := hid hks
    have hki : (0 : Int) ≤ (k : Int) := by omega
    have hkn : (k : Int) < (n : Int) := by omega
    clear hall c0 c1 c2 c3 hb hks hg0
    by_cases k0 : d.kind = 0
    case pos =>
      rw [k0] at c0'
      clear k0 C1 C3 HK
      go_wp2_with fail
      refine (show Calls Try.prog 22 #[_, .int .i64 250] wr _ from HCt.out w wr eb _ d.b 250 HB.out).mono ?_
      rintro en w1' ⟨v1, rfl, B1, rfl⟩
      have hle : (d.b.take 250).length ≤ 250 := by rw [List.length_take]; omega
      have B1 := hid B1
      clear c2' HB
      generalize d.b.take 250 = x at *
      obtain ⟨a1, c1, rfl, _, _⟩ := B1.out.form
      have hnx : Hid (∀ F' : Nat → Prop, ∀ c, Bnd F' w.heap.size c → ∀ g, homeOf (.slice a1 x.length c1) = some g → ¬ F' g) := fun F' c B g hg hn => by
        have h1 := Sl.home_lt B1.out hg
        have h2 := (B g hn).1
        omega
      go_wp2_with fail
      refine M.out.live.mono ?_
      rintro en w3 ⟨rfl, S3⟩
      have M3 := hid (M.out.same S3)
      have AW3 := hid (AW.out.same S3)
      have AM3 := hid (AM.out.same S3)
      clear M AW AM S3
      go_wp2_with fail
      refine (M3.out.append _ eb x (B1.out.same M3.out.old) (by omega) (hnx.out F _ M3.out.bnd)).mono ?_
      rintro en w4 ⟨F4, rfl, K4, G4, M4⟩
      have AW4 := hid (AW3.out.grow K4 G4)
      have AM4 := hid (AM3.out.grow K4 G4)
      have hSn : S.all.length ≤ 2048 := by have h1 := M3.out.ok.few; have h2 := M3.out.ok.fit; omega
      have hA := KT.out.append (b := []) hle (by omega) hSn
      clear M3 AW3 AM3 K4 G4 hSn
      rcases hA with ⟨ho, hr⟩ | ⟨ho, hr⟩ | ⟨ho, hr, KT4⟩ | ⟨ho, hr, KT4⟩
      · rw [hr] at M4 ⊢
        rw [ho]
        have M4 := hid M4
        clear ho hr
        go_wp2_with fail
        go_roundw
        case rel => exact ⟨k + 1, L, sb, F4, D, S, was, mb, by omega, by omega, by omega, by omega, by go_num, rfl, rfl, M4.out, KT.out, AW4.out, AM4.out⟩
        case measure => simp [intOf]; omega
      · rw [hr] at M4 ⊢
        rw [ho]
        have M4 := hid M4
        clear ho hr
        go_wp2_with fail
        go_roundw
        case rel => exact ⟨k + 1, L, sb, F4, D, S, was, mb, by omega, by omega, by omega, by omega, by go_num, rfl, rfl, M4.out, KT.out, AW4.out, AM4.out⟩
        case measure => simp [intOf]; omega
      · rw [hr, ho]
        have M4 := hid M4
        have KT4 := hid KT4
        have hx : Hid (∀ g, homeOf (.slice a1 x.length c1) = some g → ¬ F4 g ∧ g < w4.heap.size) := fun g hg => ⟨hnx.out F4 _ M4.out.bnd g hg, Sl.home_lt (B1.out.same M4.out.old) hg⟩
        obtain ⟨us, hu1, hu2⟩ := AW4.out.src (Nat.le_refl _)
        have HU1 := hid hu1
        have HU2 := hid hu2
        have hlw : Hid (was.length ≤ 3000) := show _ ≤ _ by omega
        generalize (S.append D x).2.2 = D4 at *
        generalize (S.append D x).2.1 = S4 at *
        clear ho hr hu1 hu2 KT
        go_wp2_with (first
          | (at_builtin; refine wpList_append_n rfl (.tmp 59) (.tmp 60) 36 tyRows rfl (OwnN.nil w4 F4 w4.heap.size) HU1.out HU2.out rfl rfl (by have := hlw.out; simp; omega) (Nat.le_refl _) ?_; intro x5 w5 ho5 K5
             have Z5 := hid (K5.fresh (fun j hj => by simp [Value.ownBlock] at hj))
             have ho5 := hid ho5
             obtain ⟨a5, c5, rfl⟩ := (ho5.out.rows2N (fun j hj => (M4.out.bnd j hj).2)).form
             have X5 := hid (rows_one (M := F4) (base := w4.heap.size) (B1.out.same (M4.out.old.trans Z5.out)) hx.out)
             clear K5)
          | (at_builtin; refine wpList_append_n rfl (.tmp 62) (.tmp 64) 36 tyRows rfl (ho5.out.same ((Same.refl w5).alloc _)) X5.out.1 X5.out.2 rfl rfl (by have := hlw.out; simp; omega) (by have := Z5.out.size; simp; omega) ?_; intro x6 w6 ho6 K6))
        have Z6 := hid ((Z5.out.alloc (.cells #[.slice a1 x.length c1] 23)).keepOwn K6 (fun j hj => (ho5.out.lt j hj).1))
        have A6 := hid (ho6.rows2N (fun j hj => (M4.out.bnd j hj).2))
        simp only [List.nil_append] at A6
        go_roundw
        case rel => exact ⟨k + 1, L, sb, F4, D4, S4, was ++ [x], was ++ [x], by omega, by omega, by omega, by simp; omega, by go_num, rfl, rfl, M4.out.same Z6.out, KT4.out, A6.out, A6.out⟩
        case measure => simp [intOf]; omega
      · rw [hr, ho]
        have M4 := hid M4
        have KT4 := hid KT4
        have hx : Hid (∀ g, homeOf (.slice a1 x.length c1) = some g → ¬ F4 g ∧ g < w4.heap.size) := fun g hg => ⟨hnx.out F4 _ M4.out.bnd g hg, Sl.home_lt (B1.out.same M4.out.old) hg⟩
        obtain ⟨us, hu1, hu2⟩ := AW4.out.src (Nat.le_refl _)
        have HU1 := hid hu1
        have HU2 := hid hu2
        have hlw : Hid (was.length ≤ 3000) := show _ ≤ _ by omega
        generalize (S.append D x).2.2 = D4 at *
        generalize (S.append D x).2.1 = S4 at *
        clear ho hr hu1 hu2 KT
        go_wp2_with (first
          | (at_builtin; refine wpList_append_n rfl (.tmp 59) (.tmp 60) 36 tyRows rfl (OwnN.nil w4 F4 w4.heap.size) HU1.out HU2.out rfl rfl (by have := hlw.out; simp; omega) (Nat.le_refl _) ?_; intro x5 w5 ho5 K5
             have Z5 := hid (K5.fresh (fun j hj => by simp [Value.ownBlock] at hj))
             have ho5 := hid ho5
             obtain ⟨a5, c5, rfl⟩ := (ho5.out.rows2N (fun j hj => (M4.out.bnd j hj).2)).form
             have X5 := hid (rows_one (M := F4) (base := w4.heap.size) (B1.out.same (M4.out.old.trans Z5.out)) hx.out)
             clear K5)
          | (at_builtin; refine wpList_append_n rfl (.tmp 62) (.tmp 64) 36 tyRows rfl (ho5.out.same ((Same.refl w5).alloc _)) X5.out.1 X5.out.2 rfl rfl (by have := hlw.out; simp; omega) (by have := Z5.out.size; simp; omega) ?_; intro x6 w6 ho6 K6))
        have Z6 := hid ((Z5.out.alloc (.cells #[.slice a1 x.length c1] 23)).keepOwn K6 (fun j hj => (ho5.out.lt j hj).1))
        have A6 := hid (ho6.rows2N (fun j hj => (M4.out.bnd j hj).2))
        simp only [List.nil_append] at A6
        go_roundw
        case rel => exact ⟨k + 1, L, sb, F4, D4, S4, was, was ++ [x], by omega, by omega, by omega, by omega, by go_num, rfl, rfl, M4.out.same Z6.out, KT4.out, AW4.out.same Z6.out, A6.out⟩
        case measure => simp [intOf]; omega
    have k0b : (d.kind == 0) = false := by rw [beq_eq_false_iff_ne]; exact k0
    by_cases k1 : d.kind = 1
    case pos =>
      rw [k1] at c0'
      clear k0 k1 k0b
      go_wp2_with fail
      refine (show Calls Try.prog 22 #[_, .int .i64 250] wr _ from HCt.out w wr eb _ d.b 250 HB.out).mono ?_
      rintro en w1' ⟨v1, rfl, B1, rfl⟩
      clear c2' HB B1
      have c1' := C1.out wr M.out.old
      have c3' := C3.out wr M.out.old
      have hlk : (d.keep.take 20).length ≤ 1000 := by rw [List.length_take]; omega
      have HFk := hid (HFe.out wr.drew ek _ d.keep (HK.out.same M.out.old.drew))
      obtain ⟨ks, hks⟩ : ∃ ks, d.keep.take 20 = ks := ⟨_, rfl⟩
      rw [hks] at HFk hlk
      clear hks
      have MD := hid (M.out.same (Same.refl wr).drew)
      go_wp2_with fail
      go_region_held3 (fun w' => w'.cell? ⟨g, o + k * 4 + 1, none⟩ = some (.int .i64 d.n) ∧ w'.cell? ⟨g, o + k * 4 + 3, none⟩ = some (.slice ak d.keep.length ck))
        (first | with_reducible exact ⟨by assumption, by assumption⟩ | go_keep)
        (first
          | (go_at_call 58; (with_reducible refine HFk.out.mono ?_); rintro en w2' ⟨kv, rfl, HKI, rfl⟩; obtain ⟨ka, kc, rfl, _, _⟩ := HKI.form; have HKI := hid HKI)
          | (go_at_call 35; (with_reducible refine (MD.out.fuse _ ek d.n ks HKI.out hlk hdn).mono ?_); rintro en w3 ⟨F3, rfl, K3, G3, M3⟩; have M3 := hid M3; have n1 := C1.out w3 M3.out.old; have n3 := C3.out w3 M3.out.old))
      have KT3 := hid (KT.out.fuse (fuse_C D d.n ks).1 (fuse_C D d.n ks).2)
      have AW3 := hid ((AW.out.same (Same.refl wr).drew).grow K3 G3)
      have AM3 := hid ((AM.out.same (Same.refl wr).drew).grow K3 G3)
      generalize (D.fuse d.n ks).2 = D3 at *
      clear M AW AM K3 G3 KT MD HFk HKI n1 n3 c1' c3'
      go_wp2_with fail
      go_roundw
      case rel => exact ⟨k + 1, L, sb, F3, D3, S, was, mb, by omega, by omega, by omega, by omega, by go_num, rfl, rfl, M3.out, KT3.out, AW3.out, AM3.out⟩
      case measure => simp [intOf]; omega
    have k1b : (d.kind == 1) = false := by rw [beq_eq_false_iff_ne]; exact k1
    by_cases k2 : d.kind = 2
    case neg =>
      have k2b : (d.kind == 2) = false := by rw [beq_eq_false_iff_ne]; exact k2
      clear k0 k1 k2 C1 C3 HK
      go_wp2_with fail
      refine (show Calls Try.prog 22 #[_, .int .i64 250] wr _ from HCt.out w wr eb _ d.b 250 HB.out).mono ?_
      rintro en w1' ⟨v1, rfl, B1, rfl⟩
      clear c2' HB B1
      go_wp2_with fail
      go_roundw
      case rel => exact ⟨k + 1, L, sb, F, D, S, was, mb, by omega, by omega, by omega, by omega, by go_num, rfl, rfl, M.out, KT.out, AW.out, AM.out⟩
      case measure => simp [intOf]; omega
    rw [k2] at c0'
    clear k0 k1 k2 k0b k1b C1 C3 HK
    go_wp2_with fail
    refine (show Calls Try.prog 22 #[_, .int .i64 250] wr _ from HCt.out w wr eb _ d.b 250 HB.out).mono ?_
    rintro en w1' ⟨v1, rfl, B1, rfl⟩
    clear c2' HB B1
    go_wp2_with fail
    refine M.out.start.mono ?_
    rintro en w3 ⟨rfl, K3, M3⟩
    have M3 := hid M3
    have AW3 := hid (AW.out.keep K3)
    have AM3 := hid (AM.out.keep K3)
    obtain ⟨hE, KT3, hwm⟩ := KT.out.start (by omega)
    have KT3 := hid KT3
    have hE := hid hE
    have hwm := hid hwm
    clear M AW AM K3 KT c0'
    go_wp2_with fail
    refine (M3.out.open 2 30 (L + 1) 7 hE.out).mono ?_
    rintro en w4 ⟨s4, F4, rfl, S4, G4, M4⟩
    obtain ⟨sb4, rfl⟩ := M4.sptr
    have M4 := hid M4
    have AW4 := hid (AW3.out.grow (S4.keep F) G4)
    have AM4 := hid (AM3.out.grow (S4.keep F) G4)
    have hX0 : (D.start.opened 2 30 (L + 1) 7).all.length ≤ 2048 := by have h1 := M4.out.ok.few; have h2 := M4.out.ok.fit; omega
    generalize D.start.opened 2 30 (L + 1) 7 = X at *
    generalize D.start = D4 at *
    clear M3 AW3 AM3 S4 G4 hE
    go_wp2_with fail
    refine M4.out.records.mono ?_
    rintro en w5 ⟨a5, c5, rfl, R5, S5⟩
    have R5 := hid R5
    have S5 := hid S5
    go_wp2_with fail
    refine (R5.out.sames (AW4.out.same S5.out)).mono ?_
    rintro en w6 ⟨rfl, S6⟩
    have S6 := hid (S5.out.trans S6)
    by_cases hq : X.all = was
    case pos =>
      rw [decide_eq_true hq]
      clear hq
      go_wp2_with fail
      refine (M4.out.same S6.out).records.mono ?_
      rintro en w7 ⟨a7, c7, rfl, R7, S7⟩
      have S7 := hid (S6.out.trans S7)
      have R7 := hid R7
      go_wp2_with fail
      go_roundw
      case rel => exact ⟨k + 1, L + 1, sb4, F4, D4, X, X.all, X.all, by omega, by omega, by omega, by omega, by go_num, by go_num, rfl, M4.out.same S7.out, KT3.out, R7.out, R7.out⟩
      case measure => simp [intOf]; omega
    have hq2 : Hid (X.all = mb) := by
      rcases hwm.out with h | h
      · exact absurd h hq
      · exact h
    rw [decide_eq_false hq]
    clear hq
    go_wp2_with fail
    refine (M4.out.same S6.out).records.mono ?_
    rintro en w7 ⟨a7, c7, rfl, R7, S7⟩
    have S7 := hid (S6.out.trans S7)
    have R7 := hid R7
    go_wp2_with fail
    refine (R7.out.sames (AM4.out.same S7.out)).mono ?_
    rintro en w8 ⟨rfl, S8⟩
    have S8 := hid (S7.out.trans S8)
    rw [decide_eq_true hq2.out]
    go_wp2_with fail
    refine (M4.out.same S8.out).records.mono ?_
    rintro en w9 ⟨a9, c9, rfl, R9, S9⟩
    have S9 := hid (S8.out.trans S9)
    have R9 := hid R9
    go_wp2_with fail
    go_roundw
    case rel => exact ⟨k + 1, L + 1, sb4, F4, D4, X, X.all, X.all, by omega, by omega, by omega, by omega, by go_num, by go_num, rfl, M4.out.same S9.out, KT3.out, R9.out, R9.out⟩
    case measure => simp [intOf]; omega
end Go.Proofs.Ytlhnpicmjjddeaa
