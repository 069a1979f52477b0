/- SCROLL: the walk of ScrollKept. VAULT: the walk of VaultKept. -/
import Derived.Test.YtlhnpicmjjddeaaGrp6
set_option linter.unusedVariables false
set_option linter.unusedSimpArgs false
namespace Go.Proofs.Ytlhnpicmjjddeaa
open Go.RowKit

theorem rows_one {w : World} {M : Nat → Prop} {base : Nat} {e : TypeId} {u : Value} {l : List UInt8} (h : Bytes w e u l) (hf : ∀ g, homeOf u = some g → ¬ M g ∧ g < base) :
    Sl (w.alloc (.cells #[u] 23)) 23 1 (.slice (some ⟨w.heap.size, 0, none⟩) 1 1) [l].length [u] ∧
    ∀ i (hi : i < [l].length) x, [u][i]? = some x → (∃ e2, Bytes (w.alloc (.cells #[u] 23)) e2 x [l][i]) ∧ ∀ g, homeOf x = some g → ¬ M g ∧ g < base := by
  refine ⟨Sl.made 23 1 w.heap.size 1 1 _ _ (heap_alloc_new w _) (Nat.le_refl _) (by decide) rfl ⟨[], rfl⟩, ?_⟩
  intro i hi x hx
  match i, hi with
  | 0, _ =>
    simp at hx
    subst hx
    exact ⟨⟨e, h.same ((Same.refl w).alloc _)⟩, hf⟩
set_option maxHeartbeats 12800000 in
set_option maxRecDepth 100000 in
theorem scrollKeptWalk (w : World) (v : Value) (n : Nat) (hv : KDos w v n) : Calls Try.prog 18 #[v] w (RetSame (.bool true) w) := by
  have H9 := hid cLives
  have HCt := hid r01Cut0
  have HFe := hid lFew
  obtain ⟨ao, cap, rfl, hn1, hn2, hrows⟩ := hv
  unfold maxLen at hn2
  have HRows := hid hrows
  clear hrows
  go_enter Try.func18, Try.ntmps18
  go_wp2_with fail
  refine (dNewD w 30 (by omega) (by omega)).mono ?_
  rintro en w1 ⟨p, F, rfl, S1, D1, B1⟩
  have M1 : Hid (Mid w w1 p F (Dv.new 30)) := ⟨D1, B1, S1⟩
  obtain ⟨pb, rfl⟩ := D1.ptr
  clear D1 B1 S1
  go_wp2_with fail
  refine (MidS.first M1.out 2 30 1 7 Kt.new.1).mono ?_
  rintro en w2 ⟨s, F2, rfl, _, M2⟩
  obtain ⟨sb, rfl⟩ := M2.sptr
  have M2 := hid M2
  clear M1
  go_wp2_with fail
  go_loopw [5, 7, 8, 9, 10] (fun s wv mv life i wr => ∃ (k L sb : Nat) (F : Nat → Prop) (D : Dv) (S : Sc) (was mb : List (List UInt8)), k ≤ 40 ∧ 1 ≤ L ∧ L ≤ k + 1 ∧ was.length ≤ 2048 + k ∧ i = .int .i64 k ∧ life = .int .i64 L ∧ s = .pointer (some ⟨sb, 0, none⟩) ∧
    MidS w wr (.pointer (some ⟨pb, 0, none⟩)) s F D S ∧ Kt D S L was mb ∧ Rows2N F wr 23 wv was ∧ Rows2N F wr 23 mv mb) (fun _ _ _ _ i _ => 40 - (intOf i).toNat)
  case atStart => exact ⟨0, 1, sb, F2, _, _, [], [], by omega, by omega, by omega, by simp, rfl, rfl, rfl, M2.out, Kt.new.2, Rows2N.nil _ _ _, Rows2N.nil _ _ _⟩
  case round =>
    clear M2
    obtain ⟨k, L, sb, F, D, S, was, mb, hk, hL1, hL2, hwl, rfl, rfl, rfl, M, KT, AW, AM⟩ := hrel
    have M := hid M
    have KT := hid KT
    obtain ⟨wa, wc, rfl⟩ := AW.form
    obtain ⟨ma, mc, rfl⟩ := AM.form
    have AW := hid AW
    have AM := hid AM
    by_cases hlt : k < n
    case neg =>
      go_wp2_with fail
      refine (H9.out _).mono ?_
      rintro en w3 ⟨rfl, S3⟩
      go_wp2_with fail
      go_ret
      exact ⟨rfl, M.out.old.trans S3⟩
    by_cases hlt2 : k < 40
    case neg =>
      go_wp2_with fail
      refine (H9.out _).mono ?_
      rintro en w3 ⟨rfl, S3⟩
      go_wp2_with fail
      go_ret
      exact ⟨rfl, M.out.old.trans S3⟩
    obtain ⟨g, o, hao, hall⟩ : ∃ g o, ao = some ⟨g, o, none⟩ ∧ ∀ i, i < n → ∃ d, KDoAt w g (o + i * 4) d := by
      rcases HRows.out with h0 | h0
      · omega
      · exact h0
    subst hao
    obtain ⟨d, ab, cb, eb, ak, ck, ek, c0, c1, c2, hb, c3, hks, hdn⟩ := hall k hlt
    have hg0 := World.block_lt_of_cell? w _ c0
    have C1 := hid (fun (wz : World) (S : Same w wz) => (S.cell (p := ⟨g, o + k * 4 + 1, none⟩) hg0).trans c1)
    have C3 := hid (fun (wz : World) (S : Same w wz) => (S.cell (p := ⟨g, o + k * 4 + 3, none⟩) hg0).trans c3)
    have c2' : wr.cell? ⟨g, o + k * 4 + 2, none⟩ = _ := (M.out.old.cell (p := ⟨g, o + k * 4 + 2, none⟩) hg0).trans c2
    have c0' : wr.cell? ⟨g, o + k * 4, none⟩ = _ := (M.out.old.cell (p := ⟨g, o + k * 4, none⟩) hg0).trans c0
    have HB := hid hb
    have HK := hid hks
    have hki : (0 : Int) ≤ (k : Int) := by omega
    have hkn : (k : Int) < (n : Int) := by omega
    clear hall c0 c1 c2 c3 hb hks hg0
    by_cases k0 : d.kind = 0
    case pos =>
      rw [k0] at c0'
      clear k0 C1 C3 HK
      go_wp2_with fail
      refine (show Calls Try.prog 22 #[_, .int .i64 250] wr _ from HCt.out w wr eb _ d.b 250 HB.out).mono ?_
      rintro en w1' ⟨v1, rfl, B1, rfl⟩
      have hle : (d.b.take 250).length ≤ 250 := by rw [List.length_take]; omega
      have B1 := hid B1
      clear c2' HB
      generalize d.b.take 250 = x at *
      obtain ⟨a1, c1, rfl, _, _⟩ := B1.out.form
      have hnx : Hid (∀ F' : Nat → Prop, ∀ c, Bnd F' w.heap.size c → ∀ g, homeOf (.slice a1 x.length c1) = some g → ¬ F' g) := fun F' c B g hg hn => by
        have h1 := Sl.home_lt B1.out hg
        have h2 := (B g hn).1
        omega
      go_wp2_with fail
      refine M.out.live.mono ?_
      rintro en w3 ⟨rfl, S3⟩
      have M3 := hid (M.out.same S3)
      have AW3 := hid (AW.out.same S3)
      have AM3 := hid (AM.out.same S3)
      clear M AW AM S3
      go_wp2_with fail
      refine (M3.out.append _ eb x (B1.out.same M3.out.old) (by omega) (hnx.out F _ M3.out.bnd)).mono ?_
      rintro en w4 ⟨F4, rfl, K4, G4, M4⟩
      have AW4 := hid (AW3.out.grow K4 G4)
      have AM4 := hid (AM3.out.grow K4 G4)
      have hSn : S.all.length ≤ 2048 := by have h1 := M3.out.ok.few; have h2 := M3.out.ok.fit; omega
      have hA := KT.out.append (b := []) hle (by omega) hSn
      clear M3 AW3 AM3 K4 G4 hSn
      rcases hA with ⟨ho, hr⟩ | ⟨ho, hr⟩ | ⟨ho, hr, KT4⟩ | ⟨ho, hr, KT4⟩
      · rw [hr] at M4 ⊢
        rw [ho]
        have M4 := hid M4
        clear ho hr
        go_wp2_with fail
        go_roundw
        case rel => exact ⟨k + 1, L, sb, F4, D, S, was, mb, by omega, by omega, by omega, by omega, by go_num, rfl, rfl, M4.out, KT.out, AW4.out, AM4.out⟩
        case measure => simp [intOf]; omega
      · rw [hr] at M4 ⊢
        rw [ho]
        have M4 := hid M4
        clear ho hr
        go_wp2_with fail
        go_roundw
        case rel => exact ⟨k + 1, L, sb, F4, D, S, was, mb, by omega, by omega, by omega, by omega, by go_num, rfl, rfl, M4.out, KT.out, AW4.out, AM4.out⟩
        case measure => simp [intOf]; omega
      · rw [hr, ho]
        have M4 := hid M4
        have KT4 := hid KT4
        have hx : Hid (∀ g, homeOf (.slice a1 x.length c1) = some g → ¬ F4 g ∧ g < w4.heap.size) := fun g hg => ⟨hnx.out F4 _ M4.out.bnd g hg, Sl.home_lt (B1.out.same M4.out.old) hg⟩
        obtain ⟨us, hu1, hu2⟩ := AW4.out.src (Nat.le_refl _)
        have HU1 := hid hu1
        have HU2 := hid hu2
        have hlw : Hid (was.length ≤ 3000) := show _ ≤ _ by omega
        generalize (S.append D x).2.2 = D4 at *
        generalize (S.append D x).2.1 = S4 at *
        clear ho hr hu1 hu2 KT
        go_wp2_with (first
          | (at_builtin; refine wpList_append_n rfl (.tmp 59) (.tmp 60) 36 tyRows rfl (OwnN.nil w4 F4 w4.heap.size) HU1.out HU2.out rfl rfl (by have := hlw.out; simp; omega) (Nat.le_refl _) ?_; intro x5 w5 ho5 K5
             have Z5 := hid (K5.fresh (fun j hj => by simp [Value.ownBlock] at hj))
             have ho5 := hid ho5
             obtain ⟨a5, c5, rfl⟩ := (ho5.out.rows2N (fun j hj => (M4.out.bnd j hj).2)).form
             have X5 := hid (rows_one (M := F4) (base := w4.heap.size) (B1.out.same (M4.out.old.trans Z5.out)) hx.out)
             clear K5)
          | (at_builtin; refine wpList_append_n rfl (.tmp 62) (.tmp 64) 36 tyRows rfl (ho5.out.same ((Same.refl w5).alloc _)) X5.out.1 X5.out.2 rfl rfl (by have := hlw.out; simp; omega) (by have := Z5.out.size; simp; omega) ?_; intro x6 w6 ho6 K6))
        have Z6 := hid ((Z5.out.alloc (.cells #[.slice a1 x.length c1] 23)).keepOwn K6 (fun j hj => (ho5.out.lt j hj).1))
        have A6 := hid (ho6.rows2N (fun j hj => (M4.out.bnd j hj).2))
        simp only [List.nil_append] at A6
        go_roundw
        case rel => exact ⟨k + 1, L, sb, F4, D4, S4, was ++ [x], was ++ [x], by omega, by omega, by omega, by simp; omega, by go_num, rfl, rfl, M4.out.same Z6.out, KT4.out, A6.out, A6.out⟩
        case measure => simp [intOf]; omega
      · rw [hr, ho]
        have M4 := hid M4
        have KT4 := hid KT4
        have hx : Hid (∀ g, homeOf (.slice a1 x.length c1) = some g → ¬ F4 g ∧ g < w4.heap.size) := fun g hg => ⟨hnx.out F4 _ M4.out.bnd g hg, Sl.home_lt (B1.out.same M4.out.old) hg⟩
        obtain ⟨us, hu1, hu2⟩ := AW4.out.src (Nat.le_refl _)
        have HU1 := hid hu1
        have HU2 := hid hu2
        have hlw : Hid (was.length ≤ 3000) := show _ ≤ _ by omega
        generalize (S.append D x).2.2 = D4 at *
        generalize (S.append D x).2.1 = S4 at *
        clear ho hr hu1 hu2 KT
        go_wp2_with (first
          | (at_builtin; refine wpList_append_n rfl (.tmp 59) (.tmp 60) 36 tyRows rfl (OwnN.nil w4 F4 w4.heap.size) HU1.out HU2.out rfl rfl (by have := hlw.out; simp; omega) (Nat.le_refl _) ?_; intro x5 w5 ho5 K5
             have Z5 := hid (K5.fresh (fun j hj => by simp [Value.ownBlock] at hj))
             have ho5 := hid ho5
             obtain ⟨a5, c5, rfl⟩ := (ho5.out.rows2N (fun j hj => (M4.out.bnd j hj).2)).form
             have X5 := hid (rows_one (M := F4) (base := w4.heap.size) (B1.out.same (M4.out.old.trans Z5.out)) hx.out)
             clear K5)
          | (at_builtin; refine wpList_append_n rfl (.tmp 62) (.tmp 64) 36 tyRows rfl (ho5.out.same ((Same.refl w5).alloc _)) X5.out.1 X5.out.2 rfl rfl (by have := hlw.out; simp; omega) (by have := Z5.out.size; simp; omega) ?_; intro x6 w6 ho6 K6))
        have Z6 := hid ((Z5.out.alloc (.cells #[.slice a1 x.length c1] 23)).keepOwn K6 (fun j hj => (ho5.out.lt j hj).1))
        have A6 := hid (ho6.rows2N (fun j hj => (M4.out.bnd j hj).2))
        simp only [List.nil_append] at A6
        go_roundw
        case rel => exact ⟨k + 1, L, sb, F4, D4, S4, was, was ++ [x], by omega, by omega, by omega, by omega, by go_num, rfl, rfl, M4.out.same Z6.out, KT4.out, AW4.out.same Z6.out, A6.out⟩
        case measure => simp [intOf]; omega
    have k0b : (d.kind == 0) = false := by rw [beq_eq_false_iff_ne]; exact k0
    by_cases k1 : d.kind = 1
    case pos =>
      rw [k1] at c0'
      clear k0 k1 k0b
      go_wp2_with fail
      refine (show Calls Try.prog 22 #[_, .int .i64 250] wr _ from HCt.out w wr eb _ d.b 250 HB.out).mono ?_
      rintro en w1' ⟨v1, rfl, B1, rfl⟩
      clear c2' HB B1
      have c1' := C1.out wr M.out.old
      have c3' := C3.out wr M.out.old
      have hlk : (d.keep.take 20).length ≤ 1000 := by rw [List.length_take]; omega
      have HFk := hid (HFe.out wr.drew ek _ d.keep (HK.out.same M.out.old.drew))
      obtain ⟨ks, hks⟩ : ∃ ks, d.keep.take 20 = ks := ⟨_, rfl⟩
      rw [hks] at HFk hlk
      clear hks
      have MD := hid (M.out.same (Same.refl wr).drew)
      go_wp2_with fail
      go_region_held3 (fun w' => w'.cell? ⟨g, o + k * 4 + 1, none⟩ = some (.int .i64 d.n) ∧ w'.cell? ⟨g, o + k * 4 + 3, none⟩ = some (.slice ak d.keep.length ck))
        (first | with_reducible exact ⟨by assumption, by assumption⟩ | go_keep)
        (first
          | (go_at_call 58; (with_reducible refine HFk.out.mono ?_); rintro en w2' ⟨kv, rfl, HKI, rfl⟩; obtain ⟨ka, kc, rfl, _, _⟩ := HKI.form; have HKI := hid HKI)
          | (go_at_call 35; (with_reducible refine (MD.out.fuse _ ek d.n ks HKI.out hlk hdn).mono ?_); rintro en w3 ⟨F3, rfl, K3, G3, M3⟩; have M3 := hid M3; have n1 := C1.out w3 M3.out.old; have n3 := C3.out w3 M3.out.old))
      have KT3 := hid (KT.out.fuse (fuse_C D d.n ks).1 (fuse_C D d.n ks).2)
      have AW3 := hid ((AW.out.same (Same.refl wr).drew).grow K3 G3)
      have AM3 := hid ((AM.out.same (Same.refl wr).drew).grow K3 G3)
      generalize (D.fuse d.n ks).2 = D3 at *
      clear M AW AM K3 G3 KT MD HFk HKI n1 n3 c1' c3'
      go_wp2_with fail
      go_roundw
      case rel => exact ⟨k + 1, L, sb, F3, D3, S, was, mb, by omega, by omega, by omega, by omega, by go_num, rfl, rfl, M3.out, KT3.out, AW3.out, AM3.out⟩
      case measure => simp [intOf]; omega
    have k1b : (d.kind == 1) = false := by rw [beq_eq_false_iff_ne]; exact k1
    by_cases k2 : d.kind = 2
    case neg =>
      have k2b : (d.kind == 2) = false := by rw [beq_eq_false_iff_ne]; exact k2
      clear k0 k1 k2 C1 C3 HK
      go_wp2_with fail
      refine (show Calls Try.prog 22 #[_, .int .i64 250] wr _ from HCt.out w wr eb _ d.b 250 HB.out).mono ?_
      rintro en w1' ⟨v1, rfl, B1, rfl⟩
      clear c2' HB B1
      go_wp2_with fail
      go_roundw
      case rel => exact ⟨k + 1, L, sb, F, D, S, was, mb, by omega, by omega, by omega, by omega, by go_num, rfl, rfl, M.out, KT.out, AW.out, AM.out⟩
      case measure => simp [intOf]; omega
    rw [k2] at c0'
    clear k0 k1 k2 k0b k1b C1 C3 HK
    go_wp2_with fail
    refine (show Calls Try.prog 22 #[_, .int .i64 250] wr _ from HCt.out w wr eb _ d.b 250 HB.out).mono ?_
    rintro en w1' ⟨v1, rfl, B1, rfl⟩
    clear c2' HB B1
    go_wp2_with fail
    refine M.out.start.mono ?_
    rintro en w3 ⟨rfl, K3, M3⟩
    have M3 := hid M3
    have AW3 := hid (AW.out.keep K3)
    have AM3 := hid (AM.out.keep K3)
    obtain ⟨hE, KT3, hwm⟩ := KT.out.start (by omega)
    have KT3 := hid KT3
    have hE := hid hE
    have hwm := hid hwm
    clear M AW AM K3 KT c0'
    go_wp2_with fail
    refine (M3.out.open 2 30 (L + 1) 7 hE.out).mono ?_
    rintro en w4 ⟨s4, F4, rfl, S4, G4, M4⟩
    obtain ⟨sb4, rfl⟩ := M4.sptr
    have M4 := hid M4
    have AW4 := hid (AW3.out.grow (S4.keep F) G4)
    have AM4 := hid (AM3.out.grow (S4.keep F) G4)
    have hX0 : (D.start.opened 2 30 (L + 1) 7).all.length ≤ 2048 := by have h1 := M4.out.ok.few; have h2 := M4.out.ok.fit; omega
    generalize D.start.opened 2 30 (L + 1) 7 = X at *
    generalize D.start = D4 at *
    clear M3 AW3 AM3 S4 G4 hE
    go_wp2_with fail
    refine M4.out.records.mono ?_
    rintro en w5 ⟨a5, c5, rfl, R5, S5⟩
    have R5 := hid R5
    have S5 := hid S5
    go_wp2_with fail
    refine (R5.out.sames (AW4.out.same S5.out)).mono ?_
    rintro en w6 ⟨rfl, S6⟩
    have S6 := hid (S5.out.trans S6)
    by_cases hq : X.all = was
    case pos =>
      rw [decide_eq_true hq]
      clear hq
      go_wp2_with fail
      refine (M4.out.same S6.out).records.mono ?_
      rintro en w7 ⟨a7, c7, rfl, R7, S7⟩
      have S7 := hid (S6.out.trans S7)
      have R7 := hid R7
      go_wp2_with fail
      go_roundw
      case rel => exact ⟨k + 1, L + 1, sb4, F4, D4, X, X.all, X.all, by omega, by omega, by omega, by omega, by go_num, by go_num, rfl, M4.out.same S7.out, KT3.out, R7.out, R7.out⟩
      case measure => simp [intOf]; omega
    have hq2 : Hid (X.all = mb) := by
      rcases hwm.out with h | h
      · exact absurd h hq
      · exact h
    rw [decide_eq_false hq]
    clear hq
    go_wp2_with fail
    refine (M4.out.same S6.out).records.mono ?_
    rintro en w7 ⟨a7, c7, rfl, R7, S7⟩
    have S7 := hid (S6.out.trans S7)
    have R7 := hid R7
    go_wp2_with fail
    refine (R7.out.sames (AM4.out.same S7.out)).mono ?_
    rintro en w8 ⟨rfl, S8⟩
    have S8 := hid (S7.out.trans S8)
    rw [decide_eq_true hq2.out]
    go_wp2_with fail
    refine (M4.out.same S8.out).records.mono ?_
    rintro en w9 ⟨a9, c9, rfl, R9, S9⟩
    have S9 := hid (S8.out.trans S9)
    have R9 := hid R9
    go_wp2_with fail
    go_roundw
    case rel => exact ⟨k + 1, L + 1, sb4, F4, D4, X, X.all, X.all, by omega, by omega, by omega, by omega, by go_num, by go_num, rfl, M4.out.same S9.out, KT3.out, R9.out, R9.out⟩
    case measure => simp [intOf]; omega
end Go.Proofs.Ytlhnpicmjjddeaa
namespace Go.Proofs.Ytlhnpicmjjddeaa
open Go.RowKit

theorem Apart.decs {F F' : Nat → Prop} {w : World} {v1 v2 : Value} {l1 l2 : List UInt8} (h1 : Apart F w v1 l1) (h2 : Apart F' w v2 l2) : Calls Try.prog 29 #[v1, v2] w (RetSame (.bool (decide (l1 = l2))) w) := by
  obtain ⟨e1, q1, _⟩ := h1
  obtain ⟨e2, q2, _⟩ := h2
  exact r01SameS w e1 e2 v1 v2 l1 l2 q1 q2
theorem Apart.nil (F : Nat → Prop) (w : World) : Apart F w (.slice none 0 0) [] := ⟨23, Bytes.nil _ _, fun g hg => by cases hg⟩
set_option maxHeartbeats 25600000 in
set_option maxRecDepth 100000 in
theorem vaultKeptWalk (w : World) (v : Value) (n : Nat) (hv : KDos w v n) : Calls Try.prog 20 #[v] w (RetSame (.bool true) w) := by
  have H9 := hid vLives
  have HCt := hid r01Cut0
  have HFe := hid lFew
  obtain ⟨ao, cap, rfl, hn1, hn2, hrows⟩ := hv
  unfold maxLen at hn2
  have HRows := hid hrows
  clear hrows
  go_enter Try.func20, Try.ntmps20
  go_wp2_with fail
  refine (dNewD w 40 (by omega) (by omega)).mono ?_
  rintro en w1 ⟨p, F, rfl, S1, D1, B1⟩
  have M1 : Hid (Mid w w1 p F (Dv.new 40)) := ⟨D1, B1, S1⟩
  obtain ⟨pb, rfl⟩ := D1.ptr
  clear D1 B1 S1
  go_wp2_with fail
  refine (MidV.first M1.out 5 Vk.new.1 (by omega)).mono ?_
  rintro en w2 ⟨v2, F2, rfl, _, M2⟩
  obtain ⟨vb, rfl⟩ := M2.vptr
  have M2 := hid M2
  clear M1
  go_wp2_with fail
  go_loopg [5, 7, 8, 9, 10, 11] 30 (fun gk v stv smv wv mv i wr => ∃ (k vb : Nat) (nn : Int) (F : Nat → Prop) (D : Dv) (V : Vt) (st stm : List UInt8) (was mb : List (List UInt8)), k + gk = 30 ∧ nn ≤ k ∧ was.length ≤ 2048 + k ∧ i = .int .i64 k ∧ v = .pointer (some ⟨vb, 0, none⟩) ∧
    MidV w wr (.pointer (some ⟨pb, 0, none⟩)) v F D V ∧ Vk D V nn st was stm mb ∧ Apart F wr stv st ∧ Apart F wr smv stm ∧ Rows2N F wr 23 wv was ∧ Rows2N F wr 23 mv mb)
  case atStart => exact ⟨0, vb, 0, F2, _, _, [], [], [], [], by omega, by omega, by simp, rfl, rfl, M2.out, Vk.new.2, Apart.nil _ _, Apart.nil _ _, Rows2N.nil _ _ _, Rows2N.nil _ _ _⟩
  case round =>
    clear M2
    obtain ⟨k, vb, nn, F, D, V, st, stm, was, mb, hk, hnn, hwl, rfl, rfl, M, VK, AS, AT, AW, AM⟩ := hrel
    have HK := hid hk
    have M := hid M
    have VK := hid VK
    obtain ⟨sa, sc, rfl⟩ := AS.form
    obtain ⟨ta, tc, rfl⟩ := AT.form
    obtain ⟨wa, wc, rfl⟩ := AW.form
    obtain ⟨ma, mc, rfl⟩ := AM.form
    have AS := hid AS
    have AT := hid AT
    have AW := hid AW
    have AM := hid AM
    by_cases hlt : k < n
    case neg =>
      go_wp2_with fail
      refine (H9.out _).mono ?_
      rintro en w3 ⟨rfl, S3⟩
      go_wp2_with fail
      go_ret
      exact ⟨rfl, M.out.old.trans S3⟩
    by_cases hlt2 : k < 30
    case neg =>
      go_wp2_with fail
      refine (H9.out _).mono ?_
      rintro en w3 ⟨rfl, S3⟩
      go_wp2_with fail
      go_ret
      exact ⟨rfl, M.out.old.trans S3⟩
    clear hk
    obtain ⟨g, o, hao, hall⟩ : ∃ g o, ao = some ⟨g, o, none⟩ ∧ ∀ i, i < n → ∃ d, KDoAt w g (o + i * 4) d := by
      rcases HRows.out with h0 | h0
      · omega
      · exact h0
    subst hao
    obtain ⟨d, ab, cb, eb, ak, ck, ek, c0, c1, c2, hb, c3, hks, hdn⟩ := hall k hlt
    have hg0 := World.block_lt_of_cell? w _ c0
    have C0 := hid (fun (wz : World) (S : Same w wz) => (S.cell (p := ⟨g, o + k * 4, none⟩) hg0).trans c0)
    have C1 := hid (fun (wz : World) (S : Same w wz) => (S.cell (p := ⟨g, o + k * 4 + 1, none⟩) hg0).trans c1)
    have C3 := hid (fun (wz : World) (S : Same w wz) => (S.cell (p := ⟨g, o + k * 4 + 3, none⟩) hg0).trans c3)
    have c2' : wr.cell? ⟨g, o + k * 4 + 2, none⟩ = _ := (M.out.old.cell (p := ⟨g, o + k * 4 + 2, none⟩) hg0).trans c2
    have HB := hid hb
    have HKs := hid hks
    have hki : (0 : Int) ≤ (k : Int) := by omega
    have hkn : (k : Int) < (n : Int) := by omega
    clear hall c0 c1 c2 c3 hb hks hg0
    go_wp2_with fail
    refine (show Calls Try.prog 22 #[_, .int .i64 250] wr _ from HCt.out w wr eb _ d.b 250 HB.out).mono ?_
    rintro en w1' ⟨v1, rfl, B1, rfl⟩
    have hle : (d.b.take 250).length ≤ 250 := by rw [List.length_take]; omega
    have B1 := hid B1
    clear c2' HB
    generalize d.b.take 250 = x at *
    obtain ⟨a1, c1, rfl, _, _⟩ := B1.out.form
    have hnx : Hid (∀ F' : Nat → Prop, ∀ c, Bnd F' w.heap.size c → ∀ g, homeOf (.slice a1 x.length c1) = some g → ¬ F' g) := fun F' c B g hg hn => by
      have h1 := Sl.home_lt B1.out hg
      have h2 := (B g hn).1
      omega
    go_wp2_with fail
    refine M.out.live.mono ?_
    rintro en w3 ⟨rfl, S3⟩
    have M3 := hid (M.out.same S3)
    have AS3 := hid (AS.out.same S3)
    have AT3 := hid (AT.out.same S3)
    have AW3 := hid (AW.out.same S3)
    have AM3 := hid (AM.out.same S3)
    clear M AS AT AW AM S3
    have c0' := C0.out w3 M3.out.old
    by_cases k0 : d.kind = 0
    case pos =>
      rw [k0] at c0' C0
      clear k0 C1 C3 HKs
      go_wp2_with fail
      refine (M3.out.append _ eb x (B1.out.same M3.out.old) (by omega) (hnx.out F _ M3.out.bnd)).mono ?_
      rintro en w4 ⟨F4, rfl, K4, G4, M4⟩
      have AS4 := hid (AS3.out.grow K4 G4)
      have AT4 := hid (AT3.out.grow K4 G4)
      have AW4 := hid (AW3.out.grow K4 G4)
      have AM4 := hid (AM3.out.grow K4 G4)
      have hSn : V.S.all.length ≤ 2048 := by have h1 := M3.out.sok.few; have h2 := M3.out.sok.fit; omega
      have hA := VK.out.append (by omega) hle hSn
      clear M3 AS3 AT3 AW3 AM3 K4 G4 hSn c0'
      rcases hA with ⟨ho, hr⟩ | ⟨ho, hr, VK4⟩ | ⟨ho, hr, VK4⟩ | ⟨ho, hr, VK4⟩
      · rw [hr] at M4 ⊢
        rw [ho]
        have M4 := hid M4
        clear ho hr

        have hx : Hid (∀ g, homeOf (.slice a1 x.length c1) = some g → ¬ F4 g ∧ g < w4.heap.size) := fun g hg => ⟨hnx.out F4 _ M4.out.bnd g hg, Sl.home_lt (B1.out.same M4.out.old) hg⟩
        obtain ⟨us, hu1, hu2⟩ := AW4.out.src (Nat.le_refl _)
        have HU1 := hid hu1
        have HU2 := hid hu2
        have hlw : Hid (was.length ≤ 3000) := show _ ≤ _ by omega
        clear hu1 hu2
        go_wp2_with (first
          | (at_builtin; refine wpList_append_n rfl (.tmp 67) (.tmp 68) 36 tyRows rfl (OwnN.nil w4 F4 w4.heap.size) HU1.out HU2.out rfl rfl (by have := hlw.out; simp; omega) (Nat.le_refl _) ?_; intro x5 w5 ho5 K5
             have Z5 := hid (K5.fresh (fun j hj => by simp [Value.ownBlock] at hj))
             have ho5 := hid ho5
             have c0' := C0.out w5 (M4.out.old.trans Z5.out)
             obtain ⟨a5, c5, rfl⟩ := (ho5.out.rows2N (fun j hj => (M4.out.bnd j hj).2)).form
             have X5 := hid (rows_one (M := F4) (base := w4.heap.size) (B1.out.same (M4.out.old.trans Z5.out)) hx.out)
             clear K5)
          | (at_builtin; refine wpList_append_n rfl (.tmp 70) (.tmp 72) 36 tyRows rfl (ho5.out.same ((Same.refl w5).alloc _)) X5.out.1 X5.out.2 rfl rfl (by have := hlw.out; simp; omega) (by have := Z5.out.size; simp; omega) ?_; intro x6 w6 ho6 K6))
        have Z6 := hid ((Z5.out.alloc (.cells #[.slice a1 x.length c1] 23)).keepOwn K6 (fun j hj => (ho5.out.lt j hj).1))
        have A6 := hid (ho6.rows2N (fun j hj => (M4.out.bnd j hj).2))
        simp only [List.nil_append] at A6
        go_roundg (30 - (k + 1))
        case measure => have := HK.out; omega
        case rel => exact ⟨k + 1, vb, nn, F4, D, V, st, stm, was, mb, by omega, by omega, by omega, by go_num, rfl, M4.out.same Z6.out, VK.out, AS4.out.same Z6.out, AT4.out.same Z6.out, AW4.out.same Z6.out, AM4.out.same Z6.out⟩
      · rw [hr, ho]
        have M4 := hid M4
        have VK4 := hid VK4
        generalize (V.append D x).2.2 = D4 at *
        generalize (V.append D x).2.1 = V4 at *
        clear ho hr VK

        have hx : Hid (∀ g, homeOf (.slice a1 x.length c1) = some g → ¬ F4 g ∧ g < w4.heap.size) := fun g hg => ⟨hnx.out F4 _ M4.out.bnd g hg, Sl.home_lt (B1.out.same M4.out.old) hg⟩
        obtain ⟨us, hu1, hu2⟩ := AW4.out.src (Nat.le_refl _)
        have HU1 := hid hu1
        have HU2 := hid hu2
        have hlw : Hid (was.length ≤ 3000) := show _ ≤ _ by omega
        clear hu1 hu2
        go_wp2_with (first
          | (at_builtin; refine wpList_append_n rfl (.tmp 67) (.tmp 68) 36 tyRows rfl (OwnN.nil w4 F4 w4.heap.size) HU1.out HU2.out rfl rfl (by have := hlw.out; simp; omega) (Nat.le_refl _) ?_; intro x5 w5 ho5 K5
             have Z5 := hid (K5.fresh (fun j hj => by simp [Value.ownBlock] at hj))
             have ho5 := hid ho5
             have c0' := C0.out w5 (M4.out.old.trans Z5.out)
             obtain ⟨a5, c5, rfl⟩ := (ho5.out.rows2N (fun j hj => (M4.out.bnd j hj).2)).form
             have X5 := hid (rows_one (M := F4) (base := w4.heap.size) (B1.out.same (M4.out.old.trans Z5.out)) hx.out)
             clear K5)
          | (at_builtin; refine wpList_append_n rfl (.tmp 70) (.tmp 72) 36 tyRows rfl (ho5.out.same ((Same.refl w5).alloc _)) X5.out.1 X5.out.2 rfl rfl (by have := hlw.out; simp; omega) (by have := Z5.out.size; simp; omega) ?_; intro x6 w6 ho6 K6))
        have Z6 := hid ((Z5.out.alloc (.cells #[.slice a1 x.length c1] 23)).keepOwn K6 (fun j hj => (ho5.out.lt j hj).1))
        have A6 := hid (ho6.rows2N (fun j hj => (M4.out.bnd j hj).2))
        simp only [List.nil_append] at A6
        go_roundg (30 - (k + 1))
        case measure => have := HK.out; omega
        case rel => exact ⟨k + 1, vb, nn + 1, F4, D4, V4, st, stm, was, mb, by omega, by omega, by omega, by go_num, rfl, M4.out.same Z6.out, VK4.out, AS4.out.same Z6.out, AT4.out.same Z6.out, AW4.out.same Z6.out, AM4.out.same Z6.out⟩
      · rw [hr, ho]
        have M4 := hid M4
        have VK4 := hid VK4
        generalize (V.append D x).2.2 = D4 at *
        generalize (V.append D x).2.1 = V4 at *
        clear ho hr VK

        have hx : Hid (∀ g, homeOf (.slice a1 x.length c1) = some g → ¬ F4 g ∧ g < w4.heap.size) := fun g hg => ⟨hnx.out F4 _ M4.out.bnd g hg, Sl.home_lt (B1.out.same M4.out.old) hg⟩
        obtain ⟨us, hu1, hu2⟩ := AW4.out.src (Nat.le_refl _)
        have HU1 := hid hu1
        have HU2 := hid hu2
        have hlw : Hid (was.length ≤ 3000) := show _ ≤ _ by omega
        clear hu1 hu2
        go_wp2_with (first
          | (at_builtin; refine wpList_append_n rfl (.tmp 67) (.tmp 68) 36 tyRows rfl (OwnN.nil w4 F4 w4.heap.size) HU1.out HU2.out rfl rfl (by have := hlw.out; simp; omega) (Nat.le_refl _) ?_; intro x5 w5 ho5 K5
             have Z5 := hid (K5.fresh (fun j hj => by simp [Value.ownBlock] at hj))
             have ho5 := hid ho5
             have c0' := C0.out w5 (M4.out.old.trans Z5.out)
             obtain ⟨a5, c5, rfl⟩ := (ho5.out.rows2N (fun j hj => (M4.out.bnd j hj).2)).form
             have X5 := hid (rows_one (M := F4) (base := w4.heap.size) (B1.out.same (M4.out.old.trans Z5.out)) hx.out)
             clear K5)
          | (at_builtin; refine wpList_append_n rfl (.tmp 70) (.tmp 72) 36 tyRows rfl (ho5.out.same ((Same.refl w5).alloc _)) X5.out.1 X5.out.2 rfl rfl (by have := hlw.out; simp; omega) (by have := Z5.out.size; simp; omega) ?_; intro x6 w6 ho6 K6))
        have Z6 := hid ((Z5.out.alloc (.cells #[.slice a1 x.length c1] 23)).keepOwn K6 (fun j hj => (ho5.out.lt j hj).1))
        have A6 := hid (ho6.rows2N (fun j hj => (M4.out.bnd j hj).2))
        simp only [List.nil_append] at A6
        go_roundg (30 - (k + 1))
        case measure => have := HK.out; omega
        case rel => exact ⟨k + 1, vb, nn + 1, F4, D4, V4, st, st, was ++ [x], was ++ [x], by omega, by omega, by simp; omega, by go_num, rfl, M4.out.same Z6.out, VK4.out, AS4.out.same Z6.out, AS4.out.same Z6.out, A6.out, A6.out⟩
      · rw [hr, ho]
        have M4 := hid M4
        have VK4 := hid VK4
        generalize (V.append D x).2.2 = D4 at *
        generalize (V.append D x).2.1 = V4 at *
        clear ho hr VK

        have hx : Hid (∀ g, homeOf (.slice a1 x.length c1) = some g → ¬ F4 g ∧ g < w4.heap.size) := fun g hg => ⟨hnx.out F4 _ M4.out.bnd g hg, Sl.home_lt (B1.out.same M4.out.old) hg⟩
        obtain ⟨us, hu1, hu2⟩ := AW4.out.src (Nat.le_refl _)
        have HU1 := hid hu1
        have HU2 := hid hu2
        have hlw : Hid (was.length ≤ 3000) := show _ ≤ _ by omega
        clear hu1 hu2
        go_wp2_with (first
          | (at_builtin; refine wpList_append_n rfl (.tmp 67) (.tmp 68) 36 tyRows rfl (OwnN.nil w4 F4 w4.heap.size) HU1.out HU2.out rfl rfl (by have := hlw.out; simp; omega) (Nat.le_refl _) ?_; intro x5 w5 ho5 K5
             have Z5 := hid (K5.fresh (fun j hj => by simp [Value.ownBlock] at hj))
             have ho5 := hid ho5
             have c0' := C0.out w5 (M4.out.old.trans Z5.out)
             obtain ⟨a5, c5, rfl⟩ := (ho5.out.rows2N (fun j hj => (M4.out.bnd j hj).2)).form
             have X5 := hid (rows_one (M := F4) (base := w4.heap.size) (B1.out.same (M4.out.old.trans Z5.out)) hx.out)
             clear K5)
          | (at_builtin; refine wpList_append_n rfl (.tmp 70) (.tmp 72) 36 tyRows rfl (ho5.out.same ((Same.refl w5).alloc _)) X5.out.1 X5.out.2 rfl rfl (by have := hlw.out; simp; omega) (by have := Z5.out.size; simp; omega) ?_; intro x6 w6 ho6 K6))
        have Z6 := hid ((Z5.out.alloc (.cells #[.slice a1 x.length c1] 23)).keepOwn K6 (fun j hj => (ho5.out.lt j hj).1))
        have A6 := hid (ho6.rows2N (fun j hj => (M4.out.bnd j hj).2))
        simp only [List.nil_append] at A6
        go_roundg (30 - (k + 1))
        case measure => have := HK.out; omega
        case rel => exact ⟨k + 1, vb, nn + 1, F4, D4, V4, st, st, was, was ++ [x], by omega, by omega, by omega, by go_num, rfl, M4.out.same Z6.out, VK4.out, AS4.out.same Z6.out, AS4.out.same Z6.out, AW4.out.same Z6.out, A6.out⟩
    have k0b : (d.kind == 0) = false := by rw [beq_eq_false_iff_ne]; exact k0
    by_cases k1 : d.kind = 1
    case pos =>
      rw [k1] at c0' C0
      clear k0 k1 k0b C1 C3 HKs
      obtain ⟨hE, hA⟩ := VK.out.compact (by omega) hle
      have AB3 := hid (Apart.low (F := F) B1.out M3.out.old M3.out.bnd)
      go_wp2_with fail
      refine (M3.out.compact _ eb x (B1.out.same M3.out.old) (by omega) (hnx.out F _ M3.out.bnd) hE).mono ?_
      rintro en w4 ⟨F4, rfl, K4, G4, M4⟩
      have AS4 := hid (AS3.out.grow K4 G4)
      have AT4 := hid (AT3.out.grow K4 G4)
      have AW4 := hid (AW3.out.grow K4 G4)
      have AM4 := hid (AM3.out.grow K4 G4)
      have AB4 := hid (AB3.out.grow K4 G4)
      clear M3 AS3 AT3 AW3 AM3 AB3 K4 G4 c0' hE
      rcases hA with ⟨ho, hr⟩ | ⟨ho, hr, VK4⟩ | ⟨ho, hr, VK4⟩
      · rw [hr] at M4 ⊢
        rw [ho]
        have M4 := hid M4
        clear ho hr
        go_wp2_with fail
        go_roundg (30 - (k + 1))
        case measure => have := HK.out; omega
        case rel => exact ⟨k + 1, vb, nn, F4, D, V, st, stm, was, mb, by omega, by omega, by omega, by go_num, rfl, M4.out, VK.out, AS4.out, AT4.out, AW4.out, AM4.out⟩
      · rw [hr, ho]
        have M4 := hid M4
        have VK4 := hid VK4
        generalize (V.compact D x).2.2 = D4 at *
        generalize (V.compact D x).2.1 = V4 at *
        clear ho hr VK
        go_wp2_with fail
        go_roundg (30 - (k + 1))
        case measure => have := HK.out; omega
        case rel => exact ⟨k + 1, vb, nn + 1, F4, D4, V4, x, x, [], [], by omega, by omega, by simp, by go_num, rfl, M4.out, VK4.out, AB4.out, AB4.out, Rows2N.nil _ _ _, Rows2N.nil _ _ _⟩
      · rw [hr, ho]
        have M4 := hid M4
        have VK4 := hid VK4
        generalize (V.compact D x).2.2 = D4 at *
        generalize (V.compact D x).2.1 = V4 at *
        clear ho hr VK
        go_wp2_with fail
        go_roundg (30 - (k + 1))
        case measure => have := HK.out; omega
        case rel => exact ⟨k + 1, vb, nn + 1, F4, D4, V4, st, x, was, [], by omega, by omega, by omega, by go_num, rfl, M4.out, VK4.out, AS4.out, AB4.out, AW4.out, Rows2N.nil _ _ _⟩
    have k1b : (d.kind == 1) = false := by rw [beq_eq_false_iff_ne]; exact k1
    clear hnx B1 hle
    by_cases k2 : d.kind = 2
    case pos =>
      rw [k2] at c0'
      clear k0 k1 k2 k0b k1b C0
      have c1' := C1.out w3 M3.out.old
      have c3' := C3.out w3 M3.out.old
      have hlk : (d.keep.take 20).length ≤ 1000 := by rw [List.length_take]; omega
      have HFk := hid (HFe.out w3.drew ek _ d.keep (HKs.out.same M3.out.old.drew))
      obtain ⟨ks, hks⟩ : ∃ ks, d.keep.take 20 = ks := ⟨_, rfl⟩
      rw [hks] at HFk hlk
      clear hks
      have MD := hid (M3.out.same (Same.refl w3).drew)
      go_wp2_with fail
      go_region_held3 (fun w' => w'.cell? ⟨g, o + k * 4 + 1, none⟩ = some (.int .i64 d.n) ∧ w'.cell? ⟨g, o + k * 4 + 3, none⟩ = some (.slice ak d.keep.length ck))
        (first | with_reducible exact ⟨by assumption, by assumption⟩ | go_keep)
        (first
          | (go_at_call 58; (with_reducible refine HFk.out.mono ?_); rintro en w2' ⟨kv, rfl, HKI, rfl⟩; obtain ⟨ka, kc, rfl, _, _⟩ := HKI.form; have HKI := hid HKI)
          | (go_at_call 35; (with_reducible refine (MD.out.fuse _ ek d.n ks HKI.out hlk hdn).mono ?_); rintro en w4 ⟨F3, rfl, K3, G3, M4⟩; have M4 := hid M4; have n1 := C1.out w4 M4.out.old; have n3 := C3.out w4 M4.out.old))
      have VK3 := hid (VK.out.fuse (fuse_C D d.n ks).1 (fuse_C D d.n ks).2)
      have AS4 := hid ((AS3.out.same (Same.refl w3).drew).grow K3 G3)
      have AT4 := hid ((AT3.out.same (Same.refl w3).drew).grow K3 G3)
      have AW4 := hid ((AW3.out.same (Same.refl w3).drew).grow K3 G3)
      have AM4 := hid ((AM3.out.same (Same.refl w3).drew).grow K3 G3)
      generalize (D.fuse d.n ks).2 = D3 at *
      clear M3 AS3 AT3 AW3 AM3 K3 G3 VK MD HFk HKI n1 n3 c1' c3'
      go_wp2_with fail
      go_roundg (30 - (k + 1))
      case measure => have := HK.out; omega
      case rel => exact ⟨k + 1, vb, nn, F3, D3, V, st, stm, was, mb, by omega, by omega, by omega, by go_num, rfl, M4.out, VK3.out, AS4.out, AT4.out, AW4.out, AM4.out⟩
    have k2b : (d.kind == 2) = false := by rw [beq_eq_false_iff_ne]; exact k2
    clear C1 C3 HKs
    by_cases k3 : d.kind = 3
    case neg =>
      have k3b : (d.kind == 3) = false := by rw [beq_eq_false_iff_ne]; exact k3
      clear k0 k1 k2 k3 C0
      go_wp2_with fail
      go_roundg (30 - (k + 1))
      case measure => have := HK.out; omega
      case rel => exact ⟨k + 1, vb, nn, F, D, V, st, stm, was, mb, by omega, by omega, by omega, by go_num, rfl, M3.out, VK.out, AS3.out, AT3.out, AW3.out, AM3.out⟩
    rw [k3] at c0'
    clear k0 k1 k2 k3 k0b k1b k2b C0
    go_wp2_with fail
    refine M3.out.start.mono ?_
    rintro en w4 ⟨rfl, K4, M4⟩
    have hst := VK.out.start
    obtain ⟨D4, hD4⟩ : ∃ D4, D4 = D.start := ⟨_, rfl⟩
    rw [← hD4] at hst M4
    clear hD4
    obtain ⟨X, hXd⟩ : ∃ X, X = D4.vopened 5 := ⟨_, rfl⟩
    rw [← hXd] at hst
    have HXd := hid hXd
    clear hXd
    obtain ⟨hE, VX, hor⟩ := hst
    have hE := hid hE
    have VX := hid VX
    have hor := hid hor
    have M4 := hid M4
    have AS4 := hid (AS3.out.keep K4)
    have AT4 := hid (AT3.out.keep K4)
    have AW4 := hid (AW3.out.keep K4)
    have AM4 := hid (AM3.out.keep K4)
    have hXl : Hid (∀ (wz : World) (vz : Value) (Fz : Nat → Prop), MidV w wz (.pointer (some ⟨pb, 0, none⟩)) vz Fz D4 X → X.S.all.length ≤ 2048) := fun wz vz Fz Mz => by
      have h1 := Mz.sok.few; have h2 := Mz.sok.fit; omega
    clear M3 AS3 AT3 AW3 AM3 K4 VK c0'
    go_wp2_with fail
    go_loopg [5, 7, 8, 9, 10, 17] 2 (fun gj v stv smv wv mv q wr => ∃ (j vb : Nat) (F : Nat → Prop) (V : Vt) (st stm : List UInt8) (was mb : List (List UInt8)), j + gj = 2 ∧ was.length ≤ 2048 + k ∧ q = .int .i64 j ∧ v = .pointer (some ⟨vb, 0, none⟩) ∧
      MidV w wr (.pointer (some ⟨pb, 0, none⟩)) v F D4 V ∧ ((X.state = st ∧ X.S.all = was) ∨ (X.state = stm ∧ X.S.all = mb)) ∧ (1 ≤ j → V = X ∧ st = X.state ∧ was = X.S.all ∧ stm = X.state ∧ mb = X.S.all) ∧
      Apart F wr stv st ∧ Apart F wr smv stm ∧ Rows2N F wr 23 wv was ∧ Rows2N F wr 23 mv mb)
    case atStart => exact ⟨0, vb, F, V, st, stm, was, mb, by omega, by omega, rfl, rfl, M4.out, hor.out, fun h => by omega, AS4.out, AT4.out, AW4.out, AM4.out⟩
    case round =>
      rename_i wq
      clear M4 AS4 AT4 AW4 AM4 hor
      obtain ⟨j, vb, F, V, st, stm, was, mb, hj, hwl2, rfl, rfl, M, hor, hone, AS, AT, AW, AM⟩ := hrel
      have HJ := hid hj
      have M := hid M
      have hor := hid hor
      have hone := hid hone
      obtain ⟨sa, sc, rfl⟩ := AS.form
      obtain ⟨ta, tc, rfl⟩ := AT.form
      obtain ⟨wa, wc, rfl⟩ := AW.form
      obtain ⟨ma, mc, rfl⟩ := AM.form
      have AS := hid AS
      have AT := hid AT
      have AW := hid AW
      have AM := hid AM
      by_cases hlt : j < 2
      case neg =>
        obtain ⟨e1, e2, e3, e4, e5⟩ := hone.out (by omega)
        subst e1 e2 e3 e4 e5
        clear hj
        go_wp2_with fail
        go_roundg (30 - (k + 1))
        case measure => have := HK.out; omega
        case rel => exact ⟨k + 1, vb, nn, F, D4, V, _, _, _, _, by omega, by omega, by omega, by go_num, rfl, M.out, VX.out, AS.out, AT.out, AW.out, AM.out⟩
      clear hj
      go_wp2_with fail
      refine (M.out.open 5 hE.out (by omega)).mono ?_
      rintro en w5 ⟨v5, F5, rfl, S5, G5, M5⟩
      obtain ⟨vb5, rfl⟩ := M5.vptr
      have M5 : Hid (MidV w w5 (.pointer (some ⟨pb, 0, none⟩)) (.pointer (some ⟨vb5, 0, none⟩)) F5 D4 X) := by
        have := M5
        rw [← HXd.out] at this
        exact this
      have AS5 := hid (AS.out.grow (S5.keep F) G5)
      have AT5 := hid (AT.out.grow (S5.keep F) G5)
      have AW5 := hid (AW.out.grow (S5.keep F) G5)
      have AM5 := hid (AM.out.grow (S5.keep F) G5)
      have hX0 := hXl.out _ _ _ M5.out
      clear M AS AT AW AM S5 G5 hone
      go_wp2_with fail
      refine M5.out.state.mono ?_
      rintro en w6 ⟨a6, c6, rfl, Y6, _, S6⟩
      have Y6 := hid Y6
      have M6 := hid (M5.out.same S6)
      have AS6 := hid (AS5.out.same S6)
      have AT6 := hid (AT5.out.same S6)
      have AW6 := hid (AW5.out.same S6)
      have AM6 := hid (AM5.out.same S6)
      clear M5 AS5 AT5 AW5 AM5 S6
      go_wp2_with fail
      refine (Y6.out.decs AS6.out).mono ?_
      rintro en w7 ⟨rfl, S7⟩
      have S7 := hid S7
      by_cases hs : X.state = st
      · rw [decide_eq_true hs]
        clear hs
        go_wp2_with fail
        refine (M6.out.same S7.out).records.mono ?_
        rintro en w8 ⟨a8, c8, rfl, R8, S8⟩
        have S8 := hid (S7.out.trans S8)
        have R8 := hid R8
        go_wp2_with fail
        refine (R8.out.sames (AW6.out.same S8.out)).mono ?_
        rintro en w9 ⟨rfl, S9⟩
        have S9 := hid (S8.out.trans S9)
        by_cases hw : X.S.all = was
        · rw [decide_eq_true hw]
          clear hw
          go_wp2_with fail
          refine (M6.out.same S9.out).records.mono ?_
          rintro en wf ⟨af, cf, rfl, Rf, Sf⟩
          have Sf := hid (S9.out.trans Sf)
          have Rf := hid Rf
          go_wp2_with fail
          go_roundg (2 - (j + 1))
          case measure => have := HJ.out; omega
          case rel => exact ⟨j + 1, vb5, F5, X, X.state, X.state, X.S.all, X.S.all, by have := HJ.out; omega, by omega, by go_num, rfl, M6.out.same Sf.out, .inl ⟨rfl, rfl⟩, fun _ => ⟨rfl, rfl, rfl, rfl, rfl⟩, Y6.out.same Sf.out, Y6.out.same Sf.out, Rf.out, Rf.out⟩
        · rw [decide_eq_false hw]
          have h2 : Hid (X.state = stm ∧ X.S.all = mb) := by
            rcases hor.out with h | h
            · exact absurd h.2 hw
            · exact h
          clear hw
          go_wp2_with fail
          refine ((Y6.out.same S9.out).decs (AT6.out.same S9.out)).mono ?_
          rintro en w10 ⟨rfl, S10⟩
          have S10 := hid (S9.out.trans S10)
          rw [decide_eq_true h2.out.1]
          go_wp2_with fail
          refine (M6.out.same S10.out).records.mono ?_
          rintro en w11 ⟨a11, c11, rfl, R11, S11⟩
          have S11 := hid (S10.out.trans S11)
          have R11 := hid R11
          go_wp2_with fail
          refine (R11.out.sames (AM6.out.same S11.out)).mono ?_
          rintro en w12 ⟨rfl, S12⟩
          have S12 := hid (S11.out.trans S12)
          rw [decide_eq_true h2.out.2]
          go_wp2_with fail
          refine (M6.out.same S12.out).records.mono ?_
          rintro en wf ⟨af, cf, rfl, Rf, Sf⟩
          have Sf := hid (S12.out.trans Sf)
          have Rf := hid Rf
          go_wp2_with fail
          go_roundg (2 - (j + 1))
          case measure => have := HJ.out; omega
          case rel => exact ⟨j + 1, vb5, F5, X, X.state, X.state, X.S.all, X.S.all, by have := HJ.out; omega, by omega, by go_num, rfl, M6.out.same Sf.out, .inl ⟨rfl, rfl⟩, fun _ => ⟨rfl, rfl, rfl, rfl, rfl⟩, Y6.out.same Sf.out, Y6.out.same Sf.out, Rf.out, Rf.out⟩
      · rw [decide_eq_false hs]
        have h2 : Hid (X.state = stm ∧ X.S.all = mb) := by
          rcases hor.out with h | h
          · exact absurd h.1 hs
          · exact h
        clear hs
        go_wp2_with fail
        refine ((Y6.out.same S7.out).decs (AT6.out.same S7.out)).mono ?_
        rintro en w10 ⟨rfl, S10⟩
        have S10 := hid (S7.out.trans S10)
        rw [decide_eq_true h2.out.1]
        go_wp2_with fail
        refine (M6.out.same S10.out).records.mono ?_
        rintro en w11 ⟨a11, c11, rfl, R11, S11⟩
        have S11 := hid (S10.out.trans S11)
        have R11 := hid R11
        go_wp2_with fail
        refine (R11.out.sames (AM6.out.same S11.out)).mono ?_
        rintro en w12 ⟨rfl, S12⟩
        have S12 := hid (S11.out.trans S12)
        rw [decide_eq_true h2.out.2]
        go_wp2_with fail
        refine (M6.out.same S12.out).records.mono ?_
        rintro en wf ⟨af, cf, rfl, Rf, Sf⟩
        have Sf := hid (S12.out.trans Sf)
        have Rf := hid Rf
        go_wp2_with fail
        go_roundg (2 - (j + 1))
        case measure => have := HJ.out; omega
        case rel => exact ⟨j + 1, vb5, F5, X, X.state, X.state, X.S.all, X.S.all, by have := HJ.out; omega, by omega, by go_num, rfl, M6.out.same Sf.out, .inl ⟨rfl, rfl⟩, fun _ => ⟨rfl, rfl, rfl, rfl, rfl⟩, Y6.out.same Sf.out, Y6.out.same Sf.out, Rf.out, Rf.out⟩
end Go.Proofs.Ytlhnpicmjjddeaa
