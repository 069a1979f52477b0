/- DISK: Write on a drive: done, or torn. -/
import Derived.Test.YtlhnpicmjjddeaaDw2
namespace Go.Proofs.Ytlhnpicmjjddeaa
open Go.RowKit

/-- the drive in a write, k sectors done -/
def Dv.stage (D : Dv) (at_ : Nat) (ls : List (List UInt8)) (k : Nat) : Dv :=
  { D with C := landed D.C at_ ls D.keeps k, off := D.blown, left := if D.fused then D.left - 1 else D.left }
theorem Dv.stage_all (D : Dv) (at_ : Nat) (ls : List (List UInt8)) : D.stage at_ ls ls.length = D.wrote at_ ls := rfl
theorem Dv.stage_ok {D : Dv} (h : D.Ok) (ho : D.off = false) (at_ : Nat) (ls : List (List UInt8)) (hl : ∀ c ∈ ls, c.length = 96) (k : Nat) : (D.stage at_ ls k).Ok := by
  obtain ⟨h1, h2, h3, h4, h5, h6, h7⟩ := h
  have hb : D.blown = (D.fused && decide (D.left - 1 < 0)) := rfl
  have hlf : (D.stage at_ ls k).left = if D.fused then D.left - 1 else D.left := rfl
  refine ⟨?_, ?_, landed_96 h3 hl, ?_, ?_, ?_, h7⟩
  · show (landed ..).length ≤ _; rw [landed_length]; exact h1
  · show _ ≤ (landed ..).length; rw [landed_length]; exact h2
  · intro e f
    have f' : D.fused = true := f
    have e' : D.blown = false := e
    rw [hlf, if_pos f']
    rw [hb, f'] at e'
    simp at e'
    omega
  · rw [hlf]
    split
    · rename_i f; have := h4 ho f; omega
    · exact h5
  · rw [hlf]
    split <;> omega
theorem Rows2N.row {M : Nat → Prop} {w : World} {e : TypeId} {ao : Option Addr} {cap : Nat} {ls : List (List UInt8)} (h : Rows2N M w e (.slice ao ls.length cap) ls) (k : Nat) (hk : k < ls.length) :
    ∃ g o a c e', ao = some ⟨g, o, none⟩ ∧ w.cell? ⟨g, o + k, none⟩ = some (.slice a ls[k].length c) ∧ Bytes w e' (.slice a ls[k].length c) ls[k] := h.rows.row k hk
theorem keep5 {w w1 : World} {b : Nat} (h : Same w w1) (u : Value) : Keep (fun k => k = b) w (w1.setCell ⟨b, 5, none⟩ u) := (h.keep (fun k => k = b)).setCell (p := ⟨b, 5, none⟩) (.inl rfl) _
theorem Dc.set5 {w : World} {b : Nat} {off fused : Bool} {left n : Int} {kv cv : Value} (h : Dc w b off fused left kv cv n) (n' : Int) : Dc (w.setCell ⟨b, 5, none⟩ (.int .i64 n')) b off fused left kv cv n' := by
  obtain ⟨c0, c1, c2, c3, c4, c5⟩ := h
  have o : ∀ (i j : Nat) (W : World) (u : Value), i ≠ j → (W.setCell ⟨b, i, none⟩ u).cell? ⟨b, j, none⟩ = W.cell? ⟨b, j, none⟩ := fun i j W u hij => World.cell?_setCell_other _ _ _ _ (by simp [hij])
  refine ⟨?_, ?_, ?_, ?_, ?_, ?_⟩
  · rw [o _ _ _ _ (by decide)]; exact c0
  · rw [o _ _ _ _ (by decide)]; exact c1
  · rw [o _ _ _ _ (by decide)]; exact c2
  · rw [o _ _ _ _ (by decide)]; exact c3
  · rw [o _ _ _ _ (by decide)]; exact c4
  · exact World.cell?_setCell_same _ _ _ c5
theorem size5 : (Try.prog.info? 5).map (·.size) = some 1 := by kernel_rfl

/-- one sector more -/
theorem IsDv.next {w w' : World} {b cb : Nat} {F : Nat → Prop} {D : Dv} {at_ k : Nat} {ls : List (List UInt8)} {kv : Value} {n : Int} (hls : ∀ c ∈ ls, c.length = 96) (hk : k < ls.length) (hC : at_ + ls.length ≤ D.C.length)
    (hkeep : D.keeps k = true) (hok : D.Ok) (ho : D.off = false)
    (h1 : Dc w b D.blown D.fused (if D.fused then D.left - 1 else D.left) kv (.slice (some ⟨cb, 0, none⟩) D.C.length D.C.length) n) (h2 : Fz w b)
    (h4 : b ≠ cb) (h5 : F b) (h6 : F cb) (h7 : Ints w 3 kv D.keep) (h8 : ∀ g, homeOf kv = some g → F g ∧ g ≠ b ∧ g ≠ cb)
    (hg : w'.heap[cb]? = some (.cells (splice (flat (landed D.C at_ ls D.keeps k)) ((at_ + k) * 96) (ls[k].map u8)).toArray 143 (0, 0))) (K : Keep (fun i => i = cb) w w') :
    IsDv w' (.pointer (some ⟨b, 0, none⟩)) F (D.stage at_ ls (k + 1)) := by
  have hl : (D.stage at_ ls (k + 1)).C.length = D.C.length := landed_length ..
  refine ⟨b, cb, kv, n, rfl, ?_, h2.keep K h4, ?_, h4, h5, h6, Sl.keep h7 K fun g hg => (h8 g hg).2.2, h8, D.stage_ok hok ho at_ ls hls _⟩
  · rw [hl]; exact h1.keep K h4
  · rw [hg]
    show _ = some (Obj.cells (flat (landed D.C at_ ls D.keeps (k + 1))).toArray 143 (0, 0))
    rw [landed_succ_yes _ _ _ _ _ hk hC hkeep, flat_splice _ (landed_96 hok.2.2.1 hls) _ _ (by rw [landed_length]; omega) (hls _ (List.getElem_mem hk))]

set_option maxHeartbeats 3200000 in
set_option maxRecDepth 100000 in
theorem dWriteGo (w : World) (p : Value) (F : Nat → Prop) (D : Dv) (at_ : Int) (e : TypeId) (v : Value) (ls : List (List UInt8)) (hD : IsDv w p F D) (hR : Rows2N F w e v ls) (ho : D.off = false) (hb : D.bad at_ ls = false) (hne : ls ≠ []) :
    Calls Try.prog 34 #[p, .int .i64 at_, v] w (RetDv (D.write at_ ls) p F w) := by
  have HW : Hid (D.write at_ ls = (if D.blown then 9 else 0, D.wrote at_ ls)) := by show _ = _; unfold Dv.write; rw [ho, if_neg (by simp), if_neg (by simp [hb]), if_neg hne]
  have HO := hid hD.ok
  have hok := hD.ok.1
  have Ho := hid ho
  have hn0 : 0 < ls.length := List.length_pos_iff.2 hne
  obtain ⟨b, cb, kv, n, rfl, h1, h2, h3, h4, h5, h6, h7, h8, h9⟩ := hD
  have HR := hid (dReady w b _ _ _ _ _ _ _ _ h1)
  rw [ho] at HR h1
  have HN := hid hR
  obtain ⟨ao, cap, rfl, f1, f2⟩ := hR.rows.form
  unfold maxLen at f2
  have g : ¬ at_ < 0 ∧ ¬ (D.C.length : Int) < at_ ∧ ¬ ((D.C.length : Int) - at_ < ls.length) ∧ ls.any isLong = false := by
    unfold Dv.bad at hb
    simp at hb
    exact ⟨by omega, by omega, by omega, by simpa using hb.2.2.2⟩
  have HC : Hid (∀ w', Same w w' → Calls Try.prog 88 #[.slice ao ls.length cap, .func (.func 89) #[] #[]] w' (RetSame (.bool false) w')) := fun w' S => by
    have := dContainsFunc w' e _ ls (hR.rows.same S)
    rwa [g.2.2.2] at this
  have h96 : ∀ c ∈ ls, c.length = 96 := by
    intro c hc
    have := List.any_eq_false.1 g.2.2.2 c hc
    unfold isLong at this
    simpa using this
  have H96 := hid h96
  obtain ⟨at_, rfl⟩ := Int.eq_ofNat_of_zero_le (a := at_) (by omega)
  have g1' : decide ((at_ : Int) < 0) = false := by simp
  have g2' : decide (D.C.length < at_) = false := by simpa using g.2.1
  have g3' : decide ((D.C.length : Int) - at_ < ls.length) = false := by simpa using g.2.2.1
  have g4 : at_ + ls.length ≤ D.C.length := by omega
  have H1 := hid h1
  have H2 := hid h2
  have H3 := hid h3
  have H7 := hid h7
  have H8 := hid h8
  have HF := hid (And.intro h4 (And.intro h5 h6))
  clear ho h1 hb g hR h96 h2 h3 h4 h5 h6 h7 h8 h9 hne
  go_enter Try.func34, Try.ntmps34
  go_wp2_with fail
  refine HR.out.mono ?_
  rintro en w1 ⟨rfl, S1⟩
  obtain ⟨c0, c1, c2, c3, c4, c5⟩ := H1.out.same S1
  go_wp2_with fail
  refine (HC.out _ S1).mono ?_
  rintro en w2 ⟨rfl, S2⟩
  have S := S1.trans S2
  clear S1 S2 c0 c1 c2 c3 c4 c5
  obtain ⟨c0, c1, c2, c3, c4, c5⟩ := H1.out.same S
  have z := H2.out.same S
  have z5 := z.2 5
  go_wp2_with fail
  have S5 := keep5 S (b := b) (.int .i64 (wrap64 (n + 1)))
  have D5 := (H1.out.same S).set5 (wrap64 (n + 1))
  have z5' := z.set ⟨b, 5, none⟩ (.int .i64 (wrap64 (n + 1)))
  clear c0 c1 c2 c3 c4 c5 z z5
  have HB := dBlows _ b _ _ _ _ _ D5 z5'.2 (fun e => by have := HO.out.2.2.2.1 Ho.out e; have := HO.out.2.2.2.2.2; omega)
  refine HB.mono ?_
  rintro en w3 ⟨rfl, S3, D3, Z3⟩
  have Z3 := hid (show Fz w3 b from ⟨by have := S3.size; have := z5'.1; omega, Z3⟩)
  have K3 := hid (Keep.trans S5 S3)
  have DB : (D.fused && decide (D.left - 1 < 0)) = D.blown := rfl
  rw [DB] at D3 ⊢
  have D3 := hid D3
  have HK : Hid (∀ i, D.keeps i = (!D.blown || hasInt D.keep i)) := fun i => rfl
  have HCt := hid dContains
  have HS : Hid (∀ wr k, Keep F w wr → IsDv wr (.pointer (some ⟨b, 0, none⟩)) F (D.stage at_ ls k) → True) := fun _ _ _ _ => trivial
  have HI : Hid (IsDv w3 (.pointer (some ⟨b, 0, none⟩)) F (D.stage at_ ls 0) ∧ Keep F w w3) := by
    have K := K3.out
    refine ⟨⟨b, cb, kv, wrap64 (n + 1), rfl, ?_, Z3.out, ?_, HF.out.1, HF.out.2.1, HF.out.2.2, Sl.keep H7.out K fun g hg => (H8.out g hg).2.1, H8.out, D.stage_ok HO.out Ho.out at_ ls H96.out 0⟩, K.weak fun k _ e => by subst e; exact HF.out.2.1⟩
    · have : (D.stage at_ ls 0).C.length = D.C.length := landed_length ..
      rw [this]
      exact D3.out
    · rw [K.block cb (Array.getElem?_eq_some_iff.1 H3.out).1 (fun e => HF.out.1 e.symm)]
      show _ = some (Obj.cells (flat (landed D.C at_ ls D.keeps 0)).toArray 143 (0, 0))
      rw [landed_zero]
      exact H3.out
  clear HB D5 z5' S5 S3 Z3 K3 D3 H1 H2 H3 H7 H8 HC HR
  have HN := hid (fun wr (K : Keep F w wr) => (HN.out.keep K))
  have HD := hid (fun wr k (h : IsDv wr (.pointer (some ⟨b, 0, none⟩)) F (D.stage at_ ls k)) => h)
  cases hB : D.blown
  · have HBl := hid hB
    have HKt : Hid (∀ i, D.keeps i = true) := fun i => by rw [HK.out, hB]; rfl
    clear hB
    go_wp2_with fail
    go_loopw [59] (fun i wr => ∃ k : Nat, k ≤ ls.length ∧ i = .int .i64 k ∧ IsDv wr (.pointer (some ⟨b, 0, none⟩)) F (D.stage at_ ls k) ∧ Keep F w wr) (fun i _ => ls.length - (intOf i).toNat)
    case atStart => exact ⟨0, Nat.zero_le _, rfl, HI.out⟩
    case round =>
      obtain ⟨k, hk, rfl, hd, K⟩ := hrel
      by_cases hlt : k < ls.length
      · have HKw := hid K
        have HD0 := hid hd
        clear K
        obtain ⟨b', cb', kv', n', e1, h1, h2, h3, h4, h5, h6, h7, h8, h9⟩ := hd
        obtain rfl : b = b' := by simpa using e1
        have hl : (D.stage at_ ls k).C.length = D.C.length := landed_length ..
        rw [hl] at h1
        have H3 := hid h3
        obtain ⟨ak, ck, rfl, _, _⟩ := h7.form
        obtain ⟨c0, c1, c2, c3, c4, c5⟩ := id h1
        obtain ⟨g, o, a, c, e', rfl, hcell, hby⟩ := (HN.out _ HKw.out).row k hlt
        have h96 : ls[k].length = 96 := H96.out _ (List.getElem_mem hlt)
        have HBy := hid hby
        have HFl : Hid ((flat (D.stage at_ ls k).C).length = D.C.length * 96) := by
          show _ = _
          unfold flat
          rw [List.length_map, flat_length _ h9.2.2.1, hl]
        have HT : Hid (ls[k].take 96 = ls[k]) := List.take_of_length_le (by omega)
        have HX : Hid (∀ wz, Hid (wz.heap[cb']? = some (.cells (splice (flat (D.stage at_ ls k).C) ((at_ + k) * 96) ((ls[k].take 96).map u8)).toArray 143 (0, 0))) → Keep (fun i => i = cb') wr wz → IsDv wz (.pointer (some ⟨b, 0, none⟩)) F (D.stage at_ ls (k + 1)) ∧ Keep F w wz) := by
          intro wz hg Kz
          rw [HT.out] at hg
          exact ⟨IsDv.next H96.out hlt g4 (HKt.out k) HO.out Ho.out (h1) (h2) h4 h5 h6 (h7) h8 hg Kz, HKw.out.trans (Kz.weak fun i _ e => by subst e; exact h6)⟩
        clear h1 h2 h3 h4 h5 h6 h7 h8 h9 hl hby h96 e1
        go_wp2_with (refine wpList_copy_keep rfl (.tmp 83) (.tmp 84) 23 rfl Try.underlying23 size5 HBy.out (g := cb') (off := (at_ + k) * 96) (dLen := 96) (dCap := 96) rfl rfl H3.out (by rw [HFl.out]; omega) ?_; intro w4 HG4 K4)
        go_roundw
        case rel => exact ⟨k + 1, by omega, by go_num, HX.out _ HG4 K4⟩
        case measure => simp [intOf]; omega
      · obtain rfl : k = ls.length := by omega
        have HE := hid hd
        have HKw := hid K
        clear K hd
        go_wp2_with fail
        go_ret
        rw [HW.out, HBl.out]
        exact ⟨rfl, HKw.out, by rw [← D.stage_all]; exact HE.out⟩
  · have HBl := hid hB
    have HKt : Hid (∀ i, D.keeps i = hasInt D.keep i) := fun i => by rw [HK.out, hB]; rfl
    clear hB
    go_wp2_with fail
    go_loopw [59] (fun i wr => ∃ k : Nat, k ≤ ls.length ∧ i = .int .i64 k ∧ IsDv wr (.pointer (some ⟨b, 0, none⟩)) F (D.stage at_ ls k) ∧ Keep F w wr) (fun i _ => ls.length - (intOf i).toNat)
    case atStart => exact ⟨0, Nat.zero_le _, rfl, HI.out⟩
    case round =>
      obtain ⟨k, hk, rfl, hd, K⟩ := hrel
      by_cases hlt : k < ls.length
      · have HKw := hid K
        have HD0 := hid hd
        clear K
        obtain ⟨b', cb', kv', n', e1, h1, h2, h3, h4, h5, h6, h7, h8, h9⟩ := hd
        obtain rfl : b = b' := by simpa using e1
        have hl : (D.stage at_ ls k).C.length = D.C.length := landed_length ..
        rw [hl] at h1
        have H3 := hid h3
        obtain ⟨ak, ck, rfl, _, _⟩ := h7.form
        obtain ⟨c0, c1, c2, c3, c4, c5⟩ := id h1
        obtain ⟨g, o, a, c, e', rfl, hcell, hby⟩ := (HN.out _ HKw.out).row k hlt
        have h96 : ls[k].length = 96 := H96.out _ (List.getElem_mem hlt)
        have HBy := hid hby
        have HFl : Hid ((flat (D.stage at_ ls k).C).length = D.C.length * 96) := by
          show _ = _
          unfold flat
          rw [List.length_map, flat_length _ h9.2.2.1, hl]
        have HT : Hid (ls[k].take 96 = ls[k]) := List.take_of_length_le (by omega)
        have HCk := hid (HCt.out wr 3 _ _ (k : Int) h7)
        have HCe : Hid (D.keeps k = ((D.stage at_ ls k).keep.any fun x => (k : Int) == x)) := HKt.out k
        have HP := hid (And.intro h1 (And.intro h2 (And.intro h3 (And.intro h4 (And.intro h5 (And.intro h6 (And.intro h7 (And.intro h8 h9))))))))
        clear h1 h2 h3 h4 h5 h6 h7 h8 h9 hl hby h96 e1
        cases hq : (D.stage at_ ls k).keep.any fun x => (k : Int) == x
        · rw [hq] at HCk HCe
          clear hq
          generalize (D.stage at_ ls k).keep.length = nk at *
          go_wp2_with fail
          refine HCk.out.mono ?_
          rintro en w5 ⟨rfl, S1⟩
          have HX : Hid (IsDv w5 (.pointer (some ⟨b, 0, none⟩)) F (D.stage at_ ls (k + 1)) ∧ Keep F w w5) := by
            have e : D.stage at_ ls (k + 1) = D.stage at_ ls k := by unfold Dv.stage; rw [landed_succ_no _ _ _ _ _ HCe.out]
            rw [e]
            exact ⟨HD0.out.same S1, HKw.out.same S1⟩
          go_wp2_with fail
          go_roundw
          case rel => exact ⟨k + 1, by omega, by go_num, HX.out⟩
          case measure => simp [intOf]; omega
        · rw [hq] at HCk HCe
          clear hq
          generalize (D.stage at_ ls k).keep.length = nk at *
          go_wp2_with fail
          refine HCk.out.mono ?_
          rintro en w5 ⟨rfl, S1⟩
          obtain ⟨h1, h2, h3, h4, h5, h6, h7, h8, h9⟩ := HP.out
          have HX : Hid (∀ wz, Hid (wz.heap[cb']? = some (.cells (splice (flat (D.stage at_ ls k).C) ((at_ + k) * 96) ((ls[k].take 96).map u8)).toArray 143 (0, 0))) → Keep (fun i => i = cb') w5 wz → IsDv wz (.pointer (some ⟨b, 0, none⟩)) F (D.stage at_ ls (k + 1)) ∧ Keep F w wz) := by
            intro wz hg Kz
            rw [HT.out] at hg
            exact ⟨IsDv.next H96.out hlt g4 HCe.out HO.out Ho.out (h1.same S1) (h2.same S1) h4 h5 h6 (h7.same S1) h8 hg Kz, (HKw.out.same S1).trans (Kz.weak fun i _ e => by subst e; exact h6)⟩
          have HBy1 := hid (HBy.out.same S1)
          have H3' := hid ((S1.block cb' (Array.getElem?_eq_some_iff.1 h3).1 fun x => x).trans h3)
          clear c0 c1 c2 c3 c4 c5
          obtain ⟨c0, c1, c2, c3, c4, c5⟩ := h1.same S1
          clear h1 h2 h3 h4 h5 h6 h7 h8 h9
          go_wp2_with (refine wpList_copy_keep rfl (.tmp 83) (.tmp 84) 23 rfl Try.underlying23 size5 HBy1.out (g := cb') (off := (at_ + k) * 96) (dLen := 96) (dCap := 96) rfl rfl H3'.out (by rw [HFl.out]; omega) ?_; intro w4 HG4 K4)
          go_roundw
          case rel => exact ⟨k + 1, by omega, by go_num, HX.out _ HG4 K4⟩
          case measure => simp [intOf]; omega
      · obtain rfl : k = ls.length := by omega
        have HE := hid hd
        have HKw := hid K
        clear K hd
        go_wp2_with fail
        go_ret
        rw [HW.out, HBl.out]
        exact ⟨rfl, HKw.out, by rw [← D.stage_all]; exact HE.out⟩

/-- Write on a live or dead drive. -/
theorem dWrite (w : World) (p : Value) (F : Nat → Prop) (D : Dv) (at_ : Int) (e : TypeId) (v : Value) (ls : List (List UInt8)) (hD : IsDv w p F D) (hR : Rows2N F w e v ls) :
    Calls Try.prog 34 #[p, .int .i64 at_, v] w (RetDv (D.write at_ ls) p F w) := by
  cases ho : D.off
  · cases hb : D.bad at_ ls
    · by_cases hne : ls = []
      · subst hne; exact dWriteNone w p F D at_ e v hD hR ho hb
      · exact dWriteGo w p F D at_ e v ls hD hR ho hb hne
    · exact dWriteBad w p F D at_ e v ls hD hR ho hb
  · exact dWriteOff w p F D at_ v ls hD ho
end Go.Proofs.Ytlhnpicmjjddeaa
