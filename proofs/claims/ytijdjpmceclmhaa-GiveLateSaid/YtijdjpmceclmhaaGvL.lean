/- GIVE: the walk of GiveLate. -/
import Derived.Test.YtijdjpmceclmhaaGv6
import Derived.Deep.RegionHeld3
namespace Go.Proofs.Ytijdjpmceclmhaa
open Go.RowKit

/-! the plain law -/
theorem ids_nodup {L : List Gv} (hr : rising L) : (L.map Gv.id).Nodup := by
  rw [List.nodup_iff_pairwise_ne, List.pairwise_iff_getElem]
  intro i j hi hj hij
  simp only [List.getElem_map]
  rw [hr i (by simpa using hi), hr j (by simpa using hj)]
  omega
theorem sel_nodup {L : List Gv} (hr : rising L) (p : Gv → Bool) : (sel L p).Nodup :=
  (ids_nodup hr).sublist (List.Sublist.map _ List.filter_sublist)
theorem sel_mem {L : List Gv} {p : Gv → Bool} {id : Int} (h : id ∈ sel L p) : ∃ k, ∃ hk : k < L.length, L[k].id = id ∧ L[k].state = 1 ∧ p L[k] = true := by
  unfold sel at h
  obtain ⟨g, hg, rfl⟩ := List.mem_map.1 h
  obtain ⟨hg, hq⟩ := List.mem_filter.1 hg
  obtain ⟨k, hk, rfl⟩ := List.mem_iff_getElem.1 hg
  simp only [Bool.and_eq_true, beq_iff_eq] at hq
  exact ⟨k, hk, rfl, hq.1, hq.2⟩
theorem mem_sel {L : List Gv} {p : Gv → Bool} {k : Nat} (hk : k < L.length) (h1 : L[k].state = 1) (h2 : p L[k] = true) : L[k].id ∈ sel L p := by
  unfold sel
  refine List.mem_map.2 ⟨L[k], List.mem_filter.2 ⟨List.getElem_mem hk, ?_⟩, rfl⟩
  simp [h1, h2]
/-- the first j of these have expired -/
def gone (L N : List Gv) (S : List Int) : Prop := N.length = L.length ∧ ∀ k (h : k < L.length) (h' : k < N.length), (L[k].id ∈ S → N[k] = L[k].to 5) ∧ (L[k].id ∉ S → N[k] = L[k])
theorem gone_rising {L N : List Gv} {S : List Int} (hr : rising L) (h : gone L N S) : rising N := by
  intro k hk
  have hk' : k < L.length := by rw [← h.1]; exact hk
  by_cases hm : L[k].id ∈ S
  · rw [(h.2 k hk' hk).1 hm]; exact hr k hk'
  · rw [(h.2 k hk' hk).2 hm]; exact hr k hk'
theorem fnd_rising {L : List Gv} (hr : rising L) (k : Nat) (hk : k < L.length) : fnd L L[k].id = k := by
  have h1 : fnd L L[k].id < L.length := by
    unfold fnd
    exact List.findIdx_lt_length_of_exists ⟨L[k], List.getElem_mem hk, by simp⟩
  have h2 := List.findIdx_getElem (p := fun g : Gv => g.id == L[k].id) (w := h1)
  have h3 : (L[fnd L L[k].id]'h1).id = L[k].id := beq_iff_eq.1 h2
  have a := hr _ h1
  have b := hr k hk
  omega
theorem gone_step {L N : List Gv} {p : Gv → Bool} (hr : rising L) (j : Nat) (hj : j < (sel L p).length) (h : gone L N ((sel L p).take j)) :
    turnErr N (sel L p)[j] 5 = 0 ∧ gone L (turned N (sel L p)[j] 5) ((sel L p).take (j + 1)) := by
  obtain ⟨k, hk, hid, hst, hp⟩ := sel_mem (List.getElem_mem hj)
  have hkN : k < N.length := by rw [h.1]; exact hk
  have hnot : (sel L p)[j] ∉ (sel L p).take j := by
    intro hm
    obtain ⟨i, hi, hie⟩ := List.mem_iff_getElem.1 hm
    have hi2 : i < j := by rw [List.length_take] at hi; omega
    have hnd := sel_nodup hr p
    rw [List.nodup_iff_pairwise_ne, List.pairwise_iff_getElem] at hnd
    rw [List.getElem_take] at hie
    exact hnd i j (by omega) hj hi2 hie
  have hN : N[k] = L[k] := (h.2 k hk hkN).2 (by rw [hid]; exact hnot)
  have hf : fnd N (sel L p)[j] = k := by
    have := fnd_rising (gone_rising hr h) k hkN
    rw [hN, hid] at this
    exact this
  constructor
  · unfold turnErr
    rw [hf, if_neg (by omega), if_neg (by omega), List.getElem?_eq_getElem hkN, hN]
    simp [hst]
  · refine ⟨by rw [turned_length]; exact h.1, fun i hi hi' => ?_⟩
    have hiN : i < N.length := by rw [h.1]; exact hi
    rw [turned_at N _ _ i hiN hi', hf, List.take_succ_eq_append_getElem hj]
    by_cases e : k = i
    · subst e
      rw [if_pos rfl, hN]
      exact ⟨fun _ => rfl, fun hm => absurd (List.mem_append.2 (.inr (by rw [hid]; exact List.mem_singleton.2 rfl))) hm⟩
    · rw [if_neg e]
      have hne : L[i].id ≠ (sel L p)[j] := by rw [← hid, hr i hi, hr k hk]; omega
      have hiff : L[i].id ∈ (sel L p).take j ++ [(sel L p)[j]] ↔ L[i].id ∈ (sel L p).take j := by
        simp only [List.mem_append, List.mem_singleton, hne, or_false]
      rw [hiff]
      exact h.2 i hi hiN
theorem gone_end {L N : List Gv} {p : Gv → Bool} (hr : rising L) (h : gone L N (sel L p)) : ∀ k (hk : k < L.length) (hk' : k < N.length),
    ((L[k].state == 1 && p L[k]) = true ∧ L[k].state = 1 ∧ N[k] = L[k].to 5) ∨ ((L[k].state == 1 && p L[k]) = false ∧ N[k] = L[k]) := by
  intro k hk hk'
  by_cases hq : (L[k].state == 1 && p L[k]) = true
  · simp only [Bool.and_eq_true, beq_iff_eq] at hq
    exact .inl ⟨by simp [hq.1, hq.2], hq.1, (h.2 k hk hk').1 (mem_sel hk hq.1 hq.2)⟩
  · refine .inr ⟨by simpa using hq, (h.2 k hk hk').2 fun hm => ?_⟩
    obtain ⟨i, hi, hid, h1, h2⟩ := sel_mem hm
    have : i = k := by rw [hr i hi, hr k hk] at hid; omega
    subst this
    exact hq (by simp [h1, h2])
theorem gone_none {L N : List Gv} {p : Gv → Bool} (hr : rising L) (h : gone L N (sel L p)) : sel N p = [] := by
  rw [List.eq_nil_iff_forall_not_mem]
  intro id hm
  obtain ⟨k, hk, _, h1, h2⟩ := sel_mem hm
  have hkL : k < L.length := by rw [← h.1]; exact hk
  rcases gone_end hr h k hkL hk with ⟨_, _, e⟩ | ⟨hq, e⟩
  · rw [e] at h1
    cases h1
  · rw [e] at h1 h2
    rw [h1, h2] at hq
    cases hq

theorem Ds.rows {w : World} {e : TypeId} {ao : Option Addr} {cap : Nat} {L : List Dv} (h : Ds w e (.slice ao L.length cap) L) (k : Nat) (hk : k < L.length) :
    ∃ g o, ao = some ⟨g, o, none⟩ ∧ ∀ wq, Same w wq → Cells15 wq g (o + k * 15) L[k] := by
  obtain ⟨g, o, rfl, _⟩ := h.row k hk
  refine ⟨g, o, rfl, fun wq S => ?_⟩
  obtain ⟨g', o', e', c⟩ := (h.same S).row k hk
  cases e'
  exact c

set_option maxHeartbeats 32000000 in
set_option maxRecDepth 100000 in
theorem giveLateWalk (w : World) (e : TypeId) (v : Value) (D : List Dv) (day : Int) (hD : Ds w e v D) :
    Calls Try.prog 4 #[v, .int .i64 day] w (RetSame (.bool true) w) := by
  obtain ⟨ao, cap, rfl, h1, h2⟩ := hD.form
  unfold maxLen at h2
  have HV := hid giveLives
  go_enter Try.func4, Try.ntmps4
  go_wp2_with fail
  go_loopw [5, 6] (fun all i wr => ∃ k : Nat, ∃ L : List Gv, k ≤ D.length ∧ i = .int .i64 k ∧ Gs wr all L ∧ rising L ∧ L.length ≤ 64 ∧ Same w wr) (fun _ i _ => D.length - (intOf i).toNat)
  case atStart => exact ⟨0, [], Nat.zero_le _, rfl, Gs.nil _, rising_nil, Nat.zero_le _, Same.refl w⟩
  case round =>
    obtain ⟨k, L, hk, rfl, hL, hr, hl, S⟩ := hrel
    by_cases hlt : k < D.length ∧ k < 90
    · obtain ⟨hlt, h90⟩ := hlt
      obtain ⟨g, o, rfl, hC⟩ := hD.rows k hlt
      obtain ⟨c0, c1, c2, c3, c4, c5, c6, c7, c8, c9, c10, c11, c12, c13, c14⟩ := hC _ S
      have HC := hid hC
      clear hC
      generalize D[k] = d at *
      have HR := hid hr; clear hr
      obtain ⟨al, cl, rfl, k1, k2⟩ := hL.form
      unfold maxLen at k2
      go_wp2_with fail
      by_cases he : newErr L d.g d.day = 0
      · have HT := hid (giveNew_ok · · L d.g d.day · HR.out he)
        have HO := hid (ok_new L d.g d.day HR.out he)
        unfold aggG at HT
        clear he
        clear HR
        generalize L ++ [newOne L d.g d.day] = L2 at *
        go_region_held3 (fun w' => w'.cell? ⟨g, o + k * 15 + 1, none⟩ = some (.int .i64 d.day) ∧ w'.cell? ⟨g, o + k * 15 + 4, none⟩ = some (.int .i64 d.g.id) ∧ w'.cell? ⟨g, o + k * 15 + 5, none⟩ = some (.int .i64 d.g.fa) ∧ w'.cell? ⟨g, o + k * 15 + 6, none⟩ = some (.int .i64 d.g.fc) ∧ w'.cell? ⟨g, o + k * 15 + 7, none⟩ = some (.int .i64 d.g.ta) ∧ w'.cell? ⟨g, o + k * 15 + 8, none⟩ = some (.int .i64 d.g.tc) ∧ w'.cell? ⟨g, o + k * 15 + 9, none⟩ = some (.int .i64 d.g.inst) ∧ w'.cell? ⟨g, o + k * 15 + 10, none⟩ = some (.int .i64 d.g.qty) ∧ w'.cell? ⟨g, o + k * 15 + 11, none⟩ = some (.int .i64 d.g.price) ∧ w'.cell? ⟨g, o + k * 15 + 12, none⟩ = some (.int .i64 d.g.group) ∧ w'.cell? ⟨g, o + k * 15 + 13, none⟩ = some (.int .i64 d.g.day) ∧ w'.cell? ⟨g, o + k * 15 + 14, none⟩ = some (.int .i64 d.g.state)) (first | exact ⟨by assumption, by assumption, by assumption, by assumption, by assumption, by assumption, by assumption, by assumption, by assumption, by assumption, by assumption, by assumption⟩) (first | (go_at_call 6; refine (HT.out _ _ (hL.same (Same.refl _).drew)).mono ?_; rintro en w1 ⟨v1, rfl, g1, S1⟩; have T := (Same.refl wr).drew.trans S1; obtain ⟨m0, m1, m2, m3, m4, m5, m6, m7, m8, m9, m10, m11, m12, m13, m14⟩ := HC.out _ (S.trans T)))
        have HR := hid HO.out.1
        have hl2 := HO.out.2.2.1
        clear HO
        clear HT
        have S2 := S.trans T
        go_wp2_with fail
        by_cases he2 : turnErr L2 d.id d.state = 0
        · have HT := hid (giveTurn_ok · · L2 d.id d.state · hl2 he2)
          have HO := hid (ok_turn L2 d.id d.state HR.out hl2 he2)
          clear he2
          generalize turned L2 d.id d.state = L3 at *
          go_region_held3 (fun w' => w'.cell? ⟨g, o + k * 15 + 2, none⟩ = some (.int .i64 d.id) ∧ w'.cell? ⟨g, o + k * 15 + 3, none⟩ = some (.int .i64 d.state)) (first | exact ⟨by assumption, by assumption⟩) (first | (go_at_call 7; refine (HT.out _ _ (g1.same (Same.refl _).drew)).mono ?_; rintro en w2 ⟨v2, rfl, g2, Sz⟩; have T2 := (Same.refl w1).drew.trans Sz; obtain ⟨n0, n1, n2, n3, n4, n5, n6, n7, n8, n9, n10, n11, n12, n13, n14⟩ := HC.out _ (S2.trans T2)))
          cases hk1 : d.kind == 1
          · go_wp2_with fail
            go_roundw
            case rel => exact ⟨k + 1, L2, by omega, by go_num, g1.same T2, HR.out, hl2, S2.trans T2⟩
            case measure => simp [intOf]; omega
          · go_wp2_with fail
            go_roundw
            case rel => exact ⟨k + 1, L3, by omega, by go_num, g2, HO.out.1, HO.out.2.2.1, S2.trans T2⟩
            case measure => simp [intOf]; omega
        · have HT := hid (giveTurn_err · · L2 d.id d.state · he2)
          have hne2 : (turnErr L2 d.id d.state == 0) = false := by simpa using he2
          clear he2
          generalize turnErr L2 d.id d.state = er2 at *
          go_region_held3 (fun w' => w'.cell? ⟨g, o + k * 15 + 2, none⟩ = some (.int .i64 d.id) ∧ w'.cell? ⟨g, o + k * 15 + 3, none⟩ = some (.int .i64 d.state)) (first | exact ⟨by assumption, by assumption⟩) (first | (go_at_call 7; refine (HT.out _ _ (g1.same (Same.refl _).drew)).mono ?_; rintro en w2 ⟨v2, rfl, g2, Sz⟩; have T2 := (Same.refl w1).drew.trans Sz; obtain ⟨n0, n1, n2, n3, n4, n5, n6, n7, n8, n9, n10, n11, n12, n13, n14⟩ := HC.out _ (S2.trans T2)))
          go_wp2_with fail
          go_roundw
          case rel => exact ⟨k + 1, L2, by omega, by go_num, g1.same T2, HR.out, hl2, S2.trans T2⟩
          case measure => simp [intOf]; omega
      · have HT := hid (giveNew_err · · L d.g d.day · he)
        unfold aggG at HT
        have hne : (newErr L d.g d.day == 0) = false := by simpa using he
        clear he
        generalize newErr L d.g d.day = er at *
        go_region_held3 (fun w' => w'.cell? ⟨g, o + k * 15 + 1, none⟩ = some (.int .i64 d.day) ∧ w'.cell? ⟨g, o + k * 15 + 4, none⟩ = some (.int .i64 d.g.id) ∧ w'.cell? ⟨g, o + k * 15 + 5, none⟩ = some (.int .i64 d.g.fa) ∧ w'.cell? ⟨g, o + k * 15 + 6, none⟩ = some (.int .i64 d.g.fc) ∧ w'.cell? ⟨g, o + k * 15 + 7, none⟩ = some (.int .i64 d.g.ta) ∧ w'.cell? ⟨g, o + k * 15 + 8, none⟩ = some (.int .i64 d.g.tc) ∧ w'.cell? ⟨g, o + k * 15 + 9, none⟩ = some (.int .i64 d.g.inst) ∧ w'.cell? ⟨g, o + k * 15 + 10, none⟩ = some (.int .i64 d.g.qty) ∧ w'.cell? ⟨g, o + k * 15 + 11, none⟩ = some (.int .i64 d.g.price) ∧ w'.cell? ⟨g, o + k * 15 + 12, none⟩ = some (.int .i64 d.g.group) ∧ w'.cell? ⟨g, o + k * 15 + 13, none⟩ = some (.int .i64 d.g.day) ∧ w'.cell? ⟨g, o + k * 15 + 14, none⟩ = some (.int .i64 d.g.state)) (first | exact ⟨by assumption, by assumption, by assumption, by assumption, by assumption, by assumption, by assumption, by assumption, by assumption, by assumption, by assumption, by assumption⟩) (first | (go_at_call 6; refine (HT.out _ _ (hL.same (Same.refl _).drew)).mono ?_; rintro en w1 ⟨v1, rfl, g1, S1⟩; have T := (Same.refl wr).drew.trans S1; obtain ⟨m0, m1, m2, m3, m4, m5, m6, m7, m8, m9, m10, m11, m12, m13, m14⟩ := HC.out _ (S.trans T)))
        have hl2 := hl
        have g1' := hL.same T
        obtain rfl := g1.2 rfl
        clear HT
        have S2 := S.trans T
        go_wp2_with fail
        by_cases he2 : turnErr L d.id d.state = 0
        · have HT := hid (giveTurn_ok · · L d.id d.state · hl2 he2)
          have HO := hid (ok_turn L d.id d.state HR.out hl2 he2)
          clear he2
          generalize turned L d.id d.state = L3 at *
          go_region_held3 (fun w' => w'.cell? ⟨g, o + k * 15 + 2, none⟩ = some (.int .i64 d.id) ∧ w'.cell? ⟨g, o + k * 15 + 3, none⟩ = some (.int .i64 d.state)) (first | exact ⟨by assumption, by assumption⟩) (first | (go_at_call 7; refine (HT.out _ _ (g1'.same (Same.refl _).drew)).mono ?_; rintro en w2 ⟨v2, rfl, g2, Sz⟩; have T2 := (Same.refl w1).drew.trans Sz; obtain ⟨n0, n1, n2, n3, n4, n5, n6, n7, n8, n9, n10, n11, n12, n13, n14⟩ := HC.out _ (S2.trans T2)))
          cases hk1 : d.kind == 1
          · go_wp2_with fail
            go_roundw
            case rel => exact ⟨k + 1, L, by omega, by go_num, g1'.same T2, HR.out, hl2, S2.trans T2⟩
            case measure => simp [intOf]; omega
          · go_wp2_with fail
            go_roundw
            case rel => exact ⟨k + 1, L3, by omega, by go_num, g2, HO.out.1, HO.out.2.2.1, S2.trans T2⟩
            case measure => simp [intOf]; omega
        · have HT := hid (giveTurn_err · · L d.id d.state · he2)
          have hne2 : (turnErr L d.id d.state == 0) = false := by simpa using he2
          clear he2
          generalize turnErr L d.id d.state = er2 at *
          go_region_held3 (fun w' => w'.cell? ⟨g, o + k * 15 + 2, none⟩ = some (.int .i64 d.id) ∧ w'.cell? ⟨g, o + k * 15 + 3, none⟩ = some (.int .i64 d.state)) (first | exact ⟨by assumption, by assumption⟩) (first | (go_at_call 7; refine (HT.out _ _ (g1'.same (Same.refl _).drew)).mono ?_; rintro en w2 ⟨v2, rfl, g2, Sz⟩; have T2 := (Same.refl w1).drew.trans Sz; obtain ⟨n0, n1, n2, n3, n4, n5, n6, n7, n8, n9, n10, n11, n12, n13, n14⟩ := HC.out _ (S2.trans T2)))
          go_wp2_with fail
          go_roundw
          case rel => exact ⟨k + 1, L, by omega, by go_num, g1'.same T2, HR.out, hl2, S2.trans T2⟩
          case measure => simp [intOf]; omega
    · obtain ⟨ids, HP, HG, HE, HX⟩ : ∃ ids : List Int, (∀ wz vz, Gs wz vz L → Calls Try.prog 9 #[vz, .int .i64 day] wz fun en w' => ∃ v, en = .returned v ∧ Ints w' 3 v ids ∧ Same wz w') ∧
          (∀ N j (hj : j < ids.length), gone L N (ids.take j) → turnErr N ids[j] 5 = 0 ∧ gone L (turned N ids[j] 5) (ids.take (j + 1))) ∧
          (∀ N, gone L N ids → ∀ k (hk : k < L.length) (hk' : k < N.length), ((L[k].state == 1 && decide (L[k].day < day)) = true ∧ L[k].state = 1 ∧ N[k] = L[k].to 5) ∨ ((L[k].state == 1 && decide (L[k].day < day)) = false ∧ N[k] = L[k])) ∧
          (∀ N, gone L N ids → sel N (fun g => decide (g.day < day)) = []) :=
        ⟨sel L (fun g => decide (g.day < day)), fun wz vz hz => giveLate wz vz L day hz hl, fun N j hj h => gone_step hr j hj h, fun N h => gone_end hr h, fun N h => gone_none hr h⟩
      replace HP := hid HP
      replace HG := hid HG
      replace HE := hid HE
      replace HX := hid HX
      have hlt' : ¬ k < D.length ∨ (k < D.length ∧ ¬ k < 90) := by omega
      have H0 : gone L L [] := ⟨rfl, fun k h h' => ⟨fun hm => (nomatch hm), fun _ => rfl⟩⟩
      have HL := hid (fun wz vz N (hz : Gs wz vz N) (hn : N.length = L.length) => giveLate wz vz N day hz (by omega))
      have HZ := hid H0
      have HF := hid (fun wz vz N id (hz : Gs wz vz N) (hn : N.length = L.length) (he : turnErr N id 5 = 0) => giveTurn_ok wz vz N id 5 hz (by omega) he)
      clear H0
      rcases hlt' with hlt | ⟨hlt, h90⟩
      all_goals
        go_wp2_with fail
        refine (HP.out _ _ hL).mono ?_
        rintro en w1 ⟨v1, rfl, g1, S1⟩
        obtain ⟨ai, ci, rfl, i1, i2⟩ := g1.form
        unfold maxLen at i2
        go_wp2_with fail
        go_loopw [12, 14] (fun now i wq => ∃ j : Nat, ∃ N : List Gv, j ≤ ids.length ∧ i = .int .i64 j ∧ Gs wq now N ∧ gone L N (ids.take j) ∧ Same w1 wq) (fun _ i _ => ids.length - (intOf i).toNat)
        case atStart => exact ⟨0, L, Nat.zero_le _, rfl, hL.same S1, HZ.out, Same.refl _⟩
        case round =>
          obtain ⟨j, N, hj, rfl, hN, hG, Sj⟩ := hrel
          by_cases hjl : j < ids.length
          · have h0 : ids.length ≠ 0 := by omega
            obtain ⟨gi, oi, rfl, hi⟩ := (g1.same Sj).at h0
            have c1 := hi j hjl
            clear hi
            have HT := HF.out
            obtain ⟨e1, e2⟩ := HG.out N j hjl hG
            have hlen := hid hG.1
            clear hG
            have E1 := hid e1
            have E2 := hid e2
            clear e1 e2
            have HT2 : ∀ wz vz, Gs wz vz N → Calls Try.prog 7 #[vz, .int .i64 ids[j], .int .i64 5] wz (RetGs2 (turned N ids[j] 5) 0 wz) := fun wz vz hz => HT wz vz N _ hz hlen.out E1.out
            clear HT
            have HT := hid HT2
            clear HT2
            generalize ids[j] = id at *
            generalize turned N id 5 = N2 at *
            go_wp2_with fail
            refine (HT.out _ _ hN).mono ?_
            rintro en w2 ⟨v2, rfl, g2, S2⟩
            go_wp2_with fail
            refine ⟨⟨j + 1, N2, by omega, by go_num, g2, E2.out, Sj.trans S2⟩, ?_⟩
            simp [intOf]; omega
          · have : j = ids.length := by omega
            subst this
            rw [List.take_length] at hG
            have HE2 := hid (HE.out N hG)
            have HX2 := HX.out N hG
            have hlen := hG.1
            have HL2 := hid (HL.out · · N · hlen)
            rw [HX2] at HL2
            clear HX2 HX HE HG HZ HF HL hG HP
            obtain ⟨an, cn, rfl, n1, n2⟩ := hN.form
            unfold maxLen at n2
            obtain ⟨al, cl, rfl, k1, k2⟩ := hL.form
            unfold maxLen at k2
            have Sk := S1.trans Sj
            have hL1 := hL.same Sk
            go_wp2_with fail
            go_loopw [17] (fun i wz => ∃ m : Nat, m ≤ L.length ∧ i = .int .i64 m ∧ Same wr wz) (fun i _ => L.length - (intOf i).toNat)
            case atStart => exact ⟨0, Nat.zero_le _, rfl, Same.refl _⟩
            case round =>
              obtain ⟨m, hm, rfl, Sm⟩ := hrel
              by_cases hml : m < L.length
              · obtain ⟨ga, oa, rfl, d0, d1, d2, d3, d4, d5, d6, d7, d8, d9, d10⟩ := (hL1.same Sm).row m hml
                obtain ⟨gn, on, rfl, c0, c1, c2, c3, c4, c5, c6, c7, c8, c9, c10⟩ := (hN.same Sm).row m (by omega)
                rcases HE2.out m hml (by omega) with ⟨hq, hst, heq⟩ | ⟨hq, heq⟩
                · simp only [hst, beq_self_eq_true, Bool.true_and] at hq
                  rw [heq] at c0 c1 c2 c3 c4 c5 c6 c7 c8 c9 c10
                  rw [hst] at d10
                  simp only [Gv.to] at c0 c1 c2 c3 c4 c5 c6 c7 c8 c9 c10
                  clear heq hst
                  generalize L[m] = x at *
                  go_wp2_with fail
                  go_quiet (fail)
                  go_wp2_with fail
                  go_roundw
                  case rel => exact ⟨m + 1, by omega, by go_num, Sm.drewN _⟩
                  case measure => simp [intOf]; omega
                · rw [heq] at c0 c1 c2 c3 c4 c5 c6 c7 c8 c9 c10
                  clear heq
                  generalize L[m] = x at *
                  cases hb : x.state == 1
                  · go_wp2_with fail
                    go_quiet (fail)
                    go_wp2_with fail
                    go_roundw
                    case rel => exact ⟨m + 1, by omega, by go_num, Sm.drewN _⟩
                    case measure => simp [intOf]; omega
                  · have hd : decide (x.day < day) = false := by rw [hb] at hq; simpa using hq
                    go_wp2_with fail
                    go_quiet (fail)
                    go_wp2_with fail
                    go_roundw
                    case rel => exact ⟨m + 1, by omega, by go_num, Sm.drewN _⟩
                    case measure => simp [intOf]; omega
              · have HL3 := HL2.out _ _ (hN.same Sm)
                rw [hlen] at HL3
                replace HL3 := hid HL3
                go_wp2_with fail
                refine HL3.out.mono ?_
                rintro en w3 ⟨v3, rfl, g3, S3⟩
                obtain ⟨a3, c3, rfl, _, _⟩ := g3.form
                go_wp2_with fail
                refine (HV.out _).mono ?_
                rintro en w4 ⟨rfl, S4⟩
                go_wp2_with fail
                go_ret
                exact ⟨rfl, ((S.trans (Sk.trans Sm)).trans S3).trans S4⟩
end Go.Proofs.Ytijdjpmceclmhaa
