/- Sealing and opening: crc (5), and its reference. -/
import Derived.Test.YtlhnpicmjjddeaaCrcWalks
import Derived.Test.YtlhnpicmjjddeaaLib
namespace Go.Proofs.Ytlhnpicmjjddeaa
open Go.RowKit

theorem cells3 (m : Nat) (hm : m < 16777216) : [Value.int IntKind.u8 ((m : Int) / 65536), Value.int IntKind.u8 ((m : Int) / 256 % 256), Value.int IntKind.u8 ((m : Int) % 256)] = (CrcPure.bytes3 m).map u8 := by
  unfold CrcPure.bytes3 u8
  simp only [List.map_cons, List.map_nil, CrcPure.toUInt8_nat]
  rw [show ((m : Int) / 65536) = ((m / 65536 % 256 : Nat) : Int) from by omega, show ((m : Int) / 256 % 256) = ((m / 256 % 256 : Nat) : Int) from by omega, show ((m : Int) % 256) = ((m % 256 : Nat) : Int) from by omega]
theorem bytes3_made (w : World) (m : Nat) (hm : m < 16777216) :
    Bytes (w.alloc (.cells #[.int .u8 ((m : Int) / 65536), .int .u8 ((m : Int) / 256 % 256), .int .u8 ((m : Int) % 256)] 5)) 5 (.slice (some ⟨w.heap.size, 0, none⟩) 3 3) (CrcPure.bytes3 m) :=
  Bytes.made 5 w.heap.size 3 3 _ _ (heap_alloc_new w _) (Nat.le_refl _) (by decide) rfl (by rw [← cells3 m hm]; exact ⟨[], rfl⟩)
/-- two rows of bytes in a row of slices that was just laid -/
theorem Rows2.two (w : World) (e1 e2 : TypeId) (v1 v2 : Value) (l1 l2 : List UInt8) (h1 : Bytes w e1 v1 l1) (h2 : Bytes w e2 v2 l2) :
    Rows2 (w.alloc (.cells #[v1, v2] 23)) 23 (.slice (some ⟨w.heap.size, 0, none⟩) 2 2) [l1, l2] := by
  have S := (Same.refl w).alloc (.cells #[v1, v2] 23)
  refine ⟨[v1, v2], rfl, Sl.made 23 1 w.heap.size 2 2 _ _ (heap_alloc_new w _) (Nat.le_refl _) (by decide) rfl ⟨[], rfl⟩, ?_⟩
  intro i hi u hu
  match i, hi with
  | 0, _ => simp at hu; subst hu; exact ⟨e1, h1.same S⟩
  | 1, _ => simp at hu; subst hu; exact ⟨e2, h2.same S⟩

theorem RetOwn.weak {l : List UInt8} {w0 w : World} (h : Same w0 w) {en : Ending} {w' : World} (hr : RetOwn l w en w') : RetOwn l w0 en w' :=
  let ⟨v, a, b, c⟩ := hr; ⟨v, a, b.mono h.size, h.trans c⟩

set_option maxHeartbeats 800000 in
set_option maxRecDepth 100000 in
theorem crcSeal (w : World) (e : TypeId) (v : Value) (l : List UInt8) (hb : Bytes w e v l) (hl : l.length ≤ 900000) :
    Calls Try.prog 27 #[v] w (RetOwn (CrcPure.sealed l) w) := by
  have hm := CrcPure.more_lt l CrcPure.init_lt
  have h3 := bytes3_made w _ hm
  have S1 := (Same.refl w).alloc (.cells #[.int .u8 ((CrcPure.more CrcPure.init l : Int) / 65536), .int .u8 ((CrcPure.more CrcPure.init l : Int) / 256 % 256), .int .u8 ((CrcPure.more CrcPure.init l : Int) % 256)] 5)
  have hr := Rows2.two _ e 5 v _ l _ (hb.same S1) h3
  have S2 := S1.alloc (.cells #[v, .slice (some ⟨w.heap.size, 0, none⟩) 3 3] 23)
  have hc := concatBytes _ 23 _ [l, CrcPure.bytes3 (CrcPure.more CrcPure.init l)] hr (by simp [CrcPure.bytes3]; omega)
  rw [show [l, CrcPure.bytes3 (CrcPure.more CrcPure.init l)].flatten = CrcPure.sealed l from by simp [CrcPure.sealed]] at hc
  obtain ⟨ao, cap, rfl, _, _⟩ := hb.form
  have HC := hid hc
  clear hc hr h3
  go_enter Try.func27, Try.ntmps27
  go_wp2_with fail
  refine (crcOf w e _ l hb).mono ?_
  rintro en w' ⟨rfl, rfl⟩
  go_wp2_with fail
  simp only [World.size_alloc] at HC
  refine HC.out.mono ?_
  rintro en w' ⟨v', rfl, ho, hs⟩
  go_wp2_with fail
  go_ret
  exact ⟨_, rfl, ho.mono (by simp; omega), S2.trans hs⟩

set_option maxHeartbeats 800000 in
set_option maxRecDepth 100000 in
theorem refSeal (w : World) (e : TypeId) (v : Value) (l : List UInt8) (hb : Bytes w e v l) (hl : l.length ≤ 900000) :
    Calls Try.prog 30 #[v] w (RetOwn (CrcPure.sealed l) w) := by
  have hm := CrcPure.more_lt l CrcPure.init_lt
  have S0 := Same.refl w
  have HB := fun w0 : World => hid (bytes3_made w0 _ hm)
  have HL := hid hl; clear hl
  have HM : Hid (CrcPure.sealed l = l ++ CrcPure.bytes3 (CrcPure.more CrcPure.init l)) := rfl
  go_enter Try.func30, Try.ntmps30
  go_wp2_with fail
  refine (refMore w e v l 11994318 (by omega) hb).mono ?_
  rintro en w' ⟨rfl, rfl⟩
  rw [show 11994318 % 16777216 = CrcPure.init from rfl]
  go_wp2_with (first
    | (at_builtin; refine wpList_append_bytes rfl (.tmp 7) (.tmp 8) 23 tyBytes rfl (OwnB.nil w w.heap.size) hb rfl rfl (by have := HL.out; simp; omega) (Nat.le_refl _) ?_; intro x1 w1 ho1 hg1; simp only [List.nil_append] at ho1; have S1 := S0.grown_nil hg1)
    | (at_builtin; refine wpList_append_bytes rfl (.tmp 10) (.tmp 21) 23 tyBytes rfl (ho1.alloc _) (HB w1).out rfl rfl (by have := HL.out; simp [CrcPure.bytes3]; omega) (by have := S1.size; simp; omega) ?_; intro x2 w2 ho2 hg2; have S2 := (S1.alloc _).grown_own (ho1.alloc _) (Nat.le_refl _) hg2))
  go_ret
  exact ⟨_, rfl, by rw [HM.out]; exact ho2, S2⟩
def openIn (l : List UInt8) : List UInt8 := l.take (l.length - 3)
def openOk (l : List UInt8) : Bool := decide (CrcPure.sealed (openIn l) = l)
theorem openOk_short (l : List UInt8) (h : l.length < 3) : openOk l = false := by
  apply decide_eq_false
  intro e
  have := congrArg List.length e
  rw [CrcPure.sealed_length] at this
  omega
/-- a call hands back a new row of bytes, and a Bool -/
def RetOpen (l : List UInt8) (b : Bool) (w : World) (en : Ending) (w' : World) : Prop := ∃ v, en = .returned (.tuple #[v, .bool b]) ∧ OwnB w' w.heap.size v l ∧ Same w w'

set_option maxHeartbeats 800000 in
set_option maxRecDepth 100000 in
theorem crcOpen (w : World) (e : TypeId) (v : Value) (l : List UInt8) (hb : Bytes w e v l) (hl : l.length ≤ 900000) :
    Calls Try.prog 28 #[v] w (RetOpen (openIn l) (openOk l) w) := by
  obtain ⟨ao, cap, rfl, h1, h2⟩ := hb.form
  unfold maxLen at h2
  by_cases h3 : l.length < 3
  · have e1 : openIn l = [] := by unfold openIn; rw [show l.length - 3 = 0 from by omega]; rfl
    rw [openOk_short l h3, e1]
    clear e1
    go_enter Try.func28, Try.ntmps28
    go_wp2_with fail
    go_ret2
    exact ⟨_, rfl, OwnB.nil _ _, Same.refl _⟩
  · have hin := hb.head (l.length - 3) (by omega)
    have HI := hid hin
    have HL := hid hl
    have hle : (openIn l).length ≤ 900000 := by unfold openIn; rw [List.length_take]; omega
    have HL2 := hid hle
    have HE : Hid ((openIn l).length ≤ 1000000) := by show _ ≤ _; omega
    clear hin hl hle
    go_enter Try.func28, Try.ntmps28
    go_wp2_with fail
    refine (cloneBytes _ e _ (openIn l) HI.out HE).mono ?_
    rintro en w1 ⟨v1, rfl, ho1, S1⟩
    go_wp2_with fail
    refine (crcSeal _ 5 _ (openIn l) ho1.bytes HL2.out).mono ?_
    rintro en w2 ⟨v2, rfl, ho2, S2⟩
    have S3 := S1.trans S2
    go_wp2_with fail
    refine (equalBytes _ 5 e _ _ _ _ ho2.bytes (hb.same S3)).mono ?_
    rintro en w3 ⟨rfl, rfl⟩
    go_wp2_with fail
    go_ret2
    exact ⟨_, rfl, ho1.keep S2 (fun _ _ x => x), S3⟩
end Go.Proofs.Ytlhnpicmjjddeaa
