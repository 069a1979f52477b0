/-
  No cell of these rows narrows 'for every input' (looked for: loops, veiled, ifaces, maps, wideKeys, modest, calm, conditions, laid).
  DERIVED. THE GIVEN ROWS OF THIS SEAT. 19 by the template 'for every input the law returns true; each argument reads behind the call as it read before'; 0 by the template 'total and deterministic' (their statements: YtlhnpicmjjddeaaTotals.lean).
  GIVEN WITH THE SEED: the statements are not yours to turn. If you find one false, say at which input.
  Laid BY PROGRAM, IN A SANDBOX (cutbox-rows.mjs): the forced cells as the released guide's own fill.sh prints them over the translation fce7de9f8a8658c9… (all of the seat's roots in one cut). By AI agents, Wed Nov 11 2026. No macro, syntax, notation, axiom, sorry.
-/
import Derived.Test.YtlhnpicmjjddeaaChecked
import GoSem.Claim
import GoSem.ClaimJoined
import GoSem.ClaimMapViews
import Derived.JoinedTies
import Derived.KernelRfl
namespace Go.Proofs.Ytlhnpicmjjddeaa
/- THE CELL 'sum', in the pinned program and in every row, IS THE sha256 OF THE DUMP (.gsa) THAT YtlhnpicmjjddeaaProg.lean LOADS. Nothing in Lean hashes anything: it is a label: what it is worth is what the hold of that sum in a sandbox is worth. -/
noncomputable def Try.pinned : Pinned := { name := "ytlhnpicmjjddeaa", sum := "fce7de9f8a8658c9e37c482c60598a9356a8b1c91a9295125662a7c22eb6c0e8", checked := Try.checked }
namespace Rows
def none {H : Type} : Left H := { results := [], args := [] }

/-- 'novationlaw05.CrcSums': WHATEVER THE INPUT: true; the input reads as it did. -/
def crcSumsSpec : ChangeSpec := { name := "crcSums", fn := fun _ => fun
  | [d1, d2] => { results := [.lit (.bool true)], args := [d1, d2] }
  | _ => none }
def crcSumsRow : OpenClaim := { program := "ytlhnpicmjjddeaa", sum := "fce7de9f8a8658c9e37c482c60598a9356a8b1c91a9295125662a7c22eb6c0e8", func := "novation/novationlaw05.CrcSums", spec := "crcSums", apart := false }
def CrcSumsSaid : Prop := crcSumsRow.holds Try.pinned (OpenSpec.ofChange crcSumsSpec)

/-- ITS FALSE NEIGHBOUR: 'it returns false'. Refute it at one input. -/
def crcSumsWrong : ChangeSpec := { name := "crcSums", fn := fun _ => fun
  | [d1, d2] => { results := [.lit (.bool false)], args := [d1, d2] }
  | _ => none }
def CrcSumsWrongFalsely : Prop := crcSumsRow.holds Try.pinned (OpenSpec.ofChange crcSumsWrong)

/-- 'novationlaw05.CrcParts': WHATEVER THE INPUT: true; the input reads as it did. -/
def crcPartsSpec : ChangeSpec := { name := "crcParts", fn := fun _ => fun
  | [d1, d2, d3] => { results := [.lit (.bool true)], args := [d1, d2, d3] }
  | _ => none }
def crcPartsRow : OpenClaim := { program := "ytlhnpicmjjddeaa", sum := "fce7de9f8a8658c9e37c482c60598a9356a8b1c91a9295125662a7c22eb6c0e8", func := "novation/novationlaw05.CrcParts", spec := "crcParts", apart := false }
def CrcPartsSaid : Prop := crcPartsRow.holds Try.pinned (OpenSpec.ofChange crcPartsSpec)

/-- ITS FALSE NEIGHBOUR: 'it returns false'. Refute it at one input. -/
def crcPartsWrong : ChangeSpec := { name := "crcParts", fn := fun _ => fun
  | [d1, d2, d3] => { results := [.lit (.bool false)], args := [d1, d2, d3] }
  | _ => none }
def CrcPartsWrongFalsely : Prop := crcPartsRow.holds Try.pinned (OpenSpec.ofChange crcPartsWrong)

/-- 'novationlaw05.CrcSeals': WHATEVER THE INPUT: true; the input reads as it did. -/
def crcSealsSpec : ChangeSpec := { name := "crcSeals", fn := fun _ => fun
  | [d1, d2] => { results := [.lit (.bool true)], args := [d1, d2] }
  | _ => none }
def crcSealsRow : OpenClaim := { program := "ytlhnpicmjjddeaa", sum := "fce7de9f8a8658c9e37c482c60598a9356a8b1c91a9295125662a7c22eb6c0e8", func := "novation/novationlaw05.CrcSeals", spec := "crcSeals", apart := false }
def CrcSealsSaid : Prop := crcSealsRow.holds Try.pinned (OpenSpec.ofChange crcSealsSpec)

/-- ITS FALSE NEIGHBOUR: 'it returns false'. Refute it at one input. -/
def crcSealsWrong : ChangeSpec := { name := "crcSeals", fn := fun _ => fun
  | [d1, d2] => { results := [.lit (.bool false)], args := [d1, d2] }
  | _ => none }
def CrcSealsWrongFalsely : Prop := crcSealsRow.holds Try.pinned (OpenSpec.ofChange crcSealsWrong)

/-- 'novationlaw05.CrcTurns': WHATEVER THE INPUT: true; the input reads as it did. -/
def crcTurnsSpec : ChangeSpec := { name := "crcTurns", fn := fun _ => fun
  | [d1, d2, d3, d4, d5] => { results := [.lit (.bool true)], args := [d1, d2, d3, d4, d5] }
  | _ => none }
def crcTurnsRow : OpenClaim := { program := "ytlhnpicmjjddeaa", sum := "fce7de9f8a8658c9e37c482c60598a9356a8b1c91a9295125662a7c22eb6c0e8", func := "novation/novationlaw05.CrcTurns", spec := "crcTurns", apart := false }
def CrcTurnsSaid : Prop := crcTurnsRow.holds Try.pinned (OpenSpec.ofChange crcTurnsSpec)

/-- ITS FALSE NEIGHBOUR: 'it returns false'. Refute it at one input. -/
def crcTurnsWrong : ChangeSpec := { name := "crcTurns", fn := fun _ => fun
  | [d1, d2, d3, d4, d5] => { results := [.lit (.bool false)], args := [d1, d2, d3, d4, d5] }
  | _ => none }
def CrcTurnsWrongFalsely : Prop := crcTurnsRow.holds Try.pinned (OpenSpec.ofChange crcTurnsWrong)

/-- 'novationlaw06.DriveTears': WHATEVER THE INPUT: true; the input reads as it did. -/
def driveTearsSpec : ChangeSpec := { name := "driveTears", fn := fun _ => fun
  | [d1, d2, d3, d4] => { results := [.lit (.bool true)], args := [d1, d2, d3, d4] }
  | _ => none }
def driveTearsRow : OpenClaim := { program := "ytlhnpicmjjddeaa", sum := "fce7de9f8a8658c9e37c482c60598a9356a8b1c91a9295125662a7c22eb6c0e8", func := "novation/novationlaw06.DriveTears", spec := "driveTears", unfollowed := true, recurses := true, apart := false }
def DriveTearsSaid : Prop := driveTearsRow.holds Try.pinned (OpenSpec.ofChange driveTearsSpec)

/-- ITS FALSE NEIGHBOUR: 'it returns false'. Refute it at one input. -/
def driveTearsWrong : ChangeSpec := { name := "driveTears", fn := fun _ => fun
  | [d1, d2, d3, d4] => { results := [.lit (.bool false)], args := [d1, d2, d3, d4] }
  | _ => none }
def DriveTearsWrongFalsely : Prop := driveTearsRow.holds Try.pinned (OpenSpec.ofChange driveTearsWrong)

/-- 'novationlaw06.DriveFuses': WHATEVER THE INPUT: true; the input reads as it did. -/
def driveFusesSpec : ChangeSpec := { name := "driveFuses", fn := fun _ => fun
  | [d1, d2] => { results := [.lit (.bool true)], args := [d1, d2] }
  | _ => none }
def driveFusesRow : OpenClaim := { program := "ytlhnpicmjjddeaa", sum := "fce7de9f8a8658c9e37c482c60598a9356a8b1c91a9295125662a7c22eb6c0e8", func := "novation/novationlaw06.DriveFuses", spec := "driveFuses", unfollowed := true, recurses := true, apart := false }
def DriveFusesSaid : Prop := driveFusesRow.holds Try.pinned (OpenSpec.ofChange driveFusesSpec)

/-- ITS FALSE NEIGHBOUR: 'it returns false'. Refute it at one input. -/
def driveFusesWrong : ChangeSpec := { name := "driveFuses", fn := fun _ => fun
  | [d1, d2] => { results := [.lit (.bool false)], args := [d1, d2] }
  | _ => none }
def DriveFusesWrongFalsely : Prop := driveFusesRow.holds Try.pinned (OpenSpec.ofChange driveFusesWrong)

/-- 'novationlaw06.DriveNobody': WHATEVER THE INPUT: true; the input reads as it did. -/
def driveNobodySpec : ChangeSpec := { name := "driveNobody", fn := fun _ => fun
  | [d1, d2] => { results := [.lit (.bool true)], args := [d1, d2] }
  | _ => none }
def driveNobodyRow : OpenClaim := { program := "ytlhnpicmjjddeaa", sum := "fce7de9f8a8658c9e37c482c60598a9356a8b1c91a9295125662a7c22eb6c0e8", func := "novation/novationlaw06.DriveNobody", spec := "driveNobody", unfollowed := true, recurses := true, apart := false }
def DriveNobodySaid : Prop := driveNobodyRow.holds Try.pinned (OpenSpec.ofChange driveNobodySpec)

/-- ITS FALSE NEIGHBOUR: 'it returns false'. Refute it at one input. -/
def driveNobodyWrong : ChangeSpec := { name := "driveNobody", fn := fun _ => fun
  | [d1, d2] => { results := [.lit (.bool false)], args := [d1, d2] }
  | _ => none }
def DriveNobodyWrongFalsely : Prop := driveNobodyRow.holds Try.pinned (OpenSpec.ofChange driveNobodyWrong)

/-- 'novationlaw07.FrameEncodes': WHATEVER THE INPUT: true; the input reads as it did. -/
def frameEncodesSpec : ChangeSpec := { name := "frameEncodes", fn := fun _ => fun
  | [d1, d2] => { results := [.lit (.bool true)], args := [d1, d2] }
  | _ => none }
def frameEncodesRow : OpenClaim := { program := "ytlhnpicmjjddeaa", sum := "fce7de9f8a8658c9e37c482c60598a9356a8b1c91a9295125662a7c22eb6c0e8", func := "novation/novationlaw07.FrameEncodes", spec := "frameEncodes", apart := false }
def FrameEncodesSaid : Prop := frameEncodesRow.holds Try.pinned (OpenSpec.ofChange frameEncodesSpec)

/-- ITS FALSE NEIGHBOUR: 'it returns false'. Refute it at one input. -/
def frameEncodesWrong : ChangeSpec := { name := "frameEncodes", fn := fun _ => fun
  | [d1, d2] => { results := [.lit (.bool false)], args := [d1, d2] }
  | _ => none }
def FrameEncodesWrongFalsely : Prop := frameEncodesRow.holds Try.pinned (OpenSpec.ofChange frameEncodesWrong)

/-- 'novationlaw07.FrameCuts': WHATEVER THE INPUT: true; the input reads as it did. -/
def frameCutsSpec : ChangeSpec := { name := "frameCuts", fn := fun _ => fun
  | [d1, d2, d3, d4] => { results := [.lit (.bool true)], args := [d1, d2, d3, d4] }
  | _ => none }
def frameCutsRow : OpenClaim := { program := "ytlhnpicmjjddeaa", sum := "fce7de9f8a8658c9e37c482c60598a9356a8b1c91a9295125662a7c22eb6c0e8", func := "novation/novationlaw07.FrameCuts", spec := "frameCuts", apart := false }
def FrameCutsSaid : Prop := frameCutsRow.holds Try.pinned (OpenSpec.ofChange frameCutsSpec)

/-- ITS FALSE NEIGHBOUR: 'it returns false'. Refute it at one input. -/
def frameCutsWrong : ChangeSpec := { name := "frameCuts", fn := fun _ => fun
  | [d1, d2, d3, d4] => { results := [.lit (.bool false)], args := [d1, d2, d3, d4] }
  | _ => none }
def FrameCutsWrongFalsely : Prop := frameCutsRow.holds Try.pinned (OpenSpec.ofChange frameCutsWrong)

/-- 'novationlaw07.FrameBack': WHATEVER THE INPUT: true; the input reads as it did. -/
def frameBackSpec : ChangeSpec := { name := "frameBack", fn := fun _ => fun
  | [d1, d2, d3, d4, d5, d6] => { results := [.lit (.bool true)], args := [d1, d2, d3, d4, d5, d6] }
  | _ => none }
def frameBackRow : OpenClaim := { program := "ytlhnpicmjjddeaa", sum := "fce7de9f8a8658c9e37c482c60598a9356a8b1c91a9295125662a7c22eb6c0e8", func := "novation/novationlaw07.FrameBack", spec := "frameBack", apart := false }
def FrameBackSaid : Prop := frameBackRow.holds Try.pinned (OpenSpec.ofChange frameBackSpec)

/-- ITS FALSE NEIGHBOUR: 'it returns false'. Refute it at one input. -/
def frameBackWrong : ChangeSpec := { name := "frameBack", fn := fun _ => fun
  | [d1, d2, d3, d4, d5, d6] => { results := [.lit (.bool false)], args := [d1, d2, d3, d4, d5, d6] }
  | _ => none }
def FrameBackWrongFalsely : Prop := frameBackRow.holds Try.pinned (OpenSpec.ofChange frameBackWrong)

/-- 'novationlaw09.StillNobody': WHATEVER THE INPUT: true; the input reads as it did. -/
def stillNobodySpec : ChangeSpec := { name := "stillNobody", fn := fun _ => fun
  | [d1, d2, d3] => { results := [.lit (.bool true)], args := [d1, d2, d3] }
  | _ => none }
def stillNobodyRow : OpenClaim := { program := "ytlhnpicmjjddeaa", sum := "fce7de9f8a8658c9e37c482c60598a9356a8b1c91a9295125662a7c22eb6c0e8", func := "novation/novationlaw09.StillNobody", spec := "stillNobody", unfollowed := true, recurses := true, apart := false }
def StillNobodySaid : Prop := stillNobodyRow.holds Try.pinned (OpenSpec.ofChange stillNobodySpec)

/-- ITS FALSE NEIGHBOUR: 'it returns false'. Refute it at one input. -/
def stillNobodyWrong : ChangeSpec := { name := "stillNobody", fn := fun _ => fun
  | [d1, d2, d3] => { results := [.lit (.bool false)], args := [d1, d2, d3] }
  | _ => none }
def StillNobodyWrongFalsely : Prop := stillNobodyRow.holds Try.pinned (OpenSpec.ofChange stillNobodyWrong)

/-- 'novationlaw09.StillKept': WHATEVER THE INPUT: true; the input reads as it did. -/
def stillKeptSpec : ChangeSpec := { name := "stillKept", fn := fun _ => fun
  | [d] => { results := [.lit (.bool true)], args := [d] }
  | _ => none }
def stillKeptRow : OpenClaim := { program := "ytlhnpicmjjddeaa", sum := "fce7de9f8a8658c9e37c482c60598a9356a8b1c91a9295125662a7c22eb6c0e8", func := "novation/novationlaw09.StillKept", spec := "stillKept", unfollowed := true, recurses := true, apart := false }
def StillKeptSaid : Prop := stillKeptRow.holds Try.pinned (OpenSpec.ofChange stillKeptSpec)

/-- ITS FALSE NEIGHBOUR: 'it returns false'. Refute it at one input. -/
def stillKeptWrong : ChangeSpec := { name := "stillKept", fn := fun _ => fun
  | [d] => { results := [.lit (.bool false)], args := [d] }
  | _ => none }
def StillKeptWrongFalsely : Prop := stillKeptRow.holds Try.pinned (OpenSpec.ofChange stillKeptWrong)

/-- 'novationlaw08.ScrollReads': WHATEVER THE INPUT: true; the input reads as it did. -/
def scrollReadsSpec : ChangeSpec := { name := "scrollReads", fn := fun _ => fun
  | [d1, d2, d3, d4, d5] => { results := [.lit (.bool true)], args := [d1, d2, d3, d4, d5] }
  | _ => none }
def scrollReadsRow : OpenClaim := { program := "ytlhnpicmjjddeaa", sum := "fce7de9f8a8658c9e37c482c60598a9356a8b1c91a9295125662a7c22eb6c0e8", func := "novation/novationlaw08.ScrollReads", spec := "scrollReads", unfollowed := true, recurses := true, apart := false }
def ScrollReadsSaid : Prop := scrollReadsRow.holds Try.pinned (OpenSpec.ofChange scrollReadsSpec)

/-- ITS FALSE NEIGHBOUR: 'it returns false'. Refute it at one input. -/
def scrollReadsWrong : ChangeSpec := { name := "scrollReads", fn := fun _ => fun
  | [d1, d2, d3, d4, d5] => { results := [.lit (.bool false)], args := [d1, d2, d3, d4, d5] }
  | _ => none }
def ScrollReadsWrongFalsely : Prop := scrollReadsRow.holds Try.pinned (OpenSpec.ofChange scrollReadsWrong)

/-- 'novationlaw08.ScrollNobody': WHATEVER THE INPUT: true; the input reads as it did. -/
def scrollNobodySpec : ChangeSpec := { name := "scrollNobody", fn := fun _ => fun
  | [d1, d2, d3] => { results := [.lit (.bool true)], args := [d1, d2, d3] }
  | _ => none }
def scrollNobodyRow : OpenClaim := { program := "ytlhnpicmjjddeaa", sum := "fce7de9f8a8658c9e37c482c60598a9356a8b1c91a9295125662a7c22eb6c0e8", func := "novation/novationlaw08.ScrollNobody", spec := "scrollNobody", unfollowed := true, recurses := true, apart := false }
def ScrollNobodySaid : Prop := scrollNobodyRow.holds Try.pinned (OpenSpec.ofChange scrollNobodySpec)

/-- ITS FALSE NEIGHBOUR: 'it returns false'. Refute it at one input. -/
def scrollNobodyWrong : ChangeSpec := { name := "scrollNobody", fn := fun _ => fun
  | [d1, d2, d3] => { results := [.lit (.bool false)], args := [d1, d2, d3] }
  | _ => none }
def ScrollNobodyWrongFalsely : Prop := scrollNobodyRow.holds Try.pinned (OpenSpec.ofChange scrollNobodyWrong)

/-- 'novationlaw08.ScrollPlays': WHATEVER THE INPUT: true; the input reads as it did. -/
def scrollPlaysSpec : ChangeSpec := { name := "scrollPlays", fn := fun _ => fun
  | [d1, d2, d3] => { results := [.lit (.bool true)], args := [d1, d2, d3] }
  | _ => none }
def scrollPlaysRow : OpenClaim := { program := "ytlhnpicmjjddeaa", sum := "fce7de9f8a8658c9e37c482c60598a9356a8b1c91a9295125662a7c22eb6c0e8", func := "novation/novationlaw08.ScrollPlays", spec := "scrollPlays", unfollowed := true, recurses := true, apart := false }
def ScrollPlaysSaid : Prop := scrollPlaysRow.holds Try.pinned (OpenSpec.ofChange scrollPlaysSpec)

/-- ITS FALSE NEIGHBOUR: 'it returns false'. Refute it at one input. -/
def scrollPlaysWrong : ChangeSpec := { name := "scrollPlays", fn := fun _ => fun
  | [d1, d2, d3] => { results := [.lit (.bool false)], args := [d1, d2, d3] }
  | _ => none }
def ScrollPlaysWrongFalsely : Prop := scrollPlaysRow.holds Try.pinned (OpenSpec.ofChange scrollPlaysWrong)

/-- 'novationlaw08.ScrollKept': WHATEVER THE INPUT: true; the input reads as it did. -/
def scrollKeptSpec : ChangeSpec := { name := "scrollKept", fn := fun _ => fun
  | [d] => { results := [.lit (.bool true)], args := [d] }
  | _ => none }
def scrollKeptRow : OpenClaim := { program := "ytlhnpicmjjddeaa", sum := "fce7de9f8a8658c9e37c482c60598a9356a8b1c91a9295125662a7c22eb6c0e8", func := "novation/novationlaw08.ScrollKept", spec := "scrollKept", unfollowed := true, recurses := true, apart := false }
def ScrollKeptSaid : Prop := scrollKeptRow.holds Try.pinned (OpenSpec.ofChange scrollKeptSpec)

/-- ITS FALSE NEIGHBOUR: 'it returns false'. Refute it at one input. -/
def scrollKeptWrong : ChangeSpec := { name := "scrollKept", fn := fun _ => fun
  | [d] => { results := [.lit (.bool false)], args := [d] }
  | _ => none }
def ScrollKeptWrongFalsely : Prop := scrollKeptRow.holds Try.pinned (OpenSpec.ofChange scrollKeptWrong)

/-- 'novationlaw10.VaultNobody': WHATEVER THE INPUT: true; the input reads as it did. -/
def vaultNobodySpec : ChangeSpec := { name := "vaultNobody", fn := fun _ => fun
  | [d1, d2] => { results := [.lit (.bool true)], args := [d1, d2] }
  | _ => none }
def vaultNobodyRow : OpenClaim := { program := "ytlhnpicmjjddeaa", sum := "fce7de9f8a8658c9e37c482c60598a9356a8b1c91a9295125662a7c22eb6c0e8", func := "novation/novationlaw10.VaultNobody", spec := "vaultNobody", unfollowed := true, recurses := true, apart := false }
def VaultNobodySaid : Prop := vaultNobodyRow.holds Try.pinned (OpenSpec.ofChange vaultNobodySpec)

/-- ITS FALSE NEIGHBOUR: 'it returns false'. Refute it at one input. -/
def vaultNobodyWrong : ChangeSpec := { name := "vaultNobody", fn := fun _ => fun
  | [d1, d2] => { results := [.lit (.bool false)], args := [d1, d2] }
  | _ => none }
def VaultNobodyWrongFalsely : Prop := vaultNobodyRow.holds Try.pinned (OpenSpec.ofChange vaultNobodyWrong)

/-- 'novationlaw10.VaultKept': WHATEVER THE INPUT: true; the input reads as it did. -/
def vaultKeptSpec : ChangeSpec := { name := "vaultKept", fn := fun _ => fun
  | [d] => { results := [.lit (.bool true)], args := [d] }
  | _ => none }
def vaultKeptRow : OpenClaim := { program := "ytlhnpicmjjddeaa", sum := "fce7de9f8a8658c9e37c482c60598a9356a8b1c91a9295125662a7c22eb6c0e8", func := "novation/novationlaw10.VaultKept", spec := "vaultKept", unfollowed := true, recurses := true, apart := false }
def VaultKeptSaid : Prop := vaultKeptRow.holds Try.pinned (OpenSpec.ofChange vaultKeptSpec)

/-- ITS FALSE NEIGHBOUR: 'it returns false'. Refute it at one input. -/
def vaultKeptWrong : ChangeSpec := { name := "vaultKept", fn := fun _ => fun
  | [d] => { results := [.lit (.bool false)], args := [d] }
  | _ => none }
def VaultKeptWrongFalsely : Prop := vaultKeptRow.holds Try.pinned (OpenSpec.ofChange vaultKeptWrong)

/-- 'novationlaw10.VaultPlays': WHATEVER THE INPUT: true; the input reads as it did. -/
def vaultPlaysSpec : ChangeSpec := { name := "vaultPlays", fn := fun _ => fun
  | [d1, d2, d3] => { results := [.lit (.bool true)], args := [d1, d2, d3] }
  | _ => none }
def vaultPlaysRow : OpenClaim := { program := "ytlhnpicmjjddeaa", sum := "fce7de9f8a8658c9e37c482c60598a9356a8b1c91a9295125662a7c22eb6c0e8", func := "novation/novationlaw10.VaultPlays", spec := "vaultPlays", unfollowed := true, recurses := true, apart := false }
def VaultPlaysSaid : Prop := vaultPlaysRow.holds Try.pinned (OpenSpec.ofChange vaultPlaysSpec)

/-- ITS FALSE NEIGHBOUR: 'it returns false'. Refute it at one input. -/
def vaultPlaysWrong : ChangeSpec := { name := "vaultPlays", fn := fun _ => fun
  | [d1, d2, d3] => { results := [.lit (.bool false)], args := [d1, d2, d3] }
  | _ => none }
def VaultPlaysWrongFalsely : Prop := vaultPlaysRow.holds Try.pinned (OpenSpec.ofChange vaultPlaysWrong)

/- THE SECOND FORM. 'bulk': how many values and letters a reading holds, each counted each time it is reached (what is shared counts as often as it is met; a slice's spare places count too). A statement '..UptoSaid' is the law's where the arguments, and the package variables that the reading takes, are together of bulk at most 1048576: NARROWER than '..Said'. Prove '..Said' where nothing that the law and all that it calls make is longer than what came in: it says more and counts as full. Else prove '..UptoSaid'. A law counts once. -/
mutual
def uptoBulk {H : Type} : DataW H → Nat
  | .lit (.string bytes) => bytes.length + 1
  | .lit _ => 1
  | .nil => 1
  | .ptr d => uptoBulk d + 1
  | .slice elems spare => uptoBulkAll elems + uptoBulkAll spare + 1
  | .agg parts => uptoBulkAll parts + 1
  | .iface _ d => uptoBulk d + 1
  | .map entries => uptoBulkEntries entries + 1
  | .held _ => 1
def uptoBulkAll {H : Type} : List (DataW H) → Nat
  | [] => 0
  | d :: r => uptoBulk d + uptoBulkAll r
def uptoBulkEntries {H : Type} : List (Lit × DataW H) → Nat
  | [] => 0
  | x :: r => uptoBulkEntry x + uptoBulkEntries r
def uptoBulkEntry {H : Type} : Lit × DataW H → Nat
  | (.string bytes, d) => bytes.length + uptoBulk d + 1
  | (_, d) => uptoBulk d + 1
 end
def uptoSmall : (H : Type) → List (DataW H) → Bool := fun _ ds => decide (uptoBulkAll ds ≤ 1048576)
def OpenSpec.upto (s : _root_.Go.ChangeSpec) : _root_.Go.OpenSpec := { _root_.Go.OpenSpec.ofChange s with cond := some uptoSmall }

/-- 'novationlaw05.CrcSums', WHERE WHAT IT READS IS OF BULK AT MOST 1048576: true; the input reads as it did. -/
def crcSumsUptoRow : OpenClaim := { program := "ytlhnpicmjjddeaa", sum := "fce7de9f8a8658c9e37c482c60598a9356a8b1c91a9295125662a7c22eb6c0e8", func := "novation/novationlaw05.CrcSums", spec := "crcSums", apart := false, narrowed := true }
def CrcSumsUptoSaid : Prop := crcSumsUptoRow.holds Try.pinned (OpenSpec.upto crcSumsSpec)

/-- 'novationlaw05.CrcParts', WHERE WHAT IT READS IS OF BULK AT MOST 1048576: true; the input reads as it did. -/
def crcPartsUptoRow : OpenClaim := { program := "ytlhnpicmjjddeaa", sum := "fce7de9f8a8658c9e37c482c60598a9356a8b1c91a9295125662a7c22eb6c0e8", func := "novation/novationlaw05.CrcParts", spec := "crcParts", apart := false, narrowed := true }
def CrcPartsUptoSaid : Prop := crcPartsUptoRow.holds Try.pinned (OpenSpec.upto crcPartsSpec)

/-- 'novationlaw05.CrcSeals', WHERE WHAT IT READS IS OF BULK AT MOST 1048576: true; the input reads as it did. -/
def crcSealsUptoRow : OpenClaim := { program := "ytlhnpicmjjddeaa", sum := "fce7de9f8a8658c9e37c482c60598a9356a8b1c91a9295125662a7c22eb6c0e8", func := "novation/novationlaw05.CrcSeals", spec := "crcSeals", apart := false, narrowed := true }
def CrcSealsUptoSaid : Prop := crcSealsUptoRow.holds Try.pinned (OpenSpec.upto crcSealsSpec)

/-- 'novationlaw05.CrcTurns', WHERE WHAT IT READS IS OF BULK AT MOST 1048576: true; the input reads as it did. -/
def crcTurnsUptoRow : OpenClaim := { program := "ytlhnpicmjjddeaa", sum := "fce7de9f8a8658c9e37c482c60598a9356a8b1c91a9295125662a7c22eb6c0e8", func := "novation/novationlaw05.CrcTurns", spec := "crcTurns", apart := false, narrowed := true }
def CrcTurnsUptoSaid : Prop := crcTurnsUptoRow.holds Try.pinned (OpenSpec.upto crcTurnsSpec)

/-- 'novationlaw06.DriveTears', WHERE WHAT IT READS IS OF BULK AT MOST 1048576: true; the input reads as it did. -/
def driveTearsUptoRow : OpenClaim := { program := "ytlhnpicmjjddeaa", sum := "fce7de9f8a8658c9e37c482c60598a9356a8b1c91a9295125662a7c22eb6c0e8", func := "novation/novationlaw06.DriveTears", spec := "driveTears", unfollowed := true, recurses := true, apart := false, narrowed := true }
def DriveTearsUptoSaid : Prop := driveTearsUptoRow.holds Try.pinned (OpenSpec.upto driveTearsSpec)

/-- 'novationlaw06.DriveFuses', WHERE WHAT IT READS IS OF BULK AT MOST 1048576: true; the input reads as it did. -/
def driveFusesUptoRow : OpenClaim := { program := "ytlhnpicmjjddeaa", sum := "fce7de9f8a8658c9e37c482c60598a9356a8b1c91a9295125662a7c22eb6c0e8", func := "novation/novationlaw06.DriveFuses", spec := "driveFuses", unfollowed := true, recurses := true, apart := false, narrowed := true }
def DriveFusesUptoSaid : Prop := driveFusesUptoRow.holds Try.pinned (OpenSpec.upto driveFusesSpec)

/-- 'novationlaw06.DriveNobody', WHERE WHAT IT READS IS OF BULK AT MOST 1048576: true; the input reads as it did. -/
def driveNobodyUptoRow : OpenClaim := { program := "ytlhnpicmjjddeaa", sum := "fce7de9f8a8658c9e37c482c60598a9356a8b1c91a9295125662a7c22eb6c0e8", func := "novation/novationlaw06.DriveNobody", spec := "driveNobody", unfollowed := true, recurses := true, apart := false, narrowed := true }
def DriveNobodyUptoSaid : Prop := driveNobodyUptoRow.holds Try.pinned (OpenSpec.upto driveNobodySpec)

/-- 'novationlaw07.FrameEncodes', WHERE WHAT IT READS IS OF BULK AT MOST 1048576: true; the input reads as it did. -/
def frameEncodesUptoRow : OpenClaim := { program := "ytlhnpicmjjddeaa", sum := "fce7de9f8a8658c9e37c482c60598a9356a8b1c91a9295125662a7c22eb6c0e8", func := "novation/novationlaw07.FrameEncodes", spec := "frameEncodes", apart := false, narrowed := true }
def FrameEncodesUptoSaid : Prop := frameEncodesUptoRow.holds Try.pinned (OpenSpec.upto frameEncodesSpec)

/-- 'novationlaw07.FrameCuts', WHERE WHAT IT READS IS OF BULK AT MOST 1048576: true; the input reads as it did. -/
def frameCutsUptoRow : OpenClaim := { program := "ytlhnpicmjjddeaa", sum := "fce7de9f8a8658c9e37c482c60598a9356a8b1c91a9295125662a7c22eb6c0e8", func := "novation/novationlaw07.FrameCuts", spec := "frameCuts", apart := false, narrowed := true }
def FrameCutsUptoSaid : Prop := frameCutsUptoRow.holds Try.pinned (OpenSpec.upto frameCutsSpec)

/-- 'novationlaw07.FrameBack', WHERE WHAT IT READS IS OF BULK AT MOST 1048576: true; the input reads as it did. -/
def frameBackUptoRow : OpenClaim := { program := "ytlhnpicmjjddeaa", sum := "fce7de9f8a8658c9e37c482c60598a9356a8b1c91a9295125662a7c22eb6c0e8", func := "novation/novationlaw07.FrameBack", spec := "frameBack", apart := false, narrowed := true }
def FrameBackUptoSaid : Prop := frameBackUptoRow.holds Try.pinned (OpenSpec.upto frameBackSpec)

/-- 'novationlaw09.StillNobody', WHERE WHAT IT READS IS OF BULK AT MOST 1048576: true; the input reads as it did. -/
def stillNobodyUptoRow : OpenClaim := { program := "ytlhnpicmjjddeaa", sum := "fce7de9f8a8658c9e37c482c60598a9356a8b1c91a9295125662a7c22eb6c0e8", func := "novation/novationlaw09.StillNobody", spec := "stillNobody", unfollowed := true, recurses := true, apart := false, narrowed := true }
def StillNobodyUptoSaid : Prop := stillNobodyUptoRow.holds Try.pinned (OpenSpec.upto stillNobodySpec)

/-- 'novationlaw09.StillKept', WHERE WHAT IT READS IS OF BULK AT MOST 1048576: true; the input reads as it did. -/
def stillKeptUptoRow : OpenClaim := { program := "ytlhnpicmjjddeaa", sum := "fce7de9f8a8658c9e37c482c60598a9356a8b1c91a9295125662a7c22eb6c0e8", func := "novation/novationlaw09.StillKept", spec := "stillKept", unfollowed := true, recurses := true, apart := false, narrowed := true }
def StillKeptUptoSaid : Prop := stillKeptUptoRow.holds Try.pinned (OpenSpec.upto stillKeptSpec)

/-- 'novationlaw08.ScrollReads', WHERE WHAT IT READS IS OF BULK AT MOST 1048576: true; the input reads as it did. -/
def scrollReadsUptoRow : OpenClaim := { program := "ytlhnpicmjjddeaa", sum := "fce7de9f8a8658c9e37c482c60598a9356a8b1c91a9295125662a7c22eb6c0e8", func := "novation/novationlaw08.ScrollReads", spec := "scrollReads", unfollowed := true, recurses := true, apart := false, narrowed := true }
def ScrollReadsUptoSaid : Prop := scrollReadsUptoRow.holds Try.pinned (OpenSpec.upto scrollReadsSpec)

/-- 'novationlaw08.ScrollNobody', WHERE WHAT IT READS IS OF BULK AT MOST 1048576: true; the input reads as it did. -/
def scrollNobodyUptoRow : OpenClaim := { program := "ytlhnpicmjjddeaa", sum := "fce7de9f8a8658c9e37c482c60598a9356a8b1c91a9295125662a7c22eb6c0e8", func := "novation/novationlaw08.ScrollNobody", spec := "scrollNobody", unfollowed := true, recurses := true, apart := false, narrowed := true }
def ScrollNobodyUptoSaid : Prop := scrollNobodyUptoRow.holds Try.pinned (OpenSpec.upto scrollNobodySpec)

/-- 'novationlaw08.ScrollPlays', WHERE WHAT IT READS IS OF BULK AT MOST 1048576: true; the input reads as it did. -/
def scrollPlaysUptoRow : OpenClaim := { program := "ytlhnpicmjjddeaa", sum := "fce7de9f8a8658c9e37c482c60598a9356a8b1c91a9295125662a7c22eb6c0e8", func := "novation/novationlaw08.ScrollPlays", spec := "scrollPlays", unfollowed := true, recurses := true, apart := false, narrowed := true }
def ScrollPlaysUptoSaid : Prop := scrollPlaysUptoRow.holds Try.pinned (OpenSpec.upto scrollPlaysSpec)

/-- 'novationlaw08.ScrollKept', WHERE WHAT IT READS IS OF BULK AT MOST 1048576: true; the input reads as it did. -/
def scrollKeptUptoRow : OpenClaim := { program := "ytlhnpicmjjddeaa", sum := "fce7de9f8a8658c9e37c482c60598a9356a8b1c91a9295125662a7c22eb6c0e8", func := "novation/novationlaw08.ScrollKept", spec := "scrollKept", unfollowed := true, recurses := true, apart := false, narrowed := true }
def ScrollKeptUptoSaid : Prop := scrollKeptUptoRow.holds Try.pinned (OpenSpec.upto scrollKeptSpec)

/-- 'novationlaw10.VaultNobody', WHERE WHAT IT READS IS OF BULK AT MOST 1048576: true; the input reads as it did. -/
def vaultNobodyUptoRow : OpenClaim := { program := "ytlhnpicmjjddeaa", sum := "fce7de9f8a8658c9e37c482c60598a9356a8b1c91a9295125662a7c22eb6c0e8", func := "novation/novationlaw10.VaultNobody", spec := "vaultNobody", unfollowed := true, recurses := true, apart := false, narrowed := true }
def VaultNobodyUptoSaid : Prop := vaultNobodyUptoRow.holds Try.pinned (OpenSpec.upto vaultNobodySpec)

/-- 'novationlaw10.VaultKept', WHERE WHAT IT READS IS OF BULK AT MOST 1048576: true; the input reads as it did. -/
def vaultKeptUptoRow : OpenClaim := { program := "ytlhnpicmjjddeaa", sum := "fce7de9f8a8658c9e37c482c60598a9356a8b1c91a9295125662a7c22eb6c0e8", func := "novation/novationlaw10.VaultKept", spec := "vaultKept", unfollowed := true, recurses := true, apart := false, narrowed := true }
def VaultKeptUptoSaid : Prop := vaultKeptUptoRow.holds Try.pinned (OpenSpec.upto vaultKeptSpec)

/-- 'novationlaw10.VaultPlays', WHERE WHAT IT READS IS OF BULK AT MOST 1048576: true; the input reads as it did. -/
def vaultPlaysUptoRow : OpenClaim := { program := "ytlhnpicmjjddeaa", sum := "fce7de9f8a8658c9e37c482c60598a9356a8b1c91a9295125662a7c22eb6c0e8", func := "novation/novationlaw10.VaultPlays", spec := "vaultPlays", unfollowed := true, recurses := true, apart := false, narrowed := true }
def VaultPlaysUptoSaid : Prop := vaultPlaysUptoRow.holds Try.pinned (OpenSpec.upto vaultPlaysSpec)

end Rows
end Go.Proofs.Ytlhnpicmjjddeaa
