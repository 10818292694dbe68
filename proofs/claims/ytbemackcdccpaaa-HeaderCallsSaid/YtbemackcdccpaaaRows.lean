/-
  No cell of these rows narrows 'for every input' (looked for: loops, veiled, ifaces, maps, wideKeys, modest, calm, conditions, laid).
  DERIVED. THE GIVEN ROWS OF THIS SEAT. 21 by the template 'for every input the law returns true; each argument reads behind the call as it read before'; 0 by the template 'total and deterministic' (their statements: YtbemackcdccpaaaTotals.lean).
  GIVEN WITH THE SEED: the statements are not yours to turn. If you find one false, say at which input.
  Laid BY PROGRAM, IN A SANDBOX (cutbox-rows.mjs): the forced cells as the released guide's own fill.sh prints them over the translation 1a21d0256c8b7322… (all of the seat's roots in one cut). By AI agents, Wed Nov 11 2026. No macro, syntax, notation, axiom, sorry.
-/
import Derived.Test.YtbemackcdccpaaaChecked
import GoSem.Claim
import GoSem.ClaimJoined
import GoSem.ClaimMapViews
import Derived.JoinedTies
import Derived.KernelRfl
namespace Go.Proofs.Ytbemackcdccpaaa
/- THE CELL 'sum', in the pinned program and in every row, IS THE sha256 OF THE DUMP (.gsa) THAT YtbemackcdccpaaaProg.lean LOADS. Nothing in Lean hashes anything: it is a label: what it is worth is what the hold of that sum in a sandbox is worth. -/
noncomputable def Try.pinned : Pinned := { name := "ytbemackcdccpaaa", sum := "1a21d0256c8b7322a56518c3d2adbd2f1dc3522ccfe52ef4bd5809df1a69bb5e", checked := Try.checked }
namespace Rows
def none {H : Type} : Left H := { results := [], args := [] }

/-- 'nameplatelaw03.OctetsWrite': WHATEVER THE INPUT: true; the input reads as it did. -/
def octetsWriteSpec : ChangeSpec := { name := "octetsWrite", fn := fun _ => fun
  | [d1, d2] => { results := [.lit (.bool true)], args := [d1, d2] }
  | _ => none }
def octetsWriteRow : OpenClaim := { program := "ytbemackcdccpaaa", sum := "1a21d0256c8b7322a56518c3d2adbd2f1dc3522ccfe52ef4bd5809df1a69bb5e", func := "nameplate/nameplatelaw03.OctetsWrite", spec := "octetsWrite", apart := false }
def OctetsWriteSaid : Prop := octetsWriteRow.holds Try.pinned (OpenSpec.ofChange octetsWriteSpec)

/-- ITS FALSE NEIGHBOUR: 'it returns false'. Refute it at one input. -/
def octetsWriteWrong : ChangeSpec := { name := "octetsWrite", fn := fun _ => fun
  | [d1, d2] => { results := [.lit (.bool false)], args := [d1, d2] }
  | _ => none }
def OctetsWriteWrongFalsely : Prop := octetsWriteRow.holds Try.pinned (OpenSpec.ofChange octetsWriteWrong)

/-- 'nameplatelaw06.HeaderBits': WHATEVER THE INPUT: true; the input reads as it did. -/
def headerBitsSpec : ChangeSpec := { name := "headerBits", fn := fun _ => fun
  | [d] => { results := [.lit (.bool true)], args := [d] }
  | _ => none }
def headerBitsRow : OpenClaim := { program := "ytbemackcdccpaaa", sum := "1a21d0256c8b7322a56518c3d2adbd2f1dc3522ccfe52ef4bd5809df1a69bb5e", func := "nameplate/nameplatelaw06.HeaderBits", spec := "headerBits", apart := false }
def HeaderBitsSaid : Prop := headerBitsRow.holds Try.pinned (OpenSpec.ofChange headerBitsSpec)

/-- ITS FALSE NEIGHBOUR: 'it returns false'. Refute it at one input. -/
def headerBitsWrong : ChangeSpec := { name := "headerBits", fn := fun _ => fun
  | [d] => { results := [.lit (.bool false)], args := [d] }
  | _ => none }
def HeaderBitsWrongFalsely : Prop := headerBitsRow.holds Try.pinned (OpenSpec.ofChange headerBitsWrong)

/-- 'nameplatelaw06.HeaderReply': WHATEVER THE INPUT: true; the input reads as it did. -/
def headerReplySpec : ChangeSpec := { name := "headerReply", fn := fun _ => fun
  | [d1, d2] => { results := [.lit (.bool true)], args := [d1, d2] }
  | _ => none }
def headerReplyRow : OpenClaim := { program := "ytbemackcdccpaaa", sum := "1a21d0256c8b7322a56518c3d2adbd2f1dc3522ccfe52ef4bd5809df1a69bb5e", func := "nameplate/nameplatelaw06.HeaderReply", spec := "headerReply", apart := false }
def HeaderReplySaid : Prop := headerReplyRow.holds Try.pinned (OpenSpec.ofChange headerReplySpec)

/-- ITS FALSE NEIGHBOUR: 'it returns false'. Refute it at one input. -/
def headerReplyWrong : ChangeSpec := { name := "headerReply", fn := fun _ => fun
  | [d1, d2] => { results := [.lit (.bool false)], args := [d1, d2] }
  | _ => none }
def HeaderReplyWrongFalsely : Prop := headerReplyRow.holds Try.pinned (OpenSpec.ofChange headerReplyWrong)

/-- 'nameplatelaw03.OctetsPatches': WHATEVER THE INPUT: true; the input reads as it did. -/
def octetsPatchesSpec : ChangeSpec := { name := "octetsPatches", fn := fun _ => fun
  | [d1, d2, d3, d4] => { results := [.lit (.bool true)], args := [d1, d2, d3, d4] }
  | _ => none }
def octetsPatchesRow : OpenClaim := { program := "ytbemackcdccpaaa", sum := "1a21d0256c8b7322a56518c3d2adbd2f1dc3522ccfe52ef4bd5809df1a69bb5e", func := "nameplate/nameplatelaw03.OctetsPatches", spec := "octetsPatches", apart := false }
def OctetsPatchesSaid : Prop := octetsPatchesRow.holds Try.pinned (OpenSpec.ofChange octetsPatchesSpec)

/-- ITS FALSE NEIGHBOUR: 'it returns false'. Refute it at one input. -/
def octetsPatchesWrong : ChangeSpec := { name := "octetsPatches", fn := fun _ => fun
  | [d1, d2, d3, d4] => { results := [.lit (.bool false)], args := [d1, d2, d3, d4] }
  | _ => none }
def OctetsPatchesWrongFalsely : Prop := octetsPatchesRow.holds Try.pinned (OpenSpec.ofChange octetsPatchesWrong)

/-- 'nameplatelaw08.UnpackBack': WHATEVER THE INPUT: true; the input reads as it did. -/
def unpackBackSpec : ChangeSpec := { name := "unpackBack", fn := fun _ => fun
  | [d] => { results := [.lit (.bool true)], args := [d] }
  | _ => none }
def unpackBackRow : OpenClaim := { program := "ytbemackcdccpaaa", sum := "1a21d0256c8b7322a56518c3d2adbd2f1dc3522ccfe52ef4bd5809df1a69bb5e", func := "nameplate/nameplatelaw08.UnpackBack", spec := "unpackBack", inPlace := ["internal/abi.NoEscape"], apart := false }
def UnpackBackSaid : Prop := unpackBackRow.holds Try.pinned (OpenSpec.ofChange unpackBackSpec)

/-- ITS FALSE NEIGHBOUR: 'it returns false'. Refute it at one input. -/
def unpackBackWrong : ChangeSpec := { name := "unpackBack", fn := fun _ => fun
  | [d] => { results := [.lit (.bool false)], args := [d] }
  | _ => none }
def UnpackBackWrongFalsely : Prop := unpackBackRow.holds Try.pinned (OpenSpec.ofChange unpackBackWrong)

/-- 'nameplatelaw03.OctetsBack': WHATEVER THE INPUT: true; the input reads as it did. -/
def octetsBackSpec : ChangeSpec := { name := "octetsBack", fn := fun _ => fun
  | [d] => { results := [.lit (.bool true)], args := [d] }
  | _ => none }
def octetsBackRow : OpenClaim := { program := "ytbemackcdccpaaa", sum := "1a21d0256c8b7322a56518c3d2adbd2f1dc3522ccfe52ef4bd5809df1a69bb5e", func := "nameplate/nameplatelaw03.OctetsBack", spec := "octetsBack", apart := false }
def OctetsBackSaid : Prop := octetsBackRow.holds Try.pinned (OpenSpec.ofChange octetsBackSpec)

/-- ITS FALSE NEIGHBOUR: 'it returns false'. Refute it at one input. -/
def octetsBackWrong : ChangeSpec := { name := "octetsBack", fn := fun _ => fun
  | [d] => { results := [.lit (.bool false)], args := [d] }
  | _ => none }
def OctetsBackWrongFalsely : Prop := octetsBackRow.holds Try.pinned (OpenSpec.ofChange octetsBackWrong)

/-- 'nameplatelaw03.OctetsRead': WHATEVER THE INPUT: true; the input reads as it did. -/
def octetsReadSpec : ChangeSpec := { name := "octetsRead", fn := fun _ => fun
  | [d1, d2] => { results := [.lit (.bool true)], args := [d1, d2] }
  | _ => none }
def octetsReadRow : OpenClaim := { program := "ytbemackcdccpaaa", sum := "1a21d0256c8b7322a56518c3d2adbd2f1dc3522ccfe52ef4bd5809df1a69bb5e", func := "nameplate/nameplatelaw03.OctetsRead", spec := "octetsRead", apart := false }
def OctetsReadSaid : Prop := octetsReadRow.holds Try.pinned (OpenSpec.ofChange octetsReadSpec)

/-- ITS FALSE NEIGHBOUR: 'it returns false'. Refute it at one input. -/
def octetsReadWrong : ChangeSpec := { name := "octetsRead", fn := fun _ => fun
  | [d1, d2] => { results := [.lit (.bool false)], args := [d1, d2] }
  | _ => none }
def OctetsReadWrongFalsely : Prop := octetsReadRow.holds Try.pinned (OpenSpec.ofChange octetsReadWrong)

/-- 'nameplatelaw08.UnpackForward': WHATEVER THE INPUT: true; the input reads as it did. -/
def unpackForwardSpec : ChangeSpec := { name := "unpackForward", fn := fun _ => fun
  | [d1, d2, d3] => { results := [.lit (.bool true)], args := [d1, d2, d3] }
  | _ => none }
def unpackForwardRow : OpenClaim := { program := "ytbemackcdccpaaa", sum := "1a21d0256c8b7322a56518c3d2adbd2f1dc3522ccfe52ef4bd5809df1a69bb5e", func := "nameplate/nameplatelaw08.UnpackForward", spec := "unpackForward", inPlace := ["internal/abi.NoEscape"], apart := false }
def UnpackForwardSaid : Prop := unpackForwardRow.holds Try.pinned (OpenSpec.ofChange unpackForwardSpec)

/-- ITS FALSE NEIGHBOUR: 'it returns false'. Refute it at one input. -/
def unpackForwardWrong : ChangeSpec := { name := "unpackForward", fn := fun _ => fun
  | [d1, d2, d3] => { results := [.lit (.bool false)], args := [d1, d2, d3] }
  | _ => none }
def UnpackForwardWrongFalsely : Prop := unpackForwardRow.holds Try.pinned (OpenSpec.ofChange unpackForwardWrong)

/-- 'nameplatelaw03.OctetsNil': WHATEVER THE INPUT: true; the input reads as it did. -/
def octetsNilSpec : ChangeSpec := { name := "octetsNil", fn := fun _ => fun
  | [d1, d2, d3] => { results := [.lit (.bool true)], args := [d1, d2, d3] }
  | _ => none }
def octetsNilRow : OpenClaim := { program := "ytbemackcdccpaaa", sum := "1a21d0256c8b7322a56518c3d2adbd2f1dc3522ccfe52ef4bd5809df1a69bb5e", func := "nameplate/nameplatelaw03.OctetsNil", spec := "octetsNil", apart := false }
def OctetsNilSaid : Prop := octetsNilRow.holds Try.pinned (OpenSpec.ofChange octetsNilSpec)

/-- ITS FALSE NEIGHBOUR: 'it returns false'. Refute it at one input. -/
def octetsNilWrong : ChangeSpec := { name := "octetsNil", fn := fun _ => fun
  | [d1, d2, d3] => { results := [.lit (.bool false)], args := [d1, d2, d3] }
  | _ => none }
def OctetsNilWrongFalsely : Prop := octetsNilRow.holds Try.pinned (OpenSpec.ofChange octetsNilWrong)

/-- 'nameplatelaw03.OctetsNames': WHATEVER THE INPUT: true; the input reads as it did. -/
def octetsNamesSpec : ChangeSpec := { name := "octetsNames", fn := fun _ => fun
  | [] => { results := [.lit (.bool true)], args := [] }
  | _ => none }
def octetsNamesRow : OpenClaim := { program := "ytbemackcdccpaaa", sum := "1a21d0256c8b7322a56518c3d2adbd2f1dc3522ccfe52ef4bd5809df1a69bb5e", func := "nameplate/nameplatelaw03.OctetsNames", spec := "octetsNames", apart := false }
def OctetsNamesSaid : Prop := octetsNamesRow.holds Try.pinned (OpenSpec.ofChange octetsNamesSpec)

/-- ITS FALSE NEIGHBOUR: 'it returns false'. Refute it at one input. -/
def octetsNamesWrong : ChangeSpec := { name := "octetsNames", fn := fun _ => fun
  | [] => { results := [.lit (.bool false)], args := [] }
  | _ => none }
def OctetsNamesWrongFalsely : Prop := octetsNamesRow.holds Try.pinned (OpenSpec.ofChange octetsNamesWrong)

/-- 'nameplatelaw08.UnpackNames': WHATEVER THE INPUT: true; the input reads as it did. -/
def unpackNamesSpec : ChangeSpec := { name := "unpackNames", fn := fun _ => fun
  | [] => { results := [.lit (.bool true)], args := [] }
  | _ => none }
def unpackNamesRow : OpenClaim := { program := "ytbemackcdccpaaa", sum := "1a21d0256c8b7322a56518c3d2adbd2f1dc3522ccfe52ef4bd5809df1a69bb5e", func := "nameplate/nameplatelaw08.UnpackNames", spec := "unpackNames", inPlace := ["internal/abi.NoEscape"], apart := false }
def UnpackNamesSaid : Prop := unpackNamesRow.holds Try.pinned (OpenSpec.ofChange unpackNamesSpec)

/-- ITS FALSE NEIGHBOUR: 'it returns false'. Refute it at one input. -/
def unpackNamesWrong : ChangeSpec := { name := "unpackNames", fn := fun _ => fun
  | [] => { results := [.lit (.bool false)], args := [] }
  | _ => none }
def UnpackNamesWrongFalsely : Prop := unpackNamesRow.holds Try.pinned (OpenSpec.ofChange unpackNamesWrong)

/-- 'nameplatelaw08.UnpackBounds': WHATEVER THE INPUT: true; the input reads as it did. -/
def unpackBoundsSpec : ChangeSpec := { name := "unpackBounds", fn := fun _ => fun
  | [d1, d2] => { results := [.lit (.bool true)], args := [d1, d2] }
  | _ => none }
def unpackBoundsRow : OpenClaim := { program := "ytbemackcdccpaaa", sum := "1a21d0256c8b7322a56518c3d2adbd2f1dc3522ccfe52ef4bd5809df1a69bb5e", func := "nameplate/nameplatelaw08.UnpackBounds", spec := "unpackBounds", inPlace := ["internal/abi.NoEscape"], apart := false }
def UnpackBoundsSaid : Prop := unpackBoundsRow.holds Try.pinned (OpenSpec.ofChange unpackBoundsSpec)

/-- ITS FALSE NEIGHBOUR: 'it returns false'. Refute it at one input. -/
def unpackBoundsWrong : ChangeSpec := { name := "unpackBounds", fn := fun _ => fun
  | [d1, d2] => { results := [.lit (.bool false)], args := [d1, d2] }
  | _ => none }
def UnpackBoundsWrongFalsely : Prop := unpackBoundsRow.holds Try.pinned (OpenSpec.ofChange unpackBoundsWrong)

/-- 'nameplatelaw07.PackGrows': WHATEVER THE INPUT: true; the input reads as it did. -/
def packGrowsSpec : ChangeSpec := { name := "packGrows", fn := fun _ => fun
  | [d1, d2] => { results := [.lit (.bool true)], args := [d1, d2] }
  | _ => none }
def packGrowsRow : OpenClaim := { program := "ytbemackcdccpaaa", sum := "1a21d0256c8b7322a56518c3d2adbd2f1dc3522ccfe52ef4bd5809df1a69bb5e", func := "nameplate/nameplatelaw07.PackGrows", spec := "packGrows", apart := false }
def PackGrowsSaid : Prop := packGrowsRow.holds Try.pinned (OpenSpec.ofChange packGrowsSpec)

/-- ITS FALSE NEIGHBOUR: 'it returns false'. Refute it at one input. -/
def packGrowsWrong : ChangeSpec := { name := "packGrows", fn := fun _ => fun
  | [d1, d2] => { results := [.lit (.bool false)], args := [d1, d2] }
  | _ => none }
def PackGrowsWrongFalsely : Prop := packGrowsRow.holds Try.pinned (OpenSpec.ofChange packGrowsWrong)

/-- 'nameplatelaw06.HeaderBack': WHATEVER THE INPUT: true; the input reads as it did. -/
def headerBackSpec : ChangeSpec := { name := "headerBack", fn := fun _ => fun
  | [d1, d2, d3] => { results := [.lit (.bool true)], args := [d1, d2, d3] }
  | _ => none }
def headerBackRow : OpenClaim := { program := "ytbemackcdccpaaa", sum := "1a21d0256c8b7322a56518c3d2adbd2f1dc3522ccfe52ef4bd5809df1a69bb5e", func := "nameplate/nameplatelaw06.HeaderBack", spec := "headerBack", apart := false }
def HeaderBackSaid : Prop := headerBackRow.holds Try.pinned (OpenSpec.ofChange headerBackSpec)

/-- ITS FALSE NEIGHBOUR: 'it returns false'. Refute it at one input. -/
def headerBackWrong : ChangeSpec := { name := "headerBack", fn := fun _ => fun
  | [d1, d2, d3] => { results := [.lit (.bool false)], args := [d1, d2, d3] }
  | _ => none }
def HeaderBackWrongFalsely : Prop := headerBackRow.holds Try.pinned (OpenSpec.ofChange headerBackWrong)

/-- 'nameplatelaw06.HeaderUnlike': WHATEVER THE INPUT: true; the input reads as it did. -/
def headerUnlikeSpec : ChangeSpec := { name := "headerUnlike", fn := fun _ => fun
  | [d1, d2, d3] => { results := [.lit (.bool true)], args := [d1, d2, d3] }
  | _ => none }
def headerUnlikeRow : OpenClaim := { program := "ytbemackcdccpaaa", sum := "1a21d0256c8b7322a56518c3d2adbd2f1dc3522ccfe52ef4bd5809df1a69bb5e", func := "nameplate/nameplatelaw06.HeaderUnlike", spec := "headerUnlike", apart := false }
def HeaderUnlikeSaid : Prop := headerUnlikeRow.holds Try.pinned (OpenSpec.ofChange headerUnlikeSpec)

/-- ITS FALSE NEIGHBOUR: 'it returns false'. Refute it at one input. -/
def headerUnlikeWrong : ChangeSpec := { name := "headerUnlike", fn := fun _ => fun
  | [d1, d2, d3] => { results := [.lit (.bool false)], args := [d1, d2, d3] }
  | _ => none }
def HeaderUnlikeWrongFalsely : Prop := headerUnlikeRow.holds Try.pinned (OpenSpec.ofChange headerUnlikeWrong)

/-- 'nameplatelaw06.HeaderNames': WHATEVER THE INPUT: true; the input reads as it did. -/
def headerNamesSpec : ChangeSpec := { name := "headerNames", fn := fun _ => fun
  | [] => { results := [.lit (.bool true)], args := [] }
  | _ => none }
def headerNamesRow : OpenClaim := { program := "ytbemackcdccpaaa", sum := "1a21d0256c8b7322a56518c3d2adbd2f1dc3522ccfe52ef4bd5809df1a69bb5e", func := "nameplate/nameplatelaw06.HeaderNames", spec := "headerNames", apart := false }
def HeaderNamesSaid : Prop := headerNamesRow.holds Try.pinned (OpenSpec.ofChange headerNamesSpec)

/-- ITS FALSE NEIGHBOUR: 'it returns false'. Refute it at one input. -/
def headerNamesWrong : ChangeSpec := { name := "headerNames", fn := fun _ => fun
  | [] => { results := [.lit (.bool false)], args := [] }
  | _ => none }
def HeaderNamesWrongFalsely : Prop := headerNamesRow.holds Try.pinned (OpenSpec.ofChange headerNamesWrong)

/-- 'nameplatelaw06.HeaderCalls': WHATEVER THE INPUT: true; the input reads as it did. -/
def headerCallsSpec : ChangeSpec := { name := "headerCalls", fn := fun _ => fun
  | [d1, d2, d3] => { results := [.lit (.bool true)], args := [d1, d2, d3] }
  | _ => none }
def headerCallsRow : OpenClaim := { program := "ytbemackcdccpaaa", sum := "1a21d0256c8b7322a56518c3d2adbd2f1dc3522ccfe52ef4bd5809df1a69bb5e", func := "nameplate/nameplatelaw06.HeaderCalls", spec := "headerCalls", apart := false }
def HeaderCallsSaid : Prop := headerCallsRow.holds Try.pinned (OpenSpec.ofChange headerCallsSpec)

/-- ITS FALSE NEIGHBOUR: 'it returns false'. Refute it at one input. -/
def headerCallsWrong : ChangeSpec := { name := "headerCalls", fn := fun _ => fun
  | [d1, d2, d3] => { results := [.lit (.bool false)], args := [d1, d2, d3] }
  | _ => none }
def HeaderCallsWrongFalsely : Prop := headerCallsRow.holds Try.pinned (OpenSpec.ofChange headerCallsWrong)

/-- 'nameplatelaw07.PackBack': WHATEVER THE INPUT: true; the input reads as it did. -/
def packBackSpec : ChangeSpec := { name := "packBack", fn := fun _ => fun
  | [d1, d2, d3] => { results := [.lit (.bool true)], args := [d1, d2, d3] }
  | _ => none }
def packBackRow : OpenClaim := { program := "ytbemackcdccpaaa", sum := "1a21d0256c8b7322a56518c3d2adbd2f1dc3522ccfe52ef4bd5809df1a69bb5e", func := "nameplate/nameplatelaw07.PackBack", spec := "packBack", apart := false }
def PackBackSaid : Prop := packBackRow.holds Try.pinned (OpenSpec.ofChange packBackSpec)

/-- ITS FALSE NEIGHBOUR: 'it returns false'. Refute it at one input. -/
def packBackWrong : ChangeSpec := { name := "packBack", fn := fun _ => fun
  | [d1, d2, d3] => { results := [.lit (.bool false)], args := [d1, d2, d3] }
  | _ => none }
def PackBackWrongFalsely : Prop := packBackRow.holds Try.pinned (OpenSpec.ofChange packBackWrong)

/-- 'nameplatelaw07.PackLengths': WHATEVER THE INPUT: true; the input reads as it did. -/
def packLengthsSpec : ChangeSpec := { name := "packLengths", fn := fun _ => fun
  | [d] => { results := [.lit (.bool true)], args := [d] }
  | _ => none }
def packLengthsRow : OpenClaim := { program := "ytbemackcdccpaaa", sum := "1a21d0256c8b7322a56518c3d2adbd2f1dc3522ccfe52ef4bd5809df1a69bb5e", func := "nameplate/nameplatelaw07.PackLengths", spec := "packLengths", apart := false }
def PackLengthsSaid : Prop := packLengthsRow.holds Try.pinned (OpenSpec.ofChange packLengthsSpec)

/-- ITS FALSE NEIGHBOUR: 'it returns false'. Refute it at one input. -/
def packLengthsWrong : ChangeSpec := { name := "packLengths", fn := fun _ => fun
  | [d] => { results := [.lit (.bool false)], args := [d] }
  | _ => none }
def PackLengthsWrongFalsely : Prop := packLengthsRow.holds Try.pinned (OpenSpec.ofChange packLengthsWrong)

/-- 'nameplatelaw07.PackNil': WHATEVER THE INPUT: true; the input reads as it did. -/
def packNilSpec : ChangeSpec := { name := "packNil", fn := fun _ => fun
  | [d1, d2, d3, d4] => { results := [.lit (.bool true)], args := [d1, d2, d3, d4] }
  | _ => none }
def packNilRow : OpenClaim := { program := "ytbemackcdccpaaa", sum := "1a21d0256c8b7322a56518c3d2adbd2f1dc3522ccfe52ef4bd5809df1a69bb5e", func := "nameplate/nameplatelaw07.PackNil", spec := "packNil", apart := false }
def PackNilSaid : Prop := packNilRow.holds Try.pinned (OpenSpec.ofChange packNilSpec)

/-- ITS FALSE NEIGHBOUR: 'it returns false'. Refute it at one input. -/
def packNilWrong : ChangeSpec := { name := "packNil", fn := fun _ => fun
  | [d1, d2, d3, d4] => { results := [.lit (.bool false)], args := [d1, d2, d3, d4] }
  | _ => none }
def PackNilWrongFalsely : Prop := packNilRow.holds Try.pinned (OpenSpec.ofChange packNilWrong)

/-- 'nameplatelaw07.PackNames': WHATEVER THE INPUT: true; the input reads as it did. -/
def packNamesSpec : ChangeSpec := { name := "packNames", fn := fun _ => fun
  | [] => { results := [.lit (.bool true)], args := [] }
  | _ => none }
def packNamesRow : OpenClaim := { program := "ytbemackcdccpaaa", sum := "1a21d0256c8b7322a56518c3d2adbd2f1dc3522ccfe52ef4bd5809df1a69bb5e", func := "nameplate/nameplatelaw07.PackNames", spec := "packNames", apart := false }
def PackNamesSaid : Prop := packNamesRow.holds Try.pinned (OpenSpec.ofChange packNamesSpec)

/-- ITS FALSE NEIGHBOUR: 'it returns false'. Refute it at one input. -/
def packNamesWrong : ChangeSpec := { name := "packNames", fn := fun _ => fun
  | [] => { results := [.lit (.bool false)], args := [] }
  | _ => none }
def PackNamesWrongFalsely : Prop := packNamesRow.holds Try.pinned (OpenSpec.ofChange packNamesWrong)

/- THE SECOND FORM. 'bulk': how many values and letters a reading holds, each counted each time it is reached (what is shared counts as often as it is met; a slice's spare places count too). A statement '..UptoSaid' is the law's where the arguments, and the package variables that the reading takes, are together of bulk at most 1048576: NARROWER than '..Said'. Prove '..Said' where nothing that the law and all that it calls make is longer than what came in: it says more and counts as full. Else prove '..UptoSaid'. A law counts once. -/
mutual
def uptoBulk {H : Type} : DataW H → Nat
  | .lit (.string bytes) => bytes.length + 1
  | .lit _ => 1
  | .nil => 1
  | .ptr d => uptoBulk d + 1
  | .slice elems spare => uptoBulkAll elems + uptoBulkAll spare + 1
  | .agg parts => uptoBulkAll parts + 1
  | .iface _ d => uptoBulk d + 1
  | .map entries => uptoBulkEntries entries + 1
  | .held _ => 1
def uptoBulkAll {H : Type} : List (DataW H) → Nat
  | [] => 0
  | d :: r => uptoBulk d + uptoBulkAll r
def uptoBulkEntries {H : Type} : List (Lit × DataW H) → Nat
  | [] => 0
  | x :: r => uptoBulkEntry x + uptoBulkEntries r
def uptoBulkEntry {H : Type} : Lit × DataW H → Nat
  | (.string bytes, d) => bytes.length + uptoBulk d + 1
  | (_, d) => uptoBulk d + 1
 end
def uptoSmall : (H : Type) → List (DataW H) → Bool := fun _ ds => decide (uptoBulkAll ds ≤ 1048576)
def OpenSpec.upto (s : _root_.Go.ChangeSpec) : _root_.Go.OpenSpec := { _root_.Go.OpenSpec.ofChange s with cond := some uptoSmall }

/-- 'nameplatelaw03.OctetsWrite', WHERE WHAT IT READS IS OF BULK AT MOST 1048576: true; the input reads as it did. -/
def octetsWriteUptoRow : OpenClaim := { program := "ytbemackcdccpaaa", sum := "1a21d0256c8b7322a56518c3d2adbd2f1dc3522ccfe52ef4bd5809df1a69bb5e", func := "nameplate/nameplatelaw03.OctetsWrite", spec := "octetsWrite", apart := false, narrowed := true }
def OctetsWriteUptoSaid : Prop := octetsWriteUptoRow.holds Try.pinned (OpenSpec.upto octetsWriteSpec)

/-- 'nameplatelaw06.HeaderBits', WHERE WHAT IT READS IS OF BULK AT MOST 1048576: true; the input reads as it did. -/
def headerBitsUptoRow : OpenClaim := { program := "ytbemackcdccpaaa", sum := "1a21d0256c8b7322a56518c3d2adbd2f1dc3522ccfe52ef4bd5809df1a69bb5e", func := "nameplate/nameplatelaw06.HeaderBits", spec := "headerBits", apart := false, narrowed := true }
def HeaderBitsUptoSaid : Prop := headerBitsUptoRow.holds Try.pinned (OpenSpec.upto headerBitsSpec)

/-- 'nameplatelaw06.HeaderReply', WHERE WHAT IT READS IS OF BULK AT MOST 1048576: true; the input reads as it did. -/
def headerReplyUptoRow : OpenClaim := { program := "ytbemackcdccpaaa", sum := "1a21d0256c8b7322a56518c3d2adbd2f1dc3522ccfe52ef4bd5809df1a69bb5e", func := "nameplate/nameplatelaw06.HeaderReply", spec := "headerReply", apart := false, narrowed := true }
def HeaderReplyUptoSaid : Prop := headerReplyUptoRow.holds Try.pinned (OpenSpec.upto headerReplySpec)

/-- 'nameplatelaw03.OctetsPatches', WHERE WHAT IT READS IS OF BULK AT MOST 1048576: true; the input reads as it did. -/
def octetsPatchesUptoRow : OpenClaim := { program := "ytbemackcdccpaaa", sum := "1a21d0256c8b7322a56518c3d2adbd2f1dc3522ccfe52ef4bd5809df1a69bb5e", func := "nameplate/nameplatelaw03.OctetsPatches", spec := "octetsPatches", apart := false, narrowed := true }
def OctetsPatchesUptoSaid : Prop := octetsPatchesUptoRow.holds Try.pinned (OpenSpec.upto octetsPatchesSpec)

/-- 'nameplatelaw08.UnpackBack', WHERE WHAT IT READS IS OF BULK AT MOST 1048576: true; the input reads as it did. -/
def unpackBackUptoRow : OpenClaim := { program := "ytbemackcdccpaaa", sum := "1a21d0256c8b7322a56518c3d2adbd2f1dc3522ccfe52ef4bd5809df1a69bb5e", func := "nameplate/nameplatelaw08.UnpackBack", spec := "unpackBack", inPlace := ["internal/abi.NoEscape"], apart := false, narrowed := true }
def UnpackBackUptoSaid : Prop := unpackBackUptoRow.holds Try.pinned (OpenSpec.upto unpackBackSpec)

/-- 'nameplatelaw03.OctetsBack', WHERE WHAT IT READS IS OF BULK AT MOST 1048576: true; the input reads as it did. -/
def octetsBackUptoRow : OpenClaim := { program := "ytbemackcdccpaaa", sum := "1a21d0256c8b7322a56518c3d2adbd2f1dc3522ccfe52ef4bd5809df1a69bb5e", func := "nameplate/nameplatelaw03.OctetsBack", spec := "octetsBack", apart := false, narrowed := true }
def OctetsBackUptoSaid : Prop := octetsBackUptoRow.holds Try.pinned (OpenSpec.upto octetsBackSpec)

/-- 'nameplatelaw03.OctetsRead', WHERE WHAT IT READS IS OF BULK AT MOST 1048576: true; the input reads as it did. -/
def octetsReadUptoRow : OpenClaim := { program := "ytbemackcdccpaaa", sum := "1a21d0256c8b7322a56518c3d2adbd2f1dc3522ccfe52ef4bd5809df1a69bb5e", func := "nameplate/nameplatelaw03.OctetsRead", spec := "octetsRead", apart := false, narrowed := true }
def OctetsReadUptoSaid : Prop := octetsReadUptoRow.holds Try.pinned (OpenSpec.upto octetsReadSpec)

/-- 'nameplatelaw08.UnpackForward', WHERE WHAT IT READS IS OF BULK AT MOST 1048576: true; the input reads as it did. -/
def unpackForwardUptoRow : OpenClaim := { program := "ytbemackcdccpaaa", sum := "1a21d0256c8b7322a56518c3d2adbd2f1dc3522ccfe52ef4bd5809df1a69bb5e", func := "nameplate/nameplatelaw08.UnpackForward", spec := "unpackForward", inPlace := ["internal/abi.NoEscape"], apart := false, narrowed := true }
def UnpackForwardUptoSaid : Prop := unpackForwardUptoRow.holds Try.pinned (OpenSpec.upto unpackForwardSpec)

/-- 'nameplatelaw03.OctetsNil', WHERE WHAT IT READS IS OF BULK AT MOST 1048576: true; the input reads as it did. -/
def octetsNilUptoRow : OpenClaim := { program := "ytbemackcdccpaaa", sum := "1a21d0256c8b7322a56518c3d2adbd2f1dc3522ccfe52ef4bd5809df1a69bb5e", func := "nameplate/nameplatelaw03.OctetsNil", spec := "octetsNil", apart := false, narrowed := true }
def OctetsNilUptoSaid : Prop := octetsNilUptoRow.holds Try.pinned (OpenSpec.upto octetsNilSpec)

/-- 'nameplatelaw03.OctetsNames', WHERE WHAT IT READS IS OF BULK AT MOST 1048576: true; the input reads as it did. -/
def octetsNamesUptoRow : OpenClaim := { program := "ytbemackcdccpaaa", sum := "1a21d0256c8b7322a56518c3d2adbd2f1dc3522ccfe52ef4bd5809df1a69bb5e", func := "nameplate/nameplatelaw03.OctetsNames", spec := "octetsNames", apart := false, narrowed := true }
def OctetsNamesUptoSaid : Prop := octetsNamesUptoRow.holds Try.pinned (OpenSpec.upto octetsNamesSpec)

/-- 'nameplatelaw08.UnpackNames', WHERE WHAT IT READS IS OF BULK AT MOST 1048576: true; the input reads as it did. -/
def unpackNamesUptoRow : OpenClaim := { program := "ytbemackcdccpaaa", sum := "1a21d0256c8b7322a56518c3d2adbd2f1dc3522ccfe52ef4bd5809df1a69bb5e", func := "nameplate/nameplatelaw08.UnpackNames", spec := "unpackNames", inPlace := ["internal/abi.NoEscape"], apart := false, narrowed := true }
def UnpackNamesUptoSaid : Prop := unpackNamesUptoRow.holds Try.pinned (OpenSpec.upto unpackNamesSpec)

/-- 'nameplatelaw08.UnpackBounds', WHERE WHAT IT READS IS OF BULK AT MOST 1048576: true; the input reads as it did. -/
def unpackBoundsUptoRow : OpenClaim := { program := "ytbemackcdccpaaa", sum := "1a21d0256c8b7322a56518c3d2adbd2f1dc3522ccfe52ef4bd5809df1a69bb5e", func := "nameplate/nameplatelaw08.UnpackBounds", spec := "unpackBounds", inPlace := ["internal/abi.NoEscape"], apart := false, narrowed := true }
def UnpackBoundsUptoSaid : Prop := unpackBoundsUptoRow.holds Try.pinned (OpenSpec.upto unpackBoundsSpec)

/-- 'nameplatelaw07.PackGrows', WHERE WHAT IT READS IS OF BULK AT MOST 1048576: true; the input reads as it did. -/
def packGrowsUptoRow : OpenClaim := { program := "ytbemackcdccpaaa", sum := "1a21d0256c8b7322a56518c3d2adbd2f1dc3522ccfe52ef4bd5809df1a69bb5e", func := "nameplate/nameplatelaw07.PackGrows", spec := "packGrows", apart := false, narrowed := true }
def PackGrowsUptoSaid : Prop := packGrowsUptoRow.holds Try.pinned (OpenSpec.upto packGrowsSpec)

/-- 'nameplatelaw06.HeaderBack', WHERE WHAT IT READS IS OF BULK AT MOST 1048576: true; the input reads as it did. -/
def headerBackUptoRow : OpenClaim := { program := "ytbemackcdccpaaa", sum := "1a21d0256c8b7322a56518c3d2adbd2f1dc3522ccfe52ef4bd5809df1a69bb5e", func := "nameplate/nameplatelaw06.HeaderBack", spec := "headerBack", apart := false, narrowed := true }
def HeaderBackUptoSaid : Prop := headerBackUptoRow.holds Try.pinned (OpenSpec.upto headerBackSpec)

/-- 'nameplatelaw06.HeaderUnlike', WHERE WHAT IT READS IS OF BULK AT MOST 1048576: true; the input reads as it did. -/
def headerUnlikeUptoRow : OpenClaim := { program := "ytbemackcdccpaaa", sum := "1a21d0256c8b7322a56518c3d2adbd2f1dc3522ccfe52ef4bd5809df1a69bb5e", func := "nameplate/nameplatelaw06.HeaderUnlike", spec := "headerUnlike", apart := false, narrowed := true }
def HeaderUnlikeUptoSaid : Prop := headerUnlikeUptoRow.holds Try.pinned (OpenSpec.upto headerUnlikeSpec)

/-- 'nameplatelaw06.HeaderNames', WHERE WHAT IT READS IS OF BULK AT MOST 1048576: true; the input reads as it did. -/
def headerNamesUptoRow : OpenClaim := { program := "ytbemackcdccpaaa", sum := "1a21d0256c8b7322a56518c3d2adbd2f1dc3522ccfe52ef4bd5809df1a69bb5e", func := "nameplate/nameplatelaw06.HeaderNames", spec := "headerNames", apart := false, narrowed := true }
def HeaderNamesUptoSaid : Prop := headerNamesUptoRow.holds Try.pinned (OpenSpec.upto headerNamesSpec)

/-- 'nameplatelaw06.HeaderCalls', WHERE WHAT IT READS IS OF BULK AT MOST 1048576: true; the input reads as it did. -/
def headerCallsUptoRow : OpenClaim := { program := "ytbemackcdccpaaa", sum := "1a21d0256c8b7322a56518c3d2adbd2f1dc3522ccfe52ef4bd5809df1a69bb5e", func := "nameplate/nameplatelaw06.HeaderCalls", spec := "headerCalls", apart := false, narrowed := true }
def HeaderCallsUptoSaid : Prop := headerCallsUptoRow.holds Try.pinned (OpenSpec.upto headerCallsSpec)

/-- 'nameplatelaw07.PackBack', WHERE WHAT IT READS IS OF BULK AT MOST 1048576: true; the input reads as it did. -/
def packBackUptoRow : OpenClaim := { program := "ytbemackcdccpaaa", sum := "1a21d0256c8b7322a56518c3d2adbd2f1dc3522ccfe52ef4bd5809df1a69bb5e", func := "nameplate/nameplatelaw07.PackBack", spec := "packBack", apart := false, narrowed := true }
def PackBackUptoSaid : Prop := packBackUptoRow.holds Try.pinned (OpenSpec.upto packBackSpec)

/-- 'nameplatelaw07.PackLengths', WHERE WHAT IT READS IS OF BULK AT MOST 1048576: true; the input reads as it did. -/
def packLengthsUptoRow : OpenClaim := { program := "ytbemackcdccpaaa", sum := "1a21d0256c8b7322a56518c3d2adbd2f1dc3522ccfe52ef4bd5809df1a69bb5e", func := "nameplate/nameplatelaw07.PackLengths", spec := "packLengths", apart := false, narrowed := true }
def PackLengthsUptoSaid : Prop := packLengthsUptoRow.holds Try.pinned (OpenSpec.upto packLengthsSpec)

/-- 'nameplatelaw07.PackNil', WHERE WHAT IT READS IS OF BULK AT MOST 1048576: true; the input reads as it did. -/
def packNilUptoRow : OpenClaim := { program := "ytbemackcdccpaaa", sum := "1a21d0256c8b7322a56518c3d2adbd2f1dc3522ccfe52ef4bd5809df1a69bb5e", func := "nameplate/nameplatelaw07.PackNil", spec := "packNil", apart := false, narrowed := true }
def PackNilUptoSaid : Prop := packNilUptoRow.holds Try.pinned (OpenSpec.upto packNilSpec)

/-- 'nameplatelaw07.PackNames', WHERE WHAT IT READS IS OF BULK AT MOST 1048576: true; the input reads as it did. -/
def packNamesUptoRow : OpenClaim := { program := "ytbemackcdccpaaa", sum := "1a21d0256c8b7322a56518c3d2adbd2f1dc3522ccfe52ef4bd5809df1a69bb5e", func := "nameplate/nameplatelaw07.PackNames", spec := "packNames", apart := false, narrowed := true }
def PackNamesUptoSaid : Prop := packNamesUptoRow.holds Try.pinned (OpenSpec.upto packNamesSpec)

end Rows
end Go.Proofs.Ytbemackcdccpaaa
