/-
  No cell of these rows narrows 'for every input' (looked for: loops, veiled, ifaces, maps, wideKeys, modest, calm, conditions, laid).
  DERIVED. THE GIVEN ROWS OF THIS SEAT. 6 by the template 'for every input the law returns true; each argument reads behind the call as it read before'; 0 by the template 'total and deterministic' (their statements: YtmbgejiahmhffaaGreatTotals.lean).
  GIVEN WITH THE SEED: the statements are not yours to turn. If you find one false, say at which input.
  Laid BY PROGRAM, IN A SANDBOX (cutbox-rows.mjs): the forced cells as the released guide's own fill.sh prints them over the translation 2d7f3ea0ef6e4ac2… (all of the seat's roots in one cut). By AI agents, Wed Nov 11 2026. No macro, syntax, notation, axiom, sorry.
-/
import Derived.Test.YtmbgejiahmhffaaGreatChecked
import GoSem.Claim
import GoSem.ClaimJoined
import GoSem.ClaimMapViews
import Derived.JoinedTies
import Derived.KernelRfl
namespace Go.Proofs.YtmbgejiahmhffaaGreat
/- THE CELL 'sum', in the pinned program and in every row, IS THE sha256 OF THE DUMP (.gsa) THAT YtmbgejiahmhffaaGreatProg.lean LOADS. Nothing in Lean hashes anything: it is a label: what it is worth is what the hold of that sum in a sandbox is worth. -/
noncomputable def Tryz.pinned : Pinned := { name := "ytmbgejiahmhffaagreat", sum := "2d7f3ea0ef6e4ac2712e80bec88c838d815c1fa2122913eeb26efc8cc9219d93", checked := Tryz.checked }
namespace Rows
def none {H : Type} : Left H := { results := [], args := [] }

/-- 'nameplatelaw11.MessageNamesStand': WHATEVER THE INPUT: true; the input reads as it did. -/
def messageNamesStandSpec : ChangeSpec := { name := "messageNamesStand", fn := fun _ => fun
  | [d] => { results := [.lit (.bool true)], args := [d] }
  | _ => none }
def messageNamesStandRow : OpenClaim := { program := "ytmbgejiahmhffaagreat", sum := "2d7f3ea0ef6e4ac2712e80bec88c838d815c1fa2122913eeb26efc8cc9219d93", func := "nameplate/nameplatelaw11.MessageNamesStand", spec := "messageNamesStand", inPlace := ["internal/abi.NoEscape"], unfollowed := true, recurses := true, apart := false }
def MessageNamesStandSaid : Prop := messageNamesStandRow.holds Tryz.pinned (OpenSpec.ofChange messageNamesStandSpec)

/-- ITS FALSE NEIGHBOUR: 'it returns false'. Refute it at one input. -/
def messageNamesStandWrong : ChangeSpec := { name := "messageNamesStand", fn := fun _ => fun
  | [d] => { results := [.lit (.bool false)], args := [d] }
  | _ => none }
def MessageNamesStandWrongFalsely : Prop := messageNamesStandRow.holds Tryz.pinned (OpenSpec.ofChange messageNamesStandWrong)

/-- 'nameplatelaw11.MessageCuts': WHATEVER THE INPUT: true; the input reads as it did. -/
def messageCutsSpec : ChangeSpec := { name := "messageCuts", fn := fun _ => fun
  | [d1, d2] => { results := [.lit (.bool true)], args := [d1, d2] }
  | _ => none }
def messageCutsRow : OpenClaim := { program := "ytmbgejiahmhffaagreat", sum := "2d7f3ea0ef6e4ac2712e80bec88c838d815c1fa2122913eeb26efc8cc9219d93", func := "nameplate/nameplatelaw11.MessageCuts", spec := "messageCuts", inPlace := ["internal/abi.NoEscape"], unfollowed := true, recurses := true, apart := false }
def MessageCutsSaid : Prop := messageCutsRow.holds Tryz.pinned (OpenSpec.ofChange messageCutsSpec)

/-- ITS FALSE NEIGHBOUR: 'it returns false'. Refute it at one input. -/
def messageCutsWrong : ChangeSpec := { name := "messageCuts", fn := fun _ => fun
  | [d1, d2] => { results := [.lit (.bool false)], args := [d1, d2] }
  | _ => none }
def MessageCutsWrongFalsely : Prop := messageCutsRow.holds Tryz.pinned (OpenSpec.ofChange messageCutsWrong)

/-- 'nameplatelaw11.MessageGrows': WHATEVER THE INPUT: true; the input reads as it did. -/
def messageGrowsSpec : ChangeSpec := { name := "messageGrows", fn := fun _ => fun
  | [d1, d2] => { results := [.lit (.bool true)], args := [d1, d2] }
  | _ => none }
def messageGrowsRow : OpenClaim := { program := "ytmbgejiahmhffaagreat", sum := "2d7f3ea0ef6e4ac2712e80bec88c838d815c1fa2122913eeb26efc8cc9219d93", func := "nameplate/nameplatelaw11.MessageGrows", spec := "messageGrows", inPlace := ["internal/abi.NoEscape"], unfollowed := true, recurses := true, apart := false }
def MessageGrowsSaid : Prop := messageGrowsRow.holds Tryz.pinned (OpenSpec.ofChange messageGrowsSpec)

/-- ITS FALSE NEIGHBOUR: 'it returns false'. Refute it at one input. -/
def messageGrowsWrong : ChangeSpec := { name := "messageGrows", fn := fun _ => fun
  | [d1, d2] => { results := [.lit (.bool false)], args := [d1, d2] }
  | _ => none }
def MessageGrowsWrongFalsely : Prop := messageGrowsRow.holds Tryz.pinned (OpenSpec.ofChange messageGrowsWrong)

/-- 'nameplatelaw11.MessageReads': WHATEVER THE INPUT: true; the input reads as it did. -/
def messageReadsSpec : ChangeSpec := { name := "messageReads", fn := fun _ => fun
  | [d1, d2, d3] => { results := [.lit (.bool true)], args := [d1, d2, d3] }
  | _ => none }
def messageReadsRow : OpenClaim := { program := "ytmbgejiahmhffaagreat", sum := "2d7f3ea0ef6e4ac2712e80bec88c838d815c1fa2122913eeb26efc8cc9219d93", func := "nameplate/nameplatelaw11.MessageReads", spec := "messageReads", inPlace := ["internal/abi.NoEscape"], unfollowed := true, recurses := true, apart := false }
def MessageReadsSaid : Prop := messageReadsRow.holds Tryz.pinned (OpenSpec.ofChange messageReadsSpec)

/-- ITS FALSE NEIGHBOUR: 'it returns false'. Refute it at one input. -/
def messageReadsWrong : ChangeSpec := { name := "messageReads", fn := fun _ => fun
  | [d1, d2, d3] => { results := [.lit (.bool false)], args := [d1, d2, d3] }
  | _ => none }
def MessageReadsWrongFalsely : Prop := messageReadsRow.holds Tryz.pinned (OpenSpec.ofChange messageReadsWrong)

/-- 'nameplatelaw11.MessageNames': WHATEVER THE INPUT: true; the input reads as it did. -/
def messageNamesSpec : ChangeSpec := { name := "messageNames", fn := fun _ => fun
  | [] => { results := [.lit (.bool true)], args := [] }
  | _ => none }
def messageNamesRow : OpenClaim := { program := "ytmbgejiahmhffaagreat", sum := "2d7f3ea0ef6e4ac2712e80bec88c838d815c1fa2122913eeb26efc8cc9219d93", func := "nameplate/nameplatelaw11.MessageNames", spec := "messageNames", inPlace := ["internal/abi.NoEscape"], unfollowed := true, recurses := true, apart := false }
def MessageNamesSaid : Prop := messageNamesRow.holds Tryz.pinned (OpenSpec.ofChange messageNamesSpec)

/-- ITS FALSE NEIGHBOUR: 'it returns false'. Refute it at one input. -/
def messageNamesWrong : ChangeSpec := { name := "messageNames", fn := fun _ => fun
  | [] => { results := [.lit (.bool false)], args := [] }
  | _ => none }
def MessageNamesWrongFalsely : Prop := messageNamesRow.holds Tryz.pinned (OpenSpec.ofChange messageNamesWrong)

/-- 'nameplatelaw11.MessageBack': WHATEVER THE INPUT: true; the input reads as it did. -/
def messageBackSpec : ChangeSpec := { name := "messageBack", fn := fun _ => fun
  | [d] => { results := [.lit (.bool true)], args := [d] }
  | _ => none }
def messageBackRow : OpenClaim := { program := "ytmbgejiahmhffaagreat", sum := "2d7f3ea0ef6e4ac2712e80bec88c838d815c1fa2122913eeb26efc8cc9219d93", func := "nameplate/nameplatelaw11.MessageBack", spec := "messageBack", inPlace := ["internal/abi.NoEscape"], unfollowed := true, recurses := true, apart := false }
def MessageBackSaid : Prop := messageBackRow.holds Tryz.pinned (OpenSpec.ofChange messageBackSpec)

/-- ITS FALSE NEIGHBOUR: 'it returns false'. Refute it at one input. -/
def messageBackWrong : ChangeSpec := { name := "messageBack", fn := fun _ => fun
  | [d] => { results := [.lit (.bool false)], args := [d] }
  | _ => none }
def MessageBackWrongFalsely : Prop := messageBackRow.holds Tryz.pinned (OpenSpec.ofChange messageBackWrong)

/- THE SECOND FORM. 'bulk': how many values and letters a reading holds, each counted each time it is reached (what is shared counts as often as it is met; a slice's spare places count too). A statement '..UptoSaid' is the law's where the arguments, and the package variables that the reading takes, are together of bulk at most 1048576: NARROWER than '..Said'. Prove '..Said' where nothing that the law and all that it calls make is longer than what came in: it says more and counts as full. Else prove '..UptoSaid'. A law counts once. -/
mutual
def uptoBulk {H : Type} : DataW H → Nat
  | .lit (.string bytes) => bytes.length + 1
  | .lit _ => 1
  | .nil => 1
  | .ptr d => uptoBulk d + 1
  | .slice elems spare => uptoBulkAll elems + uptoBulkAll spare + 1
  | .agg parts => uptoBulkAll parts + 1
  | .iface _ d => uptoBulk d + 1
  | .map entries => uptoBulkEntries entries + 1
  | .held _ => 1
def uptoBulkAll {H : Type} : List (DataW H) → Nat
  | [] => 0
  | d :: r => uptoBulk d + uptoBulkAll r
def uptoBulkEntries {H : Type} : List (Lit × DataW H) → Nat
  | [] => 0
  | x :: r => uptoBulkEntry x + uptoBulkEntries r
def uptoBulkEntry {H : Type} : Lit × DataW H → Nat
  | (.string bytes, d) => bytes.length + uptoBulk d + 1
  | (_, d) => uptoBulk d + 1
 end
def uptoSmall : (H : Type) → List (DataW H) → Bool := fun _ ds => decide (uptoBulkAll ds ≤ 1048576)
def OpenSpec.upto (s : _root_.Go.ChangeSpec) : _root_.Go.OpenSpec := { _root_.Go.OpenSpec.ofChange s with cond := some uptoSmall }

/-- 'nameplatelaw11.MessageNamesStand', WHERE WHAT IT READS IS OF BULK AT MOST 1048576: true; the input reads as it did. -/
def messageNamesStandUptoRow : OpenClaim := { program := "ytmbgejiahmhffaagreat", sum := "2d7f3ea0ef6e4ac2712e80bec88c838d815c1fa2122913eeb26efc8cc9219d93", func := "nameplate/nameplatelaw11.MessageNamesStand", spec := "messageNamesStand", inPlace := ["internal/abi.NoEscape"], unfollowed := true, recurses := true, apart := false, narrowed := true }
def MessageNamesStandUptoSaid : Prop := messageNamesStandUptoRow.holds Tryz.pinned (OpenSpec.upto messageNamesStandSpec)

/-- 'nameplatelaw11.MessageCuts', WHERE WHAT IT READS IS OF BULK AT MOST 1048576: true; the input reads as it did. -/
def messageCutsUptoRow : OpenClaim := { program := "ytmbgejiahmhffaagreat", sum := "2d7f3ea0ef6e4ac2712e80bec88c838d815c1fa2122913eeb26efc8cc9219d93", func := "nameplate/nameplatelaw11.MessageCuts", spec := "messageCuts", inPlace := ["internal/abi.NoEscape"], unfollowed := true, recurses := true, apart := false, narrowed := true }
def MessageCutsUptoSaid : Prop := messageCutsUptoRow.holds Tryz.pinned (OpenSpec.upto messageCutsSpec)

/-- 'nameplatelaw11.MessageGrows', WHERE WHAT IT READS IS OF BULK AT MOST 1048576: true; the input reads as it did. -/
def messageGrowsUptoRow : OpenClaim := { program := "ytmbgejiahmhffaagreat", sum := "2d7f3ea0ef6e4ac2712e80bec88c838d815c1fa2122913eeb26efc8cc9219d93", func := "nameplate/nameplatelaw11.MessageGrows", spec := "messageGrows", inPlace := ["internal/abi.NoEscape"], unfollowed := true, recurses := true, apart := false, narrowed := true }
def MessageGrowsUptoSaid : Prop := messageGrowsUptoRow.holds Tryz.pinned (OpenSpec.upto messageGrowsSpec)

/-- 'nameplatelaw11.MessageReads', WHERE WHAT IT READS IS OF BULK AT MOST 1048576: true; the input reads as it did. -/
def messageReadsUptoRow : OpenClaim := { program := "ytmbgejiahmhffaagreat", sum := "2d7f3ea0ef6e4ac2712e80bec88c838d815c1fa2122913eeb26efc8cc9219d93", func := "nameplate/nameplatelaw11.MessageReads", spec := "messageReads", inPlace := ["internal/abi.NoEscape"], unfollowed := true, recurses := true, apart := false, narrowed := true }
def MessageReadsUptoSaid : Prop := messageReadsUptoRow.holds Tryz.pinned (OpenSpec.upto messageReadsSpec)

/-- 'nameplatelaw11.MessageNames', WHERE WHAT IT READS IS OF BULK AT MOST 1048576: true; the input reads as it did. -/
def messageNamesUptoRow : OpenClaim := { program := "ytmbgejiahmhffaagreat", sum := "2d7f3ea0ef6e4ac2712e80bec88c838d815c1fa2122913eeb26efc8cc9219d93", func := "nameplate/nameplatelaw11.MessageNames", spec := "messageNames", inPlace := ["internal/abi.NoEscape"], unfollowed := true, recurses := true, apart := false, narrowed := true }
def MessageNamesUptoSaid : Prop := messageNamesUptoRow.holds Tryz.pinned (OpenSpec.upto messageNamesSpec)

/-- 'nameplatelaw11.MessageBack', WHERE WHAT IT READS IS OF BULK AT MOST 1048576: true; the input reads as it did. -/
def messageBackUptoRow : OpenClaim := { program := "ytmbgejiahmhffaagreat", sum := "2d7f3ea0ef6e4ac2712e80bec88c838d815c1fa2122913eeb26efc8cc9219d93", func := "nameplate/nameplatelaw11.MessageBack", spec := "messageBack", inPlace := ["internal/abi.NoEscape"], unfollowed := true, recurses := true, apart := false, narrowed := true }
def MessageBackUptoSaid : Prop := messageBackUptoRow.holds Tryz.pinned (OpenSpec.upto messageBackSpec)

end Rows
end Go.Proofs.YtmbgejiahmhffaaGreat
