/-
  No cell of these rows narrows 'for every input' (looked for: loops, veiled, ifaces, maps, wideKeys, modest, calm, conditions, laid).
  DERIVED. THE GIVEN ROWS OF THIS SEAT. 3 by the template 'for every input the law returns true; each argument reads behind the call as it read before'; 0 by the template 'total and deterministic' (their statements: YtncfdfgcnblicaaTotals.lean).
  GIVEN WITH THE SEED: the statements are not yours to turn. If you find one false, say at which input.
  Laid BY PROGRAM, IN A SANDBOX (cutbox-rows.mjs): the forced cells as the released guide's own fill.sh prints them over the translation deed786fd25fb995… (all of the seat's roots in one cut). By AI agents, Wed Nov 11 2026. No macro, syntax, notation, axiom, sorry.
-/
import Derived.Test.YtncfdfgcnblicaaChecked
import GoSem.Claim
import GoSem.ClaimJoined
import GoSem.ClaimMapViews
import Derived.JoinedTies
import Derived.KernelRfl
namespace Go.Proofs.Ytncfdfgcnblicaa
/- THE CELL 'sum', in the pinned program and in every row, IS THE sha256 OF THE DUMP (.gsa) THAT YtncfdfgcnblicaaProg.lean LOADS. Nothing in Lean hashes anything: it is a label: what it is worth is what the hold of that sum in a sandbox is worth. -/
noncomputable def Try.pinned : Pinned := { name := "ytncfdfgcnblicaa", sum := "deed786fd25fb9958b4592c2eb642dbbc9618b537df38a22c340ba841b1d2dc1", checked := Try.checked }
namespace Rows
def none {H : Type} : Left H := { results := [], args := [] }

/-- 'nameplatelaw25.MatchForged': WHATEVER THE INPUT: true; the input reads as it did. -/
def matchForgedSpec : ChangeSpec := { name := "matchForged", fn := fun _ => fun
  | [d1, d2, d3, d4] => { results := [.lit (.bool true)], args := [d1, d2, d3, d4] }
  | _ => none }
def matchForgedRow : OpenClaim := { program := "ytncfdfgcnblicaa", sum := "deed786fd25fb9958b4592c2eb642dbbc9618b537df38a22c340ba841b1d2dc1", func := "nameplate/nameplatelaw25.MatchForged", spec := "matchForged", inPlace := ["internal/abi.NoEscape"], unfollowed := true, recurses := true, apart := false }
def MatchForgedSaid : Prop := matchForgedRow.holds Try.pinned (OpenSpec.ofChange matchForgedSpec)

/-- ITS FALSE NEIGHBOUR: 'it returns false'. Refute it at one input. -/
def matchForgedWrong : ChangeSpec := { name := "matchForged", fn := fun _ => fun
  | [d1, d2, d3, d4] => { results := [.lit (.bool false)], args := [d1, d2, d3, d4] }
  | _ => none }
def MatchForgedWrongFalsely : Prop := matchForgedRow.holds Try.pinned (OpenSpec.ofChange matchForgedWrong)

/-- 'nameplatelaw25.MatchTold': WHATEVER THE INPUT: true; the input reads as it did. -/
def matchToldSpec : ChangeSpec := { name := "matchTold", fn := fun _ => fun
  | [d] => { results := [.lit (.bool true)], args := [d] }
  | _ => none }
def matchToldRow : OpenClaim := { program := "ytncfdfgcnblicaa", sum := "deed786fd25fb9958b4592c2eb642dbbc9618b537df38a22c340ba841b1d2dc1", func := "nameplate/nameplatelaw25.MatchTold", spec := "matchTold", inPlace := ["internal/abi.NoEscape"], unfollowed := true, recurses := true, apart := false }
def MatchToldSaid : Prop := matchToldRow.holds Try.pinned (OpenSpec.ofChange matchToldSpec)

/-- ITS FALSE NEIGHBOUR: 'it returns false'. Refute it at one input. -/
def matchToldWrong : ChangeSpec := { name := "matchTold", fn := fun _ => fun
  | [d] => { results := [.lit (.bool false)], args := [d] }
  | _ => none }
def MatchToldWrongFalsely : Prop := matchToldRow.holds Try.pinned (OpenSpec.ofChange matchToldWrong)

/-- 'nameplatelaw25.MatchNames': WHATEVER THE INPUT: true; the input reads as it did. -/
def matchNamesSpec : ChangeSpec := { name := "matchNames", fn := fun _ => fun
  | [] => { results := [.lit (.bool true)], args := [] }
  | _ => none }
def matchNamesRow : OpenClaim := { program := "ytncfdfgcnblicaa", sum := "deed786fd25fb9958b4592c2eb642dbbc9618b537df38a22c340ba841b1d2dc1", func := "nameplate/nameplatelaw25.MatchNames", spec := "matchNames", inPlace := ["internal/abi.NoEscape"], unfollowed := true, recurses := true, apart := false }
def MatchNamesSaid : Prop := matchNamesRow.holds Try.pinned (OpenSpec.ofChange matchNamesSpec)

/-- ITS FALSE NEIGHBOUR: 'it returns false'. Refute it at one input. -/
def matchNamesWrong : ChangeSpec := { name := "matchNames", fn := fun _ => fun
  | [] => { results := [.lit (.bool false)], args := [] }
  | _ => none }
def MatchNamesWrongFalsely : Prop := matchNamesRow.holds Try.pinned (OpenSpec.ofChange matchNamesWrong)

/- THE SECOND FORM. 'bulk': how many values and letters a reading holds, each counted each time it is reached (what is shared counts as often as it is met; a slice's spare places count too). A statement '..UptoSaid' is the law's where the arguments, and the package variables that the reading takes, are together of bulk at most 1048576: NARROWER than '..Said'. Prove '..Said' where nothing that the law and all that it calls make is longer than what came in: it says more and counts as full. Else prove '..UptoSaid'. A law counts once. -/
mutual
def uptoBulk {H : Type} : DataW H → Nat
  | .lit (.string bytes) => bytes.length + 1
  | .lit _ => 1
  | .nil => 1
  | .ptr d => uptoBulk d + 1
  | .slice elems spare => uptoBulkAll elems + uptoBulkAll spare + 1
  | .agg parts => uptoBulkAll parts + 1
  | .iface _ d => uptoBulk d + 1
  | .map entries => uptoBulkEntries entries + 1
  | .held _ => 1
def uptoBulkAll {H : Type} : List (DataW H) → Nat
  | [] => 0
  | d :: r => uptoBulk d + uptoBulkAll r
def uptoBulkEntries {H : Type} : List (Lit × DataW H) → Nat
  | [] => 0
  | x :: r => uptoBulkEntry x + uptoBulkEntries r
def uptoBulkEntry {H : Type} : Lit × DataW H → Nat
  | (.string bytes, d) => bytes.length + uptoBulk d + 1
  | (_, d) => uptoBulk d + 1
 end
def uptoSmall : (H : Type) → List (DataW H) → Bool := fun _ ds => decide (uptoBulkAll ds ≤ 1048576)
def OpenSpec.upto (s : _root_.Go.ChangeSpec) : _root_.Go.OpenSpec := { _root_.Go.OpenSpec.ofChange s with cond := some uptoSmall }

/-- 'nameplatelaw25.MatchForged', WHERE WHAT IT READS IS OF BULK AT MOST 1048576: true; the input reads as it did. -/
def matchForgedUptoRow : OpenClaim := { program := "ytncfdfgcnblicaa", sum := "deed786fd25fb9958b4592c2eb642dbbc9618b537df38a22c340ba841b1d2dc1", func := "nameplate/nameplatelaw25.MatchForged", spec := "matchForged", inPlace := ["internal/abi.NoEscape"], unfollowed := true, recurses := true, apart := false, narrowed := true }
def MatchForgedUptoSaid : Prop := matchForgedUptoRow.holds Try.pinned (OpenSpec.upto matchForgedSpec)

/-- 'nameplatelaw25.MatchTold', WHERE WHAT IT READS IS OF BULK AT MOST 1048576: true; the input reads as it did. -/
def matchToldUptoRow : OpenClaim := { program := "ytncfdfgcnblicaa", sum := "deed786fd25fb9958b4592c2eb642dbbc9618b537df38a22c340ba841b1d2dc1", func := "nameplate/nameplatelaw25.MatchTold", spec := "matchTold", inPlace := ["internal/abi.NoEscape"], unfollowed := true, recurses := true, apart := false, narrowed := true }
def MatchToldUptoSaid : Prop := matchToldUptoRow.holds Try.pinned (OpenSpec.upto matchToldSpec)

/-- 'nameplatelaw25.MatchNames', WHERE WHAT IT READS IS OF BULK AT MOST 1048576: true; the input reads as it did. -/
def matchNamesUptoRow : OpenClaim := { program := "ytncfdfgcnblicaa", sum := "deed786fd25fb9958b4592c2eb642dbbc9618b537df38a22c340ba841b1d2dc1", func := "nameplate/nameplatelaw25.MatchNames", spec := "matchNames", inPlace := ["internal/abi.NoEscape"], unfollowed := true, recurses := true, apart := false, narrowed := true }
def MatchNamesUptoSaid : Prop := matchNamesUptoRow.holds Try.pinned (OpenSpec.upto matchNamesSpec)

end Rows
end Go.Proofs.Ytncfdfgcnblicaa
