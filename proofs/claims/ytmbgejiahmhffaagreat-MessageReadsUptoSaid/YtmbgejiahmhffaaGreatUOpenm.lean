/-
  A MESSAGE THAT CAME IN, OPENED (second form).
-/
import Derived.Test.YtmbgejiahmhffaaGreatUunK
import Derived.Test.YtmbgejiahmhffaaGreatUunA
import Derived.ProofKit
import Derived.OpenShut
import Derived.ShutString
import Derived.ChangeOld
import Derived.Deep.Slices
import Derived.Deep.Fields
import Derived.ChangeSame
import Derived.Test.YtmbgejiahmhffaaGreatUunL
import Derived.Test.YtmbgejiahmhffaaGreatProg
import Derived.Test.YtmbgejiahmhffaaGreatUunM
namespace Go.Proofs.YtmbgejiahmhffaaGreat
set_option linter.unusedVariables false
set_option linter.unusedSimpArgs false
set_option linter.constructorNameAsVariable false
open Go.ChangeShapes Go.WideShapes Go.ChangeAt Go.RowKit Go.Deep

/-- A slice that came in. -/
def SlOk (A : Option Addr) (n cap : Nat) : Prop := n ≤ 1048576 ∧ (A = none → n = 0) ∧ (A = none → cap = 0) ∧ n ≤ cap ∧ cap ≤ 9223372036854775807
/-- A message that came in. -/
structure MsIn (w : World) (h : Hd) (Aq : Option Addr) (lq : List Qn) (cq : Nat) (Aa : Option Addr) (la : List (Rcd × Option Addr × Nat)) (ca : Nat) (Ab : Option Addr) (lb : List (Rcd × Option Addr × Nat)) (cb : Nat) (Ac : Option Addr) (lc : List (Rcd × Option Addr × Nat)) (cc : Nat) : Prop where
  h : h.ok
  q : RowIn w Aq (lq.flatMap qcl)
  qk : ∀ x ∈ lq, QOk x
  qz : SlOk Aq lq.length cq
  a : RowIn w Aa (la.flatMap rcl)
  ak : ∀ x ∈ la, RcIn w x.2.1 x.1 ∧ x.1.name.size + x.1.d.light ≤ 1048576
  az : SlOk Aa la.length ca
  b : RowIn w Ab (lb.flatMap rcl)
  bk : ∀ x ∈ lb, RcIn w x.2.1 x.1 ∧ x.1.name.size + x.1.d.light ≤ 1048576
  bz : SlOk Ab lb.length cb
  c : RowIn w Ac (lc.flatMap rcl)
  ck : ∀ x ∈ lc, RcIn w x.2.1 x.1 ∧ x.1.name.size + x.1.d.light ≤ 1048576
  cz : SlOk Ac lc.length cc
section
variable {W : World} {H : Type} {enc : TypeId × Value → H} {fuel : Nat} {cs : List Value} {x : DataW H × List MemPlace}
end
end Go.Proofs.YtmbgejiahmhffaaGreat
