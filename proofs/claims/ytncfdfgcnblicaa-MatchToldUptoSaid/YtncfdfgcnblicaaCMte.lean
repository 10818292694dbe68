/-
  LAYER 25: MatchTold.
-/
import Derived.Test.YtncfdfgcnblicaaCMtd
namespace Go.Proofs.Ytncfdfgcnblicaa
open Go.RowKit
set_option linter.unusedVariables false

theorem matchTold_walk (h : Hd) (Aq : Option Addr) (lq : List Qn) (cq : Nat) (Aa : Option Addr) (la : RL) (ca : Nat) (Ab : Option Addr) (lb : RL) (cb : Nat) (Ac : Option Addr) (lc : RL) (cc : Nat) (w : World) (hm : MsIn w h Aq lq cq Aa la ca Ab lb cb Ac lc cc) :
    Calls Try.prog 4 #[mval h Aq lq cq Aa la ca Ab lb cb Ac lc cc] w fun e w' => e = .returned (.bool true) ∧ Below w.heap.size w w' :=
  (told_law h Aq lq cq Aa la ca Ab lb cb Ac lc cc w hm).mono fun e w' ⟨h1, h2⟩ => ⟨h1, h2.below (fun k hk => hk.elim) (Nat.le_refl _)⟩
end Go.Proofs.Ytncfdfgcnblicaa
