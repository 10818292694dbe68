/-
  LAYER 11: MessageBack, the walk.
-/
import Derived.Test.YtmbgejiahmhffaaGreatUMse
import Derived.Test.YtmbgejiahmhffaaGreatUMsz
import Derived.Test.YtmbgejiahmhffaaGreatUMlv11
import Derived.Test.YtmbgejiahmhffaaGreatUunB
import Derived.WalkMore
import Derived.Deep.LoopGhost
import Derived.OwnWalk
import Derived.Test.YtmbgejiahmhffaaGreatUunI
namespace Go.Proofs.YtmbgejiahmhffaaGreat
open Go.RowKit
set_option linter.unusedVariables false
set_option linter.unusedSimpArgs false

theorem own_slok {w : World} {e : TypeId} {size n cap : Nat} {A : Option Addr} {xs : List Value} (h : w.ownsRow 0 e size (.slice A n cap) n xs) (hn : n ≤ 1048576) : SlOk A n cap := by
  rcases h.2 with ⟨h2, h0⟩ | ⟨g, cp, cur, hv, _, hg, h3, h4, h5, h6⟩
  · injection h2 with e1 e2 e3
    subst e1 e2 e3
    exact ⟨hn, fun _ => rfl, fun _ => rfl, Nat.le_refl _, by omega⟩
  · injection hv with e1 e2 e3
    subst e1 e3
    exact ⟨hn, (fun h => by cases h), (fun h => by cases h), by assumption, by simp only [maxLen] at *; omega⟩
end Go.Proofs.YtmbgejiahmhffaaGreat
