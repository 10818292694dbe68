/-
  LAYER 11: message.Same.
-/
import Derived.Test.YtmbgejiahmhffaaGreatSMpt
import Derived.Test.YtmbgejiahmhffaaGreatSunI
import Derived.Test.YtmbgejiahmhffaaGreatSunG
import Derived.WalkMore
import Derived.Test.YtmbgejiahmhffaaGreatSunL
import Derived.Deep.RegionHeld3
namespace Go.Proofs.YtmbgejiahmhffaaGreat
open Go.RowKit
set_option linter.unusedVariables false
set_option linter.unusedSimpArgs false

theorem ms_eq (h g : Hd) (lq mq : List Qn) (la ma lb mb lc mc : RLm) : msOf h lq la lb lc = msOf g mq ma mb mc ↔ h = g ∧ lq = mq ∧ la.map Prod.fst = ma.map Prod.fst ∧ lb.map Prod.fst = mb.map Prod.fst ∧ lc.map Prod.fst = mc.map Prod.fst := by
  unfold msOf
  simp
end Go.Proofs.YtmbgejiahmhffaaGreat
