/-
  LAYER 11, PLAIN: how many octets a message has hangs not on its header; what is found of a message that is cut. No program.
-/
import Derived.Test.YtmbgejiahmhffaaGreatTMcp
namespace Go.Proofs.YtmbgejiahmhffaaGreat
open Go.RowKit
set_option linter.unusedVariables false
set_option linter.unusedSimpArgs false

theorem Alike.get {y y' z z' : Pk} (h : Alike y y' z z') : z.get = z'.get := h.choose_spec.2.2
end Go.Proofs.YtmbgejiahmhffaaGreat
