/-
  LAYER 6: what an answer's header is.
-/
import Derived.Test.YtbemackcdccpaaaHdrrep
import Derived.Test.YtbemackcdccpaaaHdreq
namespace Go.Proofs.Ytbemackcdccpaaa
open Go.RowKit

theorem Hd.reply_ok {h : Hd} (hok : h.ok) (rc : Int) : (h.reply rc).ok := by
  obtain ⟨h1, h2, h3, h4, h5, h6, h7⟩ := hok
  have z : (-9223372036854775808 : Int) ≤ 0 ∧ (0 : Int) ≤ 9223372036854775807 := by decide
  refine ⟨h1, h2, ?_, z, z, z, z⟩
  show -9223372036854775808 ≤ rc % 16 ∧ rc % 16 ≤ 9223372036854775807
  omega
theorem Hd.reply_may {h : Hd} (hm : h.may = true) (rc : Int) : (h.reply rc).check = 0 := by
  have h1 := (Hd.may_parts hm).1
  have : (h.reply rc).may = true := by
    have h2 : 0 ≤ rc % 16 := by omega
    have h3 : rc % 16 ≤ 15 := by omega
    simp [Hd.may, Hd.reply, four, sixteen, h1, h2, h3]
  unfold Hd.check
  rw [if_pos this]
theorem Hd.reply_reply (h : Hd) (rc : Int) : (h.reply rc).reply rc = h.reply rc := rfl

end Go.Proofs.Ytbemackcdccpaaa
