/-
  LAYER 6: HeaderReply's walk.
-/
import Derived.Test.YtbemackcdccpaaaHdl1
import Derived.Test.YtbemackcdccpaaaHdl2
namespace Go.Proofs.Ytbemackcdccpaaa
open Go.RowKit
theorem headerReply_walk (h : Hd) (rc : Int) (w : World) (hok : h.ok) (_hrc : -9223372036854775808 ≤ rc ∧ rc ≤ 9223372036854775807) :
    Calls Try.prog 5 #[h.val, .int .i64 rc] w fun e w' => e = .returned (.bool true) ∧ Below w.heap.size w w' := by
  cases hm : h.may
  · exact headerReply_no h rc w hok hm _hrc
  · exact headerReply_yes h rc w hok hm _hrc
end Go.Proofs.Ytbemackcdccpaaa
