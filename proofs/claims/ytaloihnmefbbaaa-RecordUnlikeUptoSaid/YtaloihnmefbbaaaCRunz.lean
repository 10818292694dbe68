/-
  LAYER 10: RecordUnlike.
-/
import Derived.Test.YtaloihnmefbbaaaCRunnono
import Derived.Test.YtaloihnmefbbaaaCRunnoon
import Derived.Test.YtaloihnmefbbaaaCRunnooo
import Derived.Test.YtaloihnmefbbaaaCRunonno
import Derived.Test.YtaloihnmefbbaaaCRunonon
import Derived.Test.YtaloihnmefbbaaaCRunonoo
import Derived.Test.YtaloihnmefbbaaaCRunoono
import Derived.Test.YtaloihnmefbbaaaCRunooon
import Derived.Test.YtaloihnmefbbaaaCRunoooo
namespace Go.Proofs.Ytaloihnmefbbaaa
open Go.RowKit

theorem recordUnlike_walk (a : Rcd) (A : Option Addr) (ka : Nat) (b : Rcd) (B : Option Addr) (kb : Nat) (q r : Qn) (w : World) (ha : RcIn w A a ∧ a.name.size + a.d.light ≤ 1048576) (hb : RcIn w B b ∧ b.name.size + b.d.light ≤ 1048576) (hq : QOk q) (hr : QOk r) :
    Calls Try.prog 4 #[a.val (.slice A a.d.texts.length ka), b.val (.slice B b.d.texts.length kb), qval q, qval r] w fun e w' => e = .returned (.bool true) ∧ Below w.heap.size w w' := by
  cases hla : rlight a
  · exact run_a a A ka b B kb q r w ha hb hq hr hla
  cases hlb : rlight b
  · exact run_b a A ka b B kb q r w ha hb hq hr hla hlb
  by_cases hq4 : 400 < q.1.size
  · exact run_q a A ka b B kb q r w ha hb hq hr hla hlb hq4
  by_cases hr4 : 400 < r.1.size
  · exact run_r a A ka b B kb q r w ha hb hq hr hla hlb hq4 hr4
  by_cases hca : a.check = 0
  · by_cases hcb : b.check = 0
    · by_cases hcq : qcheck q.1 q.2.1 q.2.2 = 0
      · by_cases hcr : qcheck r.1 r.2.1 r.2.2 = 0
        · exact run_oo_oo a A ka b B kb q r w ha hb hq hr hla hlb hq4 hr4 hca hcb hcq hcr
        · exact run_oo_on a A ka b B kb q r w ha hb hq hr hla hlb hq4 hr4 hca hcb hcq hcr
      · exact run_oo_no a A ka b B kb q r w ha hb hq hr hla hlb hq4 hr4 hca hcb hcq
    · by_cases hcq : qcheck q.1 q.2.1 q.2.2 = 0
      · by_cases hcr : qcheck r.1 r.2.1 r.2.2 = 0
        · exact run_on_oo a A ka b B kb q r w ha hb hq hr hla hlb hq4 hr4 hca hcb hcq hcr
        · exact run_on_on a A ka b B kb q r w ha hb hq hr hla hlb hq4 hr4 hca hcb hcq hcr
      · exact run_on_no a A ka b B kb q r w ha hb hq hr hla hlb hq4 hr4 hca hcb hcq
  · by_cases hcq : qcheck q.1 q.2.1 q.2.2 = 0
    · by_cases hcr : qcheck r.1 r.2.1 r.2.2 = 0
      · exact run_no_oo a A ka b B kb q r w ha hb hq hr hla hlb hq4 hr4 hca hcq hcr
      · exact run_no_on a A ka b B kb q r w ha hb hq hr hla hlb hq4 hr4 hca hcq hcr
    · exact run_no_no a A ka b B kb q r w ha hb hq hr hla hlb hq4 hr4 hca hcq
end Go.Proofs.Ytaloihnmefbbaaa
