/-
  LAYER 11: MessageCuts, its cases together.
-/
import Derived.Test.YtmbgejiahmhffaaGreatSMlca
import Derived.Test.YtmbgejiahmhffaaGreatSMlcb
import Derived.Test.YtmbgejiahmhffaaGreatSMlcc
import Derived.Test.YtmbgejiahmhffaaGreatSMlcd
import Derived.Test.YtmbgejiahmhffaaGreatSMlce
import Derived.Test.YtmbgejiahmhffaaGreatSMlcf
import Derived.Test.YtmbgejiahmhffaaGreatSMlcg
namespace Go.Proofs.YtmbgejiahmhffaaGreat
open Go.RowKit
set_option linter.unusedVariables false

theorem mcuts_any (h : Hd) (Aq : Option Addr) (lq : List Qn) (cq : Nat) (Aa : Option Addr) (la : RLm) (ca : Nat) (Ab : Option Addr) (lb : RLm) (cb : Nat) (Ac : Option Addr) (lc : RLm) (cc : Nat) (M : Int) (w : World) (hm : MsIn w h Aq lq cq Aa la ca Ab lb cb Ac lc cc) :
    Calls Tryz.prog 4 #[.agg #[.int .u16 h.id, .bool h.resp, .int .i64 h.op, .bool h.aa, .bool h.tc, .bool h.rd, .bool h.ra, .bool h.ad, .bool h.cd, .int .i64 h.rc, .int .i64 h.c0, .int .i64 h.c1, .int .i64 h.c2, .int .i64 h.c3, .slice Aq lq.length cq, .slice Aa la.length ca, .slice Ab lb.length cb, .slice Ac lc.length cc], .int .i64 M] w (EqPost w true) := by
  by_cases hno : (msOf h lq la lb lc).size + 2000 ≤ 65535 ∧ mcheckB (msOf h lq la lb lc) = 0
  · obtain ⟨hs, hc⟩ := hno
    rcases cut_cases h Aq lq cq Aa la ca Ab lb cb Ac lc cc M w hm hs hc with ⟨k, g, S, hk, hS, hSM, hMR, hcnt, hgok, hfull, hmore, hcall⟩ | ⟨hlong, hcall⟩
    · have hg : CutGood w h Aq lq cq Aa la ca Ab lb cb Ac lc cc M k g S := ⟨hk, hS, hSM, hMR, hcnt, hgok, hfull, hmore, hcall⟩
      by_cases hkN : k = la.length + lb.length + lc.length
      · exact mcuts_N h Aq lq cq Aa la ca Ab lb cb Ac lc cc M w hm hc k g S hg hkN
      · have hkl : k < la.length + lb.length + lc.length := by omega
        by_cases h1 : la.length ≤ k
        · by_cases h2 : la.length + lb.length ≤ k
          · exact mcuts_Ld h Aq lq cq Aa la ca Ab lb cb Ac lc cc M w hm hc k g S hg hkl h1 h2
          · exact mcuts_Le h Aq lq cq Aa la ca Ab lb cb Ac lc cc M w hm hc k g S hg hkl h1 (by omega)
        · by_cases h2 : lb.length = 0
          · exact mcuts_Lf h Aq lq cq Aa la ca Ab lb cb Ac lc cc M w hm hc k g S hg hkl (by omega) h2
          · exact mcuts_Lg h Aq lq cq Aa la ca Ab lb cb Ac lc cc M w hm hc k g S hg hkl (by omega) h2
    · exact mcuts_E h Aq lq cq Aa la ca Ab lb cb Ac lc cc M w hm hc hlong hcall
  · exact mcuts_0 h Aq lq cq Aa la ca Ab lb cb Ac lc cc M w hm hno
theorem messageCuts_walk (h : Hd) (Aq : Option Addr) (lq : List Qn) (cq : Nat) (Aa : Option Addr) (la : RLm) (ca : Nat) (Ab : Option Addr) (lb : RLm) (cb : Nat) (Ac : Option Addr) (lc : RLm) (cc : Nat) (M : Int) (w : World) (hm : MsIn w h Aq lq cq Aa la ca Ab lb cb Ac lc cc) (hM : -9223372036854775808 ≤ M ∧ M ≤ 9223372036854775807) :
    Calls Tryz.prog 4 #[mval h Aq lq cq Aa la ca Ab lb cb Ac lc cc, .int .i64 M] w fun e w' => e = .returned (.bool true) ∧ Below w.heap.size w w' :=
  (mcuts_any h Aq lq cq Aa la ca Ab lb cb Ac lc cc M w hm).mono fun e w' ⟨h1, h2⟩ => ⟨h1, h2.below (fun k hk => hk.elim) (Nat.le_refl _)⟩
end Go.Proofs.YtmbgejiahmhffaaGreat
