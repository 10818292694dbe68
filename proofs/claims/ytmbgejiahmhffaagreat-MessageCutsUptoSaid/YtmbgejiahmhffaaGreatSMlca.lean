/-
  LAYER 11: MessageCuts, the walk: one of its cases.
-/
import Derived.Test.YtmbgejiahmhffaaGreatSMlc0
namespace Go.Proofs.YtmbgejiahmhffaaGreat
open Go.RowKit
set_option linter.unusedVariables false
set_option linter.unusedSimpArgs false

set_option maxRecDepth 100000 in
set_option maxHeartbeats 32000000 in
theorem mcuts_0 (h : Hd) (Aq : Option Addr) (lq : List Qn) (cq : Nat) (Aa : Option Addr) (la : RLm) (ca : Nat) (Ab : Option Addr) (lb : RLm) (cb : Nat) (Ac : Option Addr) (lc : RLm) (cc : Nat) (M : Int) (w : World) (hm : MsIn w h Aq lq cq Aa la ca Ab lb cb Ac lc cc) (hno : ¬ ((msOf h lq la lb lc).size + 2000 ≤ 65535 ∧ mcheckB (msOf h lq la lb lc) = 0)) :
    Calls Tryz.prog 4 #[.agg #[.int .u16 h.id, .bool h.resp, .int .i64 h.op, .bool h.aa, .bool h.tc, .bool h.rd, .bool h.ra, .bool h.ad, .bool h.cd, .int .i64 h.rc, .int .i64 h.c0, .int .i64 h.c1, .int .i64 h.c2, .int .i64 h.c3, .slice Aq lq.length cq, .slice Aa la.length ca, .slice Ab lb.length cb, .slice Ac lc.length cc], .int .i64 M] w (EqPost w true) := by
  have hszr : ∀ x : Rcd × Option Addr × Nat, (Tryz.prog.info? 55).map (·.size) = some (rcl x).length := fun x => by rw [rcl_lenm]; kernel_rfl
  obtain ⟨W, hW⟩ : ∃ W, W = w.alloc (.cells #[.int .u16 h.id, .bool h.resp, .int .i64 h.op, .bool h.aa, .bool h.tc, .bool h.rd, .bool h.ra, .bool h.ad, .bool h.cd, .int .i64 h.rc, .int .i64 h.c0, .int .i64 h.c1, .int .i64 h.c2, .int .i64 h.c3, .slice Aq lq.length cq, .slice Aa la.length ca, .slice Ab lb.length cb, .slice Ac lc.length cc] 29) := ⟨_, rfl⟩
  have b1 : Blk W w.heap.size 29 #[.int .u16 h.id, .bool h.resp, .int .i64 h.op, .bool h.aa, .bool h.tc, .bool h.rd, .bool h.ra, .bool h.ad, .bool h.cd, .int .i64 h.rc, .int .i64 h.c0, .int .i64 h.c1, .int .i64 h.c2, .int .i64 h.c3, .slice Aq lq.length cq, .slice Aa la.length ca, .slice Ab lb.length cb, .slice Ac lc.length cc] := by rw [hW]; exact Blk.new _ _ _
  have hf : Fr (fun _ => False) w W := by rw [hW]; exact (Fr.refl _ _).alloc _
  obtain ⟨ck, hck⟩ : ∃ c, c = mcheckB (msOf h lq la lb lc) := ⟨_, rfl⟩
  have HCK := Lib.hid hck
  have HB := Lib.hid (And.intro b1 hf)
  have HM := Lib.hid hm
  have HW := Lib.hid hW
  have HSZ := Lib.hid hszr
  have nq : lq.length ≤ 1048576 := hm.qz.1
  have na1 : la.length ≤ 1048576 := hm.az.1
  have nb1 : lb.length ≤ 1048576 := hm.bz.1
  have nc1 : lc.length ≤ 1048576 := hm.cz.1
  have na : la.length ≤ ca := hm.az.2.2.2.1
  have nb : lb.length ≤ cb := hm.bz.2.2.2.1
  have nc : lc.length ≤ cc := hm.cz.2.2.2.1
  clear b1 hf hW hm hck hszr
  go_enter Tryz.func4, Tryz.ntmps4
  go_upto_region 1 with fail
  rw [← HW.out]
  clear HW
  go_upto_if 30 with (first
    | (go_at_call 9
       (with_reducible refine (lives11_any W).mono ?_)
       rintro e w1 ⟨rfl, f1⟩
       have H1 := Lib.hid (And.intro (HB.out.1.fr f1 id) (HB.out.2.then f1))
       clear f1)
    | (refine wpList_load_blk rfl 29 _ rfl w.heap.size (by rfl) 29 _ _ H1.out.1 Tryz.underlying29 rfl (by kernel_rfl) ?_)
    | (go_at_call 10
       (with_reducible refine (lightm_any h Aq lq cq Aa la ca Ab lb cb Ac lc cc w1 (HM.out.fr0 H1.out.2)).mono ?_)
       rintro e w2 ⟨bb, rfl, f2, hbb⟩
       have H2 := Lib.hid (And.intro (H1.out.1.fr f2 id) (H1.out.2.then f2))
       have HL := Lib.hid hbb
       clear f2 hbb
       rcases bb with _ | _)
    | (refine wpList_load_mid_g (by rfl) 29 _ rfl w.heap.size 0 (by rfl) [.int .u16 h.id, .bool h.resp, .int .i64 h.op, .bool h.aa, .bool h.tc, .bool h.rd, .bool h.ra, .bool h.ad, .bool h.cd, .int .i64 h.rc, .int .i64 h.c0, .int .i64 h.c1, .int .i64 h.c2, .int .i64 h.c3, .slice Aq lq.length cq, .slice Aa la.length ca, .slice Ab lb.length cb, .slice Ac lc.length cc] _ (blk_rg0 H2.out.1) Tryz.underlying29 rfl (by kernel_rfl) ?_)
    | (go_at_call 11
       (with_reducible refine (mcheck_any h Aq lq cq Aa la ca Ab lb cb Ac lc cc w2 (HM.out.fr0 H2.out.2)).mono ?_)
       rintro e w3 ⟨rfl, f3⟩
       rw [← HCK.out]
       have H3 := Lib.hid (And.intro (H2.out.1.fr f3 id) (H2.out.2.then f3))
       clear f3)
    | fail "no arm")
  · go_wp2_with fail
    go_ret
    exact ⟨rfl, H2.out.2⟩
  · have hc : ¬ ck = 0 := fun e => by
      obtain ⟨hl1, hl2, hl3⟩ := HL.out (by trivial)
      exact hno ⟨light_size hl1 hl2 hl3, HCK.out.symm.trans e⟩
    have t1 : (ck != 0) = true := by simp [hc]
    clear hc
    go_wp2_with fail
    go_ret
    exact ⟨rfl, H3.out.2⟩
end Go.Proofs.YtmbgejiahmhffaaGreat
