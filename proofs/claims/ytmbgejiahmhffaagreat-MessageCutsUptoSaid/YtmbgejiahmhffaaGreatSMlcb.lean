/-
  LAYER 11: MessageCuts, the walk: one of its cases.
-/
import Derived.Test.YtmbgejiahmhffaaGreatSMlc0
namespace Go.Proofs.YtmbgejiahmhffaaGreat
open Go.RowKit
set_option linter.unusedVariables false
set_option linter.unusedSimpArgs false

set_option maxRecDepth 100000 in
set_option maxHeartbeats 32000000 in
theorem mcuts_E (h : Hd) (Aq : Option Addr) (lq : List Qn) (cq : Nat) (Aa : Option Addr) (la : RLm) (ca : Nat) (Ab : Option Addr) (lb : RLm) (cb : Nat) (Ac : Option Addr) (lc : RLm) (cc : Nat) (M : Int) (w : World) (hm : MsIn w h Aq lq cq Aa la ca Ab lb cb Ac lc cc) (hc : mcheckB (msOf h lq la lb lc) = 0) (hlong : ∀ W, Fr (fun _ => False) w W → Calls Tryz.prog 12 #[.agg #[.int .u16 h.id, .bool h.resp, .int .i64 h.op, .bool h.aa, .bool h.tc, .bool h.rd, .bool h.ra, .bool h.ad, .bool h.cd, .int .i64 h.rc, .int .i64 (lq.length : Nat), .int .i64 0, .int .i64 0, .int .i64 0, .slice Aq lq.length cq, .slice none 0 0, .slice none 0 0, .slice none 0 0], .int .i64 M] W fun e w' => e = .returned (.tuple #[.string ⟨#[]⟩, .int .i64 3]) ∧ Fr (fun _ => False) W w') (hcall : ∀ W, Fr (fun _ => False) w W → Calls Tryz.prog 15 #[.agg #[.int .u16 h.id, .bool h.resp, .int .i64 h.op, .bool h.aa, .bool h.tc, .bool h.rd, .bool h.ra, .bool h.ad, .bool h.cd, .int .i64 h.rc, .int .i64 h.c0, .int .i64 h.c1, .int .i64 h.c2, .int .i64 h.c3, .slice Aq lq.length cq, .slice Aa la.length ca, .slice Ab lb.length cb, .slice Ac lc.length cc], .int .i64 M] W fun e w' => e = .returned (.tuple #[.string ⟨#[]⟩, .int .i64 3]) ∧ Fr (fun _ => False) W w') :
    Calls Tryz.prog 4 #[.agg #[.int .u16 h.id, .bool h.resp, .int .i64 h.op, .bool h.aa, .bool h.tc, .bool h.rd, .bool h.ra, .bool h.ad, .bool h.cd, .int .i64 h.rc, .int .i64 h.c0, .int .i64 h.c1, .int .i64 h.c2, .int .i64 h.c3, .slice Aq lq.length cq, .slice Aa la.length ca, .slice Ab lb.length cb, .slice Ac lc.length cc], .int .i64 M] w (EqPost w true) := by
  have hszr : ∀ x : Rcd × Option Addr × Nat, (Tryz.prog.info? 55).map (·.size) = some (rcl x).length := fun x => by rw [rcl_lenm]; kernel_rfl
  obtain ⟨W, hW⟩ : ∃ W, W = w.alloc (.cells #[.int .u16 h.id, .bool h.resp, .int .i64 h.op, .bool h.aa, .bool h.tc, .bool h.rd, .bool h.ra, .bool h.ad, .bool h.cd, .int .i64 h.rc, .int .i64 h.c0, .int .i64 h.c1, .int .i64 h.c2, .int .i64 h.c3, .slice Aq lq.length cq, .slice Aa la.length ca, .slice Ab lb.length cb, .slice Ac lc.length cc] 29) := ⟨_, rfl⟩
  have b1 : Blk W w.heap.size 29 #[.int .u16 h.id, .bool h.resp, .int .i64 h.op, .bool h.aa, .bool h.tc, .bool h.rd, .bool h.ra, .bool h.ad, .bool h.cd, .int .i64 h.rc, .int .i64 h.c0, .int .i64 h.c1, .int .i64 h.c2, .int .i64 h.c3, .slice Aq lq.length cq, .slice Aa la.length ca, .slice Ab lb.length cb, .slice Ac lc.length cc] := by rw [hW]; exact Blk.new _ _ _
  have hf : Fr (fun _ => False) w W := by rw [hW]; exact (Fr.refl _ _).alloc _
  obtain ⟨ck, hck⟩ : ∃ c, c = mcheckB (msOf h lq la lb lc) := ⟨_, rfl⟩
  have HCK := Lib.hid hck
  have HB := Lib.hid (And.intro b1 hf)
  have HM := Lib.hid hm
  have HW := Lib.hid hW
  have HSZ := Lib.hid hszr
  have nq : lq.length ≤ 1048576 := hm.qz.1
  have na1 : la.length ≤ 1048576 := hm.az.1
  have nb1 : lb.length ≤ 1048576 := hm.bz.1
  have nc1 : lc.length ≤ 1048576 := hm.cz.1
  have na : la.length ≤ ca := hm.az.2.2.2.1
  have nb : lb.length ≤ cb := hm.bz.2.2.2.1
  have nc : lc.length ≤ cc := hm.cz.2.2.2.1
  clear b1 hf hW hm hck hszr
  go_enter Tryz.func4, Tryz.ntmps4
  go_upto_region 1 with fail
  rw [← HW.out]
  clear HW
  go_upto_if 30 with (first
    | (go_at_call 9
       (with_reducible refine (lives11_any W).mono ?_)
       rintro e w1 ⟨rfl, f1⟩
       have H1 := Lib.hid (And.intro (HB.out.1.fr f1 id) (HB.out.2.then f1))
       clear f1)
    | (refine wpList_load_blk rfl 29 _ rfl w.heap.size (by rfl) 29 _ _ H1.out.1 Tryz.underlying29 rfl (by kernel_rfl) ?_)
    | (go_at_call 10
       (with_reducible refine (lightm_any h Aq lq cq Aa la ca Ab lb cb Ac lc cc w1 (HM.out.fr0 H1.out.2)).mono ?_)
       rintro e w2 ⟨bb, rfl, f2, hbb⟩
       have H2 := Lib.hid (And.intro (H1.out.1.fr f2 id) (H1.out.2.then f2))
       have HL := Lib.hid hbb
       clear f2 hbb
       rcases bb with _ | _)
    | (refine wpList_load_mid_g (by rfl) 29 _ rfl w.heap.size 0 (by rfl) [.int .u16 h.id, .bool h.resp, .int .i64 h.op, .bool h.aa, .bool h.tc, .bool h.rd, .bool h.ra, .bool h.ad, .bool h.cd, .int .i64 h.rc, .int .i64 h.c0, .int .i64 h.c1, .int .i64 h.c2, .int .i64 h.c3, .slice Aq lq.length cq, .slice Aa la.length ca, .slice Ab lb.length cb, .slice Ac lc.length cc] _ (blk_rg0 H2.out.1) Tryz.underlying29 rfl (by kernel_rfl) ?_)
    | (go_at_call 11
       (with_reducible refine (mcheck_any h Aq lq cq Aa la ca Ab lb cb Ac lc cc w2 (HM.out.fr0 H2.out.2)).mono ?_)
       rintro e w3 ⟨rfl, f3⟩
       rw [← HCK.out]
       have H3 := Lib.hid (And.intro (H2.out.1.fr f3 id) (H2.out.2.then f3))
       clear f3)
    | fail "no arm")
  · go_wp2_with fail
    go_ret
    exact ⟨rfl, H2.out.2⟩
  · have hck0 : ck = 0 := HCK.out.trans hc
    have t1 : (ck != 0) = false := by rw [hck0]; rfl
    have HC0 := Lib.hid hc
    clear hc hck0
    have HP := Lib.hid (And.intro hlong hcall)
    clear hlong hcall
    go_upto_region 8 with (first
      | (refine wpList_load_blk rfl 29 _ rfl w.heap.size (by rfl) 29 _ _ H3.out.1 Tryz.underlying29 rfl (by kernel_rfl) ?_)
      | (refine wpList_load_blk rfl 29 _ rfl w.heap.size (by rfl) 29 _ _ H4.out.1 Tryz.underlying29 rfl (by kernel_rfl) ?_)
      | (go_at_call 15
         (with_reducible refine (HP.out.2 w3 H3.out.2).mono ?_)
         rintro e w4 ⟨rfl, f4⟩
         have H4 := Lib.hid (And.intro (H3.out.1.fr f4 id) (H3.out.2.then f4))
         clear f4)
      | (refine wpList_store_part rfl 29 _ _ rfl w4.heap.size 0 (by rfl) _ (by rfl) 29 _ (Blk.new w4 29 _) (by kernel_rfl) (by simp [Value.oneCell']) (by simp) #[.int .u16 h.id, .bool h.resp, .int .i64 h.op, .bool h.aa, .bool h.tc, .bool h.rd, .bool h.ra, .bool h.ad, .bool h.cd, .int .i64 h.rc, .int .i64 h.c0, .int .i64 h.c1, .int .i64 h.c2, .int .i64 h.c3, .slice Aq lq.length cq, .slice Aa la.length ca, .slice Ab lb.length cb, .slice Ac lc.length cc] (by rfl) ?_
         intro w5 b5 f5
         have hne1 : w.heap.size ≠ w4.heap.size := by have := H4.out.1.lt; omega
         have g5 : Fr (fun _ => False) w4 w5 := ((Fr.refl (fun _ => False) w4).alloc _).step f5 (fun k hk => .inr (by subst hk; exact Nat.le_refl _))
         have HNE := Lib.hid (And.intro hne1 (show w.heap.size ≤ w4.heap.size from H4.out.2.size))
         have H5 := Lib.hid (And.intro (H4.out.1.fr g5 id) (And.intro b5 (H4.out.2.then g5)))
         clear b5 f5 g5 hne1)
      | fail "no arm")
    go_upto_region 9 with (first
      | (refine wpList_store_one rfl 27 _ _ rfl w4.heap.size 15 (by rfl) (.slice none 0 0) (by rfl) (by rfl) 29 _ H5.out.2.1 (by kernel_rfl) (by rfl) (by simp) #[.int .u16 h.id, .bool h.resp, .int .i64 h.op, .bool h.aa, .bool h.tc, .bool h.rd, .bool h.ra, .bool h.ad, .bool h.cd, .int .i64 h.rc, .int .i64 h.c0, .int .i64 h.c1, .int .i64 h.c2, .int .i64 h.c3, .slice Aq lq.length cq, .slice none 0 0, .slice Ab lb.length cb, .slice Ac lc.length cc] (by rfl) ?_
         intro w6 bz fz
         have H6 := Lib.hid (And.intro (H5.out.1.fr fz HNE.out.1) (And.intro bz (H5.out.2.2.step fz (fun k hk => .inr (by subst hk; exact HNE.out.2)))))
         clear bz fz)
      | (refine wpList_store_one rfl 27 _ _ rfl w4.heap.size 16 (by rfl) (.slice none 0 0) (by rfl) (by rfl) 29 _ H6.out.2.1 (by kernel_rfl) (by rfl) (by simp) #[.int .u16 h.id, .bool h.resp, .int .i64 h.op, .bool h.aa, .bool h.tc, .bool h.rd, .bool h.ra, .bool h.ad, .bool h.cd, .int .i64 h.rc, .int .i64 h.c0, .int .i64 h.c1, .int .i64 h.c2, .int .i64 h.c3, .slice Aq lq.length cq, .slice none 0 0, .slice none 0 0, .slice Ac lc.length cc] (by rfl) ?_
         intro w7 bz fz
         have H7 := Lib.hid (And.intro (H6.out.1.fr fz HNE.out.1) (And.intro bz (H6.out.2.2.step fz (fun k hk => .inr (by subst hk; exact HNE.out.2)))))
         clear bz fz)
      | (refine wpList_store_one rfl 27 _ _ rfl w4.heap.size 17 (by rfl) (.slice none 0 0) (by rfl) (by rfl) 29 _ H7.out.2.1 (by kernel_rfl) (by rfl) (by simp) #[.int .u16 h.id, .bool h.resp, .int .i64 h.op, .bool h.aa, .bool h.tc, .bool h.rd, .bool h.ra, .bool h.ad, .bool h.cd, .int .i64 h.rc, .int .i64 h.c0, .int .i64 h.c1, .int .i64 h.c2, .int .i64 h.c3, .slice Aq lq.length cq, .slice none 0 0, .slice none 0 0, .slice none 0 0] (by rfl) ?_
         intro w8 bz fz
         have H8 := Lib.hid (And.intro (H7.out.1.fr fz HNE.out.1) (And.intro bz (H7.out.2.2.step fz (fun k hk => .inr (by subst hk; exact HNE.out.2)))))
         clear bz fz)
      | fail "no arm")
    have d14 : w8.cell? ⟨w.heap.size, 14, none⟩ = some (.slice Aq lq.length cq) := H8.out.1.cell 14
    go_wp2_with (first
      | (refine wpList_store_part rfl 23 _ _ rfl w4.heap.size 10 (by rfl) _ (by rfl) 29 _ H8.out.2.1 (by kernel_rfl) (by simp [Value.oneCell']) (by simp) #[.int .u16 h.id, .bool h.resp, .int .i64 h.op, .bool h.aa, .bool h.tc, .bool h.rd, .bool h.ra, .bool h.ad, .bool h.cd, .int .i64 h.rc, .int .i64 (lq.length : Nat), .int .i64 0, .int .i64 0, .int .i64 0, .slice Aq lq.length cq, .slice none 0 0, .slice none 0 0, .slice none 0 0] (by rfl) ?_
         intro w9 bz fz
         have H9 := Lib.hid (And.intro bz (H8.out.2.2.step fz (fun k hk => .inr (by subst hk; exact HNE.out.2))))
         clear bz fz d14)
      | (refine wpList_load_blk rfl 29 _ rfl w4.heap.size (by rfl) 29 _ _ H9.out.1 Tryz.underlying29 rfl (by kernel_rfl) ?_)
      | (go_at_call 12
         (with_reducible refine (HP.out.1 w9 H9.out.2).mono ?_)
         rintro e w10 ⟨rfl, f10⟩
         have H10 := Lib.hid (H9.out.2.then f10)
         clear f10)
      | fail "no arm")
    go_ret
    exact ⟨rfl, H10.out⟩
end Go.Proofs.YtmbgejiahmhffaaGreat
