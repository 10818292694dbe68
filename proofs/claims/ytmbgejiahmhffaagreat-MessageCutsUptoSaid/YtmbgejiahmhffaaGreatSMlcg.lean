/-
  LAYER 11: MessageCuts, the walk: one of its cases.
-/
import Derived.Test.YtmbgejiahmhffaaGreatSMlc0
namespace Go.Proofs.YtmbgejiahmhffaaGreat
open Go.RowKit
set_option linter.unusedVariables false
set_option linter.unusedSimpArgs false

set_option maxRecDepth 100000 in
set_option maxHeartbeats 32000000 in
theorem mcuts_Lg (h : Hd) (Aq : Option Addr) (lq : List Qn) (cq : Nat) (Aa : Option Addr) (la : RLm) (ca : Nat) (Ab : Option Addr) (lb : RLm) (cb : Nat) (Ac : Option Addr) (lc : RLm) (cc : Nat) (M : Int) (w : World) (hm : MsIn w h Aq lq cq Aa la ca Ab lb cb Ac lc cc) (hc : mcheckB (msOf h lq la lb lc) = 0) (k : Nat) (g : Hd) (S : ByteArray) (hg : CutGood w h Aq lq cq Aa la ca Ab lb cb Ac lc cc M k g S) (hkl : k < la.length + lb.length + lc.length) (x1 : k < la.length) (x2 : ¬ lb.length = 0) :
    Calls Tryz.prog 4 #[.agg #[.int .u16 h.id, .bool h.resp, .int .i64 h.op, .bool h.aa, .bool h.tc, .bool h.rd, .bool h.ra, .bool h.ad, .bool h.cd, .int .i64 h.rc, .int .i64 h.c0, .int .i64 h.c1, .int .i64 h.c2, .int .i64 h.c3, .slice Aq lq.length cq, .slice Aa la.length ca, .slice Ab lb.length cb, .slice Ac lc.length cc], .int .i64 M] w (EqPost w true) := by
  have HXX := Lib.hid (And.intro x1 x2)
  clear x1 x2
  have hszr : ∀ x : Rcd × Option Addr × Nat, (Tryz.prog.info? 55).map (·.size) = some (rcl x).length := fun x => by rw [rcl_lenm]; kernel_rfl
  obtain ⟨W, hW⟩ : ∃ W, W = w.alloc (.cells #[.int .u16 h.id, .bool h.resp, .int .i64 h.op, .bool h.aa, .bool h.tc, .bool h.rd, .bool h.ra, .bool h.ad, .bool h.cd, .int .i64 h.rc, .int .i64 h.c0, .int .i64 h.c1, .int .i64 h.c2, .int .i64 h.c3, .slice Aq lq.length cq, .slice Aa la.length ca, .slice Ab lb.length cb, .slice Ac lc.length cc] 29) := ⟨_, rfl⟩
  have b1 : Blk W w.heap.size 29 #[.int .u16 h.id, .bool h.resp, .int .i64 h.op, .bool h.aa, .bool h.tc, .bool h.rd, .bool h.ra, .bool h.ad, .bool h.cd, .int .i64 h.rc, .int .i64 h.c0, .int .i64 h.c1, .int .i64 h.c2, .int .i64 h.c3, .slice Aq lq.length cq, .slice Aa la.length ca, .slice Ab lb.length cb, .slice Ac lc.length cc] := by rw [hW]; exact Blk.new _ _ _
  have hf : Fr (fun _ => False) w W := by rw [hW]; exact (Fr.refl _ _).alloc _
  obtain ⟨ck, hck⟩ : ∃ c, c = mcheckB (msOf h lq la lb lc) := ⟨_, rfl⟩
  have HCK := Lib.hid hck
  have HB := Lib.hid (And.intro b1 hf)
  have HM := Lib.hid hm
  have HW := Lib.hid hW
  have HSZ := Lib.hid hszr
  have nq : lq.length ≤ 1048576 := hm.qz.1
  have na1 : la.length ≤ 1048576 := hm.az.1
  have nb1 : lb.length ≤ 1048576 := hm.bz.1
  have nc1 : lc.length ≤ 1048576 := hm.cz.1
  have na : la.length ≤ ca := hm.az.2.2.2.1
  have nb : lb.length ≤ cb := hm.bz.2.2.2.1
  have nc : lc.length ≤ cc := hm.cz.2.2.2.1
  clear b1 hf hW hm hck hszr
  go_enter Tryz.func4, Tryz.ntmps4
  go_upto_region 1 with fail
  rw [← HW.out]
  clear HW
  go_upto_if 30 with (first
    | (go_at_call 9
       (with_reducible refine (lives11_any W).mono ?_)
       rintro e w1 ⟨rfl, f1⟩
       have H1 := Lib.hid (And.intro (HB.out.1.fr f1 id) (HB.out.2.then f1))
       clear f1)
    | (refine wpList_load_blk rfl 29 _ rfl w.heap.size (by rfl) 29 _ _ H1.out.1 Tryz.underlying29 rfl (by kernel_rfl) ?_)
    | (go_at_call 10
       (with_reducible refine (lightm_any h Aq lq cq Aa la ca Ab lb cb Ac lc cc w1 (HM.out.fr0 H1.out.2)).mono ?_)
       rintro e w2 ⟨bb, rfl, f2, hbb⟩
       have H2 := Lib.hid (And.intro (H1.out.1.fr f2 id) (H1.out.2.then f2))
       have HL := Lib.hid hbb
       clear f2 hbb
       rcases bb with _ | _)
    | (refine wpList_load_mid_g (by rfl) 29 _ rfl w.heap.size 0 (by rfl) [.int .u16 h.id, .bool h.resp, .int .i64 h.op, .bool h.aa, .bool h.tc, .bool h.rd, .bool h.ra, .bool h.ad, .bool h.cd, .int .i64 h.rc, .int .i64 h.c0, .int .i64 h.c1, .int .i64 h.c2, .int .i64 h.c3, .slice Aq lq.length cq, .slice Aa la.length ca, .slice Ab lb.length cb, .slice Ac lc.length cc] _ (blk_rg0 H2.out.1) Tryz.underlying29 rfl (by kernel_rfl) ?_)
    | (go_at_call 11
       (with_reducible refine (mcheck_any h Aq lq cq Aa la ca Ab lb cb Ac lc cc w2 (HM.out.fr0 H2.out.2)).mono ?_)
       rintro e w3 ⟨rfl, f3⟩
       rw [← HCK.out]
       have H3 := Lib.hid (And.intro (H2.out.1.fr f3 id) (H2.out.2.then f3))
       clear f3)
    | fail "no arm")
  · go_wp2_with fail
    go_ret
    exact ⟨rfl, H2.out.2⟩
  · have hck0 : ck = 0 := HCK.out.trans hc
    have t1 : (ck != 0) = false := by rw [hck0]; rfl
    have HC0 := Lib.hid hc
    clear hc hck0
    have hk := hg.hk
    have hS := hg.s
    have hSM := hg.sm
    have HP := Lib.hid (And.intro hg.call (And.intro (mread_reads (s := S) hg.mr hg.cnt hg.s) (And.intro hg.ok (And.intro hg.full hg.more))))
    clear hg
    have hgt : decide (M < (S.size : Int)) = false := decide_eq_false (by omega)
    have hgt2 : ¬ M < (S.size : Int) := by omega
    go_upto_region 13 with (first
      | (refine wpList_load_blk rfl 29 _ rfl w.heap.size (by rfl) 29 _ _ H3.out.1 Tryz.underlying29 rfl (by kernel_rfl) ?_)
      | (go_at_call 15
         (with_reducible refine (HP.out.1 w3 H3.out.2).mono ?_)
         rintro e w4 ⟨rfl, f4⟩
         have H4 := Lib.hid (And.intro (H3.out.1.fr f4 id) (H3.out.2.then f4))
         clear f4)
      | (go_at_call 16
         (with_reducible refine (mread_any S w4 (by omega)).mono ?_)
         rintro e w5 ⟨f5, ⟨hne, _⟩ | ⟨h0, h2, A2q, l2q, c2q, A2a, l2a, c2a, A2b, l2b, c2b, A2c, l2c, c2c, rfl, hrd, hms⟩⟩
         · exact absurd HP.out.2.1.1 hne
         have H5 := Lib.hid (And.intro (H4.out.1.fr f5 id) (And.intro (H4.out.2.then f5) (And.intro hrd (hms.trans HP.out.2.1.2))))
         clear f5 h0 hrd hms)
      | (refine wpList_store_part rfl 29 _ _ rfl w5.heap.size 0 (by rfl) _ (by rfl) 29 _ (Blk.new w5 29 _) (by kernel_rfl) (by simp [Value.oneCell']) (by simp) #[.int .u16 h2.id, .bool h2.resp, .int .i64 h2.op, .bool h2.aa, .bool h2.tc, .bool h2.rd, .bool h2.ra, .bool h2.ad, .bool h2.cd, .int .i64 h2.rc, .int .i64 h2.c0, .int .i64 h2.c1, .int .i64 h2.c2, .int .i64 h2.c3, .slice A2q l2q.length c2q, .slice A2a l2a.length c2a, .slice A2b l2b.length c2b, .slice A2c l2c.length c2c] (by rfl) ?_
         intro w6 b6 f6
         have hne1 : w.heap.size ≠ w5.heap.size := by have := H5.out.1.lt; omega
         have g6 : Fr (fun _ => False) w5 w6 := ((Fr.refl (fun _ => False) w5).alloc _).step f6 (fun k hk => .inr (by subst hk; exact Nat.le_refl _))
         have H6 := Lib.hid (And.intro ((H5.out.1.alloc _).fr f6 hne1) (And.intro (H5.out.2.1.then g6) (And.intro b6 (show MsIn w6 h2 A2q l2q c2q A2a l2a c2a A2b l2b c2b A2c l2c c2c from (rd_in g Aq lq cq Aa (la.take k) ca Ab (lb.take (k - la.length)) cb Ac (lc.take (k - la.length - lb.length)) cc h2 A2q l2q c2q A2a l2a c2a A2b l2b c2b A2c l2c c2c (HM.out.cut HP.out.2.2.1 _ _ _) H5.out.2.2.1 H5.out.2.2.2).fr0 g6))))
         clear b6 f6 g6 hne1)
      | fail "no arm")
    obtain ⟨e0, e1, e2, e3, e4⟩ := (ms_eq _ _ _ _ _ _ _ _ _ _).1 H5.out.2.2.2
    subst e0 e1
    have hX := nth_cat e2 e3 e4
    have q1 : l2a.length = min k la.length := by have := congrArg List.length e2; simpa using this
    have q2 : l2b.length = min (k - la.length) lb.length := by have := congrArg List.length e3; simpa using this
    have q3 : l2c.length = min (k - la.length - lb.length) lc.length := by have := congrArg List.length e4; simpa using this
    have HQ := Lib.hid (And.intro q1 (And.intro q2 q3))
    clear e2 e3 e4 q1 q2 q3
    obtain ⟨X, hXe⟩ : ∃ X, X = l2a ++ l2b ++ l2c := ⟨_, rfl⟩
    obtain ⟨Y, hYe⟩ : ∃ Y, Y = la ++ lb ++ lc := ⟨_, rfl⟩
    rw [← hXe, ← hYe] at hX
    have hXl : X.length = k := by
      have := congrArg List.length hX
      rw [List.length_map, List.length_map, List.length_take, hYe, List.length_append, List.length_append] at this
      omega
    have hYl : Y.length = la.length + lb.length + lc.length := by rw [hYe, List.length_append, List.length_append]
    have HXY := Lib.hid (And.intro hX (And.intro hXl (And.intro hYl (And.intro (show ∀ x ∈ X, RcIn w6 x.2.1 x.1 by rw [hXe]; exact ms_in_all h2 A2q l2q c2q A2a l2a c2a A2b l2b c2b A2c l2c c2c H6.out.2.2.2) (show ∀ x ∈ Y, RcIn w x.2.1 x.1 by rw [hYe]; exact ms_in_all h Aq l2q cq Aa la ca Ab lb cb Ac lc cc HM.out)))))
    have HRX := Lib.hid (show ∀ W, Fr (fun _ => False) w6 W → Calls Tryz.prog 14 #[.agg #[.int .u16 h2.id, .bool h2.resp, .int .i64 h2.op, .bool h2.aa, .bool h2.tc, .bool h2.rd, .bool h2.ra, .bool h2.ad, .bool h2.cd, .int .i64 h2.rc, .int .i64 h2.c0, .int .i64 h2.c1, .int .i64 h2.c2, .int .i64 h2.c3, .slice A2q l2q.length c2q, .slice A2a l2a.length c2a, .slice A2b l2b.length c2b, .slice A2c l2c.length c2c]] W (OwnPost W X) from fun W f => by
      rw [hXe]
      exact recs_any h2 A2q l2q.length c2q A2a l2a c2a A2b l2b c2b A2c l2c c2c W (rowIn_fr0 H6.out.2.2.2.a f) (rowIn_fr0 H6.out.2.2.2.b f) (rowIn_fr0 H6.out.2.2.2.c f) H6.out.2.2.2.az.1 H6.out.2.2.2.bz.1 H6.out.2.2.2.cz.1)
    have HRY := Lib.hid (show ∀ W, Fr (fun _ => False) w W → Calls Tryz.prog 14 #[.agg #[.int .u16 h.id, .bool h.resp, .int .i64 h.op, .bool h.aa, .bool h.tc, .bool h.rd, .bool h.ra, .bool h.ad, .bool h.cd, .int .i64 h.rc, .int .i64 h.c0, .int .i64 h.c1, .int .i64 h.c2, .int .i64 h.c3, .slice Aq l2q.length cq, .slice Aa la.length ca, .slice Ab lb.length cb, .slice Ac lc.length cc]] W (OwnPost W Y) from fun W f => by
      rw [hYe]
      exact recs_any h Aq l2q.length cq Aa la ca Ab lb cb Ac lc cc W (rowIn_fr0 HM.out.a f) (rowIn_fr0 HM.out.b f) (rowIn_fr0 HM.out.c f) na1 nb1 nc1)
    have hXb : X.length ≤ 4000000 := by omega
    clear hX hXe hYe hXl hYl
    have d14 : w6.cell? ⟨w.heap.size, 14, none⟩ = some (.slice Aq l2q.length cq) := H6.out.1.cell 14
    have c14 : w6.cell? ⟨w5.heap.size, 14, none⟩ = some (.slice A2q l2q.length c2q) := H6.out.2.2.1.cell 14
    go_upto_region 15 with fail
    clear d14 c14 hgt hgt2
    have hS0 : w6.drew.rangeAt w5.heap.size 0 [.int .u16 h2.id, .bool h2.resp, .int .i64 h2.op, .bool h2.aa, .bool h2.tc, .bool h2.rd, .bool h2.ra, .bool h2.ad, .bool h2.cd, .int .i64 h2.rc, .int .i64 h2.c0, .int .i64 h2.c1, .int .i64 h2.c2, .int .i64 h2.c3, .slice A2q l2q.length c2q, .slice A2a l2a.length c2a, .slice A2b l2b.length c2b, .slice A2c l2c.length c2c] ∧ w6.drew.rangeAt w.heap.size 0 [.int .u16 h.id, .bool h.resp, .int .i64 h.op, .bool h.aa, .bool h.tc, .bool h.rd, .bool h.ra, .bool h.ad, .bool h.cd, .int .i64 h.rc, .int .i64 h.c0, .int .i64 h.c1, .int .i64 h.c2, .int .i64 h.c3, .slice Aq l2q.length cq, .slice Aa la.length ca, .slice Ab lb.length cb, .slice Ac lc.length cc] := ⟨blk_rg0 H6.out.2.2.1.drew, blk_rg0 H6.out.1.drew⟩
    refine wp_region_held_drew (S := fun w' => w'.rangeAt w5.heap.size 0 [.int .u16 h2.id, .bool h2.resp, .int .i64 h2.op, .bool h2.aa, .bool h2.tc, .bool h2.rd, .bool h2.ra, .bool h2.ad, .bool h2.cd, .int .i64 h2.rc, .int .i64 h2.c0, .int .i64 h2.c1, .int .i64 h2.c2, .int .i64 h2.c3, .slice A2q l2q.length c2q, .slice A2a l2a.length c2a, .slice A2b l2b.length c2b, .slice A2c l2c.length c2c] ∧ w'.rangeAt w.heap.size 0 [.int .u16 h.id, .bool h.resp, .int .i64 h.op, .bool h.aa, .bool h.tc, .bool h.rd, .bool h.ra, .bool h.ad, .bool h.cd, .int .i64 h.rc, .int .i64 h.c0, .int .i64 h.c1, .int .i64 h.c2, .int .i64 h.c3, .slice Aq l2q.length cq, .slice Aa la.length ca, .slice Ab lb.length cb, .slice Ac lc.length cc]) (by kernel_rfl) hS0 (fun hHeld => ?_)
    refine wpAnyH_take (i := 0) rfl (by kernel_rfl) (by kernel_rfl) (by kernel_rfl) (fun _ _ _ h => h) (yieldsIf_load_mid (by rfl) _ _ rfl w5.heap.size (0) (by rfl) [.int .u16 h2.id, .bool h2.resp, .int .i64 h2.op, .bool h2.aa, .bool h2.tc, .bool h2.rd, .bool h2.ra, .bool h2.ad, .bool h2.cd, .int .i64 h2.rc, .int .i64 h2.c0, .int .i64 h2.c1, .int .i64 h2.c2, .int .i64 h2.c3, .slice A2q l2q.length c2q, .slice A2a l2a.length c2a, .slice A2b l2b.length c2b, .slice A2c l2c.length c2c] _ (fun w' h => h.1) Tryz.underlying29 rfl (by kernel_rfl)) (by assumption) ?_
    try simp only [Act.put, List.setIfInBounds_toArray, List.set_cons_zero, List.set_cons_succ, List.getElem_toArray, List.getElem_cons_zero, List.getElem_cons_succ]
    refine wpAnyH_take (i := 2) rfl (by kernel_rfl) (by kernel_rfl) (by kernel_rfl) (fun _ _ _ h => h) (yieldsIf_load_mid (by rfl) _ _ rfl w.heap.size (0) (by rfl) [.int .u16 h.id, .bool h.resp, .int .i64 h.op, .bool h.aa, .bool h.tc, .bool h.rd, .bool h.ra, .bool h.ad, .bool h.cd, .int .i64 h.rc, .int .i64 h.c0, .int .i64 h.c1, .int .i64 h.c2, .int .i64 h.c3, .slice Aq l2q.length cq, .slice Aa la.length ca, .slice Ab lb.length cb, .slice Ac lc.length cc] _ (fun w' h => h.2) Tryz.underlying29 rfl (by kernel_rfl)) (by assumption) ?_
    try simp only [Act.put, List.setIfInBounds_toArray, List.set_cons_zero, List.set_cons_succ, List.getElem_toArray, List.getElem_cons_zero, List.getElem_cons_succ]
    refine wpAnyH_ready (rs := [1]) (by kernel_rfl) (by simp) ?_
    refine AllReadyH.cons rfl (fun K hK => ?_) AllReadyH.nil
    go_simp
    (with_reducible refine (HRX.out w6.drew ((Fr.refl (fun _ => False) w6).drew)).mono ?_)
    rintro e w7 ⟨A7, c7, rfl, o1, o2, o3⟩
    have g7 : Fr (fun _ => False) w6 w7 := ((Fr.refl (fun _ => False) w6).drew).then o3
    have H7 := Lib.hid (And.intro (H6.out.1.fr g7 id) (And.intro (H6.out.2.1.then g7) (And.intro (H6.out.2.2.1.fr g7 id) (And.intro g7 (own_rowIn o1)))))
    have hS7 : w7.rangeAt w5.heap.size 0 [.int .u16 h2.id, .bool h2.resp, .int .i64 h2.op, .bool h2.aa, .bool h2.tc, .bool h2.rd, .bool h2.ra, .bool h2.ad, .bool h2.cd, .int .i64 h2.rc, .int .i64 h2.c0, .int .i64 h2.c1, .int .i64 h2.c2, .int .i64 h2.c3, .slice A2q l2q.length c2q, .slice A2a l2a.length c2a, .slice A2b l2b.length c2b, .slice A2c l2c.length c2c] ∧ w7.rangeAt w.heap.size 0 [.int .u16 h.id, .bool h.resp, .int .i64 h.op, .bool h.aa, .bool h.tc, .bool h.rd, .bool h.ra, .bool h.ad, .bool h.cd, .int .i64 h.rc, .int .i64 h.c0, .int .i64 h.c1, .int .i64 h.c2, .int .i64 h.c3, .slice Aq l2q.length cq, .slice Aa la.length ca, .slice Ab lb.length cb, .slice Ac lc.length cc] := ⟨blk_rg0 H7.out.2.2.1, blk_rg0 H7.out.1⟩
    clear o1 o2 o3 g7 hHeld hS0
    refine hK.out _ _ hS7 (fun hHeld => ?_)
    clear hK K
    try simp only [Act.put, List.setIfInBounds_toArray, List.set_cons_zero, List.set_cons_succ, List.getElem_toArray, List.getElem_cons_zero, List.getElem_cons_succ]
    refine wpAnyH_ready (rs := [3]) (by kernel_rfl) (by simp) ?_
    refine AllReadyH.cons rfl (fun K hK => ?_) AllReadyH.nil
    go_simp
    (with_reducible refine (HRY.out w7 H7.out.2.1).mono ?_)
    rintro e w8 ⟨A8, c8, rfl, o1, o2, o3⟩
    have H8 := Lib.hid (And.intro (H7.out.1.fr o3 id) (And.intro (H7.out.2.1.then o3) (And.intro (H7.out.2.2.1.fr o3 id) (And.intro (H7.out.2.2.2.1.then o3) (And.intro (rowIn_fr0 H7.out.2.2.2.2 o3) (own_rowIn o1))))))
    have hS8 : w8.rangeAt w5.heap.size 0 [.int .u16 h2.id, .bool h2.resp, .int .i64 h2.op, .bool h2.aa, .bool h2.tc, .bool h2.rd, .bool h2.ra, .bool h2.ad, .bool h2.cd, .int .i64 h2.rc, .int .i64 h2.c0, .int .i64 h2.c1, .int .i64 h2.c2, .int .i64 h2.c3, .slice A2q l2q.length c2q, .slice A2a l2a.length c2a, .slice A2b l2b.length c2b, .slice A2c l2c.length c2c] ∧ w8.rangeAt w.heap.size 0 [.int .u16 h.id, .bool h.resp, .int .i64 h.op, .bool h.aa, .bool h.tc, .bool h.rd, .bool h.ra, .bool h.ad, .bool h.cd, .int .i64 h.rc, .int .i64 h.c0, .int .i64 h.c1, .int .i64 h.c2, .int .i64 h.c3, .slice Aq l2q.length cq, .slice Aa la.length ca, .slice Ab lb.length cb, .slice Ac lc.length cc] := ⟨blk_rg0 H8.out.2.2.1, blk_rg0 H8.out.1⟩
    clear o1 o2 o3 hHeld hS7
    refine hK.out _ _ hS8 (fun hHeld => ?_)
    clear hK K
    try simp only [Act.put, List.setIfInBounds_toArray, List.set_cons_zero, List.set_cons_succ, List.getElem_toArray, List.getElem_cons_zero, List.getElem_cons_succ]
    refine wpAnyH_take (i := 4) (v := ?_) rfl (by kernel_rfl) (by kernel_rfl) (by kernel_rfl) (fun _ _ _ h => h) (Or.inl ⟨by rfl, ?_⟩) (by assumption) ?_
    rotate_left
    · intro w hSw
      skip
      go_simp
      try with_reducible rfl
    try simp only [Act.put, List.setIfInBounds_toArray, List.set_cons_zero, List.set_cons_succ, List.getElem_toArray, List.getElem_cons_zero, List.getElem_cons_succ]
    refine wpAnyH_take (i := 5) (v := ?_) rfl (by kernel_rfl) (by kernel_rfl) (by kernel_rfl) (fun _ _ _ h => h) (Or.inl ⟨by rfl, ?_⟩) (by assumption) ?_
    rotate_left
    · intro w hSw
      skip
      go_simp
      try with_reducible rfl
    try simp only [Act.put, List.setIfInBounds_toArray, List.set_cons_zero, List.set_cons_succ, List.getElem_toArray, List.getElem_cons_zero, List.getElem_cons_succ]
    refine wpAnyH_done (by kernel_rfl) ?_ _
    clear hHeld hS8
    go_wp2_with fail
    go_loopw [14] (fun i wr => ∃ j : Nat, j ≤ X.length ∧ i = .int .i64 (j : Nat) ∧ Fr (fun _ => False) w8 wr) (fun i _ => X.length - (intOf i).toNat)
    case atStart => exact ⟨0, Nat.zero_le _, rfl, Fr.refl _ _⟩
    case round =>
      obtain ⟨j, hj, rfl, hfr⟩ := hrel
      have H9 := Lib.hid (And.intro (H8.out.1.fr hfr id) (And.intro (H8.out.2.1.then hfr) (And.intro (H8.out.2.2.1.fr hfr id) hfr)))
      clear hfr
      by_cases hlt : j < X.length
      · obtain ⟨x, hx⟩ : ∃ x, X[j]? = some x := ⟨X[j], List.getElem?_eq_getElem hlt⟩
        have hly : j < Y.length := by have := HXY.out.2.1; have := HXY.out.2.2.1; omega
        obtain ⟨y, hy⟩ : ∃ y, Y[j]? = some y := ⟨Y[j], List.getElem?_eq_getElem hly⟩
        have hxy : x.1 = y.1 := by
          have h1 := congrArg (fun l : List Rcd => l[j]?) HXY.out.1
          have hjk : j < k := by have := HXY.out.2.1; omega
          simp only [List.getElem?_map, hx, List.getElem?_take, hjk, if_true, hy, Option.map_some] at h1
          injection h1
        obtain ⟨b, off, rfl, hbs, hrg⟩ := rowIn_mk rcl 16 rcl_lenm (rowIn_fr0 H8.out.2.2.2.2.1 H9.out.2.2.2) hx
        obtain ⟨b', off', rfl, hbs', hrg'⟩ := rowIn_mk rcl 16 rcl_lenm (rowIn_fr0 H8.out.2.2.2.2.2 H9.out.2.2.2) hy
        have HX := Lib.hid (And.intro hxy (And.intro (HXY.out.2.2.2.1 x (List.mem_of_getElem? hx)) (HXY.out.2.2.2.2 y (List.mem_of_getElem? hy))))
        have hj0 : (0 : Int) ≤ (j : Int) := by omega
        have hlti : (j : Int) < (X.length : Int) := by omega
        have hltj : (j : Int) < (Y.length : Int) := by omega
        have hsx := HSZ.out x
        have hsy := HSZ.out y
        clear hx hy hxy
        go_upto_region 19 with fail
        have hS0 : wr.drew.rangeAt b (off + j * 16) (rcl x) ∧ wr.drew.rangeAt b' (off' + j * 16) (rcl y) := ⟨hrg, hrg'⟩
        refine wp_region_held_drew (S := fun w' => w'.rangeAt b (off + j * 16) (rcl x) ∧ w'.rangeAt b' (off' + j * 16) (rcl y)) (by kernel_rfl) hS0 (fun hHeld => ?_)
        refine wpAnyH_take (i := 0) (v := ?_) rfl (by kernel_rfl) (by kernel_rfl) (by kernel_rfl) (fun _ _ _ h => h) (Or.inl ⟨by rfl, ?_⟩) (by assumption) ?_
        rotate_left
        · intro w hSw
          skip
          go_simp
          try with_reducible rfl
        try simp only [Act.put, List.setIfInBounds_toArray, List.set_cons_zero, List.set_cons_succ, List.getElem_toArray, List.getElem_cons_zero, List.getElem_cons_succ]
        refine wpAnyH_take (i := 1) (v := ?_) rfl (by kernel_rfl) (by kernel_rfl) (by kernel_rfl) (fun _ _ _ h => h) (Or.inl ⟨by rfl, ?_⟩) (by assumption) ?_
        rotate_left
        · intro w hSw
          skip
          go_simp
          try with_reducible rfl
        try simp only [Act.put, List.setIfInBounds_toArray, List.set_cons_zero, List.set_cons_succ, List.getElem_toArray, List.getElem_cons_zero, List.getElem_cons_succ]
        refine wpAnyH_take (i := 2) (v := ?_) rfl (by kernel_rfl) (by kernel_rfl) (by kernel_rfl) (fun _ _ _ h => h) (Or.inl ⟨by rfl, ?_⟩) (by assumption) ?_
        rotate_left
        · intro w hSw
          skip
          go_simp
          try with_reducible rfl
        try simp only [Act.put, List.setIfInBounds_toArray, List.set_cons_zero, List.set_cons_succ, List.getElem_toArray, List.getElem_cons_zero, List.getElem_cons_succ]
        refine wpAnyH_take (i := 3) rfl (by kernel_rfl) (by kernel_rfl) (by kernel_rfl) (fun _ _ _ h => h) (yieldsIf_load_mid (by rfl) _ _ rfl b (off + j * 16) (by rfl) (rcl x) _ (fun w' h => h.1) Tryz.underlying55 rfl (hsx)) (by assumption) ?_
        try simp only [Act.put, List.setIfInBounds_toArray, List.set_cons_zero, List.set_cons_succ, List.getElem_toArray, List.getElem_cons_zero, List.getElem_cons_succ]
        refine wpAnyH_take (i := 4) (v := ?_) rfl (by kernel_rfl) (by kernel_rfl) (by kernel_rfl) (fun _ _ _ h => h) (Or.inl ⟨by rfl, ?_⟩) (by assumption) ?_
        rotate_left
        · intro w hSw
          skip
          go_simp
          try with_reducible rfl
        try simp only [Act.put, List.setIfInBounds_toArray, List.set_cons_zero, List.set_cons_succ, List.getElem_toArray, List.getElem_cons_zero, List.getElem_cons_succ]
        refine wpAnyH_take (i := 5) (v := ?_) rfl (by kernel_rfl) (by kernel_rfl) (by kernel_rfl) (fun _ _ _ h => h) (Or.inl ⟨by rfl, ?_⟩) (by assumption) ?_
        rotate_left
        · intro w hSw
          skip
          go_simp
          try with_reducible rfl
        try simp only [Act.put, List.setIfInBounds_toArray, List.set_cons_zero, List.set_cons_succ, List.getElem_toArray, List.getElem_cons_zero, List.getElem_cons_succ]
        refine wpAnyH_take (i := 6) (v := ?_) rfl (by kernel_rfl) (by kernel_rfl) (by kernel_rfl) (fun _ _ _ h => h) (Or.inl ⟨by rfl, ?_⟩) (by assumption) ?_
        rotate_left
        · intro w hSw
          skip
          go_simp
          try with_reducible rfl
        try simp only [Act.put, List.setIfInBounds_toArray, List.set_cons_zero, List.set_cons_succ, List.getElem_toArray, List.getElem_cons_zero, List.getElem_cons_succ]
        refine wpAnyH_take (i := 7) rfl (by kernel_rfl) (by kernel_rfl) (by kernel_rfl) (fun _ _ _ h => h) (yieldsIf_load_mid (by rfl) _ _ rfl b' (off' + j * 16) (by rfl) (rcl y) _ (fun w' h => h.2) Tryz.underlying55 rfl (hsy)) (by assumption) ?_
        try simp only [Act.put, List.setIfInBounds_toArray, List.set_cons_zero, List.set_cons_succ, List.getElem_toArray, List.getElem_cons_zero, List.getElem_cons_succ]
        refine wpAnyH_ready (rs := [8]) (by kernel_rfl) (by simp) ?_
        refine AllReadyH.cons rfl (fun K hK => ?_) AllReadyH.nil
        go_simp
        (with_reducible refine (rrsame_x x y wr.drew (HX.out.2.1.fr0 ((H8.out.2.2.2.1.then H9.out.2.2.2).then ((Fr.refl (fun _ => False) wr).drew))) (HX.out.2.2.fr0 (H9.out.2.1.then ((Fr.refl (fun _ => False) wr).drew))) HX.out.1).mono ?_)
        rintro e w9 ⟨rfl, f9⟩
        have g9 : Fr (fun _ => False) wr w9 := ((Fr.refl (fun _ => False) wr).drew).then f9
        have hS9 : w9.rangeAt b (off + j * 16) (rcl x) ∧ w9.rangeAt b' (off' + j * 16) (rcl y) := ⟨range_fr0 g9 hbs hrg, range_fr0 g9 hbs' hrg'⟩
        have HG9 := Lib.hid (H9.out.2.2.2.then g9)
        clear f9 g9 hHeld hS0
        refine hK.out _ _ hS9 (fun hHeld => ?_)
        clear hK K
        try simp only [Act.put, List.setIfInBounds_toArray, List.set_cons_zero, List.set_cons_succ, List.getElem_toArray, List.getElem_cons_zero, List.getElem_cons_succ]
        refine wpAnyH_take (i := 9) (v := ?_) rfl (by kernel_rfl) (by kernel_rfl) (by kernel_rfl) (fun _ _ _ h => h) (Or.inl ⟨by rfl, ?_⟩) (by assumption) ?_
        rotate_left
        · intro w hSw
          skip
          go_simp
          try with_reducible rfl
        try simp only [Act.put, List.setIfInBounds_toArray, List.set_cons_zero, List.set_cons_succ, List.getElem_toArray, List.getElem_cons_zero, List.getElem_cons_succ]
        refine wpAnyH_done (by kernel_rfl) ?_ _
        clear hHeld hS9 hrg hrg'
        go_wp2_with fail
        go_roundw
        case rel => exact ⟨j + 1, hlt, by go_num, HG9.out⟩
        case measure => simp [intOf]; omega
      · have hke : j = X.length := by omega
        subst hke
        rename World => w9
        have hXl := HXY.out.2.1
        have hYl := HXY.out.2.2.1
        clear hlt hj
        have hXY : ((X.length : Int) == (Y.length : Int)) = false := by rw [hXl, hYl, beq_eq_false_iff_ne]; omega
        obtain ⟨htc, hput⟩ := HP.out.2.2.2.2 hkl
        have HT := Lib.hid (And.intro htc hput)
        clear htc hput
        obtain ⟨pA, hpA⟩ : ∃ n, n = min (k + 1) la.length := ⟨_, rfl⟩
        obtain ⟨pB, hpB⟩ : ∃ n, n = min (k + 1 - la.length) lb.length := ⟨_, rfl⟩
        obtain ⟨pC, hpC⟩ : ∃ n, n = min (k + 1 - la.length - lb.length) lc.length := ⟨_, rfl⟩
        obtain ⟨r1, hr1⟩ : ∃ n, n = k + 1 - pA := ⟨_, rfl⟩
        have HPP := Lib.hid (And.intro hpA (And.intro hpB hpC))
        have hs0 : IntKind.i64.wrap ((X.length : Int) + 1) = ((k + 1 : Nat) : Int) := by rw [hXl, IntWalk.i64_in _ (by omega)]; omega
        have hm1 : min (((k + 1 : Nat)) : Int) (la.length : Int) = (pA : Int) := by omega
        have hs1 : IntKind.i64.wrap (((k + 1 : Nat) : Int) - (pA : Int)) = (r1 : Int) := by rw [IntWalk.i64_in _ (by omega)]; omega
        have hm2 : min (r1 : Int) (lb.length : Int) = (pB : Int) := by omega
        have hs2 : IntKind.i64.wrap ((r1 : Int) - (pB : Int)) = (pC : Int) := by rw [IntWalk.i64_in _ (by omega)]; omega
        have hm1' : min ((k : Int) + 1) (la.length : Int) = (pA : Int) := by omega
        have hs1' : IntKind.i64.wrap ((k : Int) + 1 - (pA : Int)) = (r1 : Int) := by rw [IntWalk.i64_in _ (by omega)]; omega
        have hs0' : IntKind.i64.wrap ((k : Int) + 1) = (k : Int) + 1 := IntWalk.i64_in _ (by omega)
        have hmA : (if (la.length : Int) < (k : Int) + 1 then (la.length : Int) else (k : Int) + 1) = (pA : Int) := by split <;> omega
        have hmB : (if (lb.length : Int) < (r1 : Int) then (lb.length : Int) else (r1 : Int)) = (pB : Int) := by split <;> omega
        have hmC : (if lb.length < r1 then (lb.length : Int) else (r1 : Int)) = (pB : Int) := by split <;> omega
        have hcA : pA ≤ ca := by omega
        have hcB : pB ≤ cb := by omega
        have hcC : pC ≤ cc := by omega
        have HJ := Lib.hid (And.intro (And.intro hmA (And.intro hmB hmC)) (And.intro hcA (And.intro hcB hcC)))
        clear hmA hmB hmC hcA hcB hcC
        have i1 := slice_pre Aa la.length pA ca (by omega)
        have i2 := slice_pre Ab lb.length pB cb (by omega)
        have i3 := slice_pre Ac lc.length pC cc (by omega)
        have HI := Lib.hid (And.intro (And.intro hs0 (And.intro hm1 (And.intro hs1 (And.intro hm2 hs2)))) (And.intro (And.intro hm1' (And.intro hs1' hs0')) (And.intro i1 (And.intro i2 i3))))
        clear hs0 hm1 hs1 hm2 hs2 hm1' hs1' hs0' i1 i2 i3 hpA hpB hpC hr1
        have d15 : w9.cell? ⟨w.heap.size, 15, none⟩ = some (.slice Aa la.length ca) := H9.out.1.cell 15
        have d16 : w9.cell? ⟨w.heap.size, 16, none⟩ = some (.slice Ab lb.length cb) := H9.out.1.cell 16
        have a15 : w9.cell? ⟨w5.heap.size, 15, none⟩ = some (.slice A2a l2a.length c2a) := H9.out.2.2.1.cell 15
        have a16 : w9.cell? ⟨w5.heap.size, 16, none⟩ = some (.slice A2b l2b.length c2b) := H9.out.2.2.1.cell 16
        have a17 : w9.cell? ⟨w5.heap.size, 17, none⟩ = some (.slice A2c l2c.length c2c) := H9.out.2.2.1.cell 17
        have s1 : ¬ l2a.length = la.length := by have := HQ.out; have := HXX.out; omega
        have s2 := HXX.out.2
        have u1 : ((l2a.length : Int) == (la.length : Int)) = false := by rw [beq_eq_false_iff_ne]; omega
        have hb0 : l2b.length = 0 := by have := HQ.out; have := HXX.out; omega
        have hc0 : l2c.length = 0 := by have := HQ.out; have := HXX.out; omega
        have u2 : ((0 : Int) == (lb.length : Int)) = false := by rw [beq_eq_false_iff_ne]; omega
        clear s1
        go_upto_region 27 with fail
        clear d15 d16 a15 a16 a17 u1 u2 hc0 hb0 s2
        go_upto_region 29 with (first
          | (refine wpList_load_blk rfl 29 _ rfl w.heap.size (by rfl) 29 _ _ H9.out.1 Tryz.underlying29 rfl (by kernel_rfl) ?_)
          | (refine wpList_store_part rfl 29 _ _ rfl w9.heap.size 0 (by rfl) _ (by rfl) 29 _ (Blk.new w9 29 _) (by kernel_rfl) (by simp [Value.oneCell']) (by simp) #[.int .u16 h.id, .bool h.resp, .int .i64 h.op, .bool h.aa, .bool h.tc, .bool h.rd, .bool h.ra, .bool h.ad, .bool h.cd, .int .i64 h.rc, .int .i64 h.c0, .int .i64 h.c1, .int .i64 h.c2, .int .i64 h.c3, .slice Aq l2q.length cq, .slice Aa la.length ca, .slice Ab lb.length cb, .slice Ac lc.length cc] (by rfl) ?_
             intro w10 b10 f10
             have hne1 : w.heap.size ≠ w9.heap.size := by have := H9.out.1.lt; omega
             have hne2 : w5.heap.size ≠ w9.heap.size := by have := H9.out.2.2.1.lt; omega
             have g10 : Fr (fun _ => False) w9 w10 := ((Fr.refl (fun _ => False) w9).alloc _).step f10 (fun k hk => .inr (by subst hk; exact Nat.le_refl _))
             have HNE := Lib.hid (And.intro hne1 (And.intro hne2 (show w.heap.size ≤ w9.heap.size from H9.out.2.1.size)))
             have H10 := Lib.hid (And.intro (H9.out.1.fr g10 id) (And.intro (H9.out.2.2.1.fr g10 id) (And.intro b10 (H9.out.2.1.then g10))))
             clear b10 f10 g10 hne1 hne2)
          | fail "no arm")
                  
        have hs0 := HI.out.1.1
        have hm1 := HI.out.1.2.1
        have hs1 := HI.out.1.2.2.1
        have hm2 := HI.out.1.2.2.2.1
        have hs2 := HI.out.1.2.2.2.2
        have hm1' := HI.out.2.1.1
        have hs1' := HI.out.2.1.2.1
        have hs0' := HI.out.2.1.2.2
        have hmA := HJ.out.1.1
        have hmB := HJ.out.1.2.1
        have hmC := HJ.out.1.2.2
        have hcA := HJ.out.2.1
        have hcB := HJ.out.2.2.1
        have hcC := HJ.out.2.2.2
        have i1 := HI.out.2.2.1
        have i2 := HI.out.2.2.2.1
        have i3 := HI.out.2.2.2.2
        have d15 : w10.cell? ⟨w.heap.size, 15, none⟩ = some (.slice Aa la.length ca) := H10.out.1.cell 15
        go_upto_region 31 with (first
          | (refine wpList_store_one rfl 27 _ _ rfl w9.heap.size 15 (by rfl) (.slice Aa pA ca) (by rfl) (by rfl) 29 _ H10.out.2.2.1 (by kernel_rfl) (by rfl) (by simp) #[.int .u16 h.id, .bool h.resp, .int .i64 h.op, .bool h.aa, .bool h.tc, .bool h.rd, .bool h.ra, .bool h.ad, .bool h.cd, .int .i64 h.rc, .int .i64 h.c0, .int .i64 h.c1, .int .i64 h.c2, .int .i64 h.c3, .slice Aq l2q.length cq, .slice Aa pA ca, .slice Ab lb.length cb, .slice Ac lc.length cc] (by rfl) ?_
             intro w11 bz fz
             have H11 := Lib.hid (And.intro (H10.out.1.fr fz HNE.out.1) (And.intro (H10.out.2.1.fr fz HNE.out.2.1) (And.intro bz (H10.out.2.2.2.step fz (fun k hk => .inr (by subst hk; exact HNE.out.2.2))))))
             have d16 : w11.cell? ⟨w.heap.size, 16, none⟩ = some (.slice Ab lb.length cb) := H11.out.1.cell 16
             have n15 : w11.cell? ⟨w9.heap.size, 15, none⟩ = some (.slice Aa pA ca) := H11.out.2.2.1.cell 15
             clear bz fz d15)
          | fail "no arm")
        clear n15
        go_upto_region 33 with (first
          | (refine wpList_store_one rfl 27 _ _ rfl w9.heap.size 16 (by rfl) (.slice Ab pB cb) (by rfl) (by rfl) 29 _ H11.out.2.2.1 (by kernel_rfl) (by rfl) (by simp) #[.int .u16 h.id, .bool h.resp, .int .i64 h.op, .bool h.aa, .bool h.tc, .bool h.rd, .bool h.ra, .bool h.ad, .bool h.cd, .int .i64 h.rc, .int .i64 h.c0, .int .i64 h.c1, .int .i64 h.c2, .int .i64 h.c3, .slice Aq l2q.length cq, .slice Aa pA ca, .slice Ab pB cb, .slice Ac lc.length cc] (by rfl) ?_
             intro w12 bz fz
             have H12 := Lib.hid (And.intro (H11.out.1.fr fz HNE.out.1) (And.intro (H11.out.2.1.fr fz HNE.out.2.1) (And.intro bz (H11.out.2.2.2.step fz (fun k hk => .inr (by subst hk; exact HNE.out.2.2))))))
             have d17 : w12.cell? ⟨w.heap.size, 17, none⟩ = some (.slice Ac lc.length cc) := H12.out.1.cell 17
             have n16 : w12.cell? ⟨w9.heap.size, 16, none⟩ = some (.slice Ab pB cb) := H12.out.2.2.1.cell 16
             clear bz fz d16)
          | fail "no arm")
        clear n16
        go_upto_region 34 with (first
          | (refine wpList_store_one rfl 27 _ _ rfl w9.heap.size 17 (by rfl) (.slice Ac pC cc) (by rfl) (by rfl) 29 _ H12.out.2.2.1 (by kernel_rfl) (by rfl) (by simp) #[.int .u16 h.id, .bool h.resp, .int .i64 h.op, .bool h.aa, .bool h.tc, .bool h.rd, .bool h.ra, .bool h.ad, .bool h.cd, .int .i64 h.rc, .int .i64 h.c0, .int .i64 h.c1, .int .i64 h.c2, .int .i64 h.c3, .slice Aq l2q.length cq, .slice Aa pA ca, .slice Ab pB cb, .slice Ac pC cc] (by rfl) ?_
             intro w13 bz fz
             have H13 := Lib.hid (And.intro (H12.out.1.fr fz HNE.out.1) (And.intro (H12.out.2.1.fr fz HNE.out.2.1) (And.intro bz (H12.out.2.2.2.step fz (fun k hk => .inr (by subst hk; exact HNE.out.2.2))))))
             clear bz fz d17)
          | fail "no arm")
        clear hs0 hm1 hs1 hm2 hs2 hm1' hs1' hs0' i1 i2 i3 hmA hmB hmC hcA hcB hcC
        have n14 : w13.cell? ⟨w9.heap.size, 14, none⟩ = some (.slice Aq l2q.length cq) := H13.out.2.2.1.cell 14
        have n15 : w13.cell? ⟨w9.heap.size, 15, none⟩ = some (.slice Aa pA ca) := H13.out.2.2.1.cell 15
        have n16 : w13.cell? ⟨w9.heap.size, 16, none⟩ = some (.slice Ab pB cb) := H13.out.2.2.1.cell 16
        have n17 : w13.cell? ⟨w9.heap.size, 17, none⟩ = some (.slice Ac pC cc) := H13.out.2.2.1.cell 17
        go_upto_region 36 with (first
          | (refine wpList_store_part rfl 23 _ _ rfl w9.heap.size 10 (by rfl) _ (by rfl) 29 _ H13.out.2.2.1 (by kernel_rfl) (by simp [Value.oneCell']) (by simp) #[.int .u16 h.id, .bool h.resp, .int .i64 h.op, .bool h.aa, .bool h.tc, .bool h.rd, .bool h.ra, .bool h.ad, .bool h.cd, .int .i64 h.rc, .int .i64 (l2q.length : Nat), .int .i64 (pA : Nat), .int .i64 (pB : Nat), .int .i64 (pC : Nat), .slice Aq l2q.length cq, .slice Aa pA ca, .slice Ab pB cb, .slice Ac pC cc] (by rfl) ?_
             intro w14 bz fz
             have H14 := Lib.hid (And.intro (H13.out.2.1.fr fz HNE.out.2.1) (And.intro bz (H13.out.2.2.2.step fz (fun k hk => .inr (by subst hk; exact HNE.out.2.2)))))
             clear bz fz n14 n15 n16 n17)
          | (refine wpList_load_blk rfl 29 _ rfl w9.heap.size (by rfl) 29 _ _ H14.out.2.1 Tryz.underlying29 rfl (by kernel_rfl) ?_)
          | (go_at_call 12
             (with_reducible refine (HT.out.2 pA pB pC HPP.out.1 HPP.out.2.1 HPP.out.2.2 w14 H14.out.2.2).mono ?_)
             rintro e w15 ⟨rfl, f15⟩
             have H15 := Lib.hid (And.intro (H14.out.1.fr f15 id) (H14.out.2.2.then f15))
             clear f15)
          | fail "no arm")
        have a4 : w15.cell? ⟨w5.heap.size, 4, none⟩ = some (.bool h2.tc) := H15.out.1.cell 4
        rw [HT.out.1] at a4
        go_wp2_with fail
        go_ret
        exact ⟨rfl, H15.out.2⟩
end Go.Proofs.YtmbgejiahmhffaaGreat
