/-
  LAYER 11: message.Put.
-/
import Derived.Test.YtmbgejiahmhffaaGreatUMpr
import Derived.WalkMore
namespace Go.Proofs.YtmbgejiahmhffaaGreat
open Go.RowKit
set_option linter.unusedVariables false
set_option linter.unusedSimpArgs false

def PutPost (w : World) (r : List UInt8 × Int) (e : Ending) (w' : World) : Prop := e = .returned (.tuple #[.string ⟨r.1.toArray⟩, .int .i64 r.2]) ∧ Fr (fun _ => False) w w'
theorem roomN_le (M : Int) : roomN M ≤ 65535 := by unfold roomN; omega
theorem mputR_bad {M : Int} {m : Ms} (h : mcheckB m ≠ 0) : mputR M m = ([], mcheckB m) := by unfold mputR; rw [if_pos h]
theorem mputR_long {M : Int} {m : Ms} (h : mcheckB m = 0) (hl : roomN M < (mputB m).x.b.length) : mputR M m = ([], 3) := by unfold mputR; rw [if_neg (by simp [h]), if_pos hl]
theorem mputR_fits {M : Int} {m : Ms} (h : mcheckB m = 0) (hl : (mputB m).x.b.length ≤ roomN M) : mputR M m = ((mputB m).x.b, 0) := by unfold mputR; rw [if_neg (by simp [h]), if_neg (by omega)]
theorem MsIn.light {w : World} {h : Hd} {Aq : Option Addr} {lq : List Qn} {cq : Nat} {Aa : Option Addr} {la : RLm} {ca : Nat} {Ab : Option Addr} {lb : RLm} {cb : Nat} {Ac : Option Addr} {lc : RLm} {cc : Nat} (hm : MsIn w h Aq lq cq Aa la ca Ab lb cb Ac lc cc) : (msOf h lq la lb lc).light := by
  refine ⟨hm.h, fun r hr => ?_, fun r hr => ?_, fun r hr => ?_⟩
  · obtain ⟨x, hx, rfl⟩ := List.mem_map.1 hr
    exact (hm.ak x hx).1.ok
  · obtain ⟨x, hx, rfl⟩ := List.mem_map.1 hr
    exact (hm.bk x hx).1.ok
  · obtain ⟨x, hx, rfl⟩ := List.mem_map.1 hr
    exact (hm.ck x hx).1.ok
theorem MsIn.fr0 {w w' : World} {h : Hd} {Aq : Option Addr} {lq : List Qn} {cq : Nat} {Aa : Option Addr} {la : RLm} {ca : Nat} {Ab : Option Addr} {lb : RLm} {cb : Nat} {Ac : Option Addr} {lc : RLm} {cc : Nat} (hm : MsIn w h Aq lq cq Aa la ca Ab lb cb Ac lc cc) (f : Fr (fun _ => False) w w') : MsIn w' h Aq lq cq Aa la ca Ab lb cb Ac lc cc :=
  ⟨hm.h, rowIn_fr0 hm.q f, hm.qk, hm.qz, rowIn_fr0 hm.a f, fun x hx => ⟨(hm.ak x hx).1.fr0 f, (hm.ak x hx).2⟩, hm.az, rowIn_fr0 hm.b f, fun x hx => ⟨(hm.bk x hx).1.fr0 f, (hm.bk x hx).2⟩, hm.bz, rowIn_fr0 hm.c f, fun x hx => ⟨(hm.ck x hx).1.fr0 f, (hm.ck x hx).2⟩, hm.cz⟩
theorem mput_head {m : Ms} (hm : m.fine) (M : Int) : m.h.put.data.toList = m.h.upto 4 ∧ Rm (roomN M) (Pk.putP ⟨⟨[], (roomN M : Nat), 0⟩, fun _ => none⟩ (m.h.upto 4)) (mhead m) ∧ (Pk.putP ⟨⟨[], (roomN M : Nat), 0⟩, fun _ => none⟩ (m.h.upto 4)).fit := by
  refine ⟨by unfold Hd.put; rw [if_pos hm.2.1], ?_, Pk.fit.put ⟨by dsimp only; simp, by dsimp only; have := roomN_le M; omega⟩ _⟩
  have h0 : Rm (roomN M) ⟨⟨[], (roomN M : Nat), 0⟩, fun _ => none⟩ ⟨⟨[], 1000000, 0⟩, fun _ => none⟩ := .inl ⟨Nat.zero_le _, rfl⟩
  exact h0.put rfl (m.h.upto 4)
structure Stag (m : Ms) : Prop extends Stages m where
  u4 : (mputB m).x.e = 0
theorem stag {m : Ms} (hm : m.fine) (hs : m.size + 2000 ≤ 1000000) : Stag m := ⟨stages hm hs, (mput_reads hm hs).2.2.e⟩
set_option maxRecDepth 100000 in
set_option maxHeartbeats 16000000 in
theorem mput_any (h : Hd) (Aq : Option Addr) (lq : List Qn) (cq : Nat) (Aa : Option Addr) (la : RLm) (ca : Nat) (Ab : Option Addr) (lb : RLm) (cb : Nat) (Ac : Option Addr) (lc : RLm) (cc : Nat) (M : Int) (w : World) (hm : MsIn w h Aq lq cq Aa la ca Ab lb cb Ac lc cc) (hs : (msOf h lq la lb lc).size + 2000 ≤ 1000000) :
    Calls Tryz.prog 12 #[.agg #[.int .u16 h.id, .bool h.resp, .int .i64 h.op, .bool h.aa, .bool h.tc, .bool h.rd, .bool h.ra, .bool h.ad, .bool h.cd, .int .i64 h.rc, .int .i64 h.c0, .int .i64 h.c1, .int .i64 h.c2, .int .i64 h.c3, .slice Aq lq.length cq, .slice Aa la.length ca, .slice Ab lb.length cb, .slice Ac lc.length cc], .int .i64 M] w (PutPost w (mputR M (msOf h lq la lb lc))) := by
  have hszr : ∀ x : Rcd × Option Addr × Nat, (Tryz.prog.info? 55).map (·.size) = some (rcl x).length := fun x => by rw [rcl_lenm]; kernel_rfl
  have hszq : ∀ x : Qn, (Tryz.prog.info? 40).map (·.size) = some (qcl x).length := fun x => by rw [qcl_lenm]; kernel_rfl
  obtain ⟨W, hW⟩ : ∃ W, W = w.alloc (.cells #[.int .u16 h.id, .bool h.resp, .int .i64 h.op, .bool h.aa, .bool h.tc, .bool h.rd, .bool h.ra, .bool h.ad, .bool h.cd, .int .i64 h.rc, .int .i64 h.c0, .int .i64 h.c1, .int .i64 h.c2, .int .i64 h.c3, .slice Aq lq.length cq, .slice Aa la.length ca, .slice Ab lb.length cb, .slice Ac lc.length cc] 29) := ⟨_, rfl⟩
  have hb : Blk W w.heap.size 29 #[.int .u16 h.id, .bool h.resp, .int .i64 h.op, .bool h.aa, .bool h.tc, .bool h.rd, .bool h.ra, .bool h.ad, .bool h.cd, .int .i64 h.rc, .int .i64 h.c0, .int .i64 h.c1, .int .i64 h.c2, .int .i64 h.c3, .slice Aq lq.length cq, .slice Aa la.length ca, .slice Ab lb.length cb, .slice Ac lc.length cc] := by rw [hW]; exact Blk.new _ _ _
  have hf : Fr (fun _ => False) w W := by rw [hW]; exact (Fr.refl _ _).alloc _
  have hlt := hm.light
  obtain ⟨ms, hms⟩ : ∃ ms, ms = msOf h lq la lb lc := ⟨_, rfl⟩
  rw [← hms] at hs hlt ⊢
  obtain ⟨kc, hkc⟩ : ∃ k, k = mcheckB ms := ⟨_, rfl⟩
  have HKC := Lib.hid (And.intro hkc (And.intro (show kc = mcheckB (msOf h lq la lb lc) by rw [hkc, hms]) (And.intro hs hlt)))
  have HMS := Lib.hid hms
  have HM := Lib.hid (MsIn.fr0 hm hf)
  have HSZ := Lib.hid (And.intro hszr hszq)
  have HB := Lib.hid (And.intro hb hf)
  have HW := Lib.hid hW
  have nq : lq.length ≤ 1048576 := hm.qz.1
  have na : la.length ≤ 1048576 := hm.az.1
  have nb : lb.length ≤ 1048576 := hm.bz.1
  have nc : lc.length ≤ 1048576 := hm.cz.1
  have HNM := Lib.hid (roomN_le M)
  clear hb hf hW hkc hm hszr hszq hs hlt hms
  by_cases h1 : kc = 0
  · have HC0 := Lib.hid (HKC.out.1.symm.trans h1)
    have hfine : ms.fine := (mcheck_fine HKC.out.2.2.2).1 HC0.out
    have HST := Lib.hid (stag hfine HKC.out.2.2.1)
    have HCK := Lib.hid (And.intro (show ∀ q ∈ lq, qchk q = 0 by have := hfine.2.2.2.1; rw [HMS.out] at this; exact this) (And.intro (show ∀ r ∈ la.map Prod.fst, r.ok ∧ r.check = 0 by have := hfine.2.2.2.2.1; rw [HMS.out] at this; exact this) (And.intro (show ∀ r ∈ lb.map Prod.fst, r.ok ∧ r.check = 0 by have := hfine.2.2.2.2.2.1; rw [HMS.out] at this; exact this) (show ∀ r ∈ lc.map Prod.fst, r.ok ∧ r.check = 0 by have := hfine.2.2.2.2.2.2; rw [HMS.out] at this; exact this))))
    have HHD := Lib.hid (And.intro (show h.ok by have := hfine.1; rw [HMS.out] at this; exact this) (And.intro (show h.may = true by have := hfine.2.1; rw [HMS.out] at this; exact this) (And.intro (show h.put.data.toList = h.upto 4 by have := (mput_head hfine M).1; rw [HMS.out] at this; exact this) (And.intro (show Rm (roomN M) (Pk.putP ⟨⟨[], (roomN M : Nat), 0⟩, fun _ => none⟩ (h.upto 4)) (mhead ms) by have := (mput_head hfine M).2.1; rwa [show ms.h = h by rw [HMS.out]; rfl] at this) (show (Pk.putP ⟨⟨[], (roomN M : Nat), 0⟩, fun _ => none⟩ (h.upto 4)).fit by have := (mput_head hfine M).2.2; rwa [show ms.h = h by rw [HMS.out]; rfl] at this)))))
    have hpl : (⟨⟨[], (roomN M : Nat), 0⟩, fun _ => none⟩ : Pk).x.b.length + h.put.size ≤ 140737488355328 := by
      have e1 : h.put.size = h.put.data.toList.length := by rw [Array.length_toList]; rfl
      rw [e1, HHD.out.2.2.1, h.upto_length 4]
      show 0 + 12 ≤ _
      omega
    have HPL := Lib.hid hpl
    clear hpl
    have e1 : (kc != 0) = false := by simp [h1]
    have HB0 := Lib.hid (show (mhead ms).x.b.length + qsum lq + 2000 ≤ 1000000 by have := HST.out.b0; rwa [show ms.qs = lq by rw [HMS.out]; rfl] at this)
    have HQS := Lib.hid (show qputsB (mhead ms) lq = qputsB (mhead ms) ms.qs by rw [show ms.qs = lq by rw [HMS.out]; rfl])
    have HAN := Lib.hid (And.intro (show ms.an = la.map Prod.fst by rw [HMS.out]; rfl) (And.intro (show ms.au = lb.map Prod.fst by rw [HMS.out]; rfl) (show ms.mo = lc.map Prod.fst by rw [HMS.out]; rfl)))
    clear h1 hfine
    go_enter Tryz.func12, Tryz.ntmps12
    go_upto_region 1 with fail
    rw [← HW.out]
    clear HW
    go_step3
    go_upto_region 7 with (first
      | (refine wpList_load_blk rfl 29 _ rfl w.heap.size (by rfl) 29 _ _ HB.out.1 Tryz.underlying29 rfl (by kernel_rfl) ?_)
      | (go_at_call 11
         (with_reducible refine (mcheck_any h Aq lq cq Aa la ca Ab lb cb Ac lc cc W HM.out).mono ?_)
         rintro e w1 ⟨rfl, f1⟩
         rw [← HKC.out.2.1]
         have HW1 := Lib.hid (And.intro (HB.out.1.fr f1 id) (And.intro (HB.out.2.then f1) f1))
         clear f1)
      | (go_at_call 32
         (with_reducible refine (pnew_room M w1).mono ?_)
         rintro e w2 ⟨p, F, rfl, g⟩
         have HP2 := Lib.hid g
         clear g)
      | (refine wpList_load_part rfl 25 _ rfl w.heap.size 0 (by rfl) 29 _ 14 _ (HW1.out.1.fr HP2.out.fr id) Tryz.underlying25 rfl (by kernel_rfl) (by simp) #[.int .u16 h.id, .bool h.resp, .int .i64 h.op, .bool h.aa, .bool h.tc, .bool h.rd, .bool h.ra, .bool h.ad, .bool h.cd, .int .i64 h.rc, .int .i64 h.c0, .int .i64 h.c1, .int .i64 h.c2, .int .i64 h.c3] (by rfl) ?_)
      | (go_at_call 33
         (with_reducible refine (put_hd h w2 HHD.out.1).mono ?_)
         rintro e w3 ⟨rfl, f3⟩
         have HP3 := Lib.hid (HP2.out.quiet f3)
         clear f3)
      | (go_at_call 34
         (with_reducible refine (pput_any p F _ [] h.put w3 HP3.out.pk HPL.out).mono ?_)
         rintro e w4 ⟨rfl, F4, g1, g2, g3⟩
         rw [HHD.out.2.2.1] at g1
         have HPw4 := Lib.hid (And.intro (HP3.out.step g1 g2 g3) (And.intro HHD.out.2.2.2.2 HHD.out.2.2.2.1))
         clear g1 g2 g3)
      | fail "no arm")
    have m14 : w4.cell? ⟨w.heap.size, 14, none⟩ = some (.slice Aq lq.length cq) := (HW1.out.1.fr HPw4.out.1.fr id).cell 14
    go_upto_region 8 with fail
    clear m14
    go_loopg [35] lq.length (fun gh i wr => ∃ (k : Nat) (F : Nat → Prop) (y : Pk), gh = lq.length - k ∧ k ≤ lq.length ∧ i = .int .i64 (k : Nat) ∧ PD w1 wr p F y ∧ y.fit ∧ Rm (roomN M) y (qputsB (mhead ms) (lq.take k)))
    case atStart => exact ⟨0, _, _, rfl, Nat.zero_le _, rfl, HPw4.out.1, HPw4.out.2.1, HPw4.out.2.2⟩
    case round =>
      obtain ⟨k, Fq, yq, hgh, hk, rfl, hpd, hft, hrm⟩ := hrel
      have HGH := Lib.hid hgh
      have HF := Lib.hid (And.intro hpd (And.intro hft (And.intro hrm hpd.fr)))
      clear hgh hpd hft hrm
      by_cases hlt : k < lq.length
      · obtain ⟨x, hx⟩ : ∃ x, lq[k]? = some x := ⟨lq[k], List.getElem?_eq_getElem hlt⟩
        obtain ⟨b, off, rfl, hbs, hrg⟩ := rowIn_mk qcl 3 qcl_lenm (rowIn_fr0 HM.out.q (HW1.out.2.2.then HF.out.2.2.2)) hx
        have HX := Lib.hid (And.intro hrg (HSZ.out.2 x))
        have hst := ques_step HST.out.u0 (l := lq) HCK.out.1 HB0.out hx
        have HXX := Lib.hid (And.intro hst (HCK.out.1 x (List.mem_of_getElem? hx)))
        clear hrg hx hst
        have hk0 : (0 : Int) ≤ (k : Int) := by omega
        have hlti : (k : Int) < (lq.length : Int) := by omega
        go_wp2_with (first
          | (refine wpList_load_mid rfl 40 _ rfl b (off + k * 3) (by rfl) (qcl x) _ HX.out.1 Tryz.underlying40 rfl HX.out.2 ?_)
          | (refine wpList_store_part rfl 40 _ _ rfl wr.heap.size 0 (by rfl) (qcl x) (by rfl) 40 _ (Blk.new wr 40 _) HX.out.2 (qcl_onem x) (by simp [qcl_lenm]) (qcl x).toArray (by exact lay_all (by rw [qcl_lenm]; rfl)) ?_
             intro w2 b2 f2
             have H2 := Lib.hid (And.intro b2 (((Fr.refl (fun _ => False) wr).alloc _).step f2 (fun k hk => .inr (by subst hk; exact Nat.le_refl _))))
             clear b2 f2)
          | (refine wpList_load_blk rfl 40 _ rfl wr.heap.size (by rfl) 40 _ _ H2.out.1 Tryz.underlying40 rfl (by rw [List.size_toArray]; exact HX.out.2) ?_)
          | (go_at_call 35
             (with_reducible refine (qput_rm (HF.out.1.quiet H2.out.2) HF.out.2.1 HF.out.2.2.1 HXX.out.1.1 x HXX.out.2 HXX.out.1.2.1).mono ?_)
             rintro e w5 ⟨v5, F5, y5, rfl, p5, t5, r5⟩
             have H5 := Lib.hid (And.intro p5 (And.intro t5 r5))
             clear p5 t5 r5)
          | fail "no arm")
        go_roundg (lq.length - (k + 1))
        case measure => have := HGH.out; omega
        case rel => exact ⟨k + 1, F5, y5, rfl, hlt, by go_num, H5.out.1, H5.out.2.1, by rw [HXX.out.1.2.2]; exact H5.out.2.2⟩
      · have hke : k = lq.length := by omega
        have hH := HF.out.2.2.1
        rw [hke, List.take_length, HQS.out] at hH
        have HH := Lib.hid hH
        clear hH hke
        rename World => v0
        have HPv0' := Lib.hid (And.intro HF.out.1 (And.intro HF.out.2.1 HH.out))
        clear HF HGH HH
        go_wp2_with fail
        go_step3
        go_upto_region 13 with (first
          | (go_at_call 30
             (with_reducible refine (rows_any w.heap.size v0 (HW1.out.1.fr HPv0'.out.1.fr id).lt).mono ?_)
             rintro e va ⟨rfl, fa⟩
             have HPva := Lib.hid (And.intro (HPv0'.out.1.quiet fa) HPv0'.out.2)
             clear fa)
          | fail "no arm")
        clear hlt
        refine wp_loop_rounds 4 ?_
        rw [rounds_succ]
        have m15 : va.cell? ⟨w.heap.size, 15, none⟩ = some (.slice Aa la.length ca) := (HW1.out.1.fr HPva.out.1.fr id).cell 15
        have hix := rows_ix0 w.heap.size
        go_upto_region 16 with fail
        clear m15 hix
        go_loopg [51] la.length (fun gh i wr => ∃ (k : Nat) (F : Nat → Prop) (y : Pk), gh = la.length - k ∧ k ≤ la.length ∧ i = .int .i64 (k : Nat) ∧ PD w1 wr p F y ∧ y.fit ∧ Rm (roomN M) y (rputsB (qputsB (mhead ms) ms.qs) ((la.map Prod.fst).take k)))
        case atStart => exact ⟨0, _, _, rfl, Nat.zero_le _, rfl, HPva.out.1, HPva.out.2.1, HPva.out.2.2⟩
        case round =>
          obtain ⟨k, F0, y0, hgh, hk, rfl, hpd, hft, hrm⟩ := hrel
          have HGH := Lib.hid hgh
          have HF := Lib.hid (And.intro hpd (And.intro hft (And.intro hrm hpd.fr)))
          clear hgh hpd hft hrm
          by_cases hlt : k < la.length
          · obtain ⟨x, hx⟩ : ∃ x, la[k]? = some x := ⟨la[k], List.getElem?_eq_getElem hlt⟩
            obtain ⟨b, off, rfl, hbs, hrg⟩ := rowIn_mk rcl 16 rcl_lenm (rowIn_fr0 HM.out.a (HW1.out.2.2.then HF.out.2.2.2)) hx
            have HX := Lib.hid (And.intro hrg (HSZ.out.1 x))
            have hxm : (la.map Prod.fst)[k]? = some x.1 := by rw [List.getElem?_map, hx]; rfl
            have hxi := List.mem_of_getElem? hxm
            have hbn := HST.out.b1
            rw [HAN.out.1] at hbn
            have hst := row_step HST.out.u1 (l := la.map Prod.fst) (HCK.out.2.1) hbn hxm
            have HXX := Lib.hid (And.intro hst (And.intro ((HM.out.ak x (List.mem_of_getElem? hx)).1.fr0 HW1.out.2.2) (And.intro (by rw [rcheckB_eq]; exact ((HCK.out.2.1) _ hxi).2 : rcheckB x.1 = 0) (Nat.le_trans hst.2.2.2 (by rw [← HAN.out.1]; exact HST.out.l1)))))
            clear hrg hx hxm hxi hst hbn
            have hk0 : (0 : Int) ≤ (k : Int) := by omega
            have hlti : (k : Int) < (la.length : Int) := by omega
            go_wp2_with (first
              | (refine wpList_load_mid rfl 55 _ rfl b (off + k * 16) (by rfl) (rcl x) _ HX.out.1 Tryz.underlying55 rfl HX.out.2 ?_)
              | (refine wpList_store_part rfl 55 _ _ rfl wr.heap.size 0 (by rfl) (rcl x) (by rfl) 55 _ (Blk.new wr 55 _) HX.out.2 (rcl_onem x) (by simp [rcl_lenm]) (rcl x).toArray (by exact lay_all (by rw [rcl_lenm]; rfl)) ?_
                 intro w2 b2 f2
                 have H2 := Lib.hid (And.intro b2 (((Fr.refl (fun _ => False) wr).alloc _).step f2 (fun k hk => .inr (by subst hk; exact Nat.le_refl _))))
                 clear b2 f2)
              | (refine wpList_load_blk rfl 55 _ rfl wr.heap.size (by rfl) 55 _ _ H2.out.1 Tryz.underlying55 rfl (by rw [List.size_toArray]; exact HX.out.2) ?_)
              | (go_at_call 36
                 (with_reducible refine (rput_rm (HF.out.1.quiet H2.out.2) HF.out.2.1 HF.out.2.2.1 HXX.out.1.1 HNM.out x HXX.out.2.1 HXX.out.2.2.1 HXX.out.1.2.1).mono ?_)
                 rintro e w4 h4
                 rcases h4 with ⟨rfl, l4, F4, y4, p4, t4, r4⟩ | ⟨rfl, l4, F4, y4, bg4, p4, t4, f4⟩)
              | (go_at_call 37
                 (with_reducible refine (perr_any p F4 y4 bg4 _ p4).mono ?_)
                 rintro e w5 ⟨rfl, rfl⟩
                 rw [t4])
              | fail "no arm")
            · have H4 := Lib.hid (And.intro p4 (And.intro t4 r4))
              clear p4 t4 r4
              go_roundg (la.length - (k + 1))
              case measure => have := HGH.out; omega
              case rel => exact ⟨k + 1, F4, y4, rfl, hlt, by go_num, H4.out.1, H4.out.2.1, by rw [HXX.out.1.2.2.1]; exact H4.out.2.2⟩
            · first | go_ret2 | (rw [Exit.noGoto_ret]; go_ret2)
              have hlong : roomN M < (mputB ms).x.b.length := Nat.lt_of_lt_of_le l4 HXX.out.2.2.2
              exact ⟨by rw [mputR_long HC0.out hlong]; try rfl, HW1.out.2.1.then f4⟩
          · have hke : k = la.length := by omega
            have hH := HF.out.2.2.1
            rw [hke, show la.length = (la.map Prod.fst).length by rw [List.length_map], List.take_length, ← HAN.out.1] at hH
            have HH := Lib.hid hH
            clear hH hke
            rename World => v1
            have HPv1 := Lib.hid (And.intro HF.out.1 (And.intro HF.out.2.1 HH.out))
            clear HF HGH HH
            go_wp2_with fail
            rw [rounds_succ]
            have m16 : v1.cell? ⟨w.heap.size, 16, none⟩ = some (.slice Ab lb.length cb) := (HW1.out.1.fr HPv1.out.1.fr id).cell 16
            have hix := rows_ix1 w.heap.size
            go_upto_region 16 with fail
            clear m16 hix
            go_loopg [51] lb.length (fun gh i wr => ∃ (k : Nat) (F : Nat → Prop) (y : Pk), gh = lb.length - k ∧ k ≤ lb.length ∧ i = .int .i64 (k : Nat) ∧ PD w1 wr p F y ∧ y.fit ∧ Rm (roomN M) y (rputsB (rputsB (qputsB (mhead ms) ms.qs) ms.an) ((lb.map Prod.fst).take k)))
            case atStart => exact ⟨0, _, _, rfl, Nat.zero_le _, rfl, HPv1.out.1, HPv1.out.2.1, HPv1.out.2.2⟩
            case round =>
              obtain ⟨k, F1, y1, hgh, hk, rfl, hpd, hft, hrm⟩ := hrel
              have HGH := Lib.hid hgh
              have HF := Lib.hid (And.intro hpd (And.intro hft (And.intro hrm hpd.fr)))
              clear hgh hpd hft hrm
              by_cases hlt : k < lb.length
              · obtain ⟨x, hx⟩ : ∃ x, lb[k]? = some x := ⟨lb[k], List.getElem?_eq_getElem hlt⟩
                obtain ⟨b, off, rfl, hbs, hrg⟩ := rowIn_mk rcl 16 rcl_lenm (rowIn_fr0 HM.out.b (HW1.out.2.2.then HF.out.2.2.2)) hx
                have HX := Lib.hid (And.intro hrg (HSZ.out.1 x))
                have hxm : (lb.map Prod.fst)[k]? = some x.1 := by rw [List.getElem?_map, hx]; rfl
                have hxi := List.mem_of_getElem? hxm
                have hbn := HST.out.b2
                rw [HAN.out.2.1] at hbn
                have hst := row_step (by have := HST.out.u2; exact this) (l := lb.map Prod.fst) (HCK.out.2.2.1) hbn hxm
                have HXX := Lib.hid (And.intro hst (And.intro ((HM.out.bk x (List.mem_of_getElem? hx)).1.fr0 HW1.out.2.2) (And.intro (by rw [rcheckB_eq]; exact ((HCK.out.2.2.1) _ hxi).2 : rcheckB x.1 = 0) (Nat.le_trans hst.2.2.2 (by rw [← HAN.out.2.1]; exact HST.out.l2)))))
                clear hrg hx hxm hxi hst hbn
                have hk0 : (0 : Int) ≤ (k : Int) := by omega
                have hlti : (k : Int) < (lb.length : Int) := by omega
                go_wp2_with (first
                  | (refine wpList_load_mid rfl 55 _ rfl b (off + k * 16) (by rfl) (rcl x) _ HX.out.1 Tryz.underlying55 rfl HX.out.2 ?_)
                  | (refine wpList_store_part rfl 55 _ _ rfl wr.heap.size 0 (by rfl) (rcl x) (by rfl) 55 _ (Blk.new wr 55 _) HX.out.2 (rcl_onem x) (by simp [rcl_lenm]) (rcl x).toArray (by exact lay_all (by rw [rcl_lenm]; rfl)) ?_
                     intro w2 b2 f2
                     have H2 := Lib.hid (And.intro b2 (((Fr.refl (fun _ => False) wr).alloc _).step f2 (fun k hk => .inr (by subst hk; exact Nat.le_refl _))))
                     clear b2 f2)
                  | (refine wpList_load_blk rfl 55 _ rfl wr.heap.size (by rfl) 55 _ _ H2.out.1 Tryz.underlying55 rfl (by rw [List.size_toArray]; exact HX.out.2) ?_)
                  | (go_at_call 36
                     (with_reducible refine (rput_rm (HF.out.1.quiet H2.out.2) HF.out.2.1 HF.out.2.2.1 HXX.out.1.1 HNM.out x HXX.out.2.1 HXX.out.2.2.1 HXX.out.1.2.1).mono ?_)
                     rintro e w4 h4
                     rcases h4 with ⟨rfl, l4, F4, y4, p4, t4, r4⟩ | ⟨rfl, l4, F4, y4, bg4, p4, t4, f4⟩)
                  | (go_at_call 37
                     (with_reducible refine (perr_any p F4 y4 bg4 _ p4).mono ?_)
                     rintro e w5 ⟨rfl, rfl⟩
                     rw [t4])
                  | fail "no arm")
                · have H4 := Lib.hid (And.intro p4 (And.intro t4 r4))
                  clear p4 t4 r4
                  go_roundg (lb.length - (k + 1))
                  case measure => have := HGH.out; omega
                  case rel => exact ⟨k + 1, F4, y4, rfl, hlt, by go_num, H4.out.1, H4.out.2.1, by rw [HXX.out.1.2.2.1]; exact H4.out.2.2⟩
                · first | go_ret2 | (rw [Exit.noGoto_ret]; go_ret2)
                  have hlong : roomN M < (mputB ms).x.b.length := Nat.lt_of_lt_of_le l4 HXX.out.2.2.2
                  exact ⟨by rw [mputR_long HC0.out hlong]; try rfl, HW1.out.2.1.then f4⟩
              · have hke : k = lb.length := by omega
                have hH := HF.out.2.2.1
                rw [hke, show lb.length = (lb.map Prod.fst).length by rw [List.length_map], List.take_length, ← HAN.out.2.1] at hH
                have HH := Lib.hid hH
                clear hH hke
                rename World => v2
                have HPv2 := Lib.hid (And.intro HF.out.1 (And.intro HF.out.2.1 HH.out))
                clear HF HGH HH
                go_wp2_with fail
                rw [rounds_succ]
                have m17 : v2.cell? ⟨w.heap.size, 17, none⟩ = some (.slice Ac lc.length cc) := (HW1.out.1.fr HPv2.out.1.fr id).cell 17
                have hix := rows_ix2 w.heap.size
                go_upto_region 16 with fail
                clear m17 hix
                go_loopg [51] lc.length (fun gh i wr => ∃ (k : Nat) (F : Nat → Prop) (y : Pk), gh = lc.length - k ∧ k ≤ lc.length ∧ i = .int .i64 (k : Nat) ∧ PD w1 wr p F y ∧ y.fit ∧ Rm (roomN M) y (rputsB (rputsB (rputsB (qputsB (mhead ms) ms.qs) ms.an) ms.au) ((lc.map Prod.fst).take k)))
                case atStart => exact ⟨0, _, _, rfl, Nat.zero_le _, rfl, HPv2.out.1, HPv2.out.2.1, HPv2.out.2.2⟩
                case round =>
                  obtain ⟨k, F2, y2, hgh, hk, rfl, hpd, hft, hrm⟩ := hrel
                  have HGH := Lib.hid hgh
                  have HF := Lib.hid (And.intro hpd (And.intro hft (And.intro hrm hpd.fr)))
                  clear hgh hpd hft hrm
                  by_cases hlt : k < lc.length
                  · obtain ⟨x, hx⟩ : ∃ x, lc[k]? = some x := ⟨lc[k], List.getElem?_eq_getElem hlt⟩
                    obtain ⟨b, off, rfl, hbs, hrg⟩ := rowIn_mk rcl 16 rcl_lenm (rowIn_fr0 HM.out.c (HW1.out.2.2.then HF.out.2.2.2)) hx
                    have HX := Lib.hid (And.intro hrg (HSZ.out.1 x))
                    have hxm : (lc.map Prod.fst)[k]? = some x.1 := by rw [List.getElem?_map, hx]; rfl
                    have hxi := List.mem_of_getElem? hxm
                    have hbn := HST.out.b3
                    rw [HAN.out.2.2] at hbn
                    have hst := row_step (by have := HST.out.u3; exact this) (l := lc.map Prod.fst) (HCK.out.2.2.2) hbn hxm
                    have HXX := Lib.hid (And.intro hst (And.intro ((HM.out.ck x (List.mem_of_getElem? hx)).1.fr0 HW1.out.2.2) (And.intro (by rw [rcheckB_eq]; exact ((HCK.out.2.2.2) _ hxi).2 : rcheckB x.1 = 0) (Nat.le_trans hst.2.2.2 (by rw [← HAN.out.2.2]; exact (Nat.le_refl _))))))
                    clear hrg hx hxm hxi hst hbn
                    have hk0 : (0 : Int) ≤ (k : Int) := by omega
                    have hlti : (k : Int) < (lc.length : Int) := by omega
                    go_wp2_with (first
                      | (refine wpList_load_mid rfl 55 _ rfl b (off + k * 16) (by rfl) (rcl x) _ HX.out.1 Tryz.underlying55 rfl HX.out.2 ?_)
                      | (refine wpList_store_part rfl 55 _ _ rfl wr.heap.size 0 (by rfl) (rcl x) (by rfl) 55 _ (Blk.new wr 55 _) HX.out.2 (rcl_onem x) (by simp [rcl_lenm]) (rcl x).toArray (by exact lay_all (by rw [rcl_lenm]; rfl)) ?_
                         intro w2 b2 f2
                         have H2 := Lib.hid (And.intro b2 (((Fr.refl (fun _ => False) wr).alloc _).step f2 (fun k hk => .inr (by subst hk; exact Nat.le_refl _))))
                         clear b2 f2)
                      | (refine wpList_load_blk rfl 55 _ rfl wr.heap.size (by rfl) 55 _ _ H2.out.1 Tryz.underlying55 rfl (by rw [List.size_toArray]; exact HX.out.2) ?_)
                      | (go_at_call 36
                         (with_reducible refine (rput_rm (HF.out.1.quiet H2.out.2) HF.out.2.1 HF.out.2.2.1 HXX.out.1.1 HNM.out x HXX.out.2.1 HXX.out.2.2.1 HXX.out.1.2.1).mono ?_)
                         rintro e w4 h4
                         rcases h4 with ⟨rfl, l4, F4, y4, p4, t4, r4⟩ | ⟨rfl, l4, F4, y4, bg4, p4, t4, f4⟩)
                      | (go_at_call 37
                         (with_reducible refine (perr_any p F4 y4 bg4 _ p4).mono ?_)
                         rintro e w5 ⟨rfl, rfl⟩
                         rw [t4])
                      | fail "no arm")
                    · have H4 := Lib.hid (And.intro p4 (And.intro t4 r4))
                      clear p4 t4 r4
                      go_roundg (lc.length - (k + 1))
                      case measure => have := HGH.out; omega
                      case rel => exact ⟨k + 1, F4, y4, rfl, hlt, by go_num, H4.out.1, H4.out.2.1, by rw [HXX.out.1.2.2.1]; exact H4.out.2.2⟩
                    · first | go_ret2 | (rw [Exit.noGoto_ret]; go_ret2)
                      have hlong : roomN M < (mputB ms).x.b.length := Nat.lt_of_lt_of_le l4 HXX.out.2.2.2
                      exact ⟨by rw [mputR_long HC0.out hlong]; try rfl, HW1.out.2.1.then f4⟩
                  · have hke : k = lc.length := by omega
                    have hH := HF.out.2.2.1
                    rw [hke, show lc.length = (lc.map Prod.fst).length by rw [List.length_map], List.take_length, ← HAN.out.2.2] at hH
                    have HH := Lib.hid hH
                    clear hH hke
                    rename World => v3
                    have HPv3 := Lib.hid (And.intro HF.out.1 (And.intro HF.out.2.1 HH.out))
                    clear HF HGH HH
                    have hend : Rm (roomN M) y2 (mputB ms) := HPv3.out.2.2
                    rcases hend with ⟨q1, q2⟩ | ⟨q1, q2⟩
                    · have hye : y2.x.e = 0 := by rw [q2]; exact HST.out.u4
                      have hyb : y2.x.b = (mputB ms).x.b := by rw [q2]
                      have HY := Lib.hid (And.intro hye (And.intro hyb q1))
                      clear q1 q2 hye hyb
                      go_wp2_with fail
                      rw [rounds_succ]
                      go_wp2_with (first
                        | (go_at_call 37
                           (with_reducible refine (perr_any p F2 y2 [] _ HPv3.out.1.pk).mono ?_)
                           rintro e w5 ⟨rfl, rfl⟩
                           rw [HY.out.1])
                        | (go_at_call 38
                           (with_reducible refine (ptext_any p F2 y2 [] _ HPv3.out.1.pk).mono ?_)
                           rintro e w6 ⟨rfl, rfl⟩
                           rw [HY.out.2.1])
                        | fail "no arm")
                      first | go_ret2 | (rw [Exit.noGoto_ret]; go_ret2)
                      exact ⟨by rw [mputR_fits HC0.out HY.out.2.2]; try rfl, HW1.out.2.1.then HPv3.out.1.fr⟩
                    · have HY := Lib.hid (And.intro q1 q2)
                      clear q1 q2
                      go_wp2_with fail
                      rw [rounds_succ]
                      go_wp2_with (first
                        | (go_at_call 37
                           (with_reducible refine (perr_any p F2 y2 [] _ HPv3.out.1.pk).mono ?_)
                           rintro e w5 ⟨rfl, rfl⟩
                           rw [HY.out.2])
                        | fail "no arm")
                      first | go_ret2 | (rw [Exit.noGoto_ret]; go_ret2)
                      exact ⟨by rw [mputR_long HC0.out HY.out.1]; try rfl, HW1.out.2.1.then HPv3.out.1.fr⟩
  · have e1 : (kc != 0) = true := by simp [h1]
    have H1 := Lib.hid h1
    clear h1
    go_enter Tryz.func12, Tryz.ntmps12
    go_upto_region 1 with fail
    rw [← HW.out]
    clear HW
    go_step3
    go_wp2_with (first
      | (refine wpList_load_blk rfl 29 _ rfl w.heap.size (by rfl) 29 _ _ HB.out.1 Tryz.underlying29 rfl (by kernel_rfl) ?_)
      | (go_at_call 11
         (with_reducible refine (mcheck_any h Aq lq cq Aa la ca Ab lb cb Ac lc cc W HM.out).mono ?_)
         rintro e w1 ⟨rfl, f1⟩
         rw [← HKC.out.2.1]
         have H2 := Lib.hid (HB.out.2.then f1)
         clear f1)
      | fail "no arm")
    first | go_ret2 | (rw [Exit.noGoto_ret]; go_ret2)
    exact ⟨by rw [mputR_bad (by rw [← HKC.out.1]; exact H1.out), ← HKC.out.1]; try rfl, H2.out⟩
end Go.Proofs.YtmbgejiahmhffaaGreat
