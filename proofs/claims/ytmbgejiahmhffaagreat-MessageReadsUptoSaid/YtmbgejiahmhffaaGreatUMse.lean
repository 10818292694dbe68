/-
  LAYER 11: message.Same.
-/
import Derived.Test.YtmbgejiahmhffaaGreatUMeq
import Derived.Test.YtmbgejiahmhffaaGreatUunL
import Derived.Deep.RegionHeld3
namespace Go.Proofs.YtmbgejiahmhffaaGreat
open Go.RowKit
set_option linter.unusedVariables false
set_option linter.unusedSimpArgs false

theorem bool_of (p : Prop) : ∃ r : Bool, r = true ↔ p := by
  classical
  exact ⟨decide p, by simp⟩
theorem eqfq_msg (Aq Bq : Option Addr) (cq dq : Nat) (lq mq : List Qn) (w : World) (R : Bool) (ha : RowIn w Aq (lq.flatMap qcl)) (ka : ∀ x ∈ lq, QOk x) (hb : RowIn w Bq (mq.flatMap qcl)) (kb : ∀ x ∈ mq, QOk x) (hn : lq.length ≤ 1048576) (hm : mq.length ≤ 1048576) (hR : R = true ↔ lq = mq) :
    Calls Tryz.prog 54 #[.slice Aq lq.length cq, .slice Bq mq.length dq, .func (.func 55) #[] #[]] w (EqPost w R) :=
  eqfq_any (fun x y => qsameB x.1 y.1 x.2.1 y.2.1 x.2.2 y.2.2) Aq Bq cq dq lq mq w R (fun x hx y hy w' _ => qsame_x x y (ka x hx) (kb y hy) w') ha hb (by omega) (by omega) (hR.trans (qlist_iff lq mq))
theorem eqfr_msg (Aq Bq : Option Addr) (cq dq : Nat) (lq mq : RLm) (w : World) (R : Bool) (ha : RowIn w Aq (lq.flatMap rcl)) (ka : ∀ x ∈ lq, RcIn w x.2.1 x.1) (hb : RowIn w Bq (mq.flatMap rcl)) (kb : ∀ x ∈ mq, RcIn w x.2.1 x.1) (hn : lq.length ≤ 1048576) (hm : mq.length ≤ 1048576) (hR : R = true ↔ lq.map Prod.fst = mq.map Prod.fst) :
    Calls Tryz.prog 56 #[.slice Aq lq.length cq, .slice Bq mq.length dq, .func (.func 57) #[] #[]] w (EqPost w R) :=
  eqfr_any (fun x y => rsameB x.1 y.1) Aq Bq cq dq lq mq w R (fun x hx y hy w' f => rsame_x x y w' ((ka x hx).fr0 f) ((kb y hy).fr0 f)) ha hb (by omega) (by omega) (hR.trans (rlist_iff lq mq))
def MSamePost (w : World) (a b : Ms) (e : Ending) (w' : World) : Prop := ∃ R : Bool, e = .returned (.bool R) ∧ (R = true ↔ a = b) ∧ Fr (fun _ => False) w w'
theorem ms_eq (h g : Hd) (lq mq : List Qn) (la ma lb mb lc mc : RLm) : msOf h lq la lb lc = msOf g mq ma mb mc ↔ h = g ∧ lq = mq ∧ la.map Prod.fst = ma.map Prod.fst ∧ lb.map Prod.fst = mb.map Prod.fst ∧ lc.map Prod.fst = mc.map Prod.fst := by
  unfold msOf
  simp
set_option maxRecDepth 100000 in
set_option maxHeartbeats 16000000 in
theorem msame_m (h : Hd) (Aq : Option Addr) (lq : List Qn) (cq : Nat) (Aa : Option Addr) (la : RLm) (ca : Nat) (Ab : Option Addr) (lb : RLm) (cb : Nat) (Ac : Option Addr) (lc : RLm) (cc : Nat) (g : Hd) (Bq : Option Addr) (mq : List Qn) (dq : Nat) (Ba : Option Addr) (ma : RLm) (da : Nat) (Bb : Option Addr) (mb : RLm) (db : Nat) (Bc : Option Addr) (mc : RLm) (dc : Nat) (w : World) (hm : MsIn w h Aq lq cq Aa la ca Ab lb cb Ac lc cc) (hn : MsIn w g Bq mq dq Ba ma da Bb mb db Bc mc dc) :
    Calls Tryz.prog 24 #[.agg #[.int .u16 h.id, .bool h.resp, .int .i64 h.op, .bool h.aa, .bool h.tc, .bool h.rd, .bool h.ra, .bool h.ad, .bool h.cd, .int .i64 h.rc, .int .i64 h.c0, .int .i64 h.c1, .int .i64 h.c2, .int .i64 h.c3, .slice Aq lq.length cq, .slice Aa la.length ca, .slice Ab lb.length cb, .slice Ac lc.length cc], .agg #[.int .u16 g.id, .bool g.resp, .int .i64 g.op, .bool g.aa, .bool g.tc, .bool g.rd, .bool g.ra, .bool g.ad, .bool g.cd, .int .i64 g.rc, .int .i64 g.c0, .int .i64 g.c1, .int .i64 g.c2, .int .i64 g.c3, .slice Bq mq.length dq, .slice Ba ma.length da, .slice Bb mb.length db, .slice Bc mc.length dc]] w (MSamePost w (msOf h lq la lb lc) (msOf g mq ma mb mc)) := by
  obtain ⟨W, hW⟩ : ∃ W, W = (w.alloc (.cells #[.int .u16 h.id, .bool h.resp, .int .i64 h.op, .bool h.aa, .bool h.tc, .bool h.rd, .bool h.ra, .bool h.ad, .bool h.cd, .int .i64 h.rc, .int .i64 h.c0, .int .i64 h.c1, .int .i64 h.c2, .int .i64 h.c3, .slice Aq lq.length cq, .slice Aa la.length ca, .slice Ab lb.length cb, .slice Ac lc.length cc] 29)).alloc (.cells #[.int .u16 g.id, .bool g.resp, .int .i64 g.op, .bool g.aa, .bool g.tc, .bool g.rd, .bool g.ra, .bool g.ad, .bool g.cd, .int .i64 g.rc, .int .i64 g.c0, .int .i64 g.c1, .int .i64 g.c2, .int .i64 g.c3, .slice Bq mq.length dq, .slice Ba ma.length da, .slice Bb mb.length db, .slice Bc mc.length dc] 29) := ⟨_, rfl⟩
  have b1 : Blk W w.heap.size 29 #[.int .u16 h.id, .bool h.resp, .int .i64 h.op, .bool h.aa, .bool h.tc, .bool h.rd, .bool h.ra, .bool h.ad, .bool h.cd, .int .i64 h.rc, .int .i64 h.c0, .int .i64 h.c1, .int .i64 h.c2, .int .i64 h.c3, .slice Aq lq.length cq, .slice Aa la.length ca, .slice Ab lb.length cb, .slice Ac lc.length cc] := by rw [hW]; exact (Blk.new w 29 _).alloc _
  have b2 : Blk W (w.heap.size + 1) 29 #[.int .u16 g.id, .bool g.resp, .int .i64 g.op, .bool g.aa, .bool g.tc, .bool g.rd, .bool g.ra, .bool g.ad, .bool g.cd, .int .i64 g.rc, .int .i64 g.c0, .int .i64 g.c1, .int .i64 g.c2, .int .i64 g.c3, .slice Bq mq.length dq, .slice Ba ma.length da, .slice Bb mb.length db, .slice Bc mc.length dc] := by
    rw [hW]
    have := Blk.new (w.alloc (.cells #[.int .u16 h.id, .bool h.resp, .int .i64 h.op, .bool h.aa, .bool h.tc, .bool h.rd, .bool h.ra, .bool h.ad, .bool h.cd, .int .i64 h.rc, .int .i64 h.c0, .int .i64 h.c1, .int .i64 h.c2, .int .i64 h.c3, .slice Aq lq.length cq, .slice Aa la.length ca, .slice Ab lb.length cb, .slice Ac lc.length cc] 29)) 29 #[.int .u16 g.id, .bool g.resp, .int .i64 g.op, .bool g.aa, .bool g.tc, .bool g.rd, .bool g.ra, .bool g.ad, .bool g.cd, .int .i64 g.rc, .int .i64 g.c0, .int .i64 g.c1, .int .i64 g.c2, .int .i64 g.c3, .slice Bq mq.length dq, .slice Ba ma.length da, .slice Bb mb.length db, .slice Bc mc.length dc]
    rwa [World.size_alloc] at this
  have hf : Fr (fun _ => False) w W := by rw [hW]; exact ((Fr.refl _ _).alloc _).alloc _
  have nq : lq.length ≤ 1048576 := hm.qz.1
  have na : la.length ≤ 1048576 := hm.az.1
  have nb : lb.length ≤ 1048576 := hm.bz.1
  have nc : lc.length ≤ 1048576 := hm.cz.1
  have nq2 : mq.length ≤ 1048576 := hn.qz.1
  have na2 : ma.length ≤ 1048576 := hn.az.1
  have nb2 : mb.length ≤ 1048576 := hn.bz.1
  have nc2 : mc.length ≤ 1048576 := hn.cz.1
  obtain ⟨r1, hr1⟩ := bool_of (lq = mq)
  obtain ⟨r2, hr2⟩ := bool_of (la.map Prod.fst = ma.map Prod.fst)
  obtain ⟨r3, hr3⟩ := bool_of (lb.map Prod.fst = mb.map Prod.fst)
  obtain ⟨r4, hr4⟩ := bool_of (lc.map Prod.fst = mc.map Prod.fst)
  have HR := Lib.hid (And.intro hr1 (And.intro hr2 (And.intro hr3 hr4)))
  have HE := Lib.hid (ms_eq h g lq mq la ma lb mb lc mc)
  have HM := Lib.hid (And.intro hm hn)
  have HW := Lib.hid hW
  have HB := Lib.hid (And.intro b1 (And.intro b2 hf))
  clear hr1 hr2 hr3 hr4 hm hn hW b1 b2 hf
  by_cases hh : h = g
  · have hneq : ∀ w, (Go.binOp .neq 25 (.agg #[.int .u16 h.id, .bool h.resp, .int .i64 h.op, .bool h.aa, .bool h.tc, .bool h.rd, .bool h.ra, .bool h.ad, .bool h.cd, .int .i64 h.rc, .int .i64 h.c0, .int .i64 h.c1, .int .i64 h.c2, .int .i64 h.c3]) (.agg #[.int .u16 g.id, .bool g.resp, .int .i64 g.op, .bool g.aa, .bool g.tc, .bool g.rd, .bool g.ra, .bool g.ad, .bool g.cd, .int .i64 g.rc, .int .i64 g.c0, .int .i64 g.c1, .int .i64 g.c2, .int .i64 g.c3])).run Tryz.prog w = .ok (.bool false) w := fun w => (hd_neq h g HM.out.1.h HM.out.2.h w).trans (by simp [hh])
    have HH := Lib.hid hh
    clear hh
    have d14 : W.cell? ⟨w.heap.size, 14, none⟩ = some (.slice Aq lq.length cq) := HB.out.1.cell 14
    have e14 : W.cell? ⟨w.heap.size + 1, 14, none⟩ = some (.slice Bq mq.length dq) := HB.out.2.1.cell 14
    go_enter Tryz.func24, Tryz.ntmps24
    go_upto_region 1 with fail
    rw [← HW.out]
    clear HW
    go_upto_if 20 with (first
      | (refine wpList_load_part rfl 25 _ rfl w.heap.size 0 (by rfl) 29 _ 14 _ HB.out.1 Tryz.underlying25 rfl (by kernel_rfl) (by simp) #[.int .u16 h.id, .bool h.resp, .int .i64 h.op, .bool h.aa, .bool h.tc, .bool h.rd, .bool h.ra, .bool h.ad, .bool h.cd, .int .i64 h.rc, .int .i64 h.c0, .int .i64 h.c1, .int .i64 h.c2, .int .i64 h.c3] (by rfl) ?_)
      | (refine wpList_load_part rfl 25 _ rfl (w.heap.size + 1) 0 (by rfl) 29 _ 14 _ HB.out.2.1 Tryz.underlying25 rfl (by kernel_rfl) (by simp) #[.int .u16 g.id, .bool g.resp, .int .i64 g.op, .bool g.aa, .bool g.tc, .bool g.rd, .bool g.ra, .bool g.ad, .bool g.cd, .int .i64 g.rc, .int .i64 g.c0, .int .i64 g.c1, .int .i64 g.c2, .int .i64 g.c3] (by rfl) ?_)
      | (go_at_call 54
         (with_reducible refine (eqfq_msg Aq Bq cq dq lq mq W r1 (rowIn_fr0 HM.out.1.q HB.out.2.2) HM.out.1.qk (rowIn_fr0 HM.out.2.q HB.out.2.2) HM.out.2.qk nq nq2 HR.out.1).mono ?_)
         rintro e w1 ⟨rfl, f1⟩
         have H1 := Lib.hid (And.intro (HB.out.1.fr f1 id) (And.intro (HB.out.2.1.fr f1 id) (HB.out.2.2.then f1)))
         clear f1 d14 e14)
      | fail "no arm")
    clear hneq
    rcases r1 with _ | _
    · go_wp2_with fail
      go_ret
      exact ⟨false, rfl, ⟨fun h => absurd h (by decide), fun h => HR.out.1.2 (HE.out.1 h).2.1⟩, H1.out.2.2⟩
    · go_upto_region 5 with (first
        | (go_at_call 30
           first
             | (with_reducible refine (rows_any (w.heap.size + 1) w1 H1.out.2.1.lt).mono ?_)
               rintro e w2 ⟨rfl, f2⟩
               have H2 := Lib.hid (And.intro (H1.out.1.fr f2 id) (And.intro (H1.out.2.1.fr f2 id) (H1.out.2.2.then f2)))
               clear f2
             | (with_reducible refine (rows_any w.heap.size w3 H3.out.2.1.lt).mono ?_)
               rintro e w4 ⟨rfl, f4⟩
               have H4 := Lib.hid (And.intro (H3.out.1.fr f4 id) (And.intro (H3.out.2.1.fr f4 id) (And.intro (H3.out.2.2.1.fr f4 id) (H3.out.2.2.2.then f4))))
               clear f4)
        | (refine wpList_store_part rfl 73 _ _ rfl w2.heap.size 0 (by rfl) [.pointer (some ⟨w.heap.size + 1, 15, none⟩), .pointer (some ⟨w.heap.size + 1, 16, none⟩), .pointer (some ⟨w.heap.size + 1, 17, none⟩)] (by rfl) 73 _ (Blk.new w2 73 _) (by kernel_rfl) (by simp [Value.oneCell']) (by simp) #[.pointer (some ⟨w.heap.size + 1, 15, none⟩), .pointer (some ⟨w.heap.size + 1, 16, none⟩), .pointer (some ⟨w.heap.size + 1, 17, none⟩)] (by rfl) ?_
           intro w3 b3 f3
           have hne1 : w.heap.size ≠ w2.heap.size := by have := H2.out.1.lt; omega
           have hne2 : w.heap.size + 1 ≠ w2.heap.size := by have := H2.out.2.1.lt; omega
           have H3 := Lib.hid (And.intro b3 (And.intro ((H2.out.1.alloc _).fr f3 hne1) (And.intro ((H2.out.2.1.alloc _).fr f3 hne2) (H2.out.2.2.then (((Fr.refl (fun _ => False) w2).alloc _).step f3 (fun k hk => .inr (by subst hk; exact Nat.le_refl _)))))))
           clear b3 f3 hne1 hne2)
        | fail "no arm")
      refine wp_loop_rounds 4 ?_
      rw [rounds_succ]
      have hix := rows_ix0 w.heap.size
      go_upto_region 7 with fail
      clear hix
      have c1 : w4.cell? ⟨w.heap.size, 15, none⟩ = some (.slice Aa la.length ca) := H4.out.2.1.cell 15
      have c2 : w4.cell? ⟨w2.heap.size, 0, none⟩ = some (.pointer (some ⟨w.heap.size + 1, 15, none⟩)) := H4.out.1.cell 0
      have c3 : w4.cell? ⟨w.heap.size + 1, 15, none⟩ = some (.slice Ba ma.length da) := H4.out.2.2.1.cell 15
      have k1 : w4.drew.cell? ⟨w.heap.size, 15, none⟩ = some (.slice Aa la.length ca) := H4.out.2.1.drew.cell 15
      have k2 : w4.drew.cell? ⟨w2.heap.size, 0, none⟩ = some (.pointer (some ⟨w.heap.size + 1, 15, none⟩)) := H4.out.1.drew.cell 0
      have k3 : w4.drew.cell? ⟨w.heap.size + 1, 15, none⟩ = some (.slice Ba ma.length da) := H4.out.2.2.1.drew.cell 15
      go_region_held3 (fun w' => w'.cell? ⟨w.heap.size, 15, none⟩ = some (.slice Aa la.length ca) ∧ w'.cell? ⟨w2.heap.size, 0, none⟩ = some (.pointer (some ⟨w.heap.size + 1, 15, none⟩)) ∧ w'.cell? ⟨w.heap.size + 1, 15, none⟩ = some (.slice Ba ma.length da))
        (first | exact ⟨c1, c2, c3⟩ | exact ⟨k1, k2, k3⟩ | exact ⟨z1, z2, z3⟩)
        (first
          | (go_at_call 56
             (with_reducible refine (eqfr_msg Aa Ba ca da la ma w4.drew r2 (rowIn_fr0 HM.out.1.a (H4.out.2.2.2.then ((Fr.refl (fun _ => False) _).drew))) (fun x hx => (HM.out.1.ak x hx).1.fr0 (H4.out.2.2.2.then ((Fr.refl (fun _ => False) _).drew))) (rowIn_fr0 HM.out.2.a (H4.out.2.2.2.then ((Fr.refl (fun _ => False) _).drew))) (fun x hx => (HM.out.2.ak x hx).1.fr0 (H4.out.2.2.2.then ((Fr.refl (fun _ => False) _).drew))) na na2 HR.out.2.1).mono ?_)
             rintro e w5 ⟨rfl, fz⟩
             have H5 := Lib.hid (And.intro (H4.out.1.drew.fr fz id) (And.intro (H4.out.2.1.drew.fr fz id) (And.intro (H4.out.2.2.1.drew.fr fz id) (H4.out.2.2.2.then (((Fr.refl (fun _ => False) _).drew).then fz)))))
             have z1 : w5.cell? ⟨w.heap.size, 15, none⟩ = some (.slice Aa la.length ca) := H5.out.2.1.cell 15
             have z2 : w5.cell? ⟨w2.heap.size, 0, none⟩ = some (.pointer (some ⟨w.heap.size + 1, 15, none⟩)) := H5.out.1.cell 0
             have z3 : w5.cell? ⟨w.heap.size + 1, 15, none⟩ = some (.slice Ba ma.length da) := H5.out.2.2.1.cell 15
             clear fz)
          | fail "no arm")
      clear c1 c2 c3 k1 k2 k3 z1 z2 z3
      rcases r2 with _ | _
      · go_wp2_with fail
        go_ret
        exact ⟨false, rfl, ⟨fun h => absurd h (by decide), fun h => HR.out.2.1.2 (HE.out.1 h).2.2.1⟩, H5.out.2.2.2⟩
      · skip
        go_wp2_with fail
        rw [rounds_succ]
        have hix := rows_ix1 w.heap.size
        go_upto_region 7 with fail
        clear hix
        have c1 : w5.cell? ⟨w.heap.size, 16, none⟩ = some (.slice Ab lb.length cb) := H5.out.2.1.cell 16
        have c2 : w5.cell? ⟨w2.heap.size, 1, none⟩ = some (.pointer (some ⟨w.heap.size + 1, 16, none⟩)) := H5.out.1.cell 1
        have c3 : w5.cell? ⟨w.heap.size + 1, 16, none⟩ = some (.slice Bb mb.length db) := H5.out.2.2.1.cell 16
        have k1 : w5.drew.cell? ⟨w.heap.size, 16, none⟩ = some (.slice Ab lb.length cb) := H5.out.2.1.drew.cell 16
        have k2 : w5.drew.cell? ⟨w2.heap.size, 1, none⟩ = some (.pointer (some ⟨w.heap.size + 1, 16, none⟩)) := H5.out.1.drew.cell 1
        have k3 : w5.drew.cell? ⟨w.heap.size + 1, 16, none⟩ = some (.slice Bb mb.length db) := H5.out.2.2.1.drew.cell 16
        go_region_held3 (fun w' => w'.cell? ⟨w.heap.size, 16, none⟩ = some (.slice Ab lb.length cb) ∧ w'.cell? ⟨w2.heap.size, 1, none⟩ = some (.pointer (some ⟨w.heap.size + 1, 16, none⟩)) ∧ w'.cell? ⟨w.heap.size + 1, 16, none⟩ = some (.slice Bb mb.length db))
          (first | exact ⟨c1, c2, c3⟩ | exact ⟨k1, k2, k3⟩ | exact ⟨z1, z2, z3⟩)
          (first
            | (go_at_call 56
               (with_reducible refine (eqfr_msg Ab Bb cb db lb mb w5.drew r3 (rowIn_fr0 HM.out.1.b (H5.out.2.2.2.then ((Fr.refl (fun _ => False) _).drew))) (fun x hx => (HM.out.1.bk x hx).1.fr0 (H5.out.2.2.2.then ((Fr.refl (fun _ => False) _).drew))) (rowIn_fr0 HM.out.2.b (H5.out.2.2.2.then ((Fr.refl (fun _ => False) _).drew))) (fun x hx => (HM.out.2.bk x hx).1.fr0 (H5.out.2.2.2.then ((Fr.refl (fun _ => False) _).drew))) nb nb2 HR.out.2.2.1).mono ?_)
               rintro e w6 ⟨rfl, fz⟩
               have H6 := Lib.hid (And.intro (H5.out.1.drew.fr fz id) (And.intro (H5.out.2.1.drew.fr fz id) (And.intro (H5.out.2.2.1.drew.fr fz id) (H5.out.2.2.2.then (((Fr.refl (fun _ => False) _).drew).then fz)))))
               have z1 : w6.cell? ⟨w.heap.size, 16, none⟩ = some (.slice Ab lb.length cb) := H6.out.2.1.cell 16
               have z2 : w6.cell? ⟨w2.heap.size, 1, none⟩ = some (.pointer (some ⟨w.heap.size + 1, 16, none⟩)) := H6.out.1.cell 1
               have z3 : w6.cell? ⟨w.heap.size + 1, 16, none⟩ = some (.slice Bb mb.length db) := H6.out.2.2.1.cell 16
               clear fz)
            | fail "no arm")
        clear c1 c2 c3 k1 k2 k3 z1 z2 z3
        rcases r3 with _ | _
        · go_wp2_with fail
          go_ret
          exact ⟨false, rfl, ⟨fun h => absurd h (by decide), fun h => HR.out.2.2.1.2 (HE.out.1 h).2.2.2.1⟩, H6.out.2.2.2⟩
        · skip
          go_wp2_with fail
          rw [rounds_succ]
          have hix := rows_ix2 w.heap.size
          go_upto_region 7 with fail
          clear hix
          have c1 : w6.cell? ⟨w.heap.size, 17, none⟩ = some (.slice Ac lc.length cc) := H6.out.2.1.cell 17
          have c2 : w6.cell? ⟨w2.heap.size, 2, none⟩ = some (.pointer (some ⟨w.heap.size + 1, 17, none⟩)) := H6.out.1.cell 2
          have c3 : w6.cell? ⟨w.heap.size + 1, 17, none⟩ = some (.slice Bc mc.length dc) := H6.out.2.2.1.cell 17
          have k1 : w6.drew.cell? ⟨w.heap.size, 17, none⟩ = some (.slice Ac lc.length cc) := H6.out.2.1.drew.cell 17
          have k2 : w6.drew.cell? ⟨w2.heap.size, 2, none⟩ = some (.pointer (some ⟨w.heap.size + 1, 17, none⟩)) := H6.out.1.drew.cell 2
          have k3 : w6.drew.cell? ⟨w.heap.size + 1, 17, none⟩ = some (.slice Bc mc.length dc) := H6.out.2.2.1.drew.cell 17
          go_region_held3 (fun w' => w'.cell? ⟨w.heap.size, 17, none⟩ = some (.slice Ac lc.length cc) ∧ w'.cell? ⟨w2.heap.size, 2, none⟩ = some (.pointer (some ⟨w.heap.size + 1, 17, none⟩)) ∧ w'.cell? ⟨w.heap.size + 1, 17, none⟩ = some (.slice Bc mc.length dc))
            (first | exact ⟨c1, c2, c3⟩ | exact ⟨k1, k2, k3⟩ | exact ⟨z1, z2, z3⟩)
            (first
              | (go_at_call 56
                 (with_reducible refine (eqfr_msg Ac Bc cc dc lc mc w6.drew r4 (rowIn_fr0 HM.out.1.c (H6.out.2.2.2.then ((Fr.refl (fun _ => False) _).drew))) (fun x hx => (HM.out.1.ck x hx).1.fr0 (H6.out.2.2.2.then ((Fr.refl (fun _ => False) _).drew))) (rowIn_fr0 HM.out.2.c (H6.out.2.2.2.then ((Fr.refl (fun _ => False) _).drew))) (fun x hx => (HM.out.2.ck x hx).1.fr0 (H6.out.2.2.2.then ((Fr.refl (fun _ => False) _).drew))) nc nc2 HR.out.2.2.2).mono ?_)
                 rintro e w7 ⟨rfl, fz⟩
                 have H7 := Lib.hid (And.intro (H6.out.1.drew.fr fz id) (And.intro (H6.out.2.1.drew.fr fz id) (And.intro (H6.out.2.2.1.drew.fr fz id) (H6.out.2.2.2.then (((Fr.refl (fun _ => False) _).drew).then fz)))))
                 have z1 : w7.cell? ⟨w.heap.size, 17, none⟩ = some (.slice Ac lc.length cc) := H7.out.2.1.cell 17
                 have z2 : w7.cell? ⟨w2.heap.size, 2, none⟩ = some (.pointer (some ⟨w.heap.size + 1, 17, none⟩)) := H7.out.1.cell 2
                 have z3 : w7.cell? ⟨w.heap.size + 1, 17, none⟩ = some (.slice Bc mc.length dc) := H7.out.2.2.1.cell 17
                 clear fz)
              | fail "no arm")
          clear c1 c2 c3 k1 k2 k3 z1 z2 z3
          rcases r4 with _ | _
          · go_wp2_with fail
            go_ret
            exact ⟨false, rfl, ⟨fun h => absurd h (by decide), fun h => HR.out.2.2.2.2 (HE.out.1 h).2.2.2.2⟩, H7.out.2.2.2⟩
          · skip
            go_wp2_with fail
            rw [rounds_succ]
            go_wp2_with fail
            go_ret
            exact ⟨true, rfl, ⟨fun _ => HE.out.2 ⟨HH.out, HR.out.1.1 (by trivial), HR.out.2.1.1 (by trivial), HR.out.2.2.1.1 (by trivial), HR.out.2.2.2.1 (by trivial)⟩, fun _ => rfl⟩, H7.out.2.2.2⟩
  · have hneq : ∀ w, (Go.binOp .neq 25 (.agg #[.int .u16 h.id, .bool h.resp, .int .i64 h.op, .bool h.aa, .bool h.tc, .bool h.rd, .bool h.ra, .bool h.ad, .bool h.cd, .int .i64 h.rc, .int .i64 h.c0, .int .i64 h.c1, .int .i64 h.c2, .int .i64 h.c3]) (.agg #[.int .u16 g.id, .bool g.resp, .int .i64 g.op, .bool g.aa, .bool g.tc, .bool g.rd, .bool g.ra, .bool g.ad, .bool g.cd, .int .i64 g.rc, .int .i64 g.c0, .int .i64 g.c1, .int .i64 g.c2, .int .i64 g.c3])).run Tryz.prog w = .ok (.bool true) w := fun w => (hd_neq h g HM.out.1.h HM.out.2.h w).trans (by simp [hh])
    have HH := Lib.hid hh
    clear hh
    go_enter Tryz.func24, Tryz.ntmps24
    go_upto_region 1 with fail
    rw [← HW.out]
    clear HW
    go_wp2_with (first
      | (refine wpList_load_part rfl 25 _ rfl w.heap.size 0 (by rfl) 29 _ 14 _ HB.out.1 Tryz.underlying25 rfl (by kernel_rfl) (by simp) #[.int .u16 h.id, .bool h.resp, .int .i64 h.op, .bool h.aa, .bool h.tc, .bool h.rd, .bool h.ra, .bool h.ad, .bool h.cd, .int .i64 h.rc, .int .i64 h.c0, .int .i64 h.c1, .int .i64 h.c2, .int .i64 h.c3] (by rfl) ?_)
      | (refine wpList_load_part rfl 25 _ rfl (w.heap.size + 1) 0 (by rfl) 29 _ 14 _ HB.out.2.1 Tryz.underlying25 rfl (by kernel_rfl) (by simp) #[.int .u16 g.id, .bool g.resp, .int .i64 g.op, .bool g.aa, .bool g.tc, .bool g.rd, .bool g.ra, .bool g.ad, .bool g.cd, .int .i64 g.rc, .int .i64 g.c0, .int .i64 g.c1, .int .i64 g.c2, .int .i64 g.c3] (by rfl) ?_)
      | fail "no arm")
    go_ret
    exact ⟨false, rfl, ⟨fun h => absurd h (by decide), fun h => (HH.out (HE.out.1 h).1).elim⟩, HB.out.2.2⟩
end Go.Proofs.YtmbgejiahmhffaaGreat
