/-
  LAYER 11: message.Check.
-/
import Derived.Test.YtmbgejiahmhffaaGreatUMck
import Derived.Handy
namespace Go.Proofs.YtmbgejiahmhffaaGreat
open Go.RowKit
set_option linter.unusedVariables false
set_option linter.unusedSimpArgs false

theorem reccheck_x (x : Rcd × Option Addr × Nat) (w : World) (h : RcIn w x.2.1 x.1) : Calls Tryz.prog 31 #[.agg (rcl x).toArray] w (IntPost w (rcheckB x.1)) := reccheck_any x.1 x.2.1 x.2.2 w h
theorem qcheck_x (x : Qn) (w : World) : Calls Tryz.prog 29 #[.agg (qcl x).toArray] w (IntPost w (qchk x)) := qcheck_any x.1 x.2.1 x.2.2 w
theorem rows_ix0 (M : Nat) : ∀ w, (Instr.index 73 (.agg #[.pointer (some ⟨M, 15, none⟩), .pointer (some ⟨M, 16, none⟩), .pointer (some ⟨M, 17, none⟩)]) (.int .i64 0)).run Tryz.prog w = .ok (.pointer (some ⟨M, 15, none⟩)) w := fun _ => by kernel_rfl
theorem rows_ix1 (M : Nat) : ∀ w, (Instr.index 73 (.agg #[.pointer (some ⟨M, 15, none⟩), .pointer (some ⟨M, 16, none⟩), .pointer (some ⟨M, 17, none⟩)]) (.int .i64 1)).run Tryz.prog w = .ok (.pointer (some ⟨M, 16, none⟩)) w := fun _ => by kernel_rfl
theorem rows_ix2 (M : Nat) : ∀ w, (Instr.index 73 (.agg #[.pointer (some ⟨M, 15, none⟩), .pointer (some ⟨M, 16, none⟩), .pointer (some ⟨M, 17, none⟩)]) (.int .i64 2)).run Tryz.prog w = .ok (.pointer (some ⟨M, 17, none⟩)) w := fun _ => by kernel_rfl
theorem nat_i64k {n : Nat} (h : n ≤ 1048576) : i64k (n : Nat) := by unfold i64k; omega
theorem blk_rg0 {w : World} {p : Nat} {T : TypeId} {L : List Value} (h : Blk w p T L.toArray) : w.rangeAt p 0 L := fun j v hv => by rw [Nat.zero_add, h.cell j, List.getElem?_toArray]; exact hv
theorem msg_cnt {w : World} {p : Nat} {T : TypeId} {v0 v1 v2 v3 v4 v5 v6 v7 v8 v9 c0 c1 c2 c3 u0 u1 u2 u3 : Value} (h : Blk w p T #[v0, v1, v2, v3, v4, v5, v6, v7, v8, v9, c0, c1, c2, c3, u0, u1, u2, u3]) : w.rangeAt p 10 [c0, c1, c2, c3] := fun j v hv => by
  rw [h.cell]
  rcases j with _ | _ | _ | _ | j
  · exact hv
  · exact hv
  · exact hv
  · exact hv
  · simp at hv
theorem hd_cnt {h : Hd} (h0 : h.ok) : i64k h.c0 ∧ i64k h.c1 ∧ i64k h.c2 ∧ i64k h.c3 := ⟨h0.2.2.2.1, h0.2.2.2.2.1, h0.2.2.2.2.2.1, h0.2.2.2.2.2.2⟩
section
variable {h : Hd} {lq : List Qn} {la lb lc : RLm}
theorem ck_take {l : RLm} {k : Nat} (ht : ∀ y ∈ l.take k, rcheckB y.1 = 0) : ∀ z ∈ ((l.map Prod.fst).map rcheckB).take k, z = 0 := fun z hz => by
  rw [← List.map_take, ← List.map_take, List.map_map] at hz
  obtain ⟨y, hy, rfl⟩ := List.mem_map.1 hz
  exact ht y hy
theorem ck_all {l : RLm} (ht : ∀ y ∈ l, rcheckB y.1 = 0) : firstE ((l.map Prod.fst).map rcheckB) = 0 := firstE_zero.2 fun z hz => by
  rw [List.map_map] at hz
  obtain ⟨y, hy, rfl⟩ := List.mem_map.1 hz
  exact ht y hy
theorem ck_at {l : RLm} {k : Nat} {x : Rcd × Option Addr × Nat} (hx : l[k]? = some x) (h0 : rcheckB x.1 ≠ 0) (ht : ∀ y ∈ l.take k, rcheckB y.1 = 0) : firstE ((l.map Prod.fst).map rcheckB) = rcheckB x.1 :=
  firstE_at (k := k) (by rw [List.getElem?_map, List.getElem?_map, hx]; rfl) h0 (ck_take ht)
theorem mck0 (h1 : h.check = 0) (h2 : (msOf h lq la lb lc).cnt) : mcheckB (msOf h lq la lb lc) = firstE (lq.map qchk ++ ((la.map Prod.fst).map rcheckB ++ ((lb.map Prod.fst).map rcheckB ++ (lc.map Prod.fst).map rcheckB))) := by
  unfold mcheckB
  rw [if_neg (by simpa [msOf] using h1), if_neg (by simpa using h2)]
  rfl
theorem mckq (h1 : h.check = 0) (h2 : (msOf h lq la lb lc).cnt) {k : Nat} {x : Qn} (hx : lq[k]? = some x) (h0 : qchk x ≠ 0) (ht : ∀ y ∈ lq.take k, qchk y = 0) : mcheckB (msOf h lq la lb lc) = qchk x := by
  have e : firstE (lq.map qchk) = qchk x := firstE_at (k := k) (by rw [List.getElem?_map, hx]; rfl) h0 (fun z hz => by
    rw [← List.map_take] at hz
    obtain ⟨y, hy, rfl⟩ := List.mem_map.1 hz
    exact ht y hy)
  rw [mck0 h1 h2, firstE_app, e, if_pos h0]
theorem mckqa (h1 : h.check = 0) (h2 : (msOf h lq la lb lc).cnt) (hq : ∀ y ∈ lq, qchk y = 0) : mcheckB (msOf h lq la lb lc) = firstE ((la.map Prod.fst).map rcheckB ++ ((lb.map Prod.fst).map rcheckB ++ (lc.map Prod.fst).map rcheckB)) := by
  have e : firstE (lq.map qchk) = 0 := firstE_zero.2 fun z hz => by
    obtain ⟨y, hy, rfl⟩ := List.mem_map.1 hz
    exact hq y hy
  rw [mck0 h1 h2, firstE_app, if_neg (by simp [e])]
theorem mck1 (h1 : h.check = 0) (h2 : (msOf h lq la lb lc).cnt) (hq : ∀ y ∈ lq, qchk y = 0) {k : Nat} {x : Rcd × Option Addr × Nat} (hx : la[k]? = some x) (h0 : rcheckB x.1 ≠ 0) (ht : ∀ y ∈ la.take k, rcheckB y.1 = 0) : mcheckB (msOf h lq la lb lc) = rcheckB x.1 := by
  rw [mckqa h1 h2 hq, firstE_app, ck_at hx h0 ht, if_pos h0]
theorem mck2 (h1 : h.check = 0) (h2 : (msOf h lq la lb lc).cnt) (hq : ∀ y ∈ lq, qchk y = 0) (ha : ∀ y ∈ la, rcheckB y.1 = 0) {k : Nat} {x : Rcd × Option Addr × Nat} (hx : lb[k]? = some x) (h0 : rcheckB x.1 ≠ 0) (ht : ∀ y ∈ lb.take k, rcheckB y.1 = 0) : mcheckB (msOf h lq la lb lc) = rcheckB x.1 := by
  rw [mckqa h1 h2 hq, firstE_app, if_neg (by rw [ck_all ha]; decide), firstE_app, ck_at hx h0 ht, if_pos h0]
theorem mck3 (h1 : h.check = 0) (h2 : (msOf h lq la lb lc).cnt) (hq : ∀ y ∈ lq, qchk y = 0) (ha : ∀ y ∈ la, rcheckB y.1 = 0) (hb : ∀ y ∈ lb, rcheckB y.1 = 0) {k : Nat} {x : Rcd × Option Addr × Nat} (hx : lc[k]? = some x) (h0 : rcheckB x.1 ≠ 0) (ht : ∀ y ∈ lc.take k, rcheckB y.1 = 0) : mcheckB (msOf h lq la lb lc) = rcheckB x.1 := by
  rw [mckqa h1 h2 hq, firstE_app, if_neg (by rw [ck_all ha]; decide), firstE_app, if_neg (by rw [ck_all hb]; decide), ck_at hx h0 ht]
theorem mckok (h1 : h.check = 0) (h2 : (msOf h lq la lb lc).cnt) (hq : ∀ y ∈ lq, qchk y = 0) (ha : ∀ y ∈ la, rcheckB y.1 = 0) (hb : ∀ y ∈ lb, rcheckB y.1 = 0) (hc : ∀ y ∈ lc, rcheckB y.1 = 0) : mcheckB (msOf h lq la lb lc) = 0 := by
  rw [mckqa h1 h2 hq, firstE_app, if_neg (by rw [ck_all ha]; decide), firstE_app, if_neg (by rw [ck_all hb]; decide), ck_all hc]
end

set_option maxRecDepth 100000 in
set_option maxHeartbeats 16000000 in
theorem mcheck_any (h : Hd) (Aq : Option Addr) (lq : List Qn) (cq : Nat) (Aa : Option Addr) (la : RLm) (ca : Nat) (Ab : Option Addr) (lb : RLm) (cb : Nat) (Ac : Option Addr) (lc : RLm) (cc : Nat) (w : World) (hm : MsIn w h Aq lq cq Aa la ca Ab lb cb Ac lc cc) : Calls Tryz.prog 11 #[.agg #[.int .u16 h.id, .bool h.resp, .int .i64 h.op, .bool h.aa, .bool h.tc, .bool h.rd, .bool h.ra, .bool h.ad, .bool h.cd, .int .i64 h.rc, .int .i64 h.c0, .int .i64 h.c1, .int .i64 h.c2, .int .i64 h.c3, .slice Aq lq.length cq, .slice Aa la.length ca, .slice Ab lb.length cb, .slice Ac lc.length cc]] w (IntPost w (mcheckB (msOf h lq la lb lc))) := by
  have hszr : ∀ x : Rcd × Option Addr × Nat, (Tryz.prog.info? 55).map (·.size) = some (rcl x).length := fun x => by rw [rcl_lenm]; kernel_rfl
  have hszq : ∀ x : Qn, (Tryz.prog.info? 40).map (·.size) = some (qcl x).length := fun x => by rw [qcl_lenm]; kernel_rfl
  obtain ⟨W, hW⟩ : ∃ W, W = w.alloc (.cells #[.int .u16 h.id, .bool h.resp, .int .i64 h.op, .bool h.aa, .bool h.tc, .bool h.rd, .bool h.ra, .bool h.ad, .bool h.cd, .int .i64 h.rc, .int .i64 h.c0, .int .i64 h.c1, .int .i64 h.c2, .int .i64 h.c3, .slice Aq lq.length cq, .slice Aa la.length ca, .slice Ab lb.length cb, .slice Ac lc.length cc] 29) := ⟨_, rfl⟩
  have hb : Blk W w.heap.size 29 #[.int .u16 h.id, .bool h.resp, .int .i64 h.op, .bool h.aa, .bool h.tc, .bool h.rd, .bool h.ra, .bool h.ad, .bool h.cd, .int .i64 h.rc, .int .i64 h.c0, .int .i64 h.c1, .int .i64 h.c2, .int .i64 h.c3, .slice Aq lq.length cq, .slice Aa la.length ca, .slice Ab lb.length cb, .slice Ac lc.length cc] := by rw [hW]; exact Blk.new _ _ _
  have hf : Fr (fun _ => False) w W := by rw [hW]; exact (Fr.refl _ _).alloc _
  obtain ⟨R, hR⟩ : ∃ R, R = mcheckB (msOf h lq la lb lc) := ⟨_, rfl⟩
  rw [← hR]
  have HR := Lib.hid hR
  obtain ⟨kh, hkh⟩ : ∃ k, k = h.check := ⟨_, rfl⟩
  have HKH := Lib.hid hkh
  have HM := Lib.hid hm
  have HCB := Lib.hid (hd_cnt hm.h)
  have nq : lq.length ≤ 1048576 := hm.qz.1
  have na : la.length ≤ 1048576 := hm.az.1
  have nb : lb.length ≤ 1048576 := hm.bz.1
  have nc : lc.length ≤ 1048576 := hm.cz.1
  have HN := Lib.hid (And.intro hm.qz.1 (And.intro hm.az.1 (And.intro hm.bz.1 hm.cz.1)))
  have HSZ := Lib.hid (And.intro hszr hszq)
  have HB := Lib.hid (And.intro hb hf)
  have HW := Lib.hid hW
  clear hb hf hW hR hkh hm hszr hszq
  by_cases h1 : kh = 0
  · have HK1 := Lib.hid h1
    by_cases hc : (msOf h lq la lb lc).cnt
    · have HK0 := Lib.hid (And.intro (HKH.out.symm.trans h1) hc)
      have hnq : ∀ w, (Op.equalIn 10000 23 (.agg #[.int .i64 h.c0, .int .i64 h.c1, .int .i64 h.c2, .int .i64 h.c3]) (.agg #[.int .i64 (lq.length : Nat), .int .i64 (la.length : Nat), .int .i64 (lb.length : Nat), .int .i64 (lc.length : Nat)])).run Tryz.prog w = .ok true w := fun w => by
        have := cnt_equal h.c0 h.c1 h.c2 h.c3 (lq.length : Nat) (la.length : Nat) (lb.length : Nat) (lc.length : Nat) HCB.out.1 HCB.out.2.1 HCB.out.2.2.1 HCB.out.2.2.2 (nat_i64k HN.out.1) (nat_i64k HN.out.2.1) (nat_i64k HN.out.2.2.1) (nat_i64k HN.out.2.2.2) w
        rwa [decide_eq_true (by simpa [msOf, Ms.cnt] using hc)] at this
      have e1 : (kh != 0) = false := by simp [h1]
      have HNQ := Lib.hid hnq
      clear h1 hc hnq
      go_enter Tryz.func11, Tryz.ntmps11
      go_upto_region 1 with fail
      rw [← HW.out]
      clear HW
      go_upto_region 4 with (first
        | (refine wpList_load_part rfl 25 _ rfl w.heap.size 0 (by rfl) 29 _ 14 _ HB.out.1 Tryz.underlying25 rfl (by kernel_rfl) (by simp) #[.int .u16 h.id, .bool h.resp, .int .i64 h.op, .bool h.aa, .bool h.tc, .bool h.rd, .bool h.ra, .bool h.ad, .bool h.cd, .int .i64 h.rc, .int .i64 h.c0, .int .i64 h.c1, .int .i64 h.c2, .int .i64 h.c3] (by rfl) ?_)
        | (go_at_call 27
           (with_reducible refine (check_any h _).mono ?_)
           rintro e w1 ⟨rfl, f1⟩
           rw [← HKH.out]
           have H1 := Lib.hid (And.intro (HB.out.1.fr f1 id) (HB.out.2.then f1))
           clear f1)
        | fail "no arm")
      have hr10 : w1.drew.rangeAt w.heap.size 10 [.int .i64 h.c0, .int .i64 h.c1, .int .i64 h.c2, .int .i64 h.c3] ∧ w1.drew.rangeAt w.heap.size 0 [.int .u16 h.id, .bool h.resp, .int .i64 h.op, .bool h.aa, .bool h.tc, .bool h.rd, .bool h.ra, .bool h.ad, .bool h.cd, .int .i64 h.rc, .int .i64 h.c0, .int .i64 h.c1, .int .i64 h.c2, .int .i64 h.c3, .slice Aq lq.length cq, .slice Aa la.length ca, .slice Ab lb.length cb, .slice Ac lc.length cc] := ⟨msg_cnt H1.out.1.drew, blk_rg0 H1.out.1.drew⟩
      have hneq := HNQ.out
      refine wp_region_held_drew (S := fun w' => w'.rangeAt w.heap.size 10 [.int .i64 h.c0, .int .i64 h.c1, .int .i64 h.c2, .int .i64 h.c3] ∧ w'.rangeAt w.heap.size 0 [.int .u16 h.id, .bool h.resp, .int .i64 h.op, .bool h.aa, .bool h.tc, .bool h.rd, .bool h.ra, .bool h.ad, .bool h.cd, .int .i64 h.rc, .int .i64 h.c0, .int .i64 h.c1, .int .i64 h.c2, .int .i64 h.c3, .slice Aq lq.length cq, .slice Aa la.length ca, .slice Ab lb.length cb, .slice Ac lc.length cc]) (by kernel_rfl) ⟨hr10.1, hr10.2⟩ (fun hHeld => ?_)
      refine wpAnyH_take (i := 0) (v := ?_) rfl (by kernel_rfl) (by kernel_rfl) (by kernel_rfl) (fun _ _ _ h => h) (Or.inl ⟨by rfl, ?_⟩) (by assumption) ?_
      rotate_left
      · intro w hSw
        go_simp
        try with_reducible rfl
      try simp only [Act.put, List.setIfInBounds_toArray, List.set_cons_zero, List.set_cons_succ, List.getElem_toArray, List.getElem_cons_zero, List.getElem_cons_succ]
      refine wpAnyH_take (i := 1) (v := ?_) rfl (by kernel_rfl) (by kernel_rfl) (by kernel_rfl) (fun _ _ _ h => h) (Or.inl ⟨by rfl, ?_⟩) (by assumption) ?_
      rotate_left
      · intro w hSw
        go_simp
        try with_reducible rfl
      try simp only [Act.put, List.setIfInBounds_toArray, List.set_cons_zero, List.set_cons_succ, List.getElem_toArray, List.getElem_cons_zero, List.getElem_cons_succ]
      refine wpAnyH_take (i := 2) rfl (by kernel_rfl) (by kernel_rfl) (by kernel_rfl) (fun _ _ _ h => h) (yieldsIf_load_mid (by rfl) _ _ rfl w.heap.size (10) (by rfl) [.int .i64 h.c0, .int .i64 h.c1, .int .i64 h.c2, .int .i64 h.c3] _ (fun w' h => h.1) Tryz.underlying23 rfl (by kernel_rfl)) (by assumption) ?_
      try simp only [Act.put, List.setIfInBounds_toArray, List.set_cons_zero, List.set_cons_succ, List.getElem_toArray, List.getElem_cons_zero, List.getElem_cons_succ]
      refine wpAnyH_take (i := 3) rfl (by kernel_rfl) (by kernel_rfl) (by kernel_rfl) (fun _ _ _ h => h) (yieldsIf_load_mid (by rfl) _ _ rfl w.heap.size (0) (by rfl) [.int .u16 h.id, .bool h.resp, .int .i64 h.op, .bool h.aa, .bool h.tc, .bool h.rd, .bool h.ra, .bool h.ad, .bool h.cd, .int .i64 h.rc, .int .i64 h.c0, .int .i64 h.c1, .int .i64 h.c2, .int .i64 h.c3, .slice Aq lq.length cq, .slice Aa la.length ca, .slice Ab lb.length cb, .slice Ac lc.length cc] _ (fun w' h => h.2) Tryz.underlying29 rfl (by kernel_rfl)) (by assumption) ?_
      try simp only [Act.put, List.setIfInBounds_toArray, List.set_cons_zero, List.set_cons_succ, List.getElem_toArray, List.getElem_cons_zero, List.getElem_cons_succ]
      refine wpAnyH_ready (rs := [4]) (by kernel_rfl) (by simp) ?_
      refine AllReadyH.cons rfl (fun K hK => ?_) AllReadyH.nil
      go_simp
      (with_reducible refine (counts_any h Aq lq cq Aa la ca Ab lb cb Ac lc cc _ HN.out.1 HN.out.2.1 HN.out.2.2.1 HN.out.2.2.2).mono ?_)
      rintro e w3 ⟨rfl, f3⟩
      have hS3 := And.intro (range_fr0 f3 H1.out.1.lt hr10.1) (range_fr0 f3 H1.out.1.lt hr10.2)
      have H3 := Lib.hid (And.intro (H1.out.1.fr f3.fromD id) (H1.out.2.then f3.fromD))
      clear f3
      refine hK.out _ _ hS3 (fun hHeld => ?_)
      clear hK K
      try simp only [Act.put, List.setIfInBounds_toArray, List.set_cons_zero, List.set_cons_succ, List.getElem_toArray, List.getElem_cons_zero, List.getElem_cons_succ]
      refine wpAnyH_take (i := 5) (v := ?_) rfl (by kernel_rfl) (by kernel_rfl) (by kernel_rfl) (fun _ _ _ h => h) (Or.inl ⟨by rfl, ?_⟩) (by assumption) ?_
      rotate_left
      · intro w hSw
        go_simp
        try simp only [hneq, Result.andThen_ok, Bool.not_true, Bool.not_false]
        try rfl
      try simp only [Act.put, List.setIfInBounds_toArray, List.set_cons_zero, List.set_cons_succ, List.getElem_toArray, List.getElem_cons_zero, List.getElem_cons_succ]
      refine wpAnyH_done (by kernel_rfl) ?_ _
      clear hHeld
      clear hneq hr10
      have m14 : w3.cell? ⟨w.heap.size, 14, none⟩ = some (.slice Aq lq.length cq) := H3.out.1.cell 14
      go_upto_region 7 with fail
      clear m14
      go_loopg [27] lq.length (fun gh i wr => ∃ k : Nat, gh = lq.length - k ∧ k ≤ lq.length ∧ i = .int .i64 (k : Nat) ∧ (∀ y ∈ lq.take k, qchk y = 0) ∧ Fr (fun _ => False) w3 wr)
      case atStart => exact ⟨0, rfl, Nat.zero_le _, rfl, by simp, Fr.refl _ _⟩
      case round =>
        obtain ⟨k, hgh, hk, rfl, hall, hfr⟩ := hrel
        have HGH := Lib.hid hgh
        have HF := Lib.hid (And.intro hall (And.intro hfr (And.intro (H3.out.1.fr hfr id) (H3.out.2.then hfr))))
        clear hgh hall hfr
        by_cases hlt : k < lq.length
        · obtain ⟨x, hx⟩ : ∃ x, lq[k]? = some x := ⟨lq[k], List.getElem?_eq_getElem hlt⟩
          obtain ⟨b, off, rfl, hbs, hrg⟩ := rowIn_mk qcl 3 qcl_lenm (rowIn_fr0 HM.out.q HF.out.2.2.2) hx
          have HX := Lib.hid (And.intro hrg (HSZ.out.2 x))
          have HXX := Lib.hid hx
          clear hrg hx
          have hk0 : (0 : Int) ≤ (k : Int) := by omega
          have hlti : (k : Int) < (lq.length : Int) := by omega
          obtain ⟨cx, hcx⟩ : ∃ c, c = qchk x := ⟨_, rfl⟩
          have HCX := Lib.hid hcx
          clear hcx
          by_cases h0 : cx = 0
          · have e0 : (cx != 0) = false := by simp [h0]
            have H0 := Lib.hid h0
            clear h0
            go_wp2_with (first
              | (refine wpList_load_mid rfl 40 _ rfl b (off + k * 3) (by rfl) (qcl x) _ HX.out.1 Tryz.underlying40 rfl HX.out.2 ?_)
              | (refine wpList_store_part rfl 40 _ _ rfl wr.heap.size 0 (by rfl) (qcl x) (by rfl) 40 _ (Blk.new wr 40 _) HX.out.2 (qcl_onem x) (by simp [qcl_lenm]) (qcl x).toArray (by exact lay_all (by rw [qcl_lenm]; rfl)) ?_
                 intro w2 b2 f2
                 have H2 := Lib.hid (And.intro b2 (((Fr.refl (fun _ => False) wr).alloc _).step f2 (fun k hk => .inr (by subst hk; exact Nat.le_refl _))))
                 clear b2 f2)
              | (refine wpList_load_blk rfl 40 _ rfl wr.heap.size (by rfl) 40 _ _ H2.out.1 Tryz.underlying40 rfl (by rw [List.size_toArray]; exact HX.out.2) ?_)
              | (go_at_call 29
                 (with_reducible refine (qcheck_x x _).mono ?_)
                 rintro e w4 ⟨rfl, f4⟩
                 rw [← HCX.out]
                 have H4 := Lib.hid (H2.out.2.then f4)
                 clear f4)
              | fail "no arm")
            go_roundg (lq.length - (k + 1))
            case measure => have := HGH.out; omega
            case rel => exact ⟨k + 1, rfl, hlt, by go_num, fun y hy => by
                rw [take_succ_of0 HXX.out, List.mem_append, List.mem_singleton] at hy
                rcases hy with hy | rfl
                · exact HF.out.1 y hy
                · exact HCX.out.symm.trans H0.out, HF.out.2.1.then H4.out⟩
          · have e0 : (cx != 0) = true := by simp [h0]
            have H0 := Lib.hid h0
            clear h0
            go_wp2_with (first
              | (refine wpList_load_mid rfl 40 _ rfl b (off + k * 3) (by rfl) (qcl x) _ HX.out.1 Tryz.underlying40 rfl HX.out.2 ?_)
              | (refine wpList_store_part rfl 40 _ _ rfl wr.heap.size 0 (by rfl) (qcl x) (by rfl) 40 _ (Blk.new wr 40 _) HX.out.2 (qcl_onem x) (by simp [qcl_lenm]) (qcl x).toArray (by exact lay_all (by rw [qcl_lenm]; rfl)) ?_
                 intro w2 b2 f2
                 have H2 := Lib.hid (And.intro b2 (((Fr.refl (fun _ => False) wr).alloc _).step f2 (fun k hk => .inr (by subst hk; exact Nat.le_refl _))))
                 clear b2 f2)
              | (refine wpList_load_blk rfl 40 _ rfl wr.heap.size (by rfl) 40 _ _ H2.out.1 Tryz.underlying40 rfl (by rw [List.size_toArray]; exact HX.out.2) ?_)
              | (go_at_call 29
                 (with_reducible refine (qcheck_x x _).mono ?_)
                 rintro e w4 ⟨rfl, f4⟩
                 rw [← HCX.out]
                 have H4 := Lib.hid (H2.out.2.then f4)
                 clear f4)
              | fail "no arm")
            go_ret
            exact ⟨ret_int (by rw [HR.out, HCX.out]; exact (mckq HK0.out.1 HK0.out.2 HXX.out (by rw [← HCX.out]; exact H0.out) HF.out.1).symm), HF.out.2.2.2.then H4.out⟩
        · have hke : k = lq.length := by omega
          have hQ : ∀ y ∈ lq, qchk y = 0 := by have := HF.out.1; rwa [hke, List.take_length] at this
          have HQ := Lib.hid hQ
          clear hQ hke
          rename World => w5
          go_upto_region 14 with (first
            | (go_at_call 30
               (with_reducible refine (rows_any w.heap.size w5 HF.out.2.2.1.lt).mono ?_)
               rintro e wa ⟨rfl, fa⟩
               have Hwa := Lib.hid (And.intro (HF.out.2.2.1.fr fa id) (HF.out.2.2.2.then fa))
               clear fa)
            | fail "no arm")
          clear hlt
          refine wp_loop_rounds 4 ?_
          rw [rounds_succ]
          have m15 : wa.cell? ⟨w.heap.size, 15, none⟩ = some (.slice Aa la.length ca) := Hwa.out.1.cell 15
          have hix := rows_ix0 w.heap.size
          go_upto_region 17 with fail
          clear m15 hix
          go_loopg [45] la.length (fun gh i wr => ∃ k : Nat, gh = la.length - k ∧ k ≤ la.length ∧ i = .int .i64 (k : Nat) ∧ (∀ y ∈ la.take k, rcheckB y.1 = 0) ∧ Fr (fun _ => False) wa wr)
          case atStart => exact ⟨0, rfl, Nat.zero_le _, rfl, by simp, Fr.refl _ _⟩
          case round =>
            obtain ⟨k, hgh, hk, rfl, hall, hfr⟩ := hrel
            have HGH := Lib.hid hgh
            have HF := Lib.hid (And.intro hall (And.intro hfr (And.intro (Hwa.out.1.fr hfr id) (Hwa.out.2.then hfr))))
            clear hgh hall hfr
            by_cases hlt : k < la.length
            · obtain ⟨x, hx⟩ : ∃ x, la[k]? = some x := ⟨la[k], List.getElem?_eq_getElem hlt⟩
              obtain ⟨b, off, rfl, hbs, hrg⟩ := rowIn_mk rcl 16 rcl_lenm (rowIn_fr0 HM.out.a HF.out.2.2.2) hx
              have HX := Lib.hid (And.intro hrg (HSZ.out.1 x))
              have HXX := Lib.hid (And.intro hx ((HM.out.ak x (List.mem_of_getElem? hx)).1.fr0 HF.out.2.2.2))
              clear hrg hx
              have hk0 : (0 : Int) ≤ (k : Int) := by omega
              have hlti : (k : Int) < (la.length : Int) := by omega
              obtain ⟨cx, hcx⟩ : ∃ c, c = rcheckB x.1 := ⟨_, rfl⟩
              have HCX := Lib.hid hcx
              clear hcx
              by_cases h0 : cx = 0
              · have e0 : (cx != 0) = false := by simp [h0]
                have H0 := Lib.hid h0
                clear h0
                go_wp2_with (first
                  | (refine wpList_load_mid rfl 55 _ rfl b (off + k * 16) (by rfl) (rcl x) _ HX.out.1 Tryz.underlying55 rfl HX.out.2 ?_)
                  | (refine wpList_store_part rfl 55 _ _ rfl wr.heap.size 0 (by rfl) (rcl x) (by rfl) 55 _ (Blk.new wr 55 _) HX.out.2 (rcl_onem x) (by simp [rcl_lenm]) (rcl x).toArray (by exact lay_all (by rw [rcl_lenm]; rfl)) ?_
                     intro w2 b2 f2
                     have H2 := Lib.hid (And.intro b2 (((Fr.refl (fun _ => False) wr).alloc _).step f2 (fun k hk => .inr (by subst hk; exact Nat.le_refl _))))
                     clear b2 f2)
                  | (refine wpList_load_blk rfl 55 _ rfl wr.heap.size (by rfl) 55 _ _ H2.out.1 Tryz.underlying55 rfl (by rw [List.size_toArray]; exact HX.out.2) ?_)
                  | (go_at_call 31
                     (with_reducible refine (reccheck_x x _ (HXX.out.2.fr0 H2.out.2)).mono ?_)
                     rintro e w4 ⟨rfl, f4⟩
                     rw [← HCX.out]
                     have H4 := Lib.hid (H2.out.2.then f4)
                     clear f4)
                  | fail "no arm")
                go_roundg (la.length - (k + 1))
                case measure => have := HGH.out; omega
                case rel => exact ⟨k + 1, rfl, hlt, by go_num, fun y hy => by
                    rw [take_succ_of0 HXX.out.1, List.mem_append, List.mem_singleton] at hy
                    rcases hy with hy | rfl
                    · exact HF.out.1 y hy
                    · exact HCX.out.symm.trans H0.out, HF.out.2.1.then H4.out⟩
              · have e0 : (cx != 0) = true := by simp [h0]
                have H0 := Lib.hid h0
                clear h0
                go_wp2_with (first
                  | (refine wpList_load_mid rfl 55 _ rfl b (off + k * 16) (by rfl) (rcl x) _ HX.out.1 Tryz.underlying55 rfl HX.out.2 ?_)
                  | (refine wpList_store_part rfl 55 _ _ rfl wr.heap.size 0 (by rfl) (rcl x) (by rfl) 55 _ (Blk.new wr 55 _) HX.out.2 (rcl_onem x) (by simp [rcl_lenm]) (rcl x).toArray (by exact lay_all (by rw [rcl_lenm]; rfl)) ?_
                     intro w2 b2 f2
                     have H2 := Lib.hid (And.intro b2 (((Fr.refl (fun _ => False) wr).alloc _).step f2 (fun k hk => .inr (by subst hk; exact Nat.le_refl _))))
                     clear b2 f2)
                  | (refine wpList_load_blk rfl 55 _ rfl wr.heap.size (by rfl) 55 _ _ H2.out.1 Tryz.underlying55 rfl (by rw [List.size_toArray]; exact HX.out.2) ?_)
                  | (go_at_call 31
                     (with_reducible refine (reccheck_x x _ (HXX.out.2.fr0 H2.out.2)).mono ?_)
                     rintro e w4 ⟨rfl, f4⟩
                     rw [← HCX.out]
                     have H4 := Lib.hid (H2.out.2.then f4)
                     clear f4)
                  | fail "no arm")
                go_ret
                exact ⟨ret_int (by rw [HR.out, HCX.out]; exact (mck1 HK0.out.1 HK0.out.2 HQ.out HXX.out.1 (by rw [← HCX.out]; exact H0.out) HF.out.1).symm), HF.out.2.2.2.then H4.out⟩
            · have hke : k = la.length := by omega
              subst hke
              have hA0 : ∀ y ∈ la, rcheckB y.1 = 0 := by have := HF.out.1; rwa [List.take_length] at this
              have HA0 := Lib.hid hA0
              clear hA0
              rename World => w6
              have Hw6 := Lib.hid (And.intro HF.out.2.2.1 HF.out.2.2.2)
              clear HF HGH
              go_wp2_with fail
              rw [rounds_succ]
              have m16 : w6.cell? ⟨w.heap.size, 16, none⟩ = some (.slice Ab lb.length cb) := Hw6.out.1.cell 16
              have hix := rows_ix1 w.heap.size
              go_upto_region 17 with fail
              clear m16 hix
              go_loopg [45] lb.length (fun gh i wr => ∃ k : Nat, gh = lb.length - k ∧ k ≤ lb.length ∧ i = .int .i64 (k : Nat) ∧ (∀ y ∈ lb.take k, rcheckB y.1 = 0) ∧ Fr (fun _ => False) w6 wr)
              case atStart => exact ⟨0, rfl, Nat.zero_le _, rfl, by simp, Fr.refl _ _⟩
              case round =>
                obtain ⟨k, hgh, hk, rfl, hall, hfr⟩ := hrel
                have HGH := Lib.hid hgh
                have HF := Lib.hid (And.intro hall (And.intro hfr (And.intro (Hw6.out.1.fr hfr id) (Hw6.out.2.then hfr))))
                clear hgh hall hfr
                by_cases hlt : k < lb.length
                · obtain ⟨x, hx⟩ : ∃ x, lb[k]? = some x := ⟨lb[k], List.getElem?_eq_getElem hlt⟩
                  obtain ⟨b, off, rfl, hbs, hrg⟩ := rowIn_mk rcl 16 rcl_lenm (rowIn_fr0 HM.out.b HF.out.2.2.2) hx
                  have HX := Lib.hid (And.intro hrg (HSZ.out.1 x))
                  have HXX := Lib.hid (And.intro hx ((HM.out.bk x (List.mem_of_getElem? hx)).1.fr0 HF.out.2.2.2))
                  clear hrg hx
                  have hk0 : (0 : Int) ≤ (k : Int) := by omega
                  have hlti : (k : Int) < (lb.length : Int) := by omega
                  obtain ⟨cx, hcx⟩ : ∃ c, c = rcheckB x.1 := ⟨_, rfl⟩
                  have HCX := Lib.hid hcx
                  clear hcx
                  by_cases h0 : cx = 0
                  · have e0 : (cx != 0) = false := by simp [h0]
                    have H0 := Lib.hid h0
                    clear h0
                    go_wp2_with (first
                      | (refine wpList_load_mid rfl 55 _ rfl b (off + k * 16) (by rfl) (rcl x) _ HX.out.1 Tryz.underlying55 rfl HX.out.2 ?_)
                      | (refine wpList_store_part rfl 55 _ _ rfl wr.heap.size 0 (by rfl) (rcl x) (by rfl) 55 _ (Blk.new wr 55 _) HX.out.2 (rcl_onem x) (by simp [rcl_lenm]) (rcl x).toArray (by exact lay_all (by rw [rcl_lenm]; rfl)) ?_
                         intro w2 b2 f2
                         have H2 := Lib.hid (And.intro b2 (((Fr.refl (fun _ => False) wr).alloc _).step f2 (fun k hk => .inr (by subst hk; exact Nat.le_refl _))))
                         clear b2 f2)
                      | (refine wpList_load_blk rfl 55 _ rfl wr.heap.size (by rfl) 55 _ _ H2.out.1 Tryz.underlying55 rfl (by rw [List.size_toArray]; exact HX.out.2) ?_)
                      | (go_at_call 31
                         (with_reducible refine (reccheck_x x _ (HXX.out.2.fr0 H2.out.2)).mono ?_)
                         rintro e w4 ⟨rfl, f4⟩
                         rw [← HCX.out]
                         have H4 := Lib.hid (H2.out.2.then f4)
                         clear f4)
                      | fail "no arm")
                    go_roundg (lb.length - (k + 1))
                    case measure => have := HGH.out; omega
                    case rel => exact ⟨k + 1, rfl, hlt, by go_num, fun y hy => by
                        rw [take_succ_of0 HXX.out.1, List.mem_append, List.mem_singleton] at hy
                        rcases hy with hy | rfl
                        · exact HF.out.1 y hy
                        · exact HCX.out.symm.trans H0.out, HF.out.2.1.then H4.out⟩
                  · have e0 : (cx != 0) = true := by simp [h0]
                    have H0 := Lib.hid h0
                    clear h0
                    go_wp2_with (first
                      | (refine wpList_load_mid rfl 55 _ rfl b (off + k * 16) (by rfl) (rcl x) _ HX.out.1 Tryz.underlying55 rfl HX.out.2 ?_)
                      | (refine wpList_store_part rfl 55 _ _ rfl wr.heap.size 0 (by rfl) (rcl x) (by rfl) 55 _ (Blk.new wr 55 _) HX.out.2 (rcl_onem x) (by simp [rcl_lenm]) (rcl x).toArray (by exact lay_all (by rw [rcl_lenm]; rfl)) ?_
                         intro w2 b2 f2
                         have H2 := Lib.hid (And.intro b2 (((Fr.refl (fun _ => False) wr).alloc _).step f2 (fun k hk => .inr (by subst hk; exact Nat.le_refl _))))
                         clear b2 f2)
                      | (refine wpList_load_blk rfl 55 _ rfl wr.heap.size (by rfl) 55 _ _ H2.out.1 Tryz.underlying55 rfl (by rw [List.size_toArray]; exact HX.out.2) ?_)
                      | (go_at_call 31
                         (with_reducible refine (reccheck_x x _ (HXX.out.2.fr0 H2.out.2)).mono ?_)
                         rintro e w4 ⟨rfl, f4⟩
                         rw [← HCX.out]
                         have H4 := Lib.hid (H2.out.2.then f4)
                         clear f4)
                      | fail "no arm")
                    go_ret
                    exact ⟨ret_int (by rw [HR.out, HCX.out]; exact (mck2 HK0.out.1 HK0.out.2 HQ.out HA0.out HXX.out.1 (by rw [← HCX.out]; exact H0.out) HF.out.1).symm), HF.out.2.2.2.then H4.out⟩
                · have hke : k = lb.length := by omega
                  subst hke
                  have hA1 : ∀ y ∈ lb, rcheckB y.1 = 0 := by have := HF.out.1; rwa [List.take_length] at this
                  have HA1 := Lib.hid hA1
                  clear hA1
                  rename World => w7
                  have Hw7 := Lib.hid (And.intro HF.out.2.2.1 HF.out.2.2.2)
                  clear HF HGH
                  go_wp2_with fail
                  rw [rounds_succ]
                  have m17 : w7.cell? ⟨w.heap.size, 17, none⟩ = some (.slice Ac lc.length cc) := Hw7.out.1.cell 17
                  have hix := rows_ix2 w.heap.size
                  go_upto_region 17 with fail
                  clear m17 hix
                  go_loopg [45] lc.length (fun gh i wr => ∃ k : Nat, gh = lc.length - k ∧ k ≤ lc.length ∧ i = .int .i64 (k : Nat) ∧ (∀ y ∈ lc.take k, rcheckB y.1 = 0) ∧ Fr (fun _ => False) w7 wr)
                  case atStart => exact ⟨0, rfl, Nat.zero_le _, rfl, by simp, Fr.refl _ _⟩
                  case round =>
                    obtain ⟨k, hgh, hk, rfl, hall, hfr⟩ := hrel
                    have HGH := Lib.hid hgh
                    have HF := Lib.hid (And.intro hall (And.intro hfr (And.intro (Hw7.out.1.fr hfr id) (Hw7.out.2.then hfr))))
                    clear hgh hall hfr
                    by_cases hlt : k < lc.length
                    · obtain ⟨x, hx⟩ : ∃ x, lc[k]? = some x := ⟨lc[k], List.getElem?_eq_getElem hlt⟩
                      obtain ⟨b, off, rfl, hbs, hrg⟩ := rowIn_mk rcl 16 rcl_lenm (rowIn_fr0 HM.out.c HF.out.2.2.2) hx
                      have HX := Lib.hid (And.intro hrg (HSZ.out.1 x))
                      have HXX := Lib.hid (And.intro hx ((HM.out.ck x (List.mem_of_getElem? hx)).1.fr0 HF.out.2.2.2))
                      clear hrg hx
                      have hk0 : (0 : Int) ≤ (k : Int) := by omega
                      have hlti : (k : Int) < (lc.length : Int) := by omega
                      obtain ⟨cx, hcx⟩ : ∃ c, c = rcheckB x.1 := ⟨_, rfl⟩
                      have HCX := Lib.hid hcx
                      clear hcx
                      by_cases h0 : cx = 0
                      · have e0 : (cx != 0) = false := by simp [h0]
                        have H0 := Lib.hid h0
                        clear h0
                        go_wp2_with (first
                          | (refine wpList_load_mid rfl 55 _ rfl b (off + k * 16) (by rfl) (rcl x) _ HX.out.1 Tryz.underlying55 rfl HX.out.2 ?_)
                          | (refine wpList_store_part rfl 55 _ _ rfl wr.heap.size 0 (by rfl) (rcl x) (by rfl) 55 _ (Blk.new wr 55 _) HX.out.2 (rcl_onem x) (by simp [rcl_lenm]) (rcl x).toArray (by exact lay_all (by rw [rcl_lenm]; rfl)) ?_
                             intro w2 b2 f2
                             have H2 := Lib.hid (And.intro b2 (((Fr.refl (fun _ => False) wr).alloc _).step f2 (fun k hk => .inr (by subst hk; exact Nat.le_refl _))))
                             clear b2 f2)
                          | (refine wpList_load_blk rfl 55 _ rfl wr.heap.size (by rfl) 55 _ _ H2.out.1 Tryz.underlying55 rfl (by rw [List.size_toArray]; exact HX.out.2) ?_)
                          | (go_at_call 31
                             (with_reducible refine (reccheck_x x _ (HXX.out.2.fr0 H2.out.2)).mono ?_)
                             rintro e w4 ⟨rfl, f4⟩
                             rw [← HCX.out]
                             have H4 := Lib.hid (H2.out.2.then f4)
                             clear f4)
                          | fail "no arm")
                        go_roundg (lc.length - (k + 1))
                        case measure => have := HGH.out; omega
                        case rel => exact ⟨k + 1, rfl, hlt, by go_num, fun y hy => by
                            rw [take_succ_of0 HXX.out.1, List.mem_append, List.mem_singleton] at hy
                            rcases hy with hy | rfl
                            · exact HF.out.1 y hy
                            · exact HCX.out.symm.trans H0.out, HF.out.2.1.then H4.out⟩
                      · have e0 : (cx != 0) = true := by simp [h0]
                        have H0 := Lib.hid h0
                        clear h0
                        go_wp2_with (first
                          | (refine wpList_load_mid rfl 55 _ rfl b (off + k * 16) (by rfl) (rcl x) _ HX.out.1 Tryz.underlying55 rfl HX.out.2 ?_)
                          | (refine wpList_store_part rfl 55 _ _ rfl wr.heap.size 0 (by rfl) (rcl x) (by rfl) 55 _ (Blk.new wr 55 _) HX.out.2 (rcl_onem x) (by simp [rcl_lenm]) (rcl x).toArray (by exact lay_all (by rw [rcl_lenm]; rfl)) ?_
                             intro w2 b2 f2
                             have H2 := Lib.hid (And.intro b2 (((Fr.refl (fun _ => False) wr).alloc _).step f2 (fun k hk => .inr (by subst hk; exact Nat.le_refl _))))
                             clear b2 f2)
                          | (refine wpList_load_blk rfl 55 _ rfl wr.heap.size (by rfl) 55 _ _ H2.out.1 Tryz.underlying55 rfl (by rw [List.size_toArray]; exact HX.out.2) ?_)
                          | (go_at_call 31
                             (with_reducible refine (reccheck_x x _ (HXX.out.2.fr0 H2.out.2)).mono ?_)
                             rintro e w4 ⟨rfl, f4⟩
                             rw [← HCX.out]
                             have H4 := Lib.hid (H2.out.2.then f4)
                             clear f4)
                          | fail "no arm")
                        go_ret
                        exact ⟨ret_int (by rw [HR.out, HCX.out]; exact (mck3 HK0.out.1 HK0.out.2 HQ.out HA0.out HA1.out HXX.out.1 (by rw [← HCX.out]; exact H0.out) HF.out.1).symm), HF.out.2.2.2.then H4.out⟩
                    · have hke : k = lc.length := by omega
                      subst hke
                      have hA2 : ∀ y ∈ lc, rcheckB y.1 = 0 := by have := HF.out.1; rwa [List.take_length] at this
                      have HA2 := Lib.hid hA2
                      clear hA2
                      rename World => w8
                      have Hw8 := Lib.hid (And.intro HF.out.2.2.1 HF.out.2.2.2)
                      clear HF HGH
                      go_wp2_with fail
                      rw [rounds_succ]
                      go_wp2_with fail
                      go_ret
                      exact ⟨ret_int (by rw [HR.out]; exact (mckok HK0.out.1 HK0.out.2 HQ.out HA0.out HA1.out HA2.out).symm), Hw8.out.2⟩

    · have HK0 := Lib.hid (And.intro (HKH.out.symm.trans h1) hc)
      have hnq : ∀ w, (Op.equalIn 10000 23 (.agg #[.int .i64 h.c0, .int .i64 h.c1, .int .i64 h.c2, .int .i64 h.c3]) (.agg #[.int .i64 (lq.length : Nat), .int .i64 (la.length : Nat), .int .i64 (lb.length : Nat), .int .i64 (lc.length : Nat)])).run Tryz.prog w = .ok false w := fun w => by
        have := cnt_equal h.c0 h.c1 h.c2 h.c3 (lq.length : Nat) (la.length : Nat) (lb.length : Nat) (lc.length : Nat) HCB.out.1 HCB.out.2.1 HCB.out.2.2.1 HCB.out.2.2.2 (nat_i64k HN.out.1) (nat_i64k HN.out.2.1) (nat_i64k HN.out.2.2.1) (nat_i64k HN.out.2.2.2) w
        rwa [decide_eq_false (fun e => hc (by simpa [msOf, Ms.cnt] using e))] at this
      have e1 : (kh != 0) = false := by simp [h1]
      have HNQ := Lib.hid hnq
      clear h1 hc hnq
      go_enter Tryz.func11, Tryz.ntmps11
      go_upto_region 1 with fail
      rw [← HW.out]
      clear HW
      go_upto_region 4 with (first
        | (refine wpList_load_part rfl 25 _ rfl w.heap.size 0 (by rfl) 29 _ 14 _ HB.out.1 Tryz.underlying25 rfl (by kernel_rfl) (by simp) #[.int .u16 h.id, .bool h.resp, .int .i64 h.op, .bool h.aa, .bool h.tc, .bool h.rd, .bool h.ra, .bool h.ad, .bool h.cd, .int .i64 h.rc, .int .i64 h.c0, .int .i64 h.c1, .int .i64 h.c2, .int .i64 h.c3] (by rfl) ?_)
        | (go_at_call 27
           (with_reducible refine (check_any h _).mono ?_)
           rintro e w1 ⟨rfl, f1⟩
           rw [← HKH.out]
           have H1 := Lib.hid (And.intro (HB.out.1.fr f1 id) (HB.out.2.then f1))
           clear f1)
        | fail "no arm")
      have hr10 : w1.drew.rangeAt w.heap.size 10 [.int .i64 h.c0, .int .i64 h.c1, .int .i64 h.c2, .int .i64 h.c3] ∧ w1.drew.rangeAt w.heap.size 0 [.int .u16 h.id, .bool h.resp, .int .i64 h.op, .bool h.aa, .bool h.tc, .bool h.rd, .bool h.ra, .bool h.ad, .bool h.cd, .int .i64 h.rc, .int .i64 h.c0, .int .i64 h.c1, .int .i64 h.c2, .int .i64 h.c3, .slice Aq lq.length cq, .slice Aa la.length ca, .slice Ab lb.length cb, .slice Ac lc.length cc] := ⟨msg_cnt H1.out.1.drew, blk_rg0 H1.out.1.drew⟩
      have hneq := HNQ.out
      refine wp_region_held_drew (S := fun w' => w'.rangeAt w.heap.size 10 [.int .i64 h.c0, .int .i64 h.c1, .int .i64 h.c2, .int .i64 h.c3] ∧ w'.rangeAt w.heap.size 0 [.int .u16 h.id, .bool h.resp, .int .i64 h.op, .bool h.aa, .bool h.tc, .bool h.rd, .bool h.ra, .bool h.ad, .bool h.cd, .int .i64 h.rc, .int .i64 h.c0, .int .i64 h.c1, .int .i64 h.c2, .int .i64 h.c3, .slice Aq lq.length cq, .slice Aa la.length ca, .slice Ab lb.length cb, .slice Ac lc.length cc]) (by kernel_rfl) ⟨hr10.1, hr10.2⟩ (fun hHeld => ?_)
      refine wpAnyH_take (i := 0) (v := ?_) rfl (by kernel_rfl) (by kernel_rfl) (by kernel_rfl) (fun _ _ _ h => h) (Or.inl ⟨by rfl, ?_⟩) (by assumption) ?_
      rotate_left
      · intro w hSw
        go_simp
        try with_reducible rfl
      try simp only [Act.put, List.setIfInBounds_toArray, List.set_cons_zero, List.set_cons_succ, List.getElem_toArray, List.getElem_cons_zero, List.getElem_cons_succ]
      refine wpAnyH_take (i := 1) (v := ?_) rfl (by kernel_rfl) (by kernel_rfl) (by kernel_rfl) (fun _ _ _ h => h) (Or.inl ⟨by rfl, ?_⟩) (by assumption) ?_
      rotate_left
      · intro w hSw
        go_simp
        try with_reducible rfl
      try simp only [Act.put, List.setIfInBounds_toArray, List.set_cons_zero, List.set_cons_succ, List.getElem_toArray, List.getElem_cons_zero, List.getElem_cons_succ]
      refine wpAnyH_take (i := 2) rfl (by kernel_rfl) (by kernel_rfl) (by kernel_rfl) (fun _ _ _ h => h) (yieldsIf_load_mid (by rfl) _ _ rfl w.heap.size (10) (by rfl) [.int .i64 h.c0, .int .i64 h.c1, .int .i64 h.c2, .int .i64 h.c3] _ (fun w' h => h.1) Tryz.underlying23 rfl (by kernel_rfl)) (by assumption) ?_
      try simp only [Act.put, List.setIfInBounds_toArray, List.set_cons_zero, List.set_cons_succ, List.getElem_toArray, List.getElem_cons_zero, List.getElem_cons_succ]
      refine wpAnyH_take (i := 3) rfl (by kernel_rfl) (by kernel_rfl) (by kernel_rfl) (fun _ _ _ h => h) (yieldsIf_load_mid (by rfl) _ _ rfl w.heap.size (0) (by rfl) [.int .u16 h.id, .bool h.resp, .int .i64 h.op, .bool h.aa, .bool h.tc, .bool h.rd, .bool h.ra, .bool h.ad, .bool h.cd, .int .i64 h.rc, .int .i64 h.c0, .int .i64 h.c1, .int .i64 h.c2, .int .i64 h.c3, .slice Aq lq.length cq, .slice Aa la.length ca, .slice Ab lb.length cb, .slice Ac lc.length cc] _ (fun w' h => h.2) Tryz.underlying29 rfl (by kernel_rfl)) (by assumption) ?_
      try simp only [Act.put, List.setIfInBounds_toArray, List.set_cons_zero, List.set_cons_succ, List.getElem_toArray, List.getElem_cons_zero, List.getElem_cons_succ]
      refine wpAnyH_ready (rs := [4]) (by kernel_rfl) (by simp) ?_
      refine AllReadyH.cons rfl (fun K hK => ?_) AllReadyH.nil
      go_simp
      (with_reducible refine (counts_any h Aq lq cq Aa la ca Ab lb cb Ac lc cc _ HN.out.1 HN.out.2.1 HN.out.2.2.1 HN.out.2.2.2).mono ?_)
      rintro e w3 ⟨rfl, f3⟩
      have hS3 := And.intro (range_fr0 f3 H1.out.1.lt hr10.1) (range_fr0 f3 H1.out.1.lt hr10.2)
      have H3 := Lib.hid (And.intro (H1.out.1.fr f3.fromD id) (H1.out.2.then f3.fromD))
      clear f3
      refine hK.out _ _ hS3 (fun hHeld => ?_)
      clear hK K
      try simp only [Act.put, List.setIfInBounds_toArray, List.set_cons_zero, List.set_cons_succ, List.getElem_toArray, List.getElem_cons_zero, List.getElem_cons_succ]
      refine wpAnyH_take (i := 5) (v := ?_) rfl (by kernel_rfl) (by kernel_rfl) (by kernel_rfl) (fun _ _ _ h => h) (Or.inl ⟨by rfl, ?_⟩) (by assumption) ?_
      rotate_left
      · intro w hSw
        go_simp
        try simp only [hneq, Result.andThen_ok, Bool.not_true, Bool.not_false]
        try rfl
      try simp only [Act.put, List.setIfInBounds_toArray, List.set_cons_zero, List.set_cons_succ, List.getElem_toArray, List.getElem_cons_zero, List.getElem_cons_succ]
      refine wpAnyH_done (by kernel_rfl) ?_ _
      clear hHeld
      clear hneq hr10
      go_wp2_with fail
      go_ret
      refine ⟨ret_int ?_, H3.out.2⟩
      rw [HR.out]
      unfold mcheckB
      rw [if_neg (by rw [show (msOf h lq la lb lc).h = h from rfl, HK0.out.1]; decide), if_pos HK0.out.2]
  · have e1 : (kh != 0) = true := by simp [h1]
    have H1 := Lib.hid h1
    clear h1
    go_enter Tryz.func11, Tryz.ntmps11
    go_upto_region 1 with fail
    rw [← HW.out]
    clear HW
    go_wp2_with (first
      | (refine wpList_load_part rfl 25 _ rfl w.heap.size 0 (by rfl) 29 _ 14 _ HB.out.1 Tryz.underlying25 rfl (by kernel_rfl) (by simp) #[.int .u16 h.id, .bool h.resp, .int .i64 h.op, .bool h.aa, .bool h.tc, .bool h.rd, .bool h.ra, .bool h.ad, .bool h.cd, .int .i64 h.rc, .int .i64 h.c0, .int .i64 h.c1, .int .i64 h.c2, .int .i64 h.c3] (by rfl) ?_)
      | (go_at_call 27
         (with_reducible refine (check_any h _).mono ?_)
         rintro e w1 ⟨rfl, f1⟩
         rw [← HKH.out]
         have H2 := Lib.hid (HB.out.2.then f1)
         clear f1)
      | fail "no arm")
    go_ret
    refine ⟨ret_int ?_, H2.out⟩
    rw [HR.out]
    unfold mcheckB
    rw [show (msOf h lq la lb lc).h = h from rfl, ← HKH.out, if_pos H1.out]
end Go.Proofs.YtmbgejiahmhffaaGreat
