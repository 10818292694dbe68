/-
  LAYER 11: message.Size.
-/
import Derived.Test.YtmbgejiahmhffaaGreatUMpt
import Derived.Test.YtmbgejiahmhffaaGreatUunI
import Derived.WalkMore
namespace Go.Proofs.YtmbgejiahmhffaaGreat
open Go.RowKit
set_option linter.unusedVariables false
set_option linter.unusedSimpArgs false

theorem psize_q (x : Qn) (w : World) (h : qchk x = 0) : Calls Tryz.prog 51 #[.string x.1] w (IntPost w (((x.1.size + 1 : Nat)) : Int)) := by
  refine (psize_any x.1 w).mono ?_
  rintro e w' ⟨rfl, k, rfl⟩
  rw [if_pos (qcheck_ok h).1]
  exact ⟨ret_int (by omega), (Fr.refl _ _).drewN _⟩
theorem rsize_x (x : Rcd × Option Addr × Nat) (w : World) (h : RcIn w x.2.1 x.1) (hl : x.1.d.light ≤ 1048576) (hc : rcheckB x.1 = 0) : Calls Tryz.prog 52 #[.agg (rcl x).toArray] w (IntPost w ((x.1.size : Nat) : Int)) := by
  refine (rsize_any x.1 x.2.1 x.2.2 w h hl).mono ?_
  rintro e w' ⟨rfl, f⟩
  refine ⟨ret_int ?_, f⟩
  unfold rsizeB
  rw [if_pos hc]
  unfold Rcd.size
  omega
theorem rsum_big : ∀ (l : RLm), (∀ x ∈ l, x.1.name.size + x.1.d.light ≤ 1048576) → rsum (l.map Prod.fst) ≤ l.length * 2097152
  | [], _ => Nat.le_refl _
  | x :: l, h => by
    have h1 := h x (by simp)
    have h2 := rsum_big l fun y hy => h y (by simp [hy])
    have h3 := size_light x.1.t x.1.d
    rw [List.map_cons, rsum, List.length_cons]
    unfold Rcd.size
    omega
theorem qsum_big : ∀ (l : List Qn), (∀ q ∈ l, q.1.size ≤ 1048576) → qsum l ≤ l.length * 2097152
  | [], _ => Nat.le_refl _
  | q :: l, h => by
    have h1 := h q (by simp)
    have h2 := qsum_big l fun x hx => h x (by simp [hx])
    rw [qsum, List.length_cons]
    omega
theorem rsum_step {l : RLm} {k : Nat} {x : Rcd × Option Addr × Nat} (hx : l[k]? = some x) : rsum ((l.map Prod.fst).take (k + 1)) = rsum ((l.map Prod.fst).take k) + x.1.size ∧ rsum ((l.map Prod.fst).take k) + x.1.size ≤ rsum (l.map Prod.fst) := by
  have hxm : (l.map Prod.fst)[k]? = some x.1 := by rw [List.getElem?_map, hx]; rfl
  have e1 : rsum ((l.map Prod.fst).take (k + 1)) = rsum ((l.map Prod.fst).take k) + x.1.size := by
    rw [List.take_add_one, hxm]
    show rsum (_ ++ [x.1]) = _
    rw [rsum_ap]
    rfl
  refine ⟨e1, ?_⟩
  have e2 := congrArg rsum (List.take_append_drop (k + 1) (l.map Prod.fst))
  rw [rsum_ap] at e2
  omega
theorem qsum_step {l : List Qn} {k : Nat} {x : Qn} (hx : l[k]? = some x) : qsum (l.take (k + 1)) = qsum (l.take k) + (x.1.size + 5) ∧ qsum (l.take k) + (x.1.size + 5) ≤ qsum l := by
  have e1 : qsum (l.take (k + 1)) = qsum (l.take k) + (x.1.size + 5) := by
    rw [List.take_add_one, hx]
    show qsum (_ ++ [x]) = _
    rw [qsum_ap]
    rfl
  refine ⟨e1, ?_⟩
  have e2 := congrArg qsum (List.take_append_drop (k + 1) l)
  rw [qsum_ap] at e2
  omega
set_option maxRecDepth 100000 in
set_option maxHeartbeats 16000000 in
theorem msize_any (h : Hd) (Aq : Option Addr) (lq : List Qn) (cq : Nat) (Aa : Option Addr) (la : RLm) (ca : Nat) (Ab : Option Addr) (lb : RLm) (cb : Nat) (Ac : Option Addr) (lc : RLm) (cc : Nat) (w : World) (hm : MsIn w h Aq lq cq Aa la ca Ab lb cb Ac lc cc) :
    Calls Tryz.prog 22 #[.agg #[.int .u16 h.id, .bool h.resp, .int .i64 h.op, .bool h.aa, .bool h.tc, .bool h.rd, .bool h.ra, .bool h.ad, .bool h.cd, .int .i64 h.rc, .int .i64 h.c0, .int .i64 h.c1, .int .i64 h.c2, .int .i64 h.c3, .slice Aq lq.length cq, .slice Aa la.length ca, .slice Ab lb.length cb, .slice Ac lc.length cc]] w (IntPost w (msizeB (msOf h lq la lb lc))) := by
  have hszr : ∀ x : Rcd × Option Addr × Nat, (Tryz.prog.info? 55).map (·.size) = some (rcl x).length := fun x => by rw [rcl_lenm]; kernel_rfl
  have hszq : ∀ x : Qn, (Tryz.prog.info? 40).map (·.size) = some (qcl x).length := fun x => by rw [qcl_lenm]; kernel_rfl
  obtain ⟨W, hW⟩ : ∃ W, W = w.alloc (.cells #[.int .u16 h.id, .bool h.resp, .int .i64 h.op, .bool h.aa, .bool h.tc, .bool h.rd, .bool h.ra, .bool h.ad, .bool h.cd, .int .i64 h.rc, .int .i64 h.c0, .int .i64 h.c1, .int .i64 h.c2, .int .i64 h.c3, .slice Aq lq.length cq, .slice Aa la.length ca, .slice Ab lb.length cb, .slice Ac lc.length cc] 29) := ⟨_, rfl⟩
  have hb : Blk W w.heap.size 29 #[.int .u16 h.id, .bool h.resp, .int .i64 h.op, .bool h.aa, .bool h.tc, .bool h.rd, .bool h.ra, .bool h.ad, .bool h.cd, .int .i64 h.rc, .int .i64 h.c0, .int .i64 h.c1, .int .i64 h.c2, .int .i64 h.c3, .slice Aq lq.length cq, .slice Aa la.length ca, .slice Ab lb.length cb, .slice Ac lc.length cc] := by rw [hW]; exact Blk.new _ _ _
  have hf : Fr (fun _ => False) w W := by rw [hW]; exact (Fr.refl _ _).alloc _
  obtain ⟨R, hR⟩ : ∃ R, R = msizeB (msOf h lq la lb lc) := ⟨_, rfl⟩
  rw [← hR]
  obtain ⟨ck, hck⟩ : ∃ c, c = mcheckB (msOf h lq la lb lc) := ⟨_, rfl⟩
  have HR := Lib.hid (And.intro hR hck)
  have hlt := hm.light
  have HM := Lib.hid hm
  have nq : lq.length ≤ 1048576 := hm.qz.1
  have na : la.length ≤ 1048576 := hm.az.1
  have nb : lb.length ≤ 1048576 := hm.bz.1
  have nc : lc.length ≤ 1048576 := hm.cz.1
  have HSZ := Lib.hid (And.intro hszr hszq)
  have HB := Lib.hid (And.intro hb hf)
  have HW := Lib.hid hW
  clear hb hf hW hR hck hszr hszq
  by_cases h1 : ck = 0
  · have hfine : (msOf h lq la lb lc).fine := (mcheck_fine hlt).1 (HR.out.2.symm.trans h1)
    have HCK := Lib.hid (And.intro (show ∀ q ∈ lq, qchk q = 0 from hfine.2.2.2.1) (And.intro (show ∀ x ∈ la, rcheckB x.1 = 0 from fun x hx => by rw [rcheckB_eq]; exact (hfine.2.2.2.2.1 x.1 (List.mem_map.2 ⟨x, hx, rfl⟩)).2) (And.intro (show ∀ x ∈ lb, rcheckB x.1 = 0 from fun x hx => by rw [rcheckB_eq]; exact (hfine.2.2.2.2.2.1 x.1 (List.mem_map.2 ⟨x, hx, rfl⟩)).2) (show ∀ x ∈ lc, rcheckB x.1 = 0 from fun x hx => by rw [rcheckB_eq]; exact (hfine.2.2.2.2.2.2 x.1 (List.mem_map.2 ⟨x, hx, rfl⟩)).2))))
    have hr : R = ((12 + qsum lq + rsum (la.map Prod.fst) + rsum (lb.map Prod.fst) + rsum (lc.map Prod.fst) : Nat) : Int) := by
      rw [HR.out.1]
      unfold msizeB
      rw [if_neg (by rw [← HR.out.2]; simp [h1])]
      rfl
    have bq := qsum_big lq fun q hq => (hm.qk q hq).1
    have ba := rsum_big la fun x hx => (hm.ak x hx).2
    have bb := rsum_big lb fun x hx => (hm.bk x hx).2
    have bc := rsum_big lc fun x hx => (hm.ck x hx).2
    obtain ⟨Q, hQ⟩ : ∃ Q, Q = qsum lq := ⟨_, rfl⟩
    obtain ⟨SA, hSA⟩ : ∃ S, S = rsum (la.map Prod.fst) := ⟨_, rfl⟩
    obtain ⟨SB, hSB⟩ : ∃ S, S = rsum (lb.map Prod.fst) := ⟨_, rfl⟩
    obtain ⟨SC, hSC⟩ : ∃ S, S = rsum (lc.map Prod.fst) := ⟨_, rfl⟩
    rw [← hQ] at hr bq
    rw [← hSA] at hr ba
    rw [← hSB] at hr bb
    rw [← hSC] at hr bc
    have nQ : Q ≤ 2199023255552 := by omega
    have nSA : SA ≤ 2199023255552 := by omega
    have nSB : SB ≤ 2199023255552 := by omega
    have nSC : SC ≤ 2199023255552 := by omega
    have HS := Lib.hid (And.intro hQ (And.intro hSA (And.intro hSB (And.intro hSC hr))))
    have e1 : (ck != 0) = false := by simp [h1]
    clear h1 hfine hr bq ba bb bc hQ hSA hSB hSC hlt hm
    go_enter Tryz.func22, Tryz.ntmps22
    go_upto_region 1 with fail
    rw [← HW.out]
    clear HW
    go_upto_region 4 with (first
      | (refine wpList_load_blk rfl 29 _ rfl w.heap.size (by rfl) 29 _ _ HB.out.1 Tryz.underlying29 rfl (by kernel_rfl) ?_)
      | (go_at_call 11
         (with_reducible refine (mcheck_any h Aq lq cq Aa la ca Ab lb cb Ac lc cc W (HM.out.fr0 HB.out.2)).mono ?_)
         rintro e w1 ⟨rfl, f1⟩
         rw [← HR.out.2]
         have H1 := Lib.hid (And.intro (HB.out.1.fr f1 id) (HB.out.2.then f1))
         clear f1)
      | fail "no arm")
    have m14 : w1.cell? ⟨w.heap.size, 14, none⟩ = some (.slice Aq lq.length cq) := H1.out.1.cell 14
    go_upto_region 5 with fail
    clear m14
    go_loopg [3, 16] lq.length (fun gh n_ i wr => ∃ k : Nat, gh = lq.length - k ∧ k ≤ lq.length ∧ n_ = .int .i64 ((12 + qsum (lq.take k) : Nat) : Int) ∧ i = .int .i64 (k : Nat) ∧ Fr (fun _ => False) w1 wr)
    case atStart => exact ⟨0, rfl, Nat.zero_le _, rfl, rfl, Fr.refl _ _⟩
    case round =>
      obtain ⟨k, hgh, hk, rfl, rfl, hfr⟩ := hrel
      have HGH := Lib.hid hgh
      have HF := Lib.hid (And.intro hfr (And.intro (H1.out.1.fr hfr id) (H1.out.2.then hfr)))
      clear hgh hfr
      by_cases hlt : k < lq.length
      · obtain ⟨x, hx⟩ : ∃ x, lq[k]? = some x := ⟨lq[k], List.getElem?_eq_getElem hlt⟩
        obtain ⟨b, off, rfl, hbs, hrg⟩ := rowIn_mk qcl 3 qcl_lenm (rowIn_fr0 HM.out.q HF.out.2.2) hx
        have HX := Lib.hid (And.intro hrg (HSZ.out.2 x))
        have hst := qsum_step hx
        rw [← HS.out.1] at hst
        obtain ⟨q0, hq0⟩ : ∃ q, q = qsum (lq.take k) := ⟨_, rfl⟩
        rw [← hq0] at hst ⊢
        obtain ⟨hst1, hst2⟩ := hst
        have HXX := Lib.hid (And.intro hst1 (HCK.out.1 x (List.mem_of_getElem? hx)))
        clear hrg hx hst1 hq0
        have hk0 : (0 : Int) ≤ (k : Int) := by omega
        have hlti : (k : Int) < (lq.length : Int) := by omega
        go_wp2_with (first
          | (refine wpList_load_mid rfl 40 _ rfl b (off + k * 3) (by rfl) (qcl x) _ HX.out.1 Tryz.underlying40 rfl HX.out.2 ?_)
          | (refine wpList_store_part rfl 40 _ _ rfl wr.heap.size 0 (by rfl) (qcl x) (by rfl) 40 _ (Blk.new wr 40 _) HX.out.2 (qcl_onem x) (by simp [qcl_lenm]) (qcl x).toArray (by exact lay_all (by rw [qcl_lenm]; rfl)) ?_
             intro w2 b2 f2
             have d0 : w2.cell? ⟨wr.heap.size, 0, none⟩ = some (.string x.1) := b2.cell 0
             have H2 := Lib.hid (And.intro b2 (((Fr.refl (fun _ => False) wr).alloc _).step f2 (fun k hk => .inr (by subst hk; exact Nat.le_refl _))))
             clear b2 f2)
          | (go_at_call 51
             (with_reducible refine (psize_q x _ HXX.out.2).mono ?_)
             rintro e w4 ⟨rfl, f4⟩
             have H4 := Lib.hid (H2.out.2.then f4)
             clear f4 d0)
          | fail "no arm")
        go_roundg (lq.length - (k + 1))
        case measure => have := HGH.out; omega
        case rel => exact ⟨k + 1, rfl, hlt, by rw [HXX.out.1]; go_num, by go_num, HF.out.1.then H4.out⟩
      · have hke : k = lq.length := by omega
        subst hke
        rename World => w5
        rw [List.take_length, ← HS.out.1]
        have HF5 := Lib.hid (And.intro HF.out.2.1 HF.out.2.2)
        clear HF HGH hlt
        go_upto_region 10 with (first
          | (go_at_call 30
             (with_reducible refine (rows_any w.heap.size w5 HF5.out.1.lt).mono ?_)
             rintro e va ⟨rfl, fa⟩
             have Hva := Lib.hid (And.intro (HF5.out.1.fr fa id) (HF5.out.2.then fa))
             clear fa)
          | fail "no arm")
        refine wp_loop_rounds 4 ?_
        rw [rounds_succ]
        have m_ : va.cell? ⟨w.heap.size, 15, none⟩ = some (.slice Aa la.length ca) := Hva.out.1.cell 15
        have hix := rows_ix0 w.heap.size
        go_upto_region 13 with fail
        clear m_ hix
        go_loopg [3, 35] la.length (fun gh n_ i wr => ∃ k : Nat, gh = la.length - k ∧ k ≤ la.length ∧ n_ = .int .i64 ((12 + Q + rsum ((la.map Prod.fst).take k) : Nat) : Int) ∧ i = .int .i64 (k : Nat) ∧ Fr (fun _ => False) va wr)
        case atStart => exact ⟨0, rfl, Nat.zero_le _, rfl, rfl, Fr.refl _ _⟩
        case round =>
          obtain ⟨k, hgh, hk, rfl, rfl, hfr⟩ := hrel
          have HGH := Lib.hid hgh
          have HF := Lib.hid (And.intro hfr (And.intro (Hva.out.1.fr hfr id) (Hva.out.2.then hfr)))
          clear hgh hfr
          by_cases hlt : k < la.length
          · obtain ⟨x, hx⟩ : ∃ x, la[k]? = some x := ⟨la[k], List.getElem?_eq_getElem hlt⟩
            obtain ⟨b, off, rfl, hbs, hrg⟩ := rowIn_mk rcl 16 rcl_lenm (rowIn_fr0 HM.out.a HF.out.2.2) hx
            have HX := Lib.hid (And.intro hrg (HSZ.out.1 x))
            have hst := rsum_step hx
            rw [← HS.out.2.1] at hst
            obtain ⟨q0, hq0⟩ : ∃ q, q = rsum ((la.map Prod.fst).take k) := ⟨_, rfl⟩
            rw [← hq0] at hst ⊢
            obtain ⟨hst1, hst2⟩ := hst
            have hxk := HM.out.ak x (List.mem_of_getElem? hx)
            have HXX := Lib.hid (And.intro hst1 (And.intro (HCK.out.2.1 x (List.mem_of_getElem? hx)) (And.intro (hxk.1.fr0 HF.out.2.2) (show x.1.d.light ≤ 1048576 by have := hxk.2; omega))))
            clear hrg hx hst1 hq0 hxk
            have hk0 : (0 : Int) ≤ (k : Int) := by omega
            have hlti : (k : Int) < (la.length : Int) := by omega
            go_wp2_with (first
              | (refine wpList_load_mid rfl 55 _ rfl b (off + k * 16) (by rfl) (rcl x) _ HX.out.1 Tryz.underlying55 rfl HX.out.2 ?_)
              | (refine wpList_store_part rfl 55 _ _ rfl wr.heap.size 0 (by rfl) (rcl x) (by rfl) 55 _ (Blk.new wr 55 _) HX.out.2 (rcl_onem x) (by simp [rcl_lenm]) (rcl x).toArray (by exact lay_all (by rw [rcl_lenm]; rfl)) ?_
                 intro w2 b2 f2
                 have H2 := Lib.hid (And.intro b2 (((Fr.refl (fun _ => False) wr).alloc _).step f2 (fun k hk => .inr (by subst hk; exact Nat.le_refl _))))
                 clear b2 f2)
              | (refine wpList_load_blk rfl 55 _ rfl wr.heap.size (by rfl) 55 _ _ H2.out.1 Tryz.underlying55 rfl (by rw [List.size_toArray]; exact HX.out.2) ?_)
              | (go_at_call 52
                 (with_reducible refine (rsize_x x _ (HXX.out.2.2.1.fr0 H2.out.2) HXX.out.2.2.2 HXX.out.2.1).mono ?_)
                 rintro e w4 ⟨rfl, f4⟩
                 have H4 := Lib.hid (H2.out.2.then f4)
                 clear f4)
              | fail "no arm")
            go_roundg (la.length - (k + 1))
            case measure => have := HGH.out; omega
            case rel => exact ⟨k + 1, rfl, hlt, by rw [HXX.out.1]; go_num, by go_num, HF.out.1.then H4.out⟩
          · have hke : k = la.length := by omega
            subst hke
            rename World => vb
            have htk : (la.map Prod.fst).take la.length = la.map Prod.fst := List.take_of_length_le (by rw [List.length_map]; exact Nat.le_refl _)
            rw [htk, ← HS.out.2.1]
            clear htk
            have Hvb := Lib.hid (And.intro HF.out.2.1 HF.out.2.2)
            clear HF HGH hlt
            go_wp2_with fail
            rw [rounds_succ]
            have m_ : vb.cell? ⟨w.heap.size, 16, none⟩ = some (.slice Ab lb.length cb) := Hvb.out.1.cell 16
            have hix := rows_ix1 w.heap.size
            go_upto_region 13 with fail
            clear m_ hix
            go_loopg [3, 35] lb.length (fun gh n_ i wr => ∃ k : Nat, gh = lb.length - k ∧ k ≤ lb.length ∧ n_ = .int .i64 ((12 + Q + SA + rsum ((lb.map Prod.fst).take k) : Nat) : Int) ∧ i = .int .i64 (k : Nat) ∧ Fr (fun _ => False) vb wr)
            case atStart => exact ⟨0, rfl, Nat.zero_le _, rfl, rfl, Fr.refl _ _⟩
            case round =>
              obtain ⟨k, hgh, hk, rfl, rfl, hfr⟩ := hrel
              have HGH := Lib.hid hgh
              have HF := Lib.hid (And.intro hfr (And.intro (Hvb.out.1.fr hfr id) (Hvb.out.2.then hfr)))
              clear hgh hfr
              by_cases hlt : k < lb.length
              · obtain ⟨x, hx⟩ : ∃ x, lb[k]? = some x := ⟨lb[k], List.getElem?_eq_getElem hlt⟩
                obtain ⟨b, off, rfl, hbs, hrg⟩ := rowIn_mk rcl 16 rcl_lenm (rowIn_fr0 HM.out.b HF.out.2.2) hx
                have HX := Lib.hid (And.intro hrg (HSZ.out.1 x))
                have hst := rsum_step hx
                rw [← HS.out.2.2.1] at hst
                obtain ⟨q0, hq0⟩ : ∃ q, q = rsum ((lb.map Prod.fst).take k) := ⟨_, rfl⟩
                rw [← hq0] at hst ⊢
                obtain ⟨hst1, hst2⟩ := hst
                have hxk := HM.out.bk x (List.mem_of_getElem? hx)
                have HXX := Lib.hid (And.intro hst1 (And.intro (HCK.out.2.2.1 x (List.mem_of_getElem? hx)) (And.intro (hxk.1.fr0 HF.out.2.2) (show x.1.d.light ≤ 1048576 by have := hxk.2; omega))))
                clear hrg hx hst1 hq0 hxk
                have hk0 : (0 : Int) ≤ (k : Int) := by omega
                have hlti : (k : Int) < (lb.length : Int) := by omega
                go_wp2_with (first
                  | (refine wpList_load_mid rfl 55 _ rfl b (off + k * 16) (by rfl) (rcl x) _ HX.out.1 Tryz.underlying55 rfl HX.out.2 ?_)
                  | (refine wpList_store_part rfl 55 _ _ rfl wr.heap.size 0 (by rfl) (rcl x) (by rfl) 55 _ (Blk.new wr 55 _) HX.out.2 (rcl_onem x) (by simp [rcl_lenm]) (rcl x).toArray (by exact lay_all (by rw [rcl_lenm]; rfl)) ?_
                     intro w2 b2 f2
                     have H2 := Lib.hid (And.intro b2 (((Fr.refl (fun _ => False) wr).alloc _).step f2 (fun k hk => .inr (by subst hk; exact Nat.le_refl _))))
                     clear b2 f2)
                  | (refine wpList_load_blk rfl 55 _ rfl wr.heap.size (by rfl) 55 _ _ H2.out.1 Tryz.underlying55 rfl (by rw [List.size_toArray]; exact HX.out.2) ?_)
                  | (go_at_call 52
                     (with_reducible refine (rsize_x x _ (HXX.out.2.2.1.fr0 H2.out.2) HXX.out.2.2.2 HXX.out.2.1).mono ?_)
                     rintro e w4 ⟨rfl, f4⟩
                     have H4 := Lib.hid (H2.out.2.then f4)
                     clear f4)
                  | fail "no arm")
                go_roundg (lb.length - (k + 1))
                case measure => have := HGH.out; omega
                case rel => exact ⟨k + 1, rfl, hlt, by rw [HXX.out.1]; go_num, by go_num, HF.out.1.then H4.out⟩
              · have hke : k = lb.length := by omega
                subst hke
                rename World => vc
                have htk : (lb.map Prod.fst).take lb.length = lb.map Prod.fst := List.take_of_length_le (by rw [List.length_map]; exact Nat.le_refl _)
                rw [htk, ← HS.out.2.2.1]
                clear htk
                have Hvc := Lib.hid (And.intro HF.out.2.1 HF.out.2.2)
                clear HF HGH hlt
                go_wp2_with fail
                rw [rounds_succ]
                have m_ : vc.cell? ⟨w.heap.size, 17, none⟩ = some (.slice Ac lc.length cc) := Hvc.out.1.cell 17
                have hix := rows_ix2 w.heap.size
                go_upto_region 13 with fail
                clear m_ hix
                go_loopg [3, 35] lc.length (fun gh n_ i wr => ∃ k : Nat, gh = lc.length - k ∧ k ≤ lc.length ∧ n_ = .int .i64 ((12 + Q + SA + SB + rsum ((lc.map Prod.fst).take k) : Nat) : Int) ∧ i = .int .i64 (k : Nat) ∧ Fr (fun _ => False) vc wr)
                case atStart => exact ⟨0, rfl, Nat.zero_le _, rfl, rfl, Fr.refl _ _⟩
                case round =>
                  obtain ⟨k, hgh, hk, rfl, rfl, hfr⟩ := hrel
                  have HGH := Lib.hid hgh
                  have HF := Lib.hid (And.intro hfr (And.intro (Hvc.out.1.fr hfr id) (Hvc.out.2.then hfr)))
                  clear hgh hfr
                  by_cases hlt : k < lc.length
                  · obtain ⟨x, hx⟩ : ∃ x, lc[k]? = some x := ⟨lc[k], List.getElem?_eq_getElem hlt⟩
                    obtain ⟨b, off, rfl, hbs, hrg⟩ := rowIn_mk rcl 16 rcl_lenm (rowIn_fr0 HM.out.c HF.out.2.2) hx
                    have HX := Lib.hid (And.intro hrg (HSZ.out.1 x))
                    have hst := rsum_step hx
                    rw [← HS.out.2.2.2.1] at hst
                    obtain ⟨q0, hq0⟩ : ∃ q, q = rsum ((lc.map Prod.fst).take k) := ⟨_, rfl⟩
                    rw [← hq0] at hst ⊢
                    obtain ⟨hst1, hst2⟩ := hst
                    have hxk := HM.out.ck x (List.mem_of_getElem? hx)
                    have HXX := Lib.hid (And.intro hst1 (And.intro (HCK.out.2.2.2 x (List.mem_of_getElem? hx)) (And.intro (hxk.1.fr0 HF.out.2.2) (show x.1.d.light ≤ 1048576 by have := hxk.2; omega))))
                    clear hrg hx hst1 hq0 hxk
                    have hk0 : (0 : Int) ≤ (k : Int) := by omega
                    have hlti : (k : Int) < (lc.length : Int) := by omega
                    go_wp2_with (first
                      | (refine wpList_load_mid rfl 55 _ rfl b (off + k * 16) (by rfl) (rcl x) _ HX.out.1 Tryz.underlying55 rfl HX.out.2 ?_)
                      | (refine wpList_store_part rfl 55 _ _ rfl wr.heap.size 0 (by rfl) (rcl x) (by rfl) 55 _ (Blk.new wr 55 _) HX.out.2 (rcl_onem x) (by simp [rcl_lenm]) (rcl x).toArray (by exact lay_all (by rw [rcl_lenm]; rfl)) ?_
                         intro w2 b2 f2
                         have H2 := Lib.hid (And.intro b2 (((Fr.refl (fun _ => False) wr).alloc _).step f2 (fun k hk => .inr (by subst hk; exact Nat.le_refl _))))
                         clear b2 f2)
                      | (refine wpList_load_blk rfl 55 _ rfl wr.heap.size (by rfl) 55 _ _ H2.out.1 Tryz.underlying55 rfl (by rw [List.size_toArray]; exact HX.out.2) ?_)
                      | (go_at_call 52
                         (with_reducible refine (rsize_x x _ (HXX.out.2.2.1.fr0 H2.out.2) HXX.out.2.2.2 HXX.out.2.1).mono ?_)
                         rintro e w4 ⟨rfl, f4⟩
                         have H4 := Lib.hid (H2.out.2.then f4)
                         clear f4)
                      | fail "no arm")
                    go_roundg (lc.length - (k + 1))
                    case measure => have := HGH.out; omega
                    case rel => exact ⟨k + 1, rfl, hlt, by rw [HXX.out.1]; go_num, by go_num, HF.out.1.then H4.out⟩
                  · have hke : k = lc.length := by omega
                    subst hke
                    rename World => vd
                    have htk : (lc.map Prod.fst).take lc.length = lc.map Prod.fst := List.take_of_length_le (by rw [List.length_map]; exact Nat.le_refl _)
                    rw [htk, ← HS.out.2.2.2.1]
                    clear htk
                    have Hvd := Lib.hid (And.intro HF.out.2.1 HF.out.2.2)
                    clear HF HGH hlt
                    go_wp2_with fail
                    rw [rounds_succ]
                    go_wp2_with fail
                    go_ret
                    exact ⟨ret_int (by rw [HS.out.2.2.2.2]), Hvd.out.2⟩
  · have e1 : (ck != 0) = true := by simp [h1]
    have hr : R = 0 := by
      rw [HR.out.1]
      unfold msizeB
      rw [if_pos (by rw [← HR.out.2]; exact h1)]
    have HZ := Lib.hid hr
    clear h1 hr
    go_enter Tryz.func22, Tryz.ntmps22
    go_upto_region 1 with fail
    rw [← HW.out]
    clear HW
    go_wp2_with (first
      | (refine wpList_load_blk rfl 29 _ rfl w.heap.size (by rfl) 29 _ _ HB.out.1 Tryz.underlying29 rfl (by kernel_rfl) ?_)
      | (go_at_call 11
         (with_reducible refine (mcheck_any h Aq lq cq Aa la ca Ab lb cb Ac lc cc W (HM.out.fr0 HB.out.2)).mono ?_)
         rintro e w1 ⟨rfl, f1⟩
         rw [← HR.out.2]
         have H1 := Lib.hid (HB.out.2.then f1)
         clear f1)
      | fail "no arm")
    go_ret
    exact ⟨ret_int HZ.out.symm, H1.out⟩
end Go.Proofs.YtmbgejiahmhffaaGreat
