/-
  LAYER 11: MessageNamesStand, the walk.
-/
import Derived.Test.YtmbgejiahmhffaaGreatCMlv11
import Derived.Test.YtmbgejiahmhffaaGreatCMr8
import Derived.Test.YtmbgejiahmhffaaGreatBunK
namespace Go.Proofs.YtmbgejiahmhffaaGreat
open Go.RowKit
set_option linter.unusedVariables false
set_option linter.unusedSimpArgs false

theorem rsum_le24 : ∀ (l : List Rcd), (∀ r ∈ l, r.name.size ≤ 400 ∧ r.d.light ≤ 2000) → rsum l ≤ l.length * 2451
  | [], _ => Nat.le_refl _
  | r :: l, h => by
    have h1 := (rlight_size (r := r) (by have := h r (by simp); simp [rlight, this.1, this.2])).1
    have h2 := rsum_le24 l fun x hx => h x (by simp [hx])
    rw [rsum, List.length_cons]
    omega
theorem qsum_le24 : ∀ (l : List Qn), (∀ q ∈ l, q.1.size ≤ 400) → qsum l ≤ l.length * 2451
  | [], _ => Nat.le_refl _
  | q :: l, h => by
    have h1 := h q (by simp)
    have h2 := qsum_le24 l fun x hx => h x (by simp [hx])
    rw [qsum, List.length_cons]
    omega
theorem light_size {h : Hd} {lq : List Qn} {la lb lc : RLm} (hl : lq.length + (la ++ lb ++ lc).length ≤ 24) (hq : ∀ q ∈ lq, q.1.size ≤ 400) (hr : ∀ x ∈ la ++ lb ++ lc, x.1.name.size ≤ 400 ∧ x.1.d.light ≤ 2000) : (msOf h lq la lb lc).size + 2000 ≤ 65535 := by
  have key : ∀ l : RLm, (∀ x ∈ l, x ∈ la ++ lb ++ lc) → rsum (l.map Prod.fst) ≤ l.length * 2451 := fun l hs => by
    have := rsum_le24 (l.map Prod.fst) fun r hx => by
      obtain ⟨x, hx', rfl⟩ := List.mem_map.1 hx
      exact hr x (hs x hx')
    rwa [List.length_map] at this
  have h1 := qsum_le24 lq hq
  have h2 := key la fun x hx => by simp [hx]
  have h3 := key lb fun x hx => by simp [hx]
  have h4 := key lc fun x hx => by simp [hx]
  rw [List.length_append, List.length_append] at hl
  show 12 + qsum lq + rsum (la.map Prod.fst) + rsum (lb.map Prod.fst) + rsum (lc.map Prod.fst) + 2000 ≤ 65535
  omega
theorem uread_not_on {s : List UInt8} {f : Bool} {x y : Un} : uread s f x ≠ .on y := by
  generalize hm : x.mu s = m
  induction m using Nat.strongRecOn generalizing x with
  | _ m ih =>
    intro h
    cases hst : x.step s f with
    | done z => rw [uread_done hst] at h; cases h
    | bad e => rw [uread_bad hst] at h; cases h
    | on z => rw [uread_on hst] at h; exact ih _ (by rw [← hm]; exact Un.step_mu hst) rfl h
theorem qreadN_name {S : List UInt8} {a m : Nat} {q : Qn} (h : qreadN S (a : Nat) = (q, ((m : Nat) : Int), 0)) : a ≤ S.length ∧ m ≤ S.length ∧ ∃ y, uread S true ⟨a, a, -1, 0, []⟩ = .done y ∧ (⟨y.out.toArray⟩ : ByteArray) = q.1 ∧ y.fin = ((m : Nat) : Int) - 4 := by
  unfold qreadN at h
  split at h
  · injection h with _ h
    injection h with _ h
    cases h
  · rename_i h0
    have ha : a ≤ S.length := by omega
    rw [Int.toNat_natCast] at h
    split at h
    · rename_i z hz
      obtain ⟨_, _, b1, b2, _⟩ := un_bounds (UInv.start S a ha) hz
      split at h
      · injection h with _ h
        injection h with _ h
        cases h
      · injection h with h1 h
        injection h with h2 h3
        refine ⟨ha, by omega, z, hz, by rw [← h1], by omega⟩
    · rename_i e he
      injection h with _ h
      injection h with _ h
      exact absurd h (uread_bad_ne he)
    · rename_i x hx
      exact absurd hx uread_not_on
theorem put_light {h : Hd} {Aq : Option Addr} {lq : List Qn} {cq : Nat} {Aa : Option Addr} {la : RLm} {ca : Nat} {Ab : Option Addr} {lb : RLm} {cb : Nat} {Ac : Option Addr} {lc : RLm} {cc : Nat} {w : World} (hm : MsIn w h Aq lq cq Aa la ca Ab lb cb Ac lc cc) (hs : (msOf h lq la lb lc).size + 2000 ≤ 65535) (hc : mcheckB (msOf h lq la lb lc) = 0) :
    ∃ S : ByteArray, S.size ≤ 65535 ∧ MReads S.data.toList (msOf h lq la lb lc) ∧ ∀ W, Fr (fun _ => False) w W → Calls Tryz.prog 12 #[.agg #[.int .u16 h.id, .bool h.resp, .int .i64 h.op, .bool h.aa, .bool h.tc, .bool h.rd, .bool h.ra, .bool h.ad, .bool h.cd, .int .i64 h.rc, .int .i64 h.c0, .int .i64 h.c1, .int .i64 h.c2, .int .i64 h.c3, .slice Aq lq.length cq, .slice Aa la.length ca, .slice Ab lb.length cb, .slice Ac lc.length cc], .int .i64 65535] W fun e w' => e = .returned (.tuple #[.string S, .int .i64 0]) ∧ Fr (fun _ => False) W w' := by
  have hf := (mcheck_fine hm.light).1 hc
  obtain ⟨h1, h2, _⟩ := mput_reads hf hs
  refine ⟨⟨(mputB (msOf h lq la lb lc)).x.b.toArray⟩, ?_, by simpa using h1, fun W hW => ?_⟩
  · show (mputB (msOf h lq la lb lc)).x.b.toArray.size ≤ 65535
    rw [List.size_toArray]
    omega
  · have := mput_any h Aq lq cq Aa la ca Ab lb cb Ac lc cc 65535 W (hm.fr0 hW) hs
    rw [mputR_fits hc (by have : roomN 65535 = 65535 := by decide
                          omega)] at this
    exact this
set_option maxRecDepth 100000 in
set_option maxHeartbeats 16000000 in
theorem stand_any (h : Hd) (Aq : Option Addr) (lq : List Qn) (cq : Nat) (Aa : Option Addr) (la : RLm) (ca : Nat) (Ab : Option Addr) (lb : RLm) (cb : Nat) (Ac : Option Addr) (lc : RLm) (cc : Nat) (w : World) (hm : MsIn w h Aq lq cq Aa la ca Ab lb cb Ac lc cc) :
    Calls Tryz.prog 3 #[.agg #[.int .u16 h.id, .bool h.resp, .int .i64 h.op, .bool h.aa, .bool h.tc, .bool h.rd, .bool h.ra, .bool h.ad, .bool h.cd, .int .i64 h.rc, .int .i64 h.c0, .int .i64 h.c1, .int .i64 h.c2, .int .i64 h.c3, .slice Aq lq.length cq, .slice Aa la.length ca, .slice Ab lb.length cb, .slice Ac lc.length cc]] w (EqPost w true) := by
  obtain ⟨W, hW⟩ : ∃ W, W = w.alloc (.cells #[.int .u16 h.id, .bool h.resp, .int .i64 h.op, .bool h.aa, .bool h.tc, .bool h.rd, .bool h.ra, .bool h.ad, .bool h.cd, .int .i64 h.rc, .int .i64 h.c0, .int .i64 h.c1, .int .i64 h.c2, .int .i64 h.c3, .slice Aq lq.length cq, .slice Aa la.length ca, .slice Ab lb.length cb, .slice Ac lc.length cc] 29) := ⟨_, rfl⟩
  have b1 : Blk W w.heap.size 29 #[.int .u16 h.id, .bool h.resp, .int .i64 h.op, .bool h.aa, .bool h.tc, .bool h.rd, .bool h.ra, .bool h.ad, .bool h.cd, .int .i64 h.rc, .int .i64 h.c0, .int .i64 h.c1, .int .i64 h.c2, .int .i64 h.c3, .slice Aq lq.length cq, .slice Aa la.length ca, .slice Ab lb.length cb, .slice Ac lc.length cc] := by rw [hW]; exact Blk.new _ _ _
  have hf : Fr (fun _ => False) w W := by rw [hW]; exact (Fr.refl _ _).alloc _
  have nq := hm.qz.1
  have na := hm.az.1
  have nb := hm.bz.1
  have nc := hm.cz.1
  obtain ⟨ck, hck⟩ : ∃ c, c = mcheckB (msOf h lq la lb lc) := ⟨_, rfl⟩
  have HCK := Lib.hid hck
  have HB := Lib.hid (And.intro b1 hf)
  have HM := Lib.hid hm
  have HW := Lib.hid hW
  clear b1 hf hW hm hck
  go_enter Tryz.func3, Tryz.ntmps3
  go_upto_region 1 with fail
  rw [← HW.out]
  clear HW
  go_upto_if 19 with (first
    | (go_at_call 9
       (with_reducible refine (lives11_any W).mono ?_)
       rintro e w1 ⟨rfl, f1⟩
       have H1 := Lib.hid (And.intro (HB.out.1.fr f1 id) (HB.out.2.then f1))
       clear f1)
    | (refine wpList_load_blk rfl 29 _ rfl w.heap.size (by rfl) 29 _ _ H1.out.1 Tryz.underlying29 rfl (by kernel_rfl) ?_)
    | (go_at_call 10
       (with_reducible refine (lightm_any h Aq lq cq Aa la ca Ab lb cb Ac lc cc w1 (HM.out.fr0 H1.out.2)).mono ?_)
       rintro e w2 ⟨bb, rfl, f2, hbb⟩
       have H2 := Lib.hid (And.intro (H1.out.1.fr f2 id) (H1.out.2.then f2))
       have HL := Lib.hid hbb
       clear f2 hbb
       rcases bb with _ | _)
    | (refine wpList_load_mid_g (by rfl) 29 _ rfl w.heap.size 0 (by rfl) [.int .u16 h.id, .bool h.resp, .int .i64 h.op, .bool h.aa, .bool h.tc, .bool h.rd, .bool h.ra, .bool h.ad, .bool h.cd, .int .i64 h.rc, .int .i64 h.c0, .int .i64 h.c1, .int .i64 h.c2, .int .i64 h.c3, .slice Aq lq.length cq, .slice Aa la.length ca, .slice Ab lb.length cb, .slice Ac lc.length cc] _ (blk_rg0 H2.out.1) Tryz.underlying29 rfl (by kernel_rfl) ?_)
    | (go_at_call 11
       (with_reducible refine (mcheck_any h Aq lq cq Aa la ca Ab lb cb Ac lc cc w2 (HM.out.fr0 H2.out.2)).mono ?_)
       rintro e w3 ⟨rfl, f3⟩
       rw [← HCK.out]
       have H3 := Lib.hid (And.intro (H2.out.1.fr f3 id) (H2.out.2.then f3))
       clear f3)
    | fail "no arm")
  · go_wp2_with fail
    go_ret
    exact ⟨rfl, H2.out.2⟩
  · by_cases hc : ck = 0
    · have t1 : (ck != 0) = false := by simp [hc]
      have HC0 := Lib.hid (HCK.out.symm.trans hc)
      clear hc
      obtain ⟨hl1, hl2, hl3⟩ := HL.out (by trivial)
      obtain ⟨S, hS, hMR, hput⟩ := put_light HM.out (light_size hl1 hl2 hl3) HC0.out
      obtain ⟨_, a, b, c, hqr, har, hbr, hcr⟩ := hMR
      have HP := Lib.hid hput
      have hSl : S.data.toList.length = S.size := size_l S
      have HS := Lib.hid (And.intro hSl (show S.size ≤ 140737488351232 by omega))
      have HQR := Lib.hid (show QReads S.data.toList 12 lq a from hqr)
      have HEND := Lib.hid (show la.length + lb.length + lc.length = 0 → a = S.size from fun h0 => by
        have e1 : la = [] := List.length_eq_zero_iff.1 (by omega)
        have e2 : lb = [] := List.length_eq_zero_iff.1 (by omega)
        have e3 : lc = [] := List.length_eq_zero_iff.1 (by omega)
        subst e1 e2 e3
        have x1 : a = b := har
        have x2 : b = c := hbr
        have x3 : c = S.data.toList.length := hcr
        omega)
      clear hl1 hl2 hl3 hput hSl hqr har hbr hcr
      go_wp2_with (first
        | (refine wpList_load_blk rfl 29 _ rfl w.heap.size (by rfl) 29 _ _ H3.out.1 Tryz.underlying29 rfl (by kernel_rfl) ?_)
        | (go_at_call 12
           (with_reducible refine (HP.out w3 H3.out.2).mono ?_)
           rintro e w4 ⟨rfl, f4⟩
           have H4 := Lib.hid (And.intro (H3.out.1.fr f4 id) (H3.out.2.then f4))
           clear f4)
        | fail "no arm")
      go_loopg [5, 6] lq.length (fun gh at_ i wr => ∃ k p : Nat, gh = lq.length - k ∧ k ≤ lq.length ∧ i = .int .i64 (k : Nat) ∧ at_ = .int .i64 (p : Nat) ∧ QReads S.data.toList p (lq.drop k) a ∧ w4 = wr)
      case atStart => exact ⟨0, 12, rfl, Nat.zero_le _, rfl, rfl, HQR.out, rfl⟩
      case round =>
        obtain ⟨k, p, hgh, hk, rfl, rfl, hq, rfl⟩ := hrel
        have HQ := Lib.hid (And.intro hgh hq)
        clear hgh hq
        have d14 : w4.cell? ⟨w.heap.size, 14, none⟩ = some (.slice Aq lq.length cq) := H4.out.1.cell 14
        by_cases hlt : k < lq.length
        · obtain ⟨x, hx⟩ : ∃ x, lq[k]? = some x := ⟨lq[k], List.getElem?_eq_getElem hlt⟩
          have hdr : lq.drop k = x :: lq.drop (k + 1) := by
            rw [List.drop_eq_getElem_cons hlt]
            rw [List.getElem?_eq_getElem hlt] at hx
            injection hx with hx
            rw [hx]
          have hq := HQ.out.2
          rw [hdr] at hq
          obtain ⟨m, hq1, hq2⟩ := hq
          obtain ⟨hpl, hml, y, hy1, hy2, hy3⟩ := qreadN_name hq1
          rw [HS.out.1] at hpl hml
          obtain ⟨b, off, rfl, hbs, g0, g1, g2⟩ := rowIn_q (rowIn_fr0 HM.out.q H4.out.2) hx
          have hxs := (HM.out.qk x (List.mem_of_getElem? hx)).1
          have HY := Lib.hid (And.intro hy1 (And.intro hy2 (And.intro hy3 (And.intro hq2 hpl))))
          have hk0 : (0 : Int) ≤ (k : Int) := by omega
          clear g1 g2 hx hdr hq1 hq2 hy1 hy2 hy3
          go_wp2_with (first
            | (go_at_call 13
               (with_reducible refine (rname8_done S p _ HS.out.2 HY.out.2.2.2.2 HY.out.1).mono ?_)
               rintro e w5 ⟨rfl, rfl⟩
               rw [HY.out.2.1, HY.out.2.2.1])
            | fail "no arm")
          go_roundg (lq.length - (k + 1))
          case measure => have := HQ.out.1; omega
          case rel => exact ⟨k + 1, m, rfl, hlt, by go_num, by go_num, HY.out.2.2.2.1, rfl⟩
        · have hke : k = lq.length := by omega
          subst hke
          have hpa : p = a := by have := HQ.out.2; rw [List.drop_length] at this; exact this
          have HPA := Lib.hid hpa
          clear hlt hpa
          obtain ⟨l, hl⟩ : ∃ l, l = la ++ lb ++ lc := ⟨_, rfl⟩
          have HRC := Lib.hid (show ∀ W, Fr (fun _ => False) w W → Calls Tryz.prog 14 #[.agg #[.int .u16 h.id, .bool h.resp, .int .i64 h.op, .bool h.aa, .bool h.tc, .bool h.rd, .bool h.ra, .bool h.ad, .bool h.cd, .int .i64 h.rc, .int .i64 h.c0, .int .i64 h.c1, .int .i64 h.c2, .int .i64 h.c3, .slice Aq lq.length cq, .slice Aa la.length ca, .slice Ab lb.length cb, .slice Ac lc.length cc]] W (OwnPost W l) from fun W f => by
            rw [hl]
            exact recs_any h Aq lq.length cq Aa la ca Ab lb cb Ac lc cc W (rowIn_fr0 HM.out.a f) (rowIn_fr0 HM.out.b f) (rowIn_fr0 HM.out.c f) na nb nc)
          have hll : l.length = la.length + lb.length + lc.length := by rw [hl, List.length_append, List.length_append]
          clear hl
          by_cases h0 : l.length = 0
          · have hps : p = S.size := HPA.out.trans (HEND.out (by omega))
            subst hps
            have h1 : l = [] := List.length_eq_zero_iff.1 h0
            subst h1
            clear h0 hll
            go_wp2_with (first
              | (refine wpList_load_blk rfl 29 _ rfl w.heap.size (by rfl) 29 _ _ H4.out.1 Tryz.underlying29 rfl (by kernel_rfl) ?_)
              | (go_at_call 14
                 (with_reducible refine (HRC.out w4 H4.out.2).mono ?_)
                 rintro e w5 ⟨A5, c5, rfl, o1, o2, o3⟩
                 have H5 := Lib.hid (H4.out.2.then o3)
                 clear o1 o2 o3)
              | fail "no arm")
            go_ret
            exact ⟨rfl, H5.out⟩
          · have h1 : ¬ l = [] := fun h => h0 (by rw [h]; rfl)
            have h2 : decide (l = []) = false := decide_eq_false h1
            have h3 : (0 : Int) < (l.length : Int) := by omega
            have h4 : decide ((0 : Int) < (l.length : Int)) = true := decide_eq_true h3
            clear h0 hll
            go_wp2_with (first
              | (refine wpList_load_blk rfl 29 _ rfl w.heap.size (by rfl) 29 _ _ H4.out.1 Tryz.underlying29 rfl (by kernel_rfl) ?_)
              | (go_at_call 14
                 (with_reducible refine (HRC.out w4 H4.out.2).mono ?_)
                 rintro e w5 ⟨A5, c5, rfl, o1, o2, o3⟩
                 have H5 := Lib.hid (H4.out.2.then o3)
                 clear o1 o2 o3)
              | fail "no arm")
            go_ret
            exact ⟨rfl, H5.out⟩
    · have t1 : (ck != 0) = true := by simp [hc]
      clear hc
      go_wp2_with fail
      go_ret
      exact ⟨rfl, H3.out.2⟩
theorem messageNamesStand_walk (h : Hd) (Aq : Option Addr) (lq : List Qn) (cq : Nat) (Aa : Option Addr) (la : RLm) (ca : Nat) (Ab : Option Addr) (lb : RLm) (cb : Nat) (Ac : Option Addr) (lc : RLm) (cc : Nat) (w : World) (hm : MsIn w h Aq lq cq Aa la ca Ab lb cb Ac lc cc) :
    Calls Tryz.prog 3 #[mval h Aq lq cq Aa la ca Ab lb cb Ac lc cc] w fun e w' => e = .returned (.bool true) ∧ Below w.heap.size w w' :=
  (stand_any h Aq lq cq Aa la ca Ab lb cb Ac lc cc w hm).mono fun e w' ⟨h1, h2⟩ => ⟨h1, h2.below (fun k hk => hk.elim) (Nat.le_refl _)⟩
end Go.Proofs.YtmbgejiahmhffaaGreat
