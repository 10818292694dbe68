/-
  LAYER 11: message.Cut, where what is put does not fit.
-/
import Derived.Test.YtmbgejiahmhffaaGreatTMcp
import Derived.Test.YtmbgejiahmhffaaGreatTMcq
import Derived.Test.YtmbgejiahmhffaaGreatTMlm
import Derived.WalkMore
import Derived.StillTailTactics
namespace Go.Proofs.YtmbgejiahmhffaaGreat
open Go.RowKit
set_option linter.unusedVariables false
set_option linter.unusedSimpArgs false

/-- The message as it stands while it is cut. -/
structure CutB (w0 wr : World) (V : Nat) (h : Hd) (Aq : Option Addr) (lq : List Qn) (cq : Nat) (Aa : Option Addr) (nA ca : Nat) (Ab : Option Addr) (nB cb : Nat) (Ac : Option Addr) (nC cc : Nat) : Prop where
  m : Blk wr w0.heap.size 29 #[.int .u16 h.id, .bool h.resp, .int .i64 h.op, .bool h.aa, .bool true, .bool h.rd, .bool h.ra, .bool h.ad, .bool h.cd, .int .i64 h.rc, .int .i64 (lq.length : Nat), .int .i64 (nA : Nat), .int .i64 (nB : Nat), .int .i64 (nC : Nat), .slice Aq lq.length cq, .slice Aa nA ca, .slice Ab nB cb, .slice Ac nC cc]
  v : Blk wr V 73 #[.pointer (some ⟨w0.heap.size, 15, none⟩), .pointer (some ⟨w0.heap.size, 16, none⟩), .pointer (some ⟨w0.heap.size, 17, none⟩)]
  f : Fr (fun _ => False) w0 wr
theorem cnts_any (h : Hd) (Aq : Option Addr) (nq : Nat) (cq : Nat) (Aa : Option Addr) (nA ca : Nat) (Ab : Option Addr) (nB cb : Nat) (Ac : Option Addr) (nC cc : Nat) (c0 c1 c2 c3 : Int) (w : World) (n0 : nq ≤ 1048576) (n1 : nA ≤ 1048576) (n2 : nB ≤ 1048576) (n3 : nC ≤ 1048576) :
    Calls Tryz.prog 28 #[.agg #[.int .u16 h.id, .bool h.resp, .int .i64 h.op, .bool h.aa, .bool true, .bool h.rd, .bool h.ra, .bool h.ad, .bool h.cd, .int .i64 h.rc, .int .i64 c0, .int .i64 c1, .int .i64 c2, .int .i64 c3, .slice Aq nq cq, .slice Aa nA ca, .slice Ab nB cb, .slice Ac nC cc]] w fun e w' => e = .returned (.agg #[.int .i64 (nq : Nat), .int .i64 (nA : Nat), .int .i64 (nB : Nat), .int .i64 (nC : Nat)]) ∧ Fr (fun _ => False) w w' := by
  have x0 : Rcd × Option Addr × Nat := Classical.choice ⟨(⟨⟨#[]⟩, 0, 0, 0, ⟨false, 0, 0, ⟨#[]⟩, ⟨#[]⟩, 0, 0, 0, 0, 0, [], ⟨#[]⟩⟩⟩, none, 0)⟩
  have q0 : Qn := (⟨#[]⟩, 0, 0)
  have := counts_any ⟨h.id, h.resp, h.op, h.aa, true, h.rd, h.ra, h.ad, h.cd, h.rc, c0, c1, c2, c3⟩ Aq (List.replicate nq q0) cq Aa (List.replicate nA x0) ca Ab (List.replicate nB x0) cb Ac (List.replicate nC x0) cc w (by simpa using n0) (by simpa using n1) (by simpa using n2) (by simpa using n3)
  simp only [List.length_replicate] at this
  exact this
theorem CutB.fr {w0 wr w' : World} {V : Nat} {h : Hd} {Aq : Option Addr} {lq : List Qn} {cq : Nat} {Aa : Option Addr} {nA ca : Nat} {Ab : Option Addr} {nB cb : Nat} {Ac : Option Addr} {nC cc : Nat} (H : CutB w0 wr V h Aq lq cq Aa nA ca Ab nB cb Ac nC cc) (f : Fr (fun _ => False) wr w') : CutB w0 w' V h Aq lq cq Aa nA ca Ab nB cb Ac nC cc := ⟨H.m.fr f id, H.v.fr f id, H.f.then f⟩
set_option maxRecDepth 100000 in
set_option maxHeartbeats 16000000 in
theorem cut_long (h : Hd) (Aq : Option Addr) (lq : List Qn) (cq : Nat) (Aa : Option Addr) (la : RLm) (ca : Nat) (Ab : Option Addr) (lb : RLm) (cb : Nat) (Ac : Option Addr) (lc : RLm) (cc : Nat) (M : Int) (w : World) (hm : MsIn w h Aq lq cq Aa la ca Ab lb cb Ac lc cc) (hs : (msOf h lq la lb lc).size + 2000 ≤ 65535) (hc : mcheckB (msOf h lq la lb lc) = 0) (hl : roomN M < (mputB (msOf h lq la lb lc)).x.b.length) :
    Calls Tryz.prog 15 #[.agg #[.int .u16 h.id, .bool h.resp, .int .i64 h.op, .bool h.aa, .bool h.tc, .bool h.rd, .bool h.ra, .bool h.ad, .bool h.cd, .int .i64 h.rc, .int .i64 h.c0, .int .i64 h.c1, .int .i64 h.c2, .int .i64 h.c3, .slice Aq lq.length cq, .slice Aa la.length ca, .slice Ab lb.length cb, .slice Ac lc.length cc], .int .i64 M] w (PutPost w (cutFind M (cutMs h lq la lb lc) (la.length + lb.length + lc.length))) := by
  obtain ⟨W, hW⟩ : ∃ W, W = w.alloc (.cells #[.int .u16 h.id, .bool h.resp, .int .i64 h.op, .bool h.aa, .bool h.tc, .bool h.rd, .bool h.ra, .bool h.ad, .bool h.cd, .int .i64 h.rc, .int .i64 h.c0, .int .i64 h.c1, .int .i64 h.c2, .int .i64 h.c3, .slice Aq lq.length cq, .slice Aa la.length ca, .slice Ab lb.length cb, .slice Ac lc.length cc] 29) := ⟨_, rfl⟩
  have b1 : Blk W w.heap.size 29 #[.int .u16 h.id, .bool h.resp, .int .i64 h.op, .bool h.aa, .bool h.tc, .bool h.rd, .bool h.ra, .bool h.ad, .bool h.cd, .int .i64 h.rc, .int .i64 h.c0, .int .i64 h.c1, .int .i64 h.c2, .int .i64 h.c3, .slice Aq lq.length cq, .slice Aa la.length ca, .slice Ab lb.length cb, .slice Ac lc.length cc] := by rw [hW]; exact Blk.new _ _ _
  have hf : Fr (fun _ => False) w W := by rw [hW]; exact (Fr.refl _ _).alloc _
  have hfine := (mcheck_fine hm.light).1 hc
  obtain ⟨k0, k1, k2, k3⟩ := cut_all hfine
  have HB := Lib.hid (And.intro b1 hf)
  have HM := Lib.hid hm
  have HW := Lib.hid hW
  have HK := Lib.hid (And.intro k0 (And.intro k1 (And.intro k2 k3)))
  obtain ⟨f, hf'⟩ : ∃ f, f = cutMs h lq la lb lc := ⟨_, rfl⟩
  rw [← hf']
  obtain ⟨R, hR⟩ : ∃ R, R = cutFind M f (la.length + lb.length + lc.length) := ⟨_, rfl⟩
  rw [← hR]
  have HR := Lib.hid hR
  have HP0 := Lib.hid (show ∀ W, Fr (fun _ => False) w W → Calls Tryz.prog 12 #[.agg #[.int .u16 h.id, .bool h.resp, .int .i64 h.op, .bool h.aa, .bool h.tc, .bool h.rd, .bool h.ra, .bool h.ad, .bool h.cd, .int .i64 h.rc, .int .i64 h.c0, .int .i64 h.c1, .int .i64 h.c2, .int .i64 h.c3, .slice Aq lq.length cq, .slice Aa la.length ca, .slice Ab lb.length cb, .slice Ac lc.length cc], .int .i64 M] W fun e w' => e = .returned (.tuple #[.string ⟨#[]⟩, .int .i64 3]) ∧ Fr (fun _ => False) W w' from fun W hW => by
    have := mput_any h Aq lq cq Aa la ca Ab lb cb Ac lc cc M W (hm.fr0 hW) hs
    rw [mputR_long hc hl] at this
    exact this)
  have HC0 := Lib.hid (show ∀ W, Fr (fun _ => False) w W → Calls Tryz.prog 11 #[.agg #[.int .u16 h.id, .bool h.resp, .int .i64 h.op, .bool h.aa, .bool h.tc, .bool h.rd, .bool h.ra, .bool h.ad, .bool h.cd, .int .i64 h.rc, .int .i64 h.c0, .int .i64 h.c1, .int .i64 h.c2, .int .i64 h.c3, .slice Aq lq.length cq, .slice Aa la.length ca, .slice Ab lb.length cb, .slice Ac lc.length cc]] W (IntPost W 0) from fun W hW => by
    have := mcheck_any h Aq lq cq Aa la ca Ab lb cb Ac lc cc W (hm.fr0 hW)
    rw [hc] at this
    exact this)
  have hput : ∀ (k nA nB nC : Nat), nA = min k la.length → nB = min (k - la.length) lb.length → nC = min (k - la.length - lb.length) lc.length → ∀ W, Fr (fun _ => False) w W → Calls Tryz.prog 12 #[.agg #[.int .u16 h.id, .bool h.resp, .int .i64 h.op, .bool h.aa, .bool true, .bool h.rd, .bool h.ra, .bool h.ad, .bool h.cd, .int .i64 h.rc, .int .i64 (lq.length : Nat), .int .i64 (nA : Nat), .int .i64 (nB : Nat), .int .i64 (nC : Nat), .slice Aq lq.length cq, .slice Aa nA ca, .slice Ab nB cb, .slice Ac nC cc], .int .i64 M] W (PutPost W (mputR M (f k))) := fun k nA nB nC e1 e2 e3 W hW => by
    have hfk := cut_fine hfine k
    have hsk := cut_size h lq la lb lc k
    have := mput_any (hcut h lq.length (min k la.length) (min (k - la.length) lb.length) (min (k - la.length - lb.length) lc.length)) Aq lq cq Aa (la.take k) ca Ab (lb.take (k - la.length)) cb Ac (lc.take (k - la.length - lb.length)) cc M W ((hm.cut hfk.1 _ _ _).fr0 hW) (by show (cutMs h lq la lb lc k).size + 2000 ≤ 65535; omega)
    rw [List.length_take, List.length_take, List.length_take] at this
    subst e1 e2 e3
    rw [hf']
    exact this
  have hput1 : ∀ (k nA nB nC : Nat), nA = min k la.length → nB = min (k - la.length) lb.length → nC = min (k - la.length - lb.length) lc.length → (mputB (f k)).x.b.length ≤ roomN M → ∀ W, Fr (fun _ => False) w W → Calls Tryz.prog 12 #[.agg #[.int .u16 h.id, .bool h.resp, .int .i64 h.op, .bool h.aa, .bool true, .bool h.rd, .bool h.ra, .bool h.ad, .bool h.cd, .int .i64 h.rc, .int .i64 (lq.length : Nat), .int .i64 (nA : Nat), .int .i64 (nB : Nat), .int .i64 (nC : Nat), .slice Aq lq.length cq, .slice Aa nA ca, .slice Ab nB cb, .slice Ac nC cc], .int .i64 M] W (PutPost W ((mputB (f k)).x.b, 0)) := fun k nA nB nC e1 e2 e3 hl W hW => by
    have := hput k nA nB nC e1 e2 e3 W hW
    rwa [mputR_fits (by rw [hf']; exact (mcheck_fine (by have := cut_fine hfine k; exact ⟨this.1, fun r hr => (this.2.2.2.2.1 r hr).1, fun r hr => (this.2.2.2.2.2.1 r hr).1, fun r hr => (this.2.2.2.2.2.2 r hr).1⟩)).2 (cut_fine hfine k)) hl] at this
  have hput2 : ∀ (k nA nB nC : Nat), nA = min k la.length → nB = min (k - la.length) lb.length → nC = min (k - la.length - lb.length) lc.length → roomN M < (mputB (f k)).x.b.length → ∀ W, Fr (fun _ => False) w W → Calls Tryz.prog 12 #[.agg #[.int .u16 h.id, .bool h.resp, .int .i64 h.op, .bool h.aa, .bool true, .bool h.rd, .bool h.ra, .bool h.ad, .bool h.cd, .int .i64 h.rc, .int .i64 (lq.length : Nat), .int .i64 (nA : Nat), .int .i64 (nB : Nat), .int .i64 (nC : Nat), .slice Aq lq.length cq, .slice Aa nA ca, .slice Ab nB cb, .slice Ac nC cc], .int .i64 M] W fun e w' => e = .returned (.tuple #[.string ⟨#[]⟩, .int .i64 3]) ∧ Fr (fun _ => False) W w' := fun k nA nB nC e1 e2 e3 hl W hW => by
    have := hput k nA nB nC e1 e2 e3 W hW
    rwa [mputR_long (by rw [hf']; exact (mcheck_fine (by have := cut_fine hfine k; exact ⟨this.1, fun r hr => (this.2.2.2.2.1 r hr).1, fun r hr => (this.2.2.2.2.2.1 r hr).1, fun r hr => (this.2.2.2.2.2.2 r hr).1⟩)).2 (cut_fine hfine k)) hl] at this
  have HP := Lib.hid (And.intro hput1 hput2)
  have HN := Lib.hid (And.intro hm.qz.1 (And.intro hm.az.1 (And.intro hm.bz.1 hm.cz.1)))
  have na : la.length ≤ ca := hm.az.2.2.2.1
  have nb : lb.length ≤ cb := hm.bz.2.2.2.1
  have nc : lc.length ≤ cc := hm.cz.2.2.2.1
  have na1 : la.length ≤ 1048576 := hm.az.1
  have nb1 : lb.length ≤ 1048576 := hm.bz.1
  have nc1 : lc.length ≤ 1048576 := hm.cz.1
  have HAS := Lib.hid (And.intro hm.a (And.intro hm.b hm.c))
  clear b1 hf hW hfine k0 k1 k2 k3 hm hR hput hput1 hput2 hf' hs hc hl
  go_enter Tryz.func15, Tryz.ntmps15
  go_upto_region 1 with fail
  rw [← HW.out]
  clear HW
  go_upto_region 4 with (first
    | (refine wpList_load_blk rfl 29 _ rfl w.heap.size (by rfl) 29 _ _ HB.out.1 Tryz.underlying29 rfl (by kernel_rfl) ?_)
    | (go_at_call 12
       (with_reducible refine (HP0.out W HB.out.2).mono ?_)
       rintro e w1 ⟨rfl, f1⟩
       have H1 := Lib.hid (And.intro (HB.out.1.fr f1 id) (HB.out.2.then f1))
       clear f1)
    | (refine wpList_load_mid_g (by rfl) 29 _ rfl w.heap.size 0 (by rfl) [.int .u16 h.id, .bool h.resp, .int .i64 h.op, .bool h.aa, .bool h.tc, .bool h.rd, .bool h.ra, .bool h.ad, .bool h.cd, .int .i64 h.rc, .int .i64 h.c0, .int .i64 h.c1, .int .i64 h.c2, .int .i64 h.c3, .slice Aq lq.length cq, .slice Aa la.length ca, .slice Ab lb.length cb, .slice Ac lc.length cc] _ (blk_rg0 H1.out.1) Tryz.underlying29 rfl (by kernel_rfl) ?_)
    | (go_at_call 11
       (with_reducible refine (HC0.out w1 H1.out.2).mono ?_)
       rintro e w2 ⟨rfl, f2⟩
       have H2 := Lib.hid (And.intro (H1.out.1.fr f2 id) (H1.out.2.then f2))
       clear f2)
    | fail "no arm")
  have z4 : w2.frozen? ⟨w.heap.size, 4, none⟩ = false := H2.out.1.frozen 4
  have c4 : w2.cell? ⟨w.heap.size, 4, none⟩ = some (.bool h.tc) := H2.out.1.cell 4
  go_upto_region 5 with fail
  clear z4 c4
  have b3 : Blk (w2.setCell ⟨w.heap.size, 4, none⟩ (.bool true)) w.heap.size 29 #[.int .u16 h.id, .bool h.resp, .int .i64 h.op, .bool h.aa, .bool true, .bool h.rd, .bool h.ra, .bool h.ad, .bool h.cd, .int .i64 h.rc, .int .i64 (lq.length : Nat), .int .i64 (la.length : Nat), .int .i64 (lb.length : Nat), .int .i64 (lc.length : Nat), .slice Aq lq.length cq, .slice Aa la.length ca, .slice Ab lb.length cb, .slice Ac lc.length cc] := by
    have := H2.out.1.set_ 4 (.bool true)
    rw [HK.out.1, HK.out.2.1, HK.out.2.2.1, HK.out.2.2.2] at this
    exact this
  have f3 : Fr (fun _ => False) w (w2.setCell ⟨w.heap.size, 4, none⟩ (.bool true)) := H2.out.2.step (Fr.setCell (S := (· = w.heap.size)) (Fr.refl _ w2) (p := ⟨w.heap.size, 4, none⟩) (fun _ => rfl) _) (fun k hk => .inr (by subst hk; exact Nat.le_refl _))
  generalize w2.setCell ⟨w.heap.size, 4, none⟩ (.bool true) = w3 at *
  have H3 := Lib.hid (And.intro b3 f3)
  clear b3 f3
  go_wp2_with (first
    | (go_at_call 30
       (with_reducible refine (rows_any w.heap.size w3 H3.out.1.lt).mono ?_)
       rintro e w4 ⟨rfl, f4⟩
       have H4 := Lib.hid (And.intro (H3.out.1.fr f4 id) (H3.out.2.then f4))
       clear f4)
    | (refine wpList_store_part rfl 73 _ _ rfl w4.heap.size 0 (by rfl) [.pointer (some ⟨w.heap.size, 15, none⟩), .pointer (some ⟨w.heap.size, 16, none⟩), .pointer (some ⟨w.heap.size, 17, none⟩)] (by rfl) 73 _ (Blk.new w4 73 _) (by kernel_rfl) (by simp [Value.oneCell']) (by simp) #[.pointer (some ⟨w.heap.size, 15, none⟩), .pointer (some ⟨w.heap.size, 16, none⟩), .pointer (some ⟨w.heap.size, 17, none⟩)] (by rfl) ?_
       intro w5 b5 f5
       have hne1 : w.heap.size ≠ w4.heap.size := by have := H4.out.1.lt; omega
       have H5 := Lib.hid (CutB.mk ((H4.out.1.alloc _).fr f5 hne1) b5 (H4.out.2.then (((Fr.refl (fun _ => False) w4).alloc _).step f5 (fun k hk => .inr (by subst hk; exact Nat.le_refl _)))) : CutB w w5 w4.heap.size h Aq lq cq Aa la.length ca Ab lb.length cb Ac lc.length cc)
       clear b5 f5 hne1)
    | fail "no arm")
  have HV := Lib.hid (show w4.heap.size ≠ w.heap.size by have := H4.out.1.lt; omega)
  go_loopg [9] (la.length + lb.length + lc.length) (fun gh i wr => ∃ (k nA nB nC : Nat) (iz : Int), gh = k ∧ k ≤ la.length + lb.length + lc.length ∧ i = .int .i64 iz ∧ (-1 ≤ iz ∧ iz ≤ 2) ∧ (iz < 2 → k ≤ la.length + lb.length) ∧ (iz < 1 → k ≤ la.length) ∧ (iz < 0 → k = 0) ∧ (nA = min k la.length ∧ nB = min (k - la.length) lb.length ∧ nC = min (k - la.length - lb.length) lc.length) ∧ R = cutFind M f k ∧ CutB w wr w4.heap.size h Aq lq cq Aa nA ca Ab nB cb Ac nC cc)
  case atStart => exact ⟨_, la.length, lb.length, lc.length, 2, rfl, Nat.le_refl _, rfl, ⟨by decide, by decide⟩, fun h => by omega, fun h => by omega, fun h => by omega, ⟨by omega, by omega, by omega⟩, HR.out, H5.out⟩
  case round =>
    obtain ⟨k, nA, nB, nC, iz, hgh, hk, rfl, hiz, z2, z1, z0, hns, hr, hcb⟩ := hrel
    have HGH := Lib.hid hgh
    have HC := Lib.hid hcb
    have HNS := Lib.hid hns
    have HRK := Lib.hid hr
    clear hcb hr hgh hns
    by_cases hfit : (mputB (f k)).x.b.length ≤ roomN M
    · have HFT := Lib.hid hfit
      clear hfit
      go_wp2_with (first
        | (refine wpList_load_blk rfl 29 _ rfl w.heap.size (by rfl) 29 _ _ HC.out.m Tryz.underlying29 rfl (by kernel_rfl) ?_)
        | (go_at_call 12
           (with_reducible refine (HP.out.1 k nA nB nC HNS.out.1 HNS.out.2.1 HNS.out.2.2 HFT.out wr HC.out.f).mono ?_)
           rintro e w6 ⟨rfl, f6⟩
           have H6 := Lib.hid (HC.out.f.then f6)
           clear f6)
        | fail "no arm")
      first | go_ret2 | (rw [Exit.noGoto_ret]; go_ret2)
      exact ⟨by rw [HRK.out, cutFind_hit HFT.out]; try rfl, H6.out⟩
    · have HFT := Lib.hid (show roomN M < (mputB (f k)).x.b.length by omega)
      clear hfit
      go_wp2_with (first
        | (refine wpList_load_blk rfl 29 _ rfl w.heap.size (by rfl) 29 _ _ HC.out.m Tryz.underlying29 rfl (by kernel_rfl) ?_)
        | (go_at_call 12
           (with_reducible refine (HP.out.2 k nA nB nC HNS.out.1 HNS.out.2.1 HNS.out.2.2 HFT.out wr HC.out.f).mono ?_)
           rintro e w6 ⟨rfl, f6⟩
           have H6 := Lib.hid (HC.out.fr f6)
           clear f6)
        | fail "no arm")
      go_loopg [9] (iz + 1).toNat (fun g2 i wq => ∃ (jz : Int), g2 = (jz + 1).toNat ∧ i = .int .i64 jz ∧ (-1 ≤ jz ∧ jz ≤ 2) ∧ (jz < 2 → k ≤ la.length + lb.length) ∧ (jz < 1 → k ≤ la.length) ∧ (jz < 0 → k = 0) ∧ w6 = wq)
      case atStart => exact ⟨iz, rfl, rfl, hiz, z2, z1, z0, rfl⟩
      case round =>
        obtain ⟨jz, hg2, rfl, hjz, y2, y1, y0, rfl⟩ := hrel
        have HG2 := Lib.hid hg2
        clear hg2 hiz z2 z1 z0
        have d0 : w6.cell? ⟨w4.heap.size, 0, none⟩ = some (.pointer (some ⟨w.heap.size, 15, none⟩)) := H6.out.v.cell 0
        have d1 : w6.cell? ⟨w4.heap.size, 1, none⟩ = some (.pointer (some ⟨w.heap.size, 16, none⟩)) := H6.out.v.cell 1
        have d2 : w6.cell? ⟨w4.heap.size, 2, none⟩ = some (.pointer (some ⟨w.heap.size, 17, none⟩)) := H6.out.v.cell 2
        have d15 : w6.cell? ⟨w.heap.size, 15, none⟩ = some (.slice Aa nA ca) := H6.out.m.cell 15
        have d16 : w6.cell? ⟨w.heap.size, 16, none⟩ = some (.slice Ab nB cb) := H6.out.m.cell 16
        have d17 : w6.cell? ⟨w.heap.size, 17, none⟩ = some (.slice Ac nC cc) := H6.out.m.cell 17
        rcases (show jz = -1 ∨ jz = 0 ∨ jz = 1 ∨ jz = 2 by omega) with rfl | rfl | rfl | rfl
        · have hg0 : k = 0 := y0 (by decide)
          have HG0 := Lib.hid hg0
          go_wp2_with fail
          first | go_ret2 | (rw [Exit.noGoto_ret]; go_ret2)
          refine ⟨?_, H6.out.f⟩
          have h1 := HRK.out
          have h2 := HFT.out
          rw [HG0.out] at h1 h2
          rw [h1, cutFind_none h2]
          rfl
        · by_cases he : nA = 0
          · have hei : (nA : Int) = 0 := by omega
            have hg1 : k ≤ la.length := by have := HNS.out; omega
            have hg0 : k = 0 := by have := HNS.out; omega
            clear d0 d1 d2 d15 d16 d17
            have d0 : w6.cell? ⟨w4.heap.size, 0, none⟩ = some (.pointer (some ⟨w.heap.size, 15, none⟩)) := H6.out.v.cell 0
            have d15 : w6.cell? ⟨w.heap.size, 15, none⟩ = some (.slice Aa 0 ca) := by have := H6.out.m.cell 15; rw [he] at this; exact this
            have HG1 := Lib.hid (And.intro hg1 (show k = 0 by omega))
            go_wp2_with fail
            go_roundg 0
            case measure => have := HG2.out; omega
            case rel => exact ⟨-1, rfl, by go_num, ⟨by decide, by decide⟩, fun _ => by have := HG1.out; omega, fun h => by have := HG1.out; omega, fun h => by have := HG1.out; omega, rfl⟩
          · obtain ⟨n_, rfl⟩ : ∃ m, nA = m + 1 := ⟨nA - 1, by omega⟩
            have hnl : n_ + 1 ≤ la.length := by have := HNS.out; omega
            obtain ⟨b, off, rfl, _⟩ := HAS.out.1 (by rw [flat_len rcl 16 rcl_lenm]; omega)
            have q0 : (((n_ + 1 : Nat) : Int) == 0) = false := by rw [beq_eq_false_iff_ne]; omega
            have q1 : IntKind.i64.wrap (((n_ + 1 : Nat) : Int) - 1) = (n_ : Int) := by rw [IntWalk.i64_in _ (by omega)]; omega
            have q2 : IntKind.i64.wrap (n_ : Int) = (n_ : Int) := IntWalk.i64_in _ (by omega)
            have hcc : n_ + 1 ≤ ca := by omega
            have hcc2 : n_ ≤ ca := by omega
            go_wp2_with fail
            clear d0 d1 d2 d15 d16 d17
            have d0 : w6.drew.cell? ⟨w4.heap.size, 0, none⟩ = some (.pointer (some ⟨w.heap.size, 15, none⟩)) := H6.out.v.drew.cell 0
            have d1 : w6.drew.cell? ⟨w.heap.size, 15, none⟩ = some (.slice (some ⟨b, off, none⟩) (n_ + 1) ca) := H6.out.m.drew.cell 15
            go_still_tail 17, (by kernel_rfl)
            repeat still_step
            try refine wpStill_nil ?_
            change wpList _ _ _ _ _ w6.drew
            have H7 := Lib.hid (H6.out.fr ((Fr.refl (fun _ => False) w6).drew))
            generalize w6.drew = w7 at *
            have zc : w7.frozen? ⟨w.heap.size, 15, none⟩ = false := H7.out.m.frozen 15
            go_upto_region 15 with fail
            clear zc
            have b8 : Blk (w7.setCell ⟨w.heap.size, 15, none⟩ (.slice (some ⟨b, off, none⟩) n_ ca)) w.heap.size 29 #[.int .u16 h.id, .bool h.resp, .int .i64 h.op, .bool h.aa, .bool true, .bool h.rd, .bool h.ra, .bool h.ad, .bool h.cd, .int .i64 h.rc, .int .i64 (lq.length : Nat), .int .i64 ((n_ + 1 : Nat) : Int), .int .i64 (nB : Nat), .int .i64 (nC : Nat), .slice Aq lq.length cq, .slice (some ⟨b, off, none⟩) n_ ca, .slice Ab nB cb, .slice Ac nC cc] := H7.out.m.set_ 15 _
            have v8 : Blk (w7.setCell ⟨w.heap.size, 15, none⟩ (.slice (some ⟨b, off, none⟩) n_ ca)) w4.heap.size 73 #[.pointer (some ⟨w.heap.size, 15, none⟩), .pointer (some ⟨w.heap.size, 16, none⟩), .pointer (some ⟨w.heap.size, 17, none⟩)] := H7.out.v.far (p := ⟨w.heap.size, 15, none⟩) HV.out _
            have f8 : Fr (fun _ => False) w (w7.setCell ⟨w.heap.size, 15, none⟩ (.slice (some ⟨b, off, none⟩) n_ ca)) := H7.out.f.step (Fr.setCell (S := (· = w.heap.size)) (Fr.refl _ w7) (p := ⟨w.heap.size, 15, none⟩) (fun _ => rfl) _) (fun k hk => .inr (by subst hk; exact Nat.le_refl _))
            generalize w7.setCell ⟨w.heap.size, 15, none⟩ (.slice (some ⟨b, off, none⟩) n_ ca) = w8 at *
            have H8 := Lib.hid (And.intro b8 (And.intro v8 f8))
            clear b8 v8 f8 d0 d1
            go_wp2_with (first
              | (refine wpList_load_blk rfl 29 _ rfl w.heap.size (by rfl) 29 _ _ H8.out.1 Tryz.underlying29 rfl (by kernel_rfl) ?_)
              | (go_at_call 28
                 (with_reducible refine (cnts_any h Aq lq.length cq (some ⟨b, off, none⟩) n_ ca Ab nB cb Ac nC cc _ _ _ _ w8 HN.out.1 (by have := HNS.out; omega) (by have := HNS.out; omega) (by have := HNS.out; omega)).mono ?_)
                 rintro e w9 ⟨rfl, f9⟩
                 have H9 := Lib.hid (And.intro (H8.out.1.fr f9 id) (And.intro (H8.out.2.1.fr f9 id) (H8.out.2.2.then f9)))
                 clear f9)
              | (refine wpList_store_part rfl 23 _ _ rfl w.heap.size 10 (by rfl) _ (by rfl) 29 _ H9.out.1 (by kernel_rfl) (by simp [Value.oneCell']) (by simp) #[.int .u16 h.id, .bool h.resp, .int .i64 h.op, .bool h.aa, .bool true, .bool h.rd, .bool h.ra, .bool h.ad, .bool h.cd, .int .i64 h.rc, .int .i64 (lq.length : Nat), .int .i64 (n_ : Nat), .int .i64 (nB : Nat), .int .i64 (nC : Nat), .slice Aq lq.length cq, .slice (some ⟨b, off, none⟩) n_ ca, .slice Ab nB cb, .slice Ac nC cc] (by rfl) ?_
                 intro w10 b10 f10
                 have H10 := Lib.hid (CutB.mk b10 (H9.out.2.1.fr f10 HV.out) (H9.out.2.2.step f10 (fun k hk => .inr (by subst hk; exact Nat.le_refl _))) : CutB w w10 w4.heap.size h Aq lq cq (some ⟨b, off, none⟩) n_ ca Ab nB cb Ac nC cc)
                 clear b10 f10)
              | fail "no arm")
            have hkp : 0 < k := by have := HNS.out; omega
            have hrk : R = cutFind M f (k - 1) := by
              obtain ⟨k', rfl⟩ : ∃ k', k = k' + 1 := ⟨k - 1, by omega⟩
              exact HRK.out.trans (cutFind_miss HFT.out)
            have HRR := Lib.hid hrk
            clear hrk
            go_roundg (k - 1)
            case measure => have := HGH.out; omega
            case rel => exact ⟨k - 1, n_, nB, nC, 0, rfl, by omega, rfl, ⟨by decide, by decide⟩, fun h => by have := HNS.out; omega, fun h => by have := HNS.out; omega, fun h => by have := HNS.out; omega, ⟨by have := HNS.out; omega, by have := HNS.out; omega, by have := HNS.out; omega⟩, HRR.out, H10.out⟩
        · by_cases he : nB = 0
          · have hei : (nB : Int) = 0 := by omega
            have hg1 : k ≤ la.length := by have := HNS.out; omega
            
            clear d0 d1 d2 d15 d16 d17
            have d0 : w6.cell? ⟨w4.heap.size, 1, none⟩ = some (.pointer (some ⟨w.heap.size, 16, none⟩)) := H6.out.v.cell 1
            have d15 : w6.cell? ⟨w.heap.size, 16, none⟩ = some (.slice Ab 0 cb) := by have := H6.out.m.cell 16; rw [he] at this; exact this
            have HG1 := Lib.hid (And.intro hg1 (show k ≤ la.length + lb.length by omega))
            go_wp2_with fail
            go_roundg 1
            case measure => have := HG2.out; omega
            case rel => exact ⟨0, rfl, by go_num, ⟨by decide, by decide⟩, fun _ => by have := HG1.out; omega, fun h => by have := HG1.out; omega, fun h => by have := HG1.out; omega, rfl⟩
          · obtain ⟨n_, rfl⟩ : ∃ m, nB = m + 1 := ⟨nB - 1, by omega⟩
            have hnl : n_ + 1 ≤ lb.length := by have := HNS.out; omega
            obtain ⟨b, off, rfl, _⟩ := HAS.out.2.1 (by rw [flat_len rcl 16 rcl_lenm]; omega)
            have q0 : (((n_ + 1 : Nat) : Int) == 0) = false := by rw [beq_eq_false_iff_ne]; omega
            have q1 : IntKind.i64.wrap (((n_ + 1 : Nat) : Int) - 1) = (n_ : Int) := by rw [IntWalk.i64_in _ (by omega)]; omega
            have q2 : IntKind.i64.wrap (n_ : Int) = (n_ : Int) := IntWalk.i64_in _ (by omega)
            have hcc : n_ + 1 ≤ cb := by omega
            have hcc2 : n_ ≤ cb := by omega
            go_wp2_with fail
            clear d0 d1 d2 d15 d16 d17
            have d0 : w6.drew.cell? ⟨w4.heap.size, 1, none⟩ = some (.pointer (some ⟨w.heap.size, 16, none⟩)) := H6.out.v.drew.cell 1
            have d1 : w6.drew.cell? ⟨w.heap.size, 16, none⟩ = some (.slice (some ⟨b, off, none⟩) (n_ + 1) cb) := H6.out.m.drew.cell 16
            go_still_tail 17, (by kernel_rfl)
            repeat still_step
            try refine wpStill_nil ?_
            change wpList _ _ _ _ _ w6.drew
            have H7 := Lib.hid (H6.out.fr ((Fr.refl (fun _ => False) w6).drew))
            generalize w6.drew = w7 at *
            have zc : w7.frozen? ⟨w.heap.size, 16, none⟩ = false := H7.out.m.frozen 16
            go_upto_region 15 with fail
            clear zc
            have b8 : Blk (w7.setCell ⟨w.heap.size, 16, none⟩ (.slice (some ⟨b, off, none⟩) n_ cb)) w.heap.size 29 #[.int .u16 h.id, .bool h.resp, .int .i64 h.op, .bool h.aa, .bool true, .bool h.rd, .bool h.ra, .bool h.ad, .bool h.cd, .int .i64 h.rc, .int .i64 (lq.length : Nat), .int .i64 (nA : Nat), .int .i64 ((n_ + 1 : Nat) : Int), .int .i64 (nC : Nat), .slice Aq lq.length cq, .slice Aa nA ca, .slice (some ⟨b, off, none⟩) n_ cb, .slice Ac nC cc] := H7.out.m.set_ 16 _
            have v8 : Blk (w7.setCell ⟨w.heap.size, 16, none⟩ (.slice (some ⟨b, off, none⟩) n_ cb)) w4.heap.size 73 #[.pointer (some ⟨w.heap.size, 15, none⟩), .pointer (some ⟨w.heap.size, 16, none⟩), .pointer (some ⟨w.heap.size, 17, none⟩)] := H7.out.v.far (p := ⟨w.heap.size, 16, none⟩) HV.out _
            have f8 : Fr (fun _ => False) w (w7.setCell ⟨w.heap.size, 16, none⟩ (.slice (some ⟨b, off, none⟩) n_ cb)) := H7.out.f.step (Fr.setCell (S := (· = w.heap.size)) (Fr.refl _ w7) (p := ⟨w.heap.size, 16, none⟩) (fun _ => rfl) _) (fun k hk => .inr (by subst hk; exact Nat.le_refl _))
            generalize w7.setCell ⟨w.heap.size, 16, none⟩ (.slice (some ⟨b, off, none⟩) n_ cb) = w8 at *
            have H8 := Lib.hid (And.intro b8 (And.intro v8 f8))
            clear b8 v8 f8 d0 d1
            go_wp2_with (first
              | (refine wpList_load_blk rfl 29 _ rfl w.heap.size (by rfl) 29 _ _ H8.out.1 Tryz.underlying29 rfl (by kernel_rfl) ?_)
              | (go_at_call 28
                 (with_reducible refine (cnts_any h Aq lq.length cq Aa nA ca (some ⟨b, off, none⟩) n_ cb Ac nC cc _ _ _ _ w8 HN.out.1 (by have := HNS.out; omega) (by have := HNS.out; omega) (by have := HNS.out; omega)).mono ?_)
                 rintro e w9 ⟨rfl, f9⟩
                 have H9 := Lib.hid (And.intro (H8.out.1.fr f9 id) (And.intro (H8.out.2.1.fr f9 id) (H8.out.2.2.then f9)))
                 clear f9)
              | (refine wpList_store_part rfl 23 _ _ rfl w.heap.size 10 (by rfl) _ (by rfl) 29 _ H9.out.1 (by kernel_rfl) (by simp [Value.oneCell']) (by simp) #[.int .u16 h.id, .bool h.resp, .int .i64 h.op, .bool h.aa, .bool true, .bool h.rd, .bool h.ra, .bool h.ad, .bool h.cd, .int .i64 h.rc, .int .i64 (lq.length : Nat), .int .i64 (nA : Nat), .int .i64 (n_ : Nat), .int .i64 (nC : Nat), .slice Aq lq.length cq, .slice Aa nA ca, .slice (some ⟨b, off, none⟩) n_ cb, .slice Ac nC cc] (by rfl) ?_
                 intro w10 b10 f10
                 have H10 := Lib.hid (CutB.mk b10 (H9.out.2.1.fr f10 HV.out) (H9.out.2.2.step f10 (fun k hk => .inr (by subst hk; exact Nat.le_refl _))) : CutB w w10 w4.heap.size h Aq lq cq Aa nA ca (some ⟨b, off, none⟩) n_ cb Ac nC cc)
                 clear b10 f10)
              | fail "no arm")
            have hkp : 0 < k := by have := HNS.out; omega
            have hrk : R = cutFind M f (k - 1) := by
              obtain ⟨k', rfl⟩ : ∃ k', k = k' + 1 := ⟨k - 1, by omega⟩
              exact HRK.out.trans (cutFind_miss HFT.out)
            have HRR := Lib.hid hrk
            clear hrk
            go_roundg (k - 1)
            case measure => have := HGH.out; omega
            case rel => exact ⟨k - 1, nA, n_, nC, 1, rfl, by omega, rfl, ⟨by decide, by decide⟩, fun h => by have := HNS.out; omega, fun h => by have := HNS.out; omega, fun h => by have := HNS.out; omega, ⟨by have := HNS.out; omega, by have := HNS.out; omega, by have := HNS.out; omega⟩, HRR.out, H10.out⟩
        · by_cases he : nC = 0
          · have hei : (nC : Int) = 0 := by omega
            have hg1 : k ≤ la.length + lb.length := by have := HNS.out; omega
            
            clear d0 d1 d2 d15 d16 d17
            have d0 : w6.cell? ⟨w4.heap.size, 2, none⟩ = some (.pointer (some ⟨w.heap.size, 17, none⟩)) := H6.out.v.cell 2
            have d15 : w6.cell? ⟨w.heap.size, 17, none⟩ = some (.slice Ac 0 cc) := by have := H6.out.m.cell 17; rw [he] at this; exact this
            have HG1 := Lib.hid (And.intro hg1 (show k ≤ la.length + lb.length by omega))
            go_wp2_with fail
            go_roundg 2
            case measure => have := HG2.out; omega
            case rel => exact ⟨1, rfl, by go_num, ⟨by decide, by decide⟩, fun _ => by have := HG1.out; omega, fun h => by have := HG1.out; omega, fun h => by have := HG1.out; omega, rfl⟩
          · obtain ⟨n_, rfl⟩ : ∃ m, nC = m + 1 := ⟨nC - 1, by omega⟩
            have hnl : n_ + 1 ≤ lc.length := by have := HNS.out; omega
            obtain ⟨b, off, rfl, _⟩ := HAS.out.2.2 (by rw [flat_len rcl 16 rcl_lenm]; omega)
            have q0 : (((n_ + 1 : Nat) : Int) == 0) = false := by rw [beq_eq_false_iff_ne]; omega
            have q1 : IntKind.i64.wrap (((n_ + 1 : Nat) : Int) - 1) = (n_ : Int) := by rw [IntWalk.i64_in _ (by omega)]; omega
            have q2 : IntKind.i64.wrap (n_ : Int) = (n_ : Int) := IntWalk.i64_in _ (by omega)
            have hcc : n_ + 1 ≤ cc := by omega
            have hcc2 : n_ ≤ cc := by omega
            go_wp2_with fail
            clear d0 d1 d2 d15 d16 d17
            have d0 : w6.drew.cell? ⟨w4.heap.size, 2, none⟩ = some (.pointer (some ⟨w.heap.size, 17, none⟩)) := H6.out.v.drew.cell 2
            have d1 : w6.drew.cell? ⟨w.heap.size, 17, none⟩ = some (.slice (some ⟨b, off, none⟩) (n_ + 1) cc) := H6.out.m.drew.cell 17
            go_still_tail 17, (by kernel_rfl)
            repeat still_step
            try refine wpStill_nil ?_
            change wpList _ _ _ _ _ w6.drew
            have H7 := Lib.hid (H6.out.fr ((Fr.refl (fun _ => False) w6).drew))
            generalize w6.drew = w7 at *
            have zc : w7.frozen? ⟨w.heap.size, 17, none⟩ = false := H7.out.m.frozen 17
            go_upto_region 15 with fail
            clear zc
            have b8 : Blk (w7.setCell ⟨w.heap.size, 17, none⟩ (.slice (some ⟨b, off, none⟩) n_ cc)) w.heap.size 29 #[.int .u16 h.id, .bool h.resp, .int .i64 h.op, .bool h.aa, .bool true, .bool h.rd, .bool h.ra, .bool h.ad, .bool h.cd, .int .i64 h.rc, .int .i64 (lq.length : Nat), .int .i64 (nA : Nat), .int .i64 (nB : Nat), .int .i64 ((n_ + 1 : Nat) : Int), .slice Aq lq.length cq, .slice Aa nA ca, .slice Ab nB cb, .slice (some ⟨b, off, none⟩) n_ cc] := H7.out.m.set_ 17 _
            have v8 : Blk (w7.setCell ⟨w.heap.size, 17, none⟩ (.slice (some ⟨b, off, none⟩) n_ cc)) w4.heap.size 73 #[.pointer (some ⟨w.heap.size, 15, none⟩), .pointer (some ⟨w.heap.size, 16, none⟩), .pointer (some ⟨w.heap.size, 17, none⟩)] := H7.out.v.far (p := ⟨w.heap.size, 17, none⟩) HV.out _
            have f8 : Fr (fun _ => False) w (w7.setCell ⟨w.heap.size, 17, none⟩ (.slice (some ⟨b, off, none⟩) n_ cc)) := H7.out.f.step (Fr.setCell (S := (· = w.heap.size)) (Fr.refl _ w7) (p := ⟨w.heap.size, 17, none⟩) (fun _ => rfl) _) (fun k hk => .inr (by subst hk; exact Nat.le_refl _))
            generalize w7.setCell ⟨w.heap.size, 17, none⟩ (.slice (some ⟨b, off, none⟩) n_ cc) = w8 at *
            have H8 := Lib.hid (And.intro b8 (And.intro v8 f8))
            clear b8 v8 f8 d0 d1
            go_wp2_with (first
              | (refine wpList_load_blk rfl 29 _ rfl w.heap.size (by rfl) 29 _ _ H8.out.1 Tryz.underlying29 rfl (by kernel_rfl) ?_)
              | (go_at_call 28
                 (with_reducible refine (cnts_any h Aq lq.length cq Aa nA ca Ab nB cb (some ⟨b, off, none⟩) n_ cc _ _ _ _ w8 HN.out.1 (by have := HNS.out; omega) (by have := HNS.out; omega) (by have := HNS.out; omega)).mono ?_)
                 rintro e w9 ⟨rfl, f9⟩
                 have H9 := Lib.hid (And.intro (H8.out.1.fr f9 id) (And.intro (H8.out.2.1.fr f9 id) (H8.out.2.2.then f9)))
                 clear f9)
              | (refine wpList_store_part rfl 23 _ _ rfl w.heap.size 10 (by rfl) _ (by rfl) 29 _ H9.out.1 (by kernel_rfl) (by simp [Value.oneCell']) (by simp) #[.int .u16 h.id, .bool h.resp, .int .i64 h.op, .bool h.aa, .bool true, .bool h.rd, .bool h.ra, .bool h.ad, .bool h.cd, .int .i64 h.rc, .int .i64 (lq.length : Nat), .int .i64 (nA : Nat), .int .i64 (nB : Nat), .int .i64 (n_ : Nat), .slice Aq lq.length cq, .slice Aa nA ca, .slice Ab nB cb, .slice (some ⟨b, off, none⟩) n_ cc] (by rfl) ?_
                 intro w10 b10 f10
                 have H10 := Lib.hid (CutB.mk b10 (H9.out.2.1.fr f10 HV.out) (H9.out.2.2.step f10 (fun k hk => .inr (by subst hk; exact Nat.le_refl _))) : CutB w w10 w4.heap.size h Aq lq cq Aa nA ca Ab nB cb (some ⟨b, off, none⟩) n_ cc)
                 clear b10 f10)
              | fail "no arm")
            have hkp : 0 < k := by have := HNS.out; omega
            have hrk : R = cutFind M f (k - 1) := by
              obtain ⟨k', rfl⟩ : ∃ k', k = k' + 1 := ⟨k - 1, by omega⟩
              exact HRK.out.trans (cutFind_miss HFT.out)
            have HRR := Lib.hid hrk
            clear hrk
            go_roundg (k - 1)
            case measure => have := HGH.out; omega
            case rel => exact ⟨k - 1, nA, nB, n_, 2, rfl, by omega, rfl, ⟨by decide, by decide⟩, fun h => by have := HNS.out; omega, fun h => by have := HNS.out; omega, fun h => by have := HNS.out; omega, ⟨by have := HNS.out; omega, by have := HNS.out; omega, by have := HNS.out; omega⟩, HRR.out, H10.out⟩
end Go.Proofs.YtmbgejiahmhffaaGreat
