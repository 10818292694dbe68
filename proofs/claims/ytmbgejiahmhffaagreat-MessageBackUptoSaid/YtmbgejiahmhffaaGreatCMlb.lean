/-
  LAYER 11: MessageBack, the walk.
-/
import Derived.Test.YtmbgejiahmhffaaGreatCMse
import Derived.Test.YtmbgejiahmhffaaGreatCMsz
import Derived.Test.YtmbgejiahmhffaaGreatCMns
namespace Go.Proofs.YtmbgejiahmhffaaGreat
open Go.RowKit
set_option linter.unusedVariables false
set_option linter.unusedSimpArgs false

theorem own_slok {w : World} {e : TypeId} {size n cap : Nat} {A : Option Addr} {xs : List Value} (h : w.ownsRow 0 e size (.slice A n cap) n xs) (hn : n ≤ 1048576) : SlOk A n cap := by
  rcases h.2 with ⟨h2, h0⟩ | ⟨g, cp, cur, hv, _, hg, h3, h4, h5, h6⟩
  · injection h2 with e1 e2 e3
    subst e1 e2 e3
    exact ⟨hn, fun _ => rfl, fun _ => rfl, Nat.le_refl _, by omega⟩
  · injection hv with e1 e2 e3
    subst e1 e3
    exact ⟨hn, (fun h => by cases h), (fun h => by cases h), by assumption, by simp only [maxLen] at *; omega⟩
theorem rd_in {w W : World} (h : Hd) (Aq : Option Addr) (lq : List Qn) (cq : Nat) (Aa : Option Addr) (la : RLm) (ca : Nat) (Ab : Option Addr) (lb : RLm) (cb : Nat) (Ac : Option Addr) (lc : RLm) (cc : Nat) (h2 : Hd) (A2q : Option Addr) (l2q : List Qn) (c2q : Nat) (A2a : Option Addr) (l2a : RLm) (c2a : Nat) (A2b : Option Addr) (l2b : RLm) (c2b : Nat) (A2c : Option Addr) (l2c : RLm) (c2c : Nat) (hm : MsIn w h Aq lq cq Aa la ca Ab lb cb Ac lc cc) (hr : RdMem W h2 A2q l2q c2q A2a l2a c2a A2b l2b c2b A2c l2c c2c) (he : msOf h2 l2q l2a l2b l2c = msOf h lq la lb lc) : MsIn W h2 A2q l2q c2q A2a l2a c2a A2b l2b c2b A2c l2c c2c := by
  obtain ⟨e0, e1, e2, e3, e4⟩ := (ms_eq _ _ _ _ _ _ _ _ _ _).1 he
  have key : ∀ (l l2 : RLm), l2.map Prod.fst = l.map Prod.fst → (∀ x ∈ l, RcIn w x.2.1 x.1 ∧ x.1.name.size + x.1.d.light ≤ 1048576) → (∀ x ∈ l2, Strs W x.2.1 x.1.d.texts) → ∀ x ∈ l2, RcIn W x.2.1 x.1 ∧ x.1.name.size + x.1.d.light ≤ 1048576 := fun l l2 e hl ht x hx => by
    have : x.1 ∈ l.map Prod.fst := by rw [← e]; exact List.mem_map.2 ⟨x, hx, rfl⟩
    obtain ⟨y, hy, hyx⟩ := List.mem_map.1 this
    have := hl y hy
    rw [hyx] at this
    exact ⟨⟨⟨this.1.d.hi, this.1.d.lo, this.1.d.num, ht x hx, this.1.d.len, this.1.d.raw⟩, this.1.t, this.1.cl, this.1.ttl⟩, this.2⟩
  have n1 : l2a.length = la.length := by simpa using congrArg List.length e2
  have n2 : l2b.length = lb.length := by simpa using congrArg List.length e3
  have n3 : l2c.length = lc.length := by simpa using congrArg List.length e4
  exact ⟨by rw [e0]; exact hm.h, own_rowIn hr.oq, by rw [e1]; exact hm.qk, own_slok hr.oq (by rw [e1]; exact hm.qz.1), own_rowIn hr.oa, key la l2a e2 hm.ak (fun x hx => hr.tx x (.inl hx)), own_slok hr.oa (by rw [n1]; exact hm.az.1), own_rowIn hr.ob, key lb l2b e3 hm.bk (fun x hx => hr.tx x (.inr (.inl hx))), own_slok hr.ob (by rw [n2]; exact hm.bz.1), own_rowIn hr.oc, key lc l2c e4 hm.ck (fun x hx => hr.tx x (.inr (.inr hx))), own_slok hr.oc (by rw [n3]; exact hm.cz.1)⟩
theorem put_light2 {h : Hd} {Aq : Option Addr} {lq : List Qn} {cq : Nat} {Aa : Option Addr} {la : RLm} {ca : Nat} {Ab : Option Addr} {lb : RLm} {cb : Nat} {Ac : Option Addr} {lc : RLm} {cc : Nat} {w : World} (hm : MsIn w h Aq lq cq Aa la ca Ab lb cb Ac lc cc) (hs : (msOf h lq la lb lc).size + 2000 ≤ 65535) (hc : mcheckB (msOf h lq la lb lc) = 0) :
    ∃ S : ByteArray, 12 ≤ S.size ∧ S.size ≤ 65535 ∧ S.size ≤ (msOf h lq la lb lc).size ∧ MReads S.data.toList (msOf h lq la lb lc) ∧ S = ⟨(mputB (msOf h lq la lb lc)).x.b.toArray⟩ ∧
      (∀ W M, Fr (fun _ => False) w W → (S.size : Int) ≤ M → Calls Tryz.prog 12 #[.agg #[.int .u16 h.id, .bool h.resp, .int .i64 h.op, .bool h.aa, .bool h.tc, .bool h.rd, .bool h.ra, .bool h.ad, .bool h.cd, .int .i64 h.rc, .int .i64 h.c0, .int .i64 h.c1, .int .i64 h.c2, .int .i64 h.c3, .slice Aq lq.length cq, .slice Aa la.length ca, .slice Ab lb.length cb, .slice Ac lc.length cc], .int .i64 M] W fun e w' => e = .returned (.tuple #[.string S, .int .i64 0]) ∧ Fr (fun _ => False) W w') ∧
      ∀ W M, Fr (fun _ => False) w W → M < (S.size : Int) → Calls Tryz.prog 12 #[.agg #[.int .u16 h.id, .bool h.resp, .int .i64 h.op, .bool h.aa, .bool h.tc, .bool h.rd, .bool h.ra, .bool h.ad, .bool h.cd, .int .i64 h.rc, .int .i64 h.c0, .int .i64 h.c1, .int .i64 h.c2, .int .i64 h.c3, .slice Aq lq.length cq, .slice Aa la.length ca, .slice Ab lb.length cb, .slice Ac lc.length cc], .int .i64 M] W fun e w' => e = .returned (.tuple #[.string ⟨#[]⟩, .int .i64 3]) ∧ Fr (fun _ => False) W w' := by
  have hf := (mcheck_fine hm.light).1 hc
  obtain ⟨h1, h2, _⟩ := mput_reads hf hs
  have st := stages hf hs
  have hsz : (⟨(mputB (msOf h lq la lb lc)).x.b.toArray⟩ : ByteArray).size = (mputB (msOf h lq la lb lc)).x.b.length := List.size_toArray
  have h12 : 12 ≤ (mputB (msOf h lq la lb lc)).x.b.length := by
    have l0 : (mhead (msOf h lq la lb lc)).x.b.length = 12 := (msOf h lq la lb lc).h.upto_length 4
    obtain ⟨_, ⟨T1, t1⟩, _⟩ := qputs_reads (msOf h lq la lb lc).qs _ st.u0 hf.2.2.2.1 st.b0
    have hln := rputs_len (msOf h lq la lb lc).an _ st.u1 hf.2.2.2.2.1 st.b1
    have := st.l1
    rw [t1, List.length_append] at hln
    omega
  refine ⟨⟨(mputB (msOf h lq la lb lc)).x.b.toArray⟩, by omega, by omega, by omega, by simpa using h1, rfl, fun W M hW hM => ?_, fun W M hW hM => ?_⟩
  · have := mput_any h Aq lq cq Aa la ca Ab lb cb Ac lc cc M W (hm.fr0 hW) hs
    rw [mputR_fits hc (by unfold roomN; omega)] at this
    exact this
  · have := mput_any h Aq lq cq Aa la ca Ab lb cb Ac lc cc M W (hm.fr0 hW) hs
    rw [mputR_long hc (by unfold roomN; omega)] at this
    exact this
set_option maxRecDepth 100000 in
set_option maxHeartbeats 4000000 in
theorem cut_fits (h : Hd) (Aq : Option Addr) (lq : List Qn) (cq : Nat) (Aa : Option Addr) (la : RLm) (ca : Nat) (Ab : Option Addr) (lb : RLm) (cb : Nat) (Ac : Option Addr) (lc : RLm) (cc : Nat) (M : Int) (S : ByteArray) (w : World) (hp : ∀ W, Fr (fun _ => False) w W → Calls Tryz.prog 12 #[.agg #[.int .u16 h.id, .bool h.resp, .int .i64 h.op, .bool h.aa, .bool h.tc, .bool h.rd, .bool h.ra, .bool h.ad, .bool h.cd, .int .i64 h.rc, .int .i64 h.c0, .int .i64 h.c1, .int .i64 h.c2, .int .i64 h.c3, .slice Aq lq.length cq, .slice Aa la.length ca, .slice Ab lb.length cb, .slice Ac lc.length cc], .int .i64 M] W fun e w' => e = .returned (.tuple #[.string S, .int .i64 0]) ∧ Fr (fun _ => False) W w') :
    Calls Tryz.prog 15 #[.agg #[.int .u16 h.id, .bool h.resp, .int .i64 h.op, .bool h.aa, .bool h.tc, .bool h.rd, .bool h.ra, .bool h.ad, .bool h.cd, .int .i64 h.rc, .int .i64 h.c0, .int .i64 h.c1, .int .i64 h.c2, .int .i64 h.c3, .slice Aq lq.length cq, .slice Aa la.length ca, .slice Ab lb.length cb, .slice Ac lc.length cc], .int .i64 M] w fun e w' => e = .returned (.tuple #[.string S, .int .i64 0]) ∧ Fr (fun _ => False) w w' := by
  obtain ⟨W, hW⟩ : ∃ W, W = w.alloc (.cells #[.int .u16 h.id, .bool h.resp, .int .i64 h.op, .bool h.aa, .bool h.tc, .bool h.rd, .bool h.ra, .bool h.ad, .bool h.cd, .int .i64 h.rc, .int .i64 h.c0, .int .i64 h.c1, .int .i64 h.c2, .int .i64 h.c3, .slice Aq lq.length cq, .slice Aa la.length ca, .slice Ab lb.length cb, .slice Ac lc.length cc] 29) := ⟨_, rfl⟩
  have b1 : Blk W w.heap.size 29 #[.int .u16 h.id, .bool h.resp, .int .i64 h.op, .bool h.aa, .bool h.tc, .bool h.rd, .bool h.ra, .bool h.ad, .bool h.cd, .int .i64 h.rc, .int .i64 h.c0, .int .i64 h.c1, .int .i64 h.c2, .int .i64 h.c3, .slice Aq lq.length cq, .slice Aa la.length ca, .slice Ab lb.length cb, .slice Ac lc.length cc] := by rw [hW]; exact Blk.new _ _ _
  have hf : Fr (fun _ => False) w W := by rw [hW]; exact (Fr.refl _ _).alloc _
  have HW := Lib.hid hW
  have HB := Lib.hid (And.intro b1 hf)
  have HP := Lib.hid (hp W hf)
  clear b1 hf hW hp
  go_enter Tryz.func15, Tryz.ntmps15
  go_upto_region 1 with fail
  rw [← HW.out]
  clear HW
  go_wp2_with (first
    | (refine wpList_load_blk rfl 29 _ rfl w.heap.size (by rfl) 29 _ _ HB.out.1 Tryz.underlying29 rfl (by kernel_rfl) ?_)
    | (go_at_call 12
       (with_reducible refine HP.out.mono ?_)
       rintro e w1 ⟨rfl, f1⟩
       have H1 := Lib.hid (HB.out.2.then f1)
       clear f1)
    | fail "no arm")
  first | go_ret2 | (rw [Exit.noGoto_ret]; go_ret2)
  exact ⟨rfl, H1.out⟩
set_option maxRecDepth 100000 in
set_option maxHeartbeats 16000000 in
theorem mback_any (h : Hd) (Aq : Option Addr) (lq : List Qn) (cq : Nat) (Aa : Option Addr) (la : RLm) (ca : Nat) (Ab : Option Addr) (lb : RLm) (cb : Nat) (Ac : Option Addr) (lc : RLm) (cc : Nat) (w : World) (hm : MsIn w h Aq lq cq Aa la ca Ab lb cb Ac lc cc) :
    Calls Tryz.prog 8 #[.agg #[.int .u16 h.id, .bool h.resp, .int .i64 h.op, .bool h.aa, .bool h.tc, .bool h.rd, .bool h.ra, .bool h.ad, .bool h.cd, .int .i64 h.rc, .int .i64 h.c0, .int .i64 h.c1, .int .i64 h.c2, .int .i64 h.c3, .slice Aq lq.length cq, .slice Aa la.length ca, .slice Ab lb.length cb, .slice Ac lc.length cc]] w (EqPost w true) := by
  obtain ⟨W, hW⟩ : ∃ W, W = w.alloc (.cells #[.int .u16 h.id, .bool h.resp, .int .i64 h.op, .bool h.aa, .bool h.tc, .bool h.rd, .bool h.ra, .bool h.ad, .bool h.cd, .int .i64 h.rc, .int .i64 h.c0, .int .i64 h.c1, .int .i64 h.c2, .int .i64 h.c3, .slice Aq lq.length cq, .slice Aa la.length ca, .slice Ab lb.length cb, .slice Ac lc.length cc] 29) := ⟨_, rfl⟩
  have b1 : Blk W w.heap.size 29 #[.int .u16 h.id, .bool h.resp, .int .i64 h.op, .bool h.aa, .bool h.tc, .bool h.rd, .bool h.ra, .bool h.ad, .bool h.cd, .int .i64 h.rc, .int .i64 h.c0, .int .i64 h.c1, .int .i64 h.c2, .int .i64 h.c3, .slice Aq lq.length cq, .slice Aa la.length ca, .slice Ab lb.length cb, .slice Ac lc.length cc] := by rw [hW]; exact Blk.new _ _ _
  have hf : Fr (fun _ => False) w W := by rw [hW]; exact (Fr.refl _ _).alloc _
  obtain ⟨ck, hck⟩ : ∃ c, c = mcheckB (msOf h lq la lb lc) := ⟨_, rfl⟩
  have HCK := Lib.hid hck
  have HB := Lib.hid (And.intro b1 hf)
  have HM := Lib.hid hm
  have HW := Lib.hid hW
  clear b1 hf hW hm hck
  go_enter Tryz.func8, Tryz.ntmps8
  go_upto_region 1 with fail
  rw [← HW.out]
  clear HW
  go_upto_if 22 with (first
    | (go_at_call 9
       (with_reducible refine (lives11_any W).mono ?_)
       rintro e w1 ⟨rfl, f1⟩
       have H1 := Lib.hid (And.intro (HB.out.1.fr f1 id) (HB.out.2.then f1))
       clear f1)
    | (refine wpList_load_blk rfl 29 _ rfl w.heap.size (by rfl) 29 _ _ H1.out.1 Tryz.underlying29 rfl (by kernel_rfl) ?_)
    | (go_at_call 10
       (with_reducible refine (lightm_any h Aq lq cq Aa la ca Ab lb cb Ac lc cc w1 (HM.out.fr0 H1.out.2)).mono ?_)
       rintro e w2 ⟨bb, rfl, f2, hbb⟩
       have H2 := Lib.hid (And.intro (H1.out.1.fr f2 id) (H1.out.2.then f2))
       have HL := Lib.hid hbb
       clear f2 hbb
       rcases bb with _ | _)
    | (refine wpList_load_mid_g (by rfl) 29 _ rfl w.heap.size 0 (by rfl) [.int .u16 h.id, .bool h.resp, .int .i64 h.op, .bool h.aa, .bool h.tc, .bool h.rd, .bool h.ra, .bool h.ad, .bool h.cd, .int .i64 h.rc, .int .i64 h.c0, .int .i64 h.c1, .int .i64 h.c2, .int .i64 h.c3, .slice Aq lq.length cq, .slice Aa la.length ca, .slice Ab lb.length cb, .slice Ac lc.length cc] _ (blk_rg0 H2.out.1) Tryz.underlying29 rfl (by kernel_rfl) ?_)
    | (go_at_call 11
       (with_reducible refine (mcheck_any h Aq lq cq Aa la ca Ab lb cb Ac lc cc w2 (HM.out.fr0 H2.out.2)).mono ?_)
       rintro e w3 ⟨rfl, f3⟩
       rw [← HCK.out]
       have H3 := Lib.hid (And.intro (H2.out.1.fr f3 id) (H2.out.2.then f3))
       clear f3)
    | fail "no arm")
  · go_wp2_with fail
    go_ret
    exact ⟨rfl, H2.out.2⟩
  · by_cases hc : ck = 0
    · have t1 : (ck != 0) = false := by simp [hc]
      have HC0 := Lib.hid (HCK.out.symm.trans hc)
      clear hc
      obtain ⟨hl1, hl2, hl3⟩ := HL.out (by trivial)
      obtain ⟨S, hS1, hS2, hS3, hMR, hSB, hfit, hlong⟩ := put_light2 HM.out (light_size hl1 hl2 hl3) HC0.out
      have hmr := mread_reads (s := S) hMR ((mcheck_fine HM.out.light).1 HC0.out).2.2.1 hS2
      have HP := Lib.hid (And.intro hfit (And.intro hlong hmr))
      obtain ⟨Z, hZ⟩ : ∃ Z, Z = (msOf h lq la lb lc).size := ⟨_, rfl⟩
      rw [← hZ] at hS3
      have hz : msizeB (msOf h lq la lb lc) = (Z : Int) := by unfold msizeB; rw [if_neg (by simp [HC0.out]), hZ]
      have HZ := Lib.hid hz
      have hle : (S.size : Int) ≤ (Z : Int) := by omega
      have hle' : decide ((S.size : Int) ≤ (Z : Int)) = true := decide_eq_true hle
      have hw1 : IntKind.i64.wrap ((S.size : Int) - 1) = (S.size : Int) - 1 := IntWalk.i64_in _ (by omega)
      clear hl1 hl2 hl3 hfit hlong hmr hMR hS3 hZ hz hSB
      go_upto_region 9 with (first
        | (refine wpList_load_blk rfl 29 _ rfl w.heap.size (by rfl) 29 _ _ H3.out.1 Tryz.underlying29 rfl (by kernel_rfl) ?_)
        | (go_at_call 12
           (with_reducible refine (HP.out.1 w3 65535 H3.out.2 (by omega)).mono ?_)
           rintro e w4 ⟨rfl, f4⟩
           have H4 := Lib.hid (And.intro (H3.out.1.fr f4 id) (H3.out.2.then f4))
           clear f4)
        | (go_at_call 16
           (with_reducible refine (mread_any S w4 (by omega)).mono ?_)
           rintro e w5 ⟨f5, ⟨hne, _⟩ | ⟨h0, h2, A2q, l2q, c2q, A2a, l2a, c2a, A2b, l2b, c2b, A2c, l2c, c2c, rfl, hrd, hms⟩⟩
           · exact absurd HP.out.2.2.1 hne
           have H5 := Lib.hid (And.intro (H4.out.1.fr f5 id) (And.intro (H4.out.2.then f5) (And.intro hrd (hms.trans HP.out.2.2.2))))
           clear f5 h0 hrd hms)
        | (refine wpList_store_part rfl 29 _ _ rfl w5.heap.size 0 (by rfl) _ (by rfl) 29 _ (Blk.new w5 29 _) (by kernel_rfl) (by simp [Value.oneCell']) (by simp) #[.int .u16 h2.id, .bool h2.resp, .int .i64 h2.op, .bool h2.aa, .bool h2.tc, .bool h2.rd, .bool h2.ra, .bool h2.ad, .bool h2.cd, .int .i64 h2.rc, .int .i64 h2.c0, .int .i64 h2.c1, .int .i64 h2.c2, .int .i64 h2.c3, .slice A2q l2q.length c2q, .slice A2a l2a.length c2a, .slice A2b l2b.length c2b, .slice A2c l2c.length c2c] (by rfl) ?_
           intro w6 b6 f6
           have hne1 : w.heap.size ≠ w5.heap.size := by have := H5.out.1.lt; omega
           have g6 : Fr (fun _ => False) w5 w6 := ((Fr.refl (fun _ => False) w5).alloc _).step f6 (fun k hk => .inr (by subst hk; exact Nat.le_refl _))
           have H6 := Lib.hid (And.intro ((H5.out.1.alloc _).fr f6 hne1) (And.intro (H5.out.2.1.then g6) (And.intro b6 (show MsIn w6 h2 A2q l2q c2q A2a l2a c2a A2b l2b c2b A2c l2c c2c from (rd_in h Aq lq cq Aa la ca Ab lb cb Ac lc cc h2 A2q l2q c2q A2a l2a c2a A2b l2b c2b A2c l2c c2c HM.out H5.out.2.2.1 H5.out.2.2.2).fr0 g6))))
           clear b6 f6 g6 hne1)
        | fail "no arm")
      go_upto_region 12 with (first
        | (refine wpList_load_blk rfl 29 _ rfl w.heap.size (by rfl) 29 _ _ H6.out.1 Tryz.underlying29 rfl (by kernel_rfl) ?_)
        | (refine wpList_load_blk rfl 29 _ rfl w.heap.size (by rfl) 29 _ _ H7.out.1 Tryz.underlying29 rfl (by kernel_rfl) ?_)
        | (refine wpList_load_blk rfl 29 _ rfl w.heap.size (by rfl) 29 _ _ H8.out.1 Tryz.underlying29 rfl (by kernel_rfl) ?_)
        | (go_at_call 12
           first
             | (with_reducible refine (HP.out.1 w6 (S.size : Int) H6.out.2.1 (by omega)).mono ?_)
               rintro e w7 ⟨rfl, f7⟩
               have H7 := Lib.hid (And.intro (H6.out.1.fr f7 id) (And.intro (H6.out.2.1.then f7) (And.intro (H6.out.2.2.1.fr f7 id) (H6.out.2.2.2.fr0 f7))))
               clear f7
             | (with_reducible refine (HP.out.2.1 w7 ((S.size : Int) - 1) H7.out.2.1 (by omega)).mono ?_)
               rintro e w8 ⟨rfl, f8⟩
               have H8 := Lib.hid (And.intro (H7.out.1.fr f8 id) (And.intro (H7.out.2.1.then f8) (And.intro (H7.out.2.2.1.fr f8 id) (H7.out.2.2.2.fr0 f8))))
               clear f8)
        | (go_at_call 15
           (with_reducible refine (cut_fits h Aq lq cq Aa la ca Ab lb cb Ac lc cc (S.size : Int) S w8 (fun W f => HP.out.1 W (S.size : Int) (H8.out.2.1.then f) (by omega))).mono ?_)
           rintro e w9 ⟨rfl, f9⟩
           have H9 := Lib.hid (And.intro (H8.out.1.fr f9 id) (And.intro (H8.out.2.1.then f9) (And.intro (H8.out.2.2.1.fr f9 id) (H8.out.2.2.2.fr0 f9))))
           clear f9)
        | fail "no arm")
      go_wp2_with (first
        | (refine wpList_load_mid_g (by rfl) 29 _ rfl w5.heap.size 0 (by rfl) [.int .u16 h2.id, .bool h2.resp, .int .i64 h2.op, .bool h2.aa, .bool h2.tc, .bool h2.rd, .bool h2.ra, .bool h2.ad, .bool h2.cd, .int .i64 h2.rc, .int .i64 h2.c0, .int .i64 h2.c1, .int .i64 h2.c2, .int .i64 h2.c3, .slice A2q l2q.length c2q, .slice A2a l2a.length c2a, .slice A2b l2b.length c2b, .slice A2c l2c.length c2c] _ (blk_rg0 H9.out.2.2.1) Tryz.underlying29 rfl (by kernel_rfl) ?_)
        | (refine wpList_load_mid_g (by rfl) 29 _ rfl w.heap.size 0 (by rfl) [.int .u16 h.id, .bool h.resp, .int .i64 h.op, .bool h.aa, .bool h.tc, .bool h.rd, .bool h.ra, .bool h.ad, .bool h.cd, .int .i64 h.rc, .int .i64 h.c0, .int .i64 h.c1, .int .i64 h.c2, .int .i64 h.c3, .slice Aq lq.length cq, .slice Aa la.length ca, .slice Ab lb.length cb, .slice Ac lc.length cc] _ (blk_rg0 H9.out.1) Tryz.underlying29 rfl (by kernel_rfl) ?_)
        | (go_at_call 24
           (with_reducible refine (msame_m h2 A2q l2q c2q A2a l2a c2a A2b l2b c2b A2c l2c c2c h Aq lq cq Aa la ca Ab lb cb Ac lc cc w9 H9.out.2.2.2 (HM.out.fr0 H9.out.2.1)).mono ?_)
           rintro e w10 ⟨r, rfl, hr, f10⟩
           have hr1 : r = true := hr.2 H5.out.2.2.2
           subst hr1
           have H10 := Lib.hid (And.intro (H9.out.1.fr f10 id) (H9.out.2.1.then f10))
           clear f10 hr)
        | (refine wpList_load_mid_g (by rfl) 29 _ rfl w.heap.size 0 (by rfl) [.int .u16 h.id, .bool h.resp, .int .i64 h.op, .bool h.aa, .bool h.tc, .bool h.rd, .bool h.ra, .bool h.ad, .bool h.cd, .int .i64 h.rc, .int .i64 h.c0, .int .i64 h.c1, .int .i64 h.c2, .int .i64 h.c3, .slice Aq lq.length cq, .slice Aa la.length ca, .slice Ab lb.length cb, .slice Ac lc.length cc] _ (blk_rg0 H10.out.1) Tryz.underlying29 rfl (by kernel_rfl) ?_)
        | (go_at_call 22
           (with_reducible refine (msize_any h Aq lq cq Aa la ca Ab lb cb Ac lc cc w10 (HM.out.fr0 H10.out.2)).mono ?_)
           rintro e w11 ⟨rfl, f11⟩
           rw [HZ.out]
           have H11 := Lib.hid (H10.out.2.then f11)
           clear f11)
        | fail "no arm")
      go_ret
      exact ⟨rfl, H11.out⟩
    · have t1 : (ck != 0) = true := by simp [hc]
      clear hc
      go_wp2_with fail
      go_ret
      exact ⟨rfl, H3.out.2⟩
theorem messageBack_walk (h : Hd) (Aq : Option Addr) (lq : List Qn) (cq : Nat) (Aa : Option Addr) (la : RLm) (ca : Nat) (Ab : Option Addr) (lb : RLm) (cb : Nat) (Ac : Option Addr) (lc : RLm) (cc : Nat) (w : World) (hm : MsIn w h Aq lq cq Aa la ca Ab lb cb Ac lc cc) :
    Calls Tryz.prog 8 #[mval h Aq lq cq Aa la ca Ab lb cb Ac lc cc] w fun e w' => e = .returned (.bool true) ∧ Below w.heap.size w w' :=
  (mback_any h Aq lq cq Aa la ca Ab lb cb Ac lc cc w hm).mono fun e w' ⟨h1, h2⟩ => ⟨h1, h2.below (fun k hk => hk.elim) (Nat.le_refl _)⟩
end Go.Proofs.YtmbgejiahmhffaaGreat
