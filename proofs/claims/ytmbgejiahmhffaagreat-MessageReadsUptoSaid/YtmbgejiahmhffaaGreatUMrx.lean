/-
  LAYER 11: message.Read.
-/
import Derived.Test.YtmbgejiahmhffaaGreatUMrt
import Derived.Test.YtmbgejiahmhffaaGreatUHdrread
import Derived.Test.YtmbgejiahmhffaaGreatUunJ
import Derived.WalkMore
namespace Go.Proofs.YtmbgejiahmhffaaGreat
open Go.RowKit
set_option linter.unusedVariables false
set_option linter.unusedSimpArgs false

theorem Tryz.infoQnM : (Tryz.prog.info? 40).map (fun i => (i.zero, i.size, i.bytes)) = some (some (.agg #[.string ⟨#[]⟩, .int .i64 0, .int .i64 0]), 3, 32) := by kernel_rfl
theorem Tryz.infoRcM : (Tryz.prog.info? 55).map (fun i => (i.zero, i.size, i.bytes)) = some (some (.agg #[.string ⟨#[]⟩, .int .i64 0, .int .i64 0, .int .u32 0, .bool false, .int .u64 0, .int .u64 0, .string ⟨#[]⟩, .string ⟨#[]⟩, .int .u32 0, .int .u32 0, .int .u32 0, .int .u32 0, .int .u32 0, .slice none 0 0, .string ⟨#[]⟩]), 16, 160) := by kernel_rfl
theorem range_set {w : World} {g M o : Nat} {L : List Value} {u : Value} (h : w.rangeAt g 0 L) (hne : g ≠ M) : (w.setCell ⟨M, o, none⟩ u).rangeAt g 0 L := fun j v hv => (World.cell?_of_block (Below.heap_setCell w ⟨M, o, none⟩ u g hne)).trans (h j v hv)
theorem range_own {w w7 : World} {A : Option Addr} {g : Nat} {T : TypeId} {L : List Value} (o2 : Fr (rowOf A) w w7) (b : Blk w g T L.toArray) (hn : rowOf A g → False) : w7.rangeAt g 0 L := blk_rg0 (b.fr o2 hn)
theorem newm (T : TypeId) (w : World) {cs : List Value} : ∀ j v, cs[j]? = some v → (w.alloc (.cells cs.toArray T)).cell? ((⟨w.heap.size, 0, none⟩ : Addr).add j) = some v := fun j v hv => by
  rw [add_off, Nat.zero_add, (Blk.new w T cs.toArray).cell j]
  simpa using hv
set_option maxRecDepth 100000 in
set_option maxHeartbeats 16000000 in
theorem mread_any (s : ByteArray) (w : World) (hs : s.size ≤ 140737488351232) : Calls Tryz.prog 16 #[.string s] w (MrdPost w s) := by
  obtain ⟨W, hW⟩ : ∃ W, W = w.alloc (.cells #[.int .u16 0, .bool false, .int .i64 0, .bool false, .bool false, .bool false, .bool false, .bool false, .bool false, .int .i64 0, .int .i64 0, .int .i64 0, .int .i64 0, .int .i64 0, .slice none 0 0, .slice none 0 0, .slice none 0 0, .slice none 0 0] 29) := ⟨_, rfl⟩
  have hb : Blk W w.heap.size 29 #[.int .u16 0, .bool false, .int .i64 0, .bool false, .bool false, .bool false, .bool false, .bool false, .bool false, .int .i64 0, .int .i64 0, .int .i64 0, .int .i64 0, .int .i64 0, .slice none 0 0, .slice none 0 0, .slice none 0 0, .slice none 0 0] := by rw [hW]; exact Blk.new _ _ _
  have hf : Fr (fun _ => False) w W := by rw [hW]; exact (Fr.refl _ _).alloc _
  obtain ⟨h, hh⟩ : ∃ h, h = (readHd s).1 := ⟨_, rfl⟩
  obtain ⟨e0, he0⟩ : ∃ e, e = (readHd s).2 := ⟨_, rfl⟩
  obtain ⟨iq, hqi, hqz0, hqz1, hqz2⟩ := info_parts Tryz.infoQnM
  obtain ⟨ir, hri, hrz0, hrz1, hrz2⟩ := info_parts Tryz.infoRcM
  have HIQ := Lib.hid (And.intro hqi (And.intro hqz0 (And.intro hqz1 hqz2)))
  have HIR := Lib.hid (And.intro hri (And.intro hrz0 (And.intro hrz1 hrz2)))
  have HB := Lib.hid (And.intro hb hf)
  have HHD := Lib.hid hh
  have HHE := Lib.hid he0
  have HS := Lib.hid hs
  have HSX := Lib.hid (show s.size ≤ 65535 → s.size ≤ 999999999 from fun h => by omega)
  have HW := Lib.hid hW
  have hlW : w.heap.size < W.heap.size := hb.lt
  clear hb hf hW hh he0 hqi hqz0 hqz1 hqz2 hri hrz0 hrz1 hrz2
  by_cases hbig : 65535 < s.size
  · have hbi : (65535 : Int) < (s.size : Int) := by omega
    have HBG := Lib.hid hbig
    clear hbig
    go_enter Tryz.func16, Tryz.ntmps16
    go_upto_region 1 with fail
    rw [← HW.out]
    clear HW
    go_wp2_with (first
      | (refine wpList_store_part rfl 29 _ _ rfl w.heap.size 0 (by rfl) _ (by rfl) 29 _ HB.out.1 (by kernel_rfl) (by simp [Value.oneCell']) (by simp) #[.int .u16 0, .bool false, .int .i64 0, .bool false, .bool false, .bool false, .bool false, .bool false, .bool false, .int .i64 0, .int .i64 0, .int .i64 0, .int .i64 0, .int .i64 0, .slice none 0 0, .slice none 0 0, .slice none 0 0, .slice none 0 0] (by rfl) ?_; intro wz bz fz; have HZ := Lib.hid (And.intro bz fz); clear bz fz)
      | fail "no arm")
    have herr : mreadE s = 3 := by unfold mreadE; rw [if_pos HBG.out]
    have hu : Tryz.prog.underlying 29 = _ := Tryz.underlying29
    refine bodyPost_ret (results_cell_tmp Tryz.results16 HZ.out.1 rfl rfl hu rfl (by kernel_rfl)) rfl ?_
    exact ⟨(HB.out.2).step HZ.out.2 (fun k hk => .inr (by omega)), .inl ⟨by rw [herr]; exact (by decide), by rw [herr]; try rfl⟩⟩
  · have hbi : ¬ (65535 : Int) < (s.size : Int) := by omega
    have HSM := Lib.hid hbig
    have HSY := Lib.hid (show s.size ≤ 999999999 by omega)
    clear hbig
    by_cases he : e0 = 0
    · have t0 : (e0 != 0) = false := by simp [he]
      have HE0 := Lib.hid (HHE.out.symm.trans he)
      clear he
      have hcn := hd_counts HE0.out
      rw [← HHD.out] at hcn
      obtain ⟨⟨c0a, c0b⟩, ⟨c1a, c1b⟩, ⟨c2a, c2b⟩, c3a, c3b⟩ := hcn
      go_enter Tryz.func16, Tryz.ntmps16
      go_upto_region 1 with fail
      rw [← HW.out]
      clear HW
      go_upto_region 7 with (first
        | (go_at_call 41
           (with_reducible refine (read_hd s W HS.out).mono ?_)
           rintro e w1 ⟨rfl, f1⟩
           rw [← HHD.out, ← HHE.out]
           have H1 := Lib.hid (And.intro (HB.out.1.fr f1 id) (HB.out.2.then f1))
           clear f1)
        | (refine wpList_store_part rfl 25 _ _ rfl w1.heap.size 0 (by rfl) _ (by rfl) 25 _ (Blk.new w1 25 _) (by kernel_rfl) (by simp [Value.oneCell']) (by simp) #[.int .u16 h.id, .bool h.resp, .int .i64 h.op, .bool h.aa, .bool h.tc, .bool h.rd, .bool h.ra, .bool h.ad, .bool h.cd, .int .i64 h.rc, .int .i64 h.c0, .int .i64 h.c1, .int .i64 h.c2, .int .i64 h.c3] (by rfl) ?_
           intro w2 b2 f2
           have H2 := Lib.hid (And.intro b2 (And.intro (H1.out.1.fr (((Fr.refl (fun _ => False) w1).alloc _).step f2 (fun k hk => .inr (by subst hk; exact Nat.le_refl _))) id) (And.intro (H1.out.2.then (((Fr.refl (fun _ => False) w1).alloc _).step f2 (fun k hk => .inr (by subst hk; exact Nat.le_refl _)))) H1.out.1.lt)))
           clear b2 f2)
        | (refine wpList_load_blk rfl 25 _ rfl w1.heap.size (by rfl) 25 _ _ H2.out.1 Tryz.underlying25 rfl (by kernel_rfl) ?_)
        | (refine wpList_store_part rfl 29 _ _ rfl w2.heap.size 0 (by rfl) _ (by rfl) 29 _ (Blk.new w2 29 _) (by kernel_rfl) (by simp [Value.oneCell']) (by simp) #[.int .u16 h.id, .bool h.resp, .int .i64 h.op, .bool h.aa, .bool h.tc, .bool h.rd, .bool h.ra, .bool h.ad, .bool h.cd, .int .i64 h.rc, .int .i64 h.c0, .int .i64 h.c1, .int .i64 h.c2, .int .i64 h.c3, .slice none 0 0, .slice none 0 0, .slice none 0 0, .slice none 0 0] (by rfl) ?_
           intro w3 b3 f3
           have f := (((Fr.refl (fun _ => False) w2).alloc (.cells #[.int .u16 0, .bool false, .int .i64 0, .bool false, .bool false, .bool false, .bool false, .bool false, .bool false, .int .i64 0, .int .i64 0, .int .i64 0, .int .i64 0, .int .i64 0, .slice none 0 0, .slice none 0 0, .slice none 0 0, .slice none 0 0] 29)).step f3 (fun k hk => .inr (by subst hk; exact Nat.le_refl _)))
           have hl1 := H2.out.1.lt
           have hl2 := H2.out.2.1.lt
           have hl3 := H2.out.2.2.2
           have H3 := Lib.hid (show Rmst w w3 w.heap.size w1.heap.size w2.heap.size h none [] 0 none [] 0 none [] 0 none [] 0 from ⟨H2.out.2.1.fr f id, H2.out.1.fr f id, b3, own_nil _ _ _, own_nil _ _ _, own_nil _ _ _, own_nil _ _ _, fun k hk => by rcases hk with hk | hk | hk | hk <;> exact absurd hk (rowOf_none k), fun k hk => absurd hk (rowOf_none k), fun k hk => absurd hk (rowOf_none k), fun k hk => absurd hk (rowOf_none k), fun x hx => by simp at hx, H2.out.2.2.1.then f, ⟨Nat.le_refl _, by omega, by omega⟩⟩)
           clear b3 f3 f hl1 hl2 hl3)
        | fail "no arm")
      obtain ⟨Hb, hHb⟩ : ∃ x, x = w1.heap.size := ⟨_, rfl⟩
      obtain ⟨M, hMM⟩ : ∃ x, x = w2.heap.size := ⟨_, rfl⟩
      rw [← hHb, ← hMM] at H3
      rw [← hHb, ← hMM]
      clear hHb hMM
      have HI := H3
      clear H3
      have k10 : w3.cell? ⟨Hb, 10, none⟩ = some (.int .i64 h.c0) := HI.out.hb.cell 10
      go_upto_region 8 with fail
      clear k10
      obtain ⟨n0, hn0⟩ : ∃ n : Nat, (n : Int) = h.c0 := ⟨h.c0.toNat, by omega⟩
      have hn0' : n0 = h.c0.toNat := by omega
      have HN0 := Lib.hid hn0'
      clear hn0'
      go_loopg [7, 30] n0 (fun gh at_ i wr => ∃ (k : Nat) (Aq : Option Addr) (cq : Nat), gh = n0 - k ∧ k ≤ n0 ∧ i = .int .i64 (k : Nat) ∧ at_ = .int .i64 (qaccN s 12 k).2.1 ∧ (qaccN s 12 k).2.2 = 0 ∧ Rmst w wr w.heap.size Hb M h Aq (qaccN s 12 k).1 cq none [] 0 none [] 0 none [] 0)
      case atStart => exact ⟨0, none, 0, rfl, Nat.zero_le _, rfl, rfl, rfl, HI.out⟩
      case round =>
        obtain ⟨k, Aq, cq, hgh, hk, rfl, rfl, hz, hst⟩ := hrel
        obtain ⟨at0, hat⟩ : ∃ a, a = (qaccN s 12 k).2.1 := ⟨_, rfl⟩
        obtain ⟨lq, hlq⟩ : ∃ l, l = (qaccN s 12 k).1 := ⟨_, rfl⟩
        rw [← hat]
        rw [← hlq] at hst
        have hll : lq.length = k := by rw [hlq]; exact qaccN_len hz
        have HG := Lib.hid (And.intro hgh (And.intro hz (And.intro hat (And.intro hlq hll))))
        have H0 := Lib.hid hst
        have hcc : (k : Int) ≤ 65535 := by omega
        clear hgh hz hat hlq hll hst
        by_cases hlt : k < n0
        · have hlti : (k : Int) < h.c0 := by omega
          obtain ⟨q1, hq1⟩ : ∃ q, q = (qreadC s at0).1.1 := ⟨_, rfl⟩
          obtain ⟨q2, hq2⟩ : ∃ q, q = (qreadC s at0).1.2.1 := ⟨_, rfl⟩
          obtain ⟨q3, hq3⟩ : ∃ q, q = (qreadC s at0).1.2.2 := ⟨_, rfl⟩
          obtain ⟨a1, ha1⟩ : ∃ q, q = (qreadC s at0).2.1 := ⟨_, rfl⟩
          obtain ⟨e1, he1⟩ : ∃ q, q = (qreadC s at0).2.2 := ⟨_, rfl⟩
          have HQ := Lib.hid (And.intro hq1 (And.intro hq2 (And.intro hq3 (And.intro ha1 he1))))
          clear hq1 hq2 hq3 ha1 he1
          by_cases hne : e1 = 0
          · have t1 : (e1 != 0) = false := by simp [hne]
            have HE := Lib.hid hne
            clear hne
            go_upto_region 13 with (first
              | (go_at_call 42
                 (with_reducible refine (readq_any s at0 _ HS.out).mono ?_)
                 rintro e w5 ⟨rfl, f5⟩
                 rw [← HQ.out.1, ← HQ.out.2.1, ← HQ.out.2.2.1, ← HQ.out.2.2.2.1, ← HQ.out.2.2.2.2]
                 have H5 := Lib.hid (And.intro ((Blk.new wr 40 #[.string ⟨#[]⟩, .int .i64 0, .int .i64 0]).fr f5 id) (((Fr.refl (fun _ => False) wr).alloc _).then f5))
                 clear f5)
              | (refine wpList_store_part rfl 40 _ _ rfl wr.heap.size 0 (by rfl) _ (by rfl) 40 _ H5.out.1 (by kernel_rfl) (by simp [Value.oneCell']) (by simp) #[.string q1, .int .i64 q2, .int .i64 q3] (by rfl) ?_
                 intro w6 b6 f6
                 have H6 := Lib.hid (And.intro b6 (H0.out.quiet (H5.out.2.step f6 (fun k hk => .inr (by omega)))))
                 clear b6 f6)
              | fail "no arm")
            have m14 : w6.cell? ⟨M, 14, none⟩ = some (.slice Aq lq.length cq) := H6.out.2.mb.cell 14
            have z14 := H6.out.2.mb.frozen 14
            have hlk : lq.length ≤ 65535 := by have := HG.out.2.2.2.2; omega
            go_wp2_with (first
              | (refine wpList_load_blk rfl 40 _ rfl wr.heap.size (by rfl) 40 _ _ H6.out.1 Tryz.underlying40 rfl (by kernel_rfl) ?_)
              | (at_builtin; refine wpList_append_src rfl (.tmp 44) (.tmp 46) _ _ rfl 40 iq _ 3 32 Tryz.underlying26 HIQ.out.1 HIQ.out.2.1 HIQ.out.2.2.1 HIQ.out.2.2.2 rfl (by decide) Aq lq.length cq (lq.flatMap qcl) (by rfl) (H6.out.2.quiet ((Fr.refl _ _).alloc _)).oq _ 1 [.string q1, .int .i64 q2, .int .i64 q3] (by rfl)
                   (Src.ofSlice _ Tryz.underlying26 ⟨w6.heap.size, 0, none⟩ 1 1 [.string q1, .int .i64 q2, .int .i64 q3] rfl (newm 40 _) (by simp [Value.oneCell'])) (by simp only [maxLen]; omega) (by omega) ?_
                 intro A7 c7 w7 o1 o2 o3
                 have H7 := Lib.hid (And.intro ((H6.out.2.quiet ((Fr.refl _ _).alloc _)).addq (q := (q1, q2, q3)) o1 o2 o3) trivial)
                 have hb7 := (H6.out.2.quiet ((Fr.refl _ _).alloc (.cells #[.string q1, .int .i64 q2, .int .i64 q3] 40))).mb.fr o2 (own_ne (H6.out.2.quiet ((Fr.refl _ _).alloc (.cells #[.string q1, .int .i64 q2, .int .i64 q3] 40))).oq (H6.out.2.quiet ((Fr.refl _ _).alloc (.cells #[.string q1, .int .i64 q2, .int .i64 q3] 40))).mb (by decide))
                 have m14 : w7.cell? ⟨M, 14, none⟩ = some (.slice Aq lq.length cq) := hb7.cell 14
                 have z14 := hb7.frozen 14
                 clear o1 o2 o3 hb7)
              | fail "no arm")
            go_roundg (n0 - (k + 1))
            case measure => have := HG.out.1; omega
            case rel =>
              have hz1 : (qreadC s (qaccN s 12 k).2.1).2.2 = 0 := by rw [← HG.out.2.2.1, ← HQ.out.2.2.2.2]; exact HE.out
              have hr := qaccN_ok HG.out.2.1 hz1
              have e4 : (qreadC s (qaccN s 12 k).2.1).1 = (q1, q2, q3) := by rw [← HG.out.2.2.1, HQ.out.1, HQ.out.2.1, HQ.out.2.2.1]
              rw [← HG.out.2.2.1] at hr e4
              rw [e4, ← HG.out.2.2.2.1, ← HQ.out.2.2.2.1] at hr
              exact ⟨k + 1, A7, c7, rfl, hlt, by go_num, by rw [hr], by rw [hr], by rw [hr]; exact H7.out.1⟩
          · have t1 : (e1 != 0) = true := by simp [hne]
            have HE := Lib.hid hne
            clear hne
            go_wp2_with (first
              | (go_at_call 42
                 (with_reducible refine (readq_any s at0 _ HS.out).mono ?_)
                 rintro e w5 ⟨rfl, f5⟩
                 rw [← HQ.out.1, ← HQ.out.2.1, ← HQ.out.2.2.1, ← HQ.out.2.2.2.1, ← HQ.out.2.2.2.2]
                 have H5 := Lib.hid (And.intro ((Blk.new wr 40 #[.string ⟨#[]⟩, .int .i64 0, .int .i64 0]).fr f5 id) (((Fr.refl (fun _ => False) wr).alloc _).then f5))
                 clear f5)
              | (refine wpList_store_part rfl 40 _ _ rfl wr.heap.size 0 (by rfl) _ (by rfl) 40 _ H5.out.1 (by kernel_rfl) (by simp [Value.oneCell']) (by simp) #[.string q1, .int .i64 q2, .int .i64 q3] (by rfl) ?_
                 intro w6 b6 f6
                 have H6 := Lib.hid (H0.out.quiet (H5.out.2.step f6 (fun k hk => .inr (by omega))))
                 clear b6 f6)
              | (refine wpList_store_part rfl 29 _ _ rfl w.heap.size 0 (by rfl) _ (by rfl) 29 _ H6.out.rb (by kernel_rfl) (by simp [Value.oneCell']) (by simp) #[.int .u16 0, .bool false, .int .i64 0, .bool false, .bool false, .bool false, .bool false, .bool false, .bool false, .int .i64 0, .int .i64 0, .int .i64 0, .int .i64 0, .int .i64 0, .slice none 0 0, .slice none 0 0, .slice none 0 0, .slice none 0 0] (by rfl) ?_; intro wz bz fz; have HZ := Lib.hid (And.intro bz fz); clear bz fz)
              | fail "no arm")
            have herr : mreadE s = e1 := by
              rw [mE_q HSM.out HE0.out (k := k) (by rw [← HHD.out]; omega) HG.out.2.1 (by rw [← HG.out.2.2.1, ← HQ.out.2.2.2.2]; exact HE.out), ← HG.out.2.2.1, HQ.out.2.2.2.2]
            have hu : Tryz.prog.underlying 29 = _ := Tryz.underlying29
            refine bodyPost_ret (results_cell_tmp Tryz.results16 HZ.out.1 rfl rfl hu rfl (by kernel_rfl)) rfl ?_
            exact ⟨(H6.out.fr).step HZ.out.2 (fun k hk => .inr (by omega)), .inl ⟨by rw [herr]; exact HE.out, by rw [herr]; try rfl⟩⟩
        · have hke : k = n0 := by omega
          subst hke
          clear hlt
          have hqz : (mq s).2.2 = 0 := by unfold mq; rw [← HHD.out, ← HN0.out]; exact HG.out.2.1
          have hqa : (mq s).2.1 = at0 := by unfold mq; rw [← HHD.out, ← HN0.out, HG.out.2.2.1]
          have hql : (mq s).1 = lq := by unfold mq; rw [← HHD.out, ← HN0.out, HG.out.2.2.2.1]
          have HMQ := Lib.hid (And.intro hqz (And.intro hqa hql))
          clear hqz hqa hql
          rename World => v0
          have HAT0 := Lib.hid (show at0 = (mq s).2.1 from HMQ.out.2.1.symm)
          go_upto_region 16 with (first
            | (go_at_call 30
               (with_reducible refine (rows_any M v0 H0.out.mb.lt).mono ?_)
               rintro e va ⟨rfl, fa⟩
               have Hva := Lib.hid (H0.out.quiet fa)
               clear fa)
            | fail "no arm")
          refine wp_loop_rounds 4 ?_
          rw [rounds_succ]
          have hix := rows_ix0 M
          have kc : va.cell? ⟨Hb, 11, none⟩ = some (.int .i64 h.c1) := Hva.out.hb.cell 11
          go_upto_region 19 with fail
          clear kc hix
          obtain ⟨n1, hn1⟩ : ∃ n : Nat, (n : Int) = h.c1 := ⟨h.c1.toNat, by omega⟩
          have Hn1 := Lib.hid (show n1 = (readHd s).1.c1.toNat by rw [← HHD.out]; omega)
          go_loopg [7, 60] n1 (fun gh at_ i wr => ∃ (k : Nat) (Aa : Option Addr) (la : RLm) (ca : Nat), gh = n1 - k ∧ k ≤ n1 ∧ i = .int .i64 (k : Nat) ∧ at_ = .int .i64 (raccN s (mq s).2.1 k).2.1 ∧ (raccN s (mq s).2.1 k).2.2 = 0 ∧ la.map Prod.fst = (raccN s (mq s).2.1 k).1 ∧ Rmst w wr w.heap.size Hb M h Aq lq cq Aa la ca none [] 0 none [] 0)
          case atStart => exact ⟨0, none, [], 0, rfl, Nat.zero_le _, rfl, congrArg (Value.int .i64) HAT0.out, rfl, rfl, Hva.out⟩
          case round =>
            obtain ⟨k, Aa, la, ca, hgh, hk, rfl, rfl, hz, hmp, hst⟩ := hrel
            obtain ⟨at0, hat⟩ : ∃ a, a = (raccN s (mq s).2.1 k).2.1 := ⟨_, rfl⟩
            rw [← hat]
            have hll : la.length = k := by have := congrArg List.length hmp; rw [List.length_map, raccN_len hz] at this; exact this
            have HG := Lib.hid (And.intro hgh (And.intro hz (And.intro hat (And.intro hmp hll))))
            have H0 := Lib.hid hst
            have hcc : (k : Int) ≤ 65535 := by omega
            have hln : (la.length : Int) ≤ 65535 := by omega
            clear hgh hz hat hmp hll hst
            by_cases hlt : k < n1
            · have hlti : (k : Int) < h.c1 := by omega
              obtain ⟨rc, hrc⟩ : ∃ q, q = (rreadC s at0).1 := ⟨_, rfl⟩
              obtain ⟨a1, ha1⟩ : ∃ q, q = (rreadC s at0).2.1 := ⟨_, rfl⟩
              obtain ⟨e1, he1⟩ : ∃ q, q = (rreadC s at0).2.2 := ⟨_, rfl⟩
              have HQ := Lib.hid (And.intro hrc (And.intro ha1 he1))
              clear hrc ha1 he1
              by_cases hne : e1 = 0
              · have t1 : (e1 != 0) = false := by simp [hne]
                have HE := Lib.hid hne
                clear hne
                go_upto_region 24 with (first
                  | (go_at_call 43
                     (with_reducible refine (rread_any s at0 _ HSY.out).mono ?_)
                     rintro e w5 ⟨AX, cX, rfl, tx5, f5, n5⟩
                     rw [← HQ.out.1] at tx5
                     rw [← HQ.out.1, ← HQ.out.2.1, ← HQ.out.2.2]
                     have H5 := Lib.hid (And.intro ((Blk.new wr 55 #[.string ⟨#[]⟩, .int .i64 0, .int .i64 0, .int .u32 0, .bool false, .int .u64 0, .int .u64 0, .string ⟨#[]⟩, .string ⟨#[]⟩, .int .u32 0, .int .u32 0, .int .u32 0, .int .u32 0, .int .u32 0, .slice none 0 0, .string ⟨#[]⟩]).fr f5 id) (And.intro (((Fr.refl (fun _ => False) wr).alloc _).then f5) (And.intro tx5 n5)))
                     clear tx5 f5 n5)
                  | (refine wpList_store_part rfl 55 _ _ rfl wr.heap.size 0 (by rfl) (rcl (rc, AX, cX)) (by rfl) 55 _ H5.out.1 (by kernel_rfl) (rcl_onem _) (by simp [rcl_lenm]) #[.string rc.name, .int .i64 rc.t, .int .i64 rc.cl, .int .u32 rc.ttl, .bool rc.d.six, .int .u64 rc.d.hi, .int .u64 rc.d.lo, .string rc.d.name, .string rc.d.mail, .int .u32 rc.d.n0, .int .u32 rc.d.n1, .int .u32 rc.d.n2, .int .u32 rc.d.n3, .int .u32 rc.d.n4, .slice AX rc.d.texts.length cX, .string rc.d.raw] (by rfl) ?_
                     intro w6 b6 f6
                     have f56 := H5.out.2.1.step f6 (fun k hk => .inr (by omega))
                     have h6 := H0.out.quiet f56
                     have hwl : wr.heap.size < w5.heap.size := H5.out.1.lt
                     have H6 := Lib.hid (And.intro b6 (And.intro h6 (show TxAt w6 M Aa none none (rc, AX, cX) from ⟨H5.out.2.2.1.fr f6 (fun k hk h => by have := (H5.out.2.2.2 k hk).1; rw [World.size_alloc] at this; omega), fun k hk => by
                       have g1 := (H5.out.2.2.2 k hk).1
                       rw [World.size_alloc] at g1
                       have g2 := (H5.out.2.2.2 k hk).2
                       refine ⟨Nat.lt_of_lt_of_le g2 f6.size, by have := H0.out.mb.lt; omega, ?_, ?_, ?_⟩
                       · exact fun h => by have := own_lt H0.out.oa h; omega
                       · exact fun h => by have := own_lt H0.out.ob h; omega
                       · exact fun h => by have := own_lt H0.out.oc h; omega⟩)))
                     have H6X := Lib.hid (And.intro (show rowOf Aa wr.heap.size → False from fun g => by have := own_lt H0.out.oa g; omega) (show wr.heap.size ≠ M from by have := H0.out.mb.lt; omega))
                     clear b6 f6 f56 h6)
                  | fail "no arm")
                have hS6 := blk_rg0 (H6.out.1.drew)
                have m6 : w6.drew.cell? ⟨M, 15, none⟩ = some (.slice Aa la.length ca) := (H6.out.2.1.quiet ((Fr.refl _ _).drew)).mb.cell 15
                have h8 := (H6.out.2.1.quiet ((Fr.refl (fun _ => False) w6).drew)).quiet ((Fr.refl (fun _ => False) _).alloc (.cells #[.string rc.name, .int .i64 rc.t, .int .i64 rc.cl, .int .u32 rc.ttl, .bool rc.d.six, .int .u64 rc.d.hi, .int .u64 rc.d.lo, .string rc.d.name, .string rc.d.mail, .int .u32 rc.d.n0, .int .u32 rc.d.n1, .int .u32 rc.d.n2, .int .u32 rc.d.n3, .int .u32 rc.d.n4, .slice AX rc.d.texts.length cX, .string rc.d.raw] 55))
                have b8 := (H6.out.1.drew).alloc (.cells #[.string rc.name, .int .i64 rc.t, .int .i64 rc.cl, .int .u32 rc.ttl, .bool rc.d.six, .int .u64 rc.d.hi, .int .u64 rc.d.lo, .string rc.d.name, .string rc.d.mail, .int .u32 rc.d.n0, .int .u32 rc.d.n1, .int .u32 rc.d.n2, .int .u32 rc.d.n3, .int .u32 rc.d.n4, .slice AX rc.d.texts.length cX, .string rc.d.raw] 55)
                have hS8 := blk_rg0 b8
                have m8 : ((w6.drew).alloc (.cells #[.string rc.name, .int .i64 rc.t, .int .i64 rc.cl, .int .u32 rc.ttl, .bool rc.d.six, .int .u64 rc.d.hi, .int .u64 rc.d.lo, .string rc.d.name, .string rc.d.mail, .int .u32 rc.d.n0, .int .u32 rc.d.n1, .int .u32 rc.d.n2, .int .u32 rc.d.n3, .int .u32 rc.d.n4, .slice AX rc.d.texts.length cX, .string rc.d.raw] 55)).cell? ⟨M, 15, none⟩ = some (.slice Aa la.length ca) := h8.mb.cell 15
                have H8 := Lib.hid h8
                have HM68 := Lib.hid (And.intro m6 m8)
                clear h8 b8 m6 m8
                refine wp_region_held_drew (S := fun w' => w'.rangeAt wr.heap.size 0 [.string rc.name, .int .i64 rc.t, .int .i64 rc.cl, .int .u32 rc.ttl, .bool rc.d.six, .int .u64 rc.d.hi, .int .u64 rc.d.lo, .string rc.d.name, .string rc.d.mail, .int .u32 rc.d.n0, .int .u32 rc.d.n1, .int .u32 rc.d.n2, .int .u32 rc.d.n3, .int .u32 rc.d.n4, .slice AX rc.d.texts.length cX, .string rc.d.raw]) (by kernel_rfl) hS6 (fun hHeld => ?_)
                refine wpAnyH_take (i := 0) (v := ?_) rfl (by kernel_rfl) (by kernel_rfl) (by kernel_rfl) (fun _ _ _ h => h) (Or.inl ⟨by rfl, ?_⟩) (by assumption) ?_
                rotate_left
                · intro w hSw
                  go_simp
                  try with_reducible rfl
                try simp only [Act.put, List.setIfInBounds_toArray, List.set_cons_zero, List.set_cons_succ, List.getElem_toArray, List.getElem_cons_zero, List.getElem_cons_succ]
                refine wpAnyH_take (i := 1) (v := ?_) rfl (by kernel_rfl) (by kernel_rfl) (by kernel_rfl) (fun _ _ _ h => h) (Or.inl ⟨by rfl, ?_⟩) (by assumption) ?_
                rotate_left
                · intro w hSw
                  go_simp
                  try with_reducible rfl
                try simp only [Act.put, List.setIfInBounds_toArray, List.set_cons_zero, List.set_cons_succ, List.getElem_toArray, List.getElem_cons_zero, List.getElem_cons_succ]
                refine wpAnyH_take (i := 2) (v := ?_) rfl (by kernel_rfl) (by kernel_rfl) (by kernel_rfl) (fun _ _ _ h => h) (Or.inl ⟨by rfl, ?_⟩) (by assumption) ?_
                rotate_left
                · intro w hSw
                  go_simp
                  try with_reducible rfl
                try simp only [Act.put, List.setIfInBounds_toArray, List.set_cons_zero, List.set_cons_succ, List.getElem_toArray, List.getElem_cons_zero, List.getElem_cons_succ]
                refine wpAnyH_take (i := 4) rfl (by kernel_rfl) (by kernel_rfl) (by kernel_rfl) (fun _ _ _ h => h) (yieldsIf_load_mid (by rfl) _ _ rfl wr.heap.size (0) (by rfl) [.string rc.name, .int .i64 rc.t, .int .i64 rc.cl, .int .u32 rc.ttl, .bool rc.d.six, .int .u64 rc.d.hi, .int .u64 rc.d.lo, .string rc.d.name, .string rc.d.mail, .int .u32 rc.d.n0, .int .u32 rc.d.n1, .int .u32 rc.d.n2, .int .u32 rc.d.n3, .int .u32 rc.d.n4, .slice AX rc.d.texts.length cX, .string rc.d.raw] _ (fun w' h => h) Tryz.underlying55 rfl (by kernel_rfl)) (by assumption) ?_
                try simp only [Act.put, List.setIfInBounds_toArray, List.set_cons_zero, List.set_cons_succ, List.getElem_toArray, List.getElem_cons_zero, List.getElem_cons_succ]
                refine wpAnyH_ready (rs := [3, 5]) (by kernel_rfl) (by simp) ?_
                refine AllReadyH.cons rfl (fun K hK => ?_) (AllReadyH.cons rfl (fun K hK => ?_) AllReadyH.nil)
                · have m6 := HM68.out.1
                  go_simp
                  refine hK.out _ _ hS6 (fun hHeld => ?_)
                  clear hK K
                  try simp only [Act.put, List.setIfInBounds_toArray, List.set_cons_zero, List.set_cons_succ, List.getElem_toArray, List.getElem_cons_zero, List.getElem_cons_succ]
                  clear m6
                  refine wpAnyH_ready (rs := [5]) (by kernel_rfl) (by simp) ?_
                  refine AllReadyH.cons rfl (fun K hK => ?_) AllReadyH.nil
                  go_simp
                  refine hK.out _ _ hS8 (fun hHeld => ?_)
                  clear hK K
                  try simp only [Act.put, List.setIfInBounds_toArray, List.set_cons_zero, List.set_cons_succ, List.getElem_toArray, List.getElem_cons_zero, List.getElem_cons_succ]
                  refine wpAnyH_ready (rs := [6]) (by kernel_rfl) (by simp) ?_
                  refine AllReadyH.cons rfl (fun K hK => ?_) AllReadyH.nil
                  refine step_append_src rfl (.tmp 76) (.tmp 78) _ _ rfl 55 ir _ 16 160 Tryz.underlying27 HIR.out.1 HIR.out.2.1 HIR.out.2.2.1 HIR.out.2.2.2 rfl (by decide) Aa la.length ca (la.flatMap rcl) (by simp [Act.eval]) H8.out.oa _ 1 (rcl (rc, AX, cX)) (by simp [Act.eval])
                    (Src.ofSlice _ Tryz.underlying27 ⟨w6.drew.heap.size, 0, none⟩ 1 1 [.string rc.name, .int .i64 rc.t, .int .i64 rc.cl, .int .u32 rc.ttl, .bool rc.d.six, .int .u64 rc.d.hi, .int .u64 rc.d.lo, .string rc.d.name, .string rc.d.mail, .int .u32 rc.d.n0, .int .u32 rc.d.n1, .int .u32 rc.d.n2, .int .u32 rc.d.n3, .int .u32 rc.d.n4, .slice AX rc.d.texts.length cX, .string rc.d.raw] rfl (newm 55 _) (by simp [Value.oneCell'])) (by simp only [maxLen]; omega) (by omega) ?_
                  intro A7 c7 w7 o1 o2 o3
                  have hb7 := H8.out.mb.fr o2 (own_ne H8.out.oa H8.out.mb (by decide))
                  have z7 := hb7.frozen 15
                  have m7 : w7.cell? ⟨M, 15, none⟩ = some (.slice Aa la.length ca) := hb7.cell 15
                  have H9 := Lib.hid (H8.out.add0 (x := (rc, AX, cX)) (H6.out.2.2.quiet (((Fr.refl (fun _ => False) w6).drew).alloc (.cells #[.string rc.name, .int .i64 rc.t, .int .i64 rc.cl, .int .u32 rc.ttl, .bool rc.d.six, .int .u64 rc.d.hi, .int .u64 rc.d.lo, .string rc.d.name, .string rc.d.mail, .int .u32 rc.d.n0, .int .u32 rc.d.n1, .int .u32 rc.d.n2, .int .u32 rc.d.n3, .int .u32 rc.d.n4, .slice AX rc.d.texts.length cX, .string rc.d.raw] 55))) o1 o2 o3)
                  have hr7 : w7.rangeAt wr.heap.size 0 [.string rc.name, .int .i64 rc.t, .int .i64 rc.cl, .int .u32 rc.ttl, .bool rc.d.six, .int .u64 rc.d.hi, .int .u64 rc.d.lo, .string rc.d.name, .string rc.d.mail, .int .u32 rc.d.n0, .int .u32 rc.d.n1, .int .u32 rc.d.n2, .int .u32 rc.d.n3, .int .u32 rc.d.n4, .slice AX rc.d.texts.length cX, .string rc.d.raw] := range_own o2 (((H6.out.1.drew).alloc (.cells #[.string rc.name, .int .i64 rc.t, .int .i64 rc.cl, .int .u32 rc.ttl, .bool rc.d.six, .int .u64 rc.d.hi, .int .u64 rc.d.lo, .string rc.d.name, .string rc.d.mail, .int .u32 rc.d.n0, .int .u32 rc.d.n1, .int .u32 rc.d.n2, .int .u32 rc.d.n3, .int .u32 rc.d.n4, .slice AX rc.d.texts.length cX, .string rc.d.raw] 55))) (fun g => H6X.out.1 g)
                  have hr9 : (w7.setCell ⟨M, 15, none⟩ (.slice A7 (la.length + 1) c7)).rangeAt wr.heap.size 0 [.string rc.name, .int .i64 rc.t, .int .i64 rc.cl, .int .u32 rc.ttl, .bool rc.d.six, .int .u64 rc.d.hi, .int .u64 rc.d.lo, .string rc.d.name, .string rc.d.mail, .int .u32 rc.d.n0, .int .u32 rc.d.n1, .int .u32 rc.d.n2, .int .u32 rc.d.n3, .int .u32 rc.d.n4, .slice AX rc.d.texts.length cX, .string rc.d.raw] := range_set hr7 H6X.out.2
                  clear o1 o2 o3 hb7 hHeld
                  refine hK.out _ _ hr7 (fun hHeld => ?_)
                  clear hK K
                  try simp only [Act.put, List.setIfInBounds_toArray, List.set_cons_zero, List.set_cons_succ, List.getElem_toArray, List.getElem_cons_zero, List.getElem_cons_succ]
                  refine wpAnyH_take (i := 7) (v := ?_) rfl (by kernel_rfl) (by kernel_rfl) (by kernel_rfl) (fun _ _ _ h => h) (Or.inl ⟨by rfl, ?_⟩) (by assumption) ?_
                  rotate_left
                  · intro w hSw
                    go_simp
                    try with_reducible rfl
                  try simp only [Act.put, List.setIfInBounds_toArray, List.set_cons_zero, List.set_cons_succ, List.getElem_toArray, List.getElem_cons_zero, List.getElem_cons_succ]
                  refine wpAnyH_ready (rs := [8]) (by kernel_rfl) (by simp) ?_
                  refine AllReadyH.cons rfl (fun K hK => ?_) AllReadyH.nil
                  go_simp
                  refine hK.out _ _ hr9 (fun hHeld => ?_)
                  clear hK K
                  try simp only [Act.put, List.setIfInBounds_toArray, List.set_cons_zero, List.set_cons_succ, List.getElem_toArray, List.getElem_cons_zero, List.getElem_cons_succ]
                  refine wpAnyH_done (by kernel_rfl) ?_ _
                  clear hHeld z7 m7 hr7 hr9 hS6 hS8
                  go_wp2_with fail
                  go_roundg (n1 - (k + 1))
                  case measure => have := HG.out.1; omega
                  case rel =>
                    have hz1 : (rreadC s (raccN s (mq s).2.1 k).2.1).2.2 = 0 := by rw [← HG.out.2.2.1, ← HQ.out.2.2]; exact HE.out
                    have hr := raccN_ok HG.out.2.1 hz1
                    rw [← HG.out.2.2.1, ← HQ.out.1, ← HQ.out.2.1] at hr
                    refine ⟨k + 1, A7, la ++ [(rc, AX, cX)], c7, rfl, hlt, by go_num, by rw [hr], by rw [hr], by rw [hr, List.map_append, HG.out.2.2.2.1]; rfl, ?_⟩
                    exact H9.out
                · go_simp
                  refine hK.out _ _ hS8 (fun hHeld => ?_)
                  clear hK K
                  try simp only [Act.put, List.setIfInBounds_toArray, List.set_cons_zero, List.set_cons_succ, List.getElem_toArray, List.getElem_cons_zero, List.getElem_cons_succ]
                  have m8 := HM68.out.2
                  have m8' := H6.out.2.1.mb.cell 15
                  have hM6 := H6.out.2.1.mb.lt
                  refine wpAnyH_ready (rs := [3]) (by kernel_rfl) (by simp) ?_
                  refine AllReadyH.cons rfl (fun K hK => ?_) AllReadyH.nil
                  go_simp
                  refine hK.out _ _ hS8 (fun hHeld => ?_)
                  clear hK K
                  try simp only [Act.put, List.setIfInBounds_toArray, List.set_cons_zero, List.set_cons_succ, List.getElem_toArray, List.getElem_cons_zero, List.getElem_cons_succ]
                  clear m8 m8' hM6
                  refine wpAnyH_ready (rs := [6]) (by kernel_rfl) (by simp) ?_
                  refine AllReadyH.cons rfl (fun K hK => ?_) AllReadyH.nil
                  refine step_append_src rfl (.tmp 76) (.tmp 78) _ _ rfl 55 ir _ 16 160 Tryz.underlying27 HIR.out.1 HIR.out.2.1 HIR.out.2.2.1 HIR.out.2.2.2 rfl (by decide) Aa la.length ca (la.flatMap rcl) (by simp [Act.eval]) H8.out.oa _ 1 (rcl (rc, AX, cX)) (by simp [Act.eval])
                    (Src.ofSlice _ Tryz.underlying27 ⟨w6.drew.heap.size, 0, none⟩ 1 1 [.string rc.name, .int .i64 rc.t, .int .i64 rc.cl, .int .u32 rc.ttl, .bool rc.d.six, .int .u64 rc.d.hi, .int .u64 rc.d.lo, .string rc.d.name, .string rc.d.mail, .int .u32 rc.d.n0, .int .u32 rc.d.n1, .int .u32 rc.d.n2, .int .u32 rc.d.n3, .int .u32 rc.d.n4, .slice AX rc.d.texts.length cX, .string rc.d.raw] rfl (newm 55 _) (by simp [Value.oneCell'])) (by simp only [maxLen]; omega) (by omega) ?_
                  intro A7 c7 w7 o1 o2 o3
                  have hb7 := H8.out.mb.fr o2 (own_ne H8.out.oa H8.out.mb (by decide))
                  have z7 := hb7.frozen 15
                  have m7 : w7.cell? ⟨M, 15, none⟩ = some (.slice Aa la.length ca) := hb7.cell 15
                  have H9 := Lib.hid (H8.out.add0 (x := (rc, AX, cX)) (H6.out.2.2.quiet (((Fr.refl (fun _ => False) w6).drew).alloc (.cells #[.string rc.name, .int .i64 rc.t, .int .i64 rc.cl, .int .u32 rc.ttl, .bool rc.d.six, .int .u64 rc.d.hi, .int .u64 rc.d.lo, .string rc.d.name, .string rc.d.mail, .int .u32 rc.d.n0, .int .u32 rc.d.n1, .int .u32 rc.d.n2, .int .u32 rc.d.n3, .int .u32 rc.d.n4, .slice AX rc.d.texts.length cX, .string rc.d.raw] 55))) o1 o2 o3)
                  have hr7 : w7.rangeAt wr.heap.size 0 [.string rc.name, .int .i64 rc.t, .int .i64 rc.cl, .int .u32 rc.ttl, .bool rc.d.six, .int .u64 rc.d.hi, .int .u64 rc.d.lo, .string rc.d.name, .string rc.d.mail, .int .u32 rc.d.n0, .int .u32 rc.d.n1, .int .u32 rc.d.n2, .int .u32 rc.d.n3, .int .u32 rc.d.n4, .slice AX rc.d.texts.length cX, .string rc.d.raw] := range_own o2 (((H6.out.1.drew).alloc (.cells #[.string rc.name, .int .i64 rc.t, .int .i64 rc.cl, .int .u32 rc.ttl, .bool rc.d.six, .int .u64 rc.d.hi, .int .u64 rc.d.lo, .string rc.d.name, .string rc.d.mail, .int .u32 rc.d.n0, .int .u32 rc.d.n1, .int .u32 rc.d.n2, .int .u32 rc.d.n3, .int .u32 rc.d.n4, .slice AX rc.d.texts.length cX, .string rc.d.raw] 55))) (fun g => H6X.out.1 g)
                  have hr9 : (w7.setCell ⟨M, 15, none⟩ (.slice A7 (la.length + 1) c7)).rangeAt wr.heap.size 0 [.string rc.name, .int .i64 rc.t, .int .i64 rc.cl, .int .u32 rc.ttl, .bool rc.d.six, .int .u64 rc.d.hi, .int .u64 rc.d.lo, .string rc.d.name, .string rc.d.mail, .int .u32 rc.d.n0, .int .u32 rc.d.n1, .int .u32 rc.d.n2, .int .u32 rc.d.n3, .int .u32 rc.d.n4, .slice AX rc.d.texts.length cX, .string rc.d.raw] := range_set hr7 H6X.out.2
                  clear o1 o2 o3 hb7 hHeld
                  refine hK.out _ _ hr7 (fun hHeld => ?_)
                  clear hK K
                  try simp only [Act.put, List.setIfInBounds_toArray, List.set_cons_zero, List.set_cons_succ, List.getElem_toArray, List.getElem_cons_zero, List.getElem_cons_succ]
                  refine wpAnyH_take (i := 7) (v := ?_) rfl (by kernel_rfl) (by kernel_rfl) (by kernel_rfl) (fun _ _ _ h => h) (Or.inl ⟨by rfl, ?_⟩) (by assumption) ?_
                  rotate_left
                  · intro w hSw
                    go_simp
                    try with_reducible rfl
                  try simp only [Act.put, List.setIfInBounds_toArray, List.set_cons_zero, List.set_cons_succ, List.getElem_toArray, List.getElem_cons_zero, List.getElem_cons_succ]
                  refine wpAnyH_ready (rs := [8]) (by kernel_rfl) (by simp) ?_
                  refine AllReadyH.cons rfl (fun K hK => ?_) AllReadyH.nil
                  go_simp
                  refine hK.out _ _ hr9 (fun hHeld => ?_)
                  clear hK K
                  try simp only [Act.put, List.setIfInBounds_toArray, List.set_cons_zero, List.set_cons_succ, List.getElem_toArray, List.getElem_cons_zero, List.getElem_cons_succ]
                  refine wpAnyH_done (by kernel_rfl) ?_ _
                  clear hHeld z7 m7 hr7 hr9 hS6 hS8
                  go_wp2_with fail
                  go_roundg (n1 - (k + 1))
                  case measure => have := HG.out.1; omega
                  case rel =>
                    have hz1 : (rreadC s (raccN s (mq s).2.1 k).2.1).2.2 = 0 := by rw [← HG.out.2.2.1, ← HQ.out.2.2]; exact HE.out
                    have hr := raccN_ok HG.out.2.1 hz1
                    rw [← HG.out.2.2.1, ← HQ.out.1, ← HQ.out.2.1] at hr
                    refine ⟨k + 1, A7, la ++ [(rc, AX, cX)], c7, rfl, hlt, by go_num, by rw [hr], by rw [hr], by rw [hr, List.map_append, HG.out.2.2.2.1]; rfl, ?_⟩
                    exact H9.out
              · have t1 : (e1 != 0) = true := by simp [hne]
                have HE := Lib.hid hne
                clear hne
                go_wp2_with (first
                  | (go_at_call 43
                     (with_reducible refine (rread_any s at0 _ HSY.out).mono ?_)
                     rintro e w5 ⟨AX, cX, rfl, tx5, f5, n5⟩
                     rw [← HQ.out.1, ← HQ.out.2.1, ← HQ.out.2.2]
                     have H5 := Lib.hid (And.intro ((Blk.new wr 55 #[.string ⟨#[]⟩, .int .i64 0, .int .i64 0, .int .u32 0, .bool false, .int .u64 0, .int .u64 0, .string ⟨#[]⟩, .string ⟨#[]⟩, .int .u32 0, .int .u32 0, .int .u32 0, .int .u32 0, .int .u32 0, .slice none 0 0, .string ⟨#[]⟩]).fr f5 id) (((Fr.refl (fun _ => False) wr).alloc _).then f5))
                     clear tx5 f5 n5)
                  | (refine wpList_store_part rfl 55 _ _ rfl wr.heap.size 0 (by rfl) (rcl (rc, AX, cX)) (by rfl) 55 _ H5.out.1 (by kernel_rfl) (rcl_onem _) (by simp [rcl_lenm]) #[.string rc.name, .int .i64 rc.t, .int .i64 rc.cl, .int .u32 rc.ttl, .bool rc.d.six, .int .u64 rc.d.hi, .int .u64 rc.d.lo, .string rc.d.name, .string rc.d.mail, .int .u32 rc.d.n0, .int .u32 rc.d.n1, .int .u32 rc.d.n2, .int .u32 rc.d.n3, .int .u32 rc.d.n4, .slice AX rc.d.texts.length cX, .string rc.d.raw] (by rfl) ?_
                     intro w6 b6 f6
                     have H6 := Lib.hid (H0.out.quiet (H5.out.2.step f6 (fun k hk => .inr (by omega))))
                     clear b6 f6)
                  | (refine wpList_store_part rfl 29 _ _ rfl w.heap.size 0 (by rfl) _ (by rfl) 29 _ H6.out.rb (by kernel_rfl) (by simp [Value.oneCell']) (by simp) #[.int .u16 0, .bool false, .int .i64 0, .bool false, .bool false, .bool false, .bool false, .bool false, .bool false, .int .i64 0, .int .i64 0, .int .i64 0, .int .i64 0, .int .i64 0, .slice none 0 0, .slice none 0 0, .slice none 0 0, .slice none 0 0] (by rfl) ?_; intro wz bz fz; have HZ := Lib.hid (And.intro bz fz); clear bz fz)
                  | fail "no arm")
                have herr : mreadE s = e1 := by
                  rw [mE_a HSM.out HE0.out HMQ.out.1 (k := k) (by rw [← Hn1.out]; exact hlt) HG.out.2.1 (by rw [← HG.out.2.2.1, ← HQ.out.2.2]; exact HE.out), ← HG.out.2.2.1, HQ.out.2.2]
                have hu : Tryz.prog.underlying 29 = _ := Tryz.underlying29
                refine bodyPost_ret (results_cell_tmp Tryz.results16 HZ.out.1 rfl rfl hu rfl (by kernel_rfl)) rfl ?_
                exact ⟨(H6.out.fr).step HZ.out.2 (fun k hk => .inr (by omega)), .inl ⟨by rw [herr]; exact HE.out, by rw [herr]; try rfl⟩⟩
            · have hke : k = n1 := by omega
              subst hke
              clear hlt
              have hz0 : (ma s).2.2 = 0 := by show (raccN s (mq s).2.1 _).2.2 = 0; rw [← Hn1.out]; exact HG.out.2.1
              have ha0 : (ma s).2.1 = at0 := by show (raccN s (mq s).2.1 _).2.1 = at0; rw [← Hn1.out, HG.out.2.2.1]
              have hm0 : la.map Prod.fst = (ma s).1 := by show _ = (raccN s (mq s).2.1 _).1; rw [← Hn1.out]; exact HG.out.2.2.2.1
              have HM0 := Lib.hid (And.intro hz0 (And.intro ha0 hm0))
              clear hz0 ha0 hm0
              rename World => v1
              have Hv1 := H0
              have HAT1 := Lib.hid (show at0 = (ma s).2.1 from HM0.out.2.1.symm)
              clear H0 HG
              go_wp2_with fail
              rw [rounds_succ]
              have hix := rows_ix1 M
              have kc : v1.cell? ⟨Hb, 12, none⟩ = some (.int .i64 h.c2) := Hv1.out.hb.cell 12
              go_upto_region 19 with fail
              clear kc hix
              obtain ⟨n2, hn2⟩ : ∃ n : Nat, (n : Int) = h.c2 := ⟨h.c2.toNat, by omega⟩
              have Hn2 := Lib.hid (show n2 = (readHd s).1.c2.toNat by rw [← HHD.out]; omega)
              go_loopg [7, 60] n2 (fun gh at_ i wr => ∃ (k : Nat) (Ab : Option Addr) (lb : RLm) (cb : Nat), gh = n2 - k ∧ k ≤ n2 ∧ i = .int .i64 (k : Nat) ∧ at_ = .int .i64 (raccN s (ma s).2.1 k).2.1 ∧ (raccN s (ma s).2.1 k).2.2 = 0 ∧ lb.map Prod.fst = (raccN s (ma s).2.1 k).1 ∧ Rmst w wr w.heap.size Hb M h Aq lq cq Aa la ca Ab lb cb none [] 0)
              case atStart => exact ⟨0, none, [], 0, rfl, Nat.zero_le _, rfl, congrArg (Value.int .i64) HAT1.out, rfl, rfl, Hv1.out⟩
              case round =>
                obtain ⟨k, Ab, lb, cb, hgh, hk, rfl, rfl, hz, hmp, hst⟩ := hrel
                obtain ⟨at0, hat⟩ : ∃ a, a = (raccN s (ma s).2.1 k).2.1 := ⟨_, rfl⟩
                rw [← hat]
                have hll : lb.length = k := by have := congrArg List.length hmp; rw [List.length_map, raccN_len hz] at this; exact this
                have HG := Lib.hid (And.intro hgh (And.intro hz (And.intro hat (And.intro hmp hll))))
                have H0 := Lib.hid hst
                have hcc : (k : Int) ≤ 65535 := by omega
                have hln : (lb.length : Int) ≤ 65535 := by omega
                clear hgh hz hat hmp hll hst
                by_cases hlt : k < n2
                · have hlti : (k : Int) < h.c2 := by omega
                  obtain ⟨rc, hrc⟩ : ∃ q, q = (rreadC s at0).1 := ⟨_, rfl⟩
                  obtain ⟨a1, ha1⟩ : ∃ q, q = (rreadC s at0).2.1 := ⟨_, rfl⟩
                  obtain ⟨e1, he1⟩ : ∃ q, q = (rreadC s at0).2.2 := ⟨_, rfl⟩
                  have HQ := Lib.hid (And.intro hrc (And.intro ha1 he1))
                  clear hrc ha1 he1
                  by_cases hne : e1 = 0
                  · have t1 : (e1 != 0) = false := by simp [hne]
                    have HE := Lib.hid hne
                    clear hne
                    go_upto_region 24 with (first
                      | (go_at_call 43
                         (with_reducible refine (rread_any s at0 _ HSY.out).mono ?_)
                         rintro e w5 ⟨AX, cX, rfl, tx5, f5, n5⟩
                         rw [← HQ.out.1] at tx5
                         rw [← HQ.out.1, ← HQ.out.2.1, ← HQ.out.2.2]
                         have H5 := Lib.hid (And.intro ((Blk.new wr 55 #[.string ⟨#[]⟩, .int .i64 0, .int .i64 0, .int .u32 0, .bool false, .int .u64 0, .int .u64 0, .string ⟨#[]⟩, .string ⟨#[]⟩, .int .u32 0, .int .u32 0, .int .u32 0, .int .u32 0, .int .u32 0, .slice none 0 0, .string ⟨#[]⟩]).fr f5 id) (And.intro (((Fr.refl (fun _ => False) wr).alloc _).then f5) (And.intro tx5 n5)))
                         clear tx5 f5 n5)
                      | (refine wpList_store_part rfl 55 _ _ rfl wr.heap.size 0 (by rfl) (rcl (rc, AX, cX)) (by rfl) 55 _ H5.out.1 (by kernel_rfl) (rcl_onem _) (by simp [rcl_lenm]) #[.string rc.name, .int .i64 rc.t, .int .i64 rc.cl, .int .u32 rc.ttl, .bool rc.d.six, .int .u64 rc.d.hi, .int .u64 rc.d.lo, .string rc.d.name, .string rc.d.mail, .int .u32 rc.d.n0, .int .u32 rc.d.n1, .int .u32 rc.d.n2, .int .u32 rc.d.n3, .int .u32 rc.d.n4, .slice AX rc.d.texts.length cX, .string rc.d.raw] (by rfl) ?_
                         intro w6 b6 f6
                         have f56 := H5.out.2.1.step f6 (fun k hk => .inr (by omega))
                         have h6 := H0.out.quiet f56
                         have hwl : wr.heap.size < w5.heap.size := H5.out.1.lt
                         have H6 := Lib.hid (And.intro b6 (And.intro h6 (show TxAt w6 M Aa Ab none (rc, AX, cX) from ⟨H5.out.2.2.1.fr f6 (fun k hk h => by have := (H5.out.2.2.2 k hk).1; rw [World.size_alloc] at this; omega), fun k hk => by
                           have g1 := (H5.out.2.2.2 k hk).1
                           rw [World.size_alloc] at g1
                           have g2 := (H5.out.2.2.2 k hk).2
                           refine ⟨Nat.lt_of_lt_of_le g2 f6.size, by have := H0.out.mb.lt; omega, ?_, ?_, ?_⟩
                           · exact fun h => by have := own_lt H0.out.oa h; omega
                           · exact fun h => by have := own_lt H0.out.ob h; omega
                           · exact fun h => by have := own_lt H0.out.oc h; omega⟩)))
                         have H6X := Lib.hid (And.intro (show rowOf Ab wr.heap.size → False from fun g => by have := own_lt H0.out.ob g; omega) (show wr.heap.size ≠ M from by have := H0.out.mb.lt; omega))
                         clear b6 f6 f56 h6)
                      | fail "no arm")
                    have hS6 := blk_rg0 (H6.out.1.drew)
                    have m6 : w6.drew.cell? ⟨M, 16, none⟩ = some (.slice Ab lb.length cb) := (H6.out.2.1.quiet ((Fr.refl _ _).drew)).mb.cell 16
                    have h8 := (H6.out.2.1.quiet ((Fr.refl (fun _ => False) w6).drew)).quiet ((Fr.refl (fun _ => False) _).alloc (.cells #[.string rc.name, .int .i64 rc.t, .int .i64 rc.cl, .int .u32 rc.ttl, .bool rc.d.six, .int .u64 rc.d.hi, .int .u64 rc.d.lo, .string rc.d.name, .string rc.d.mail, .int .u32 rc.d.n0, .int .u32 rc.d.n1, .int .u32 rc.d.n2, .int .u32 rc.d.n3, .int .u32 rc.d.n4, .slice AX rc.d.texts.length cX, .string rc.d.raw] 55))
                    have b8 := (H6.out.1.drew).alloc (.cells #[.string rc.name, .int .i64 rc.t, .int .i64 rc.cl, .int .u32 rc.ttl, .bool rc.d.six, .int .u64 rc.d.hi, .int .u64 rc.d.lo, .string rc.d.name, .string rc.d.mail, .int .u32 rc.d.n0, .int .u32 rc.d.n1, .int .u32 rc.d.n2, .int .u32 rc.d.n3, .int .u32 rc.d.n4, .slice AX rc.d.texts.length cX, .string rc.d.raw] 55)
                    have hS8 := blk_rg0 b8
                    have m8 : ((w6.drew).alloc (.cells #[.string rc.name, .int .i64 rc.t, .int .i64 rc.cl, .int .u32 rc.ttl, .bool rc.d.six, .int .u64 rc.d.hi, .int .u64 rc.d.lo, .string rc.d.name, .string rc.d.mail, .int .u32 rc.d.n0, .int .u32 rc.d.n1, .int .u32 rc.d.n2, .int .u32 rc.d.n3, .int .u32 rc.d.n4, .slice AX rc.d.texts.length cX, .string rc.d.raw] 55)).cell? ⟨M, 16, none⟩ = some (.slice Ab lb.length cb) := h8.mb.cell 16
                    have H8 := Lib.hid h8
                    have HM68 := Lib.hid (And.intro m6 m8)
                    clear h8 b8 m6 m8
                    refine wp_region_held_drew (S := fun w' => w'.rangeAt wr.heap.size 0 [.string rc.name, .int .i64 rc.t, .int .i64 rc.cl, .int .u32 rc.ttl, .bool rc.d.six, .int .u64 rc.d.hi, .int .u64 rc.d.lo, .string rc.d.name, .string rc.d.mail, .int .u32 rc.d.n0, .int .u32 rc.d.n1, .int .u32 rc.d.n2, .int .u32 rc.d.n3, .int .u32 rc.d.n4, .slice AX rc.d.texts.length cX, .string rc.d.raw]) (by kernel_rfl) hS6 (fun hHeld => ?_)
                    refine wpAnyH_take (i := 0) (v := ?_) rfl (by kernel_rfl) (by kernel_rfl) (by kernel_rfl) (fun _ _ _ h => h) (Or.inl ⟨by rfl, ?_⟩) (by assumption) ?_
                    rotate_left
                    · intro w hSw
                      go_simp
                      try with_reducible rfl
                    try simp only [Act.put, List.setIfInBounds_toArray, List.set_cons_zero, List.set_cons_succ, List.getElem_toArray, List.getElem_cons_zero, List.getElem_cons_succ]
                    refine wpAnyH_take (i := 1) (v := ?_) rfl (by kernel_rfl) (by kernel_rfl) (by kernel_rfl) (fun _ _ _ h => h) (Or.inl ⟨by rfl, ?_⟩) (by assumption) ?_
                    rotate_left
                    · intro w hSw
                      go_simp
                      try with_reducible rfl
                    try simp only [Act.put, List.setIfInBounds_toArray, List.set_cons_zero, List.set_cons_succ, List.getElem_toArray, List.getElem_cons_zero, List.getElem_cons_succ]
                    refine wpAnyH_take (i := 2) (v := ?_) rfl (by kernel_rfl) (by kernel_rfl) (by kernel_rfl) (fun _ _ _ h => h) (Or.inl ⟨by rfl, ?_⟩) (by assumption) ?_
                    rotate_left
                    · intro w hSw
                      go_simp
                      try with_reducible rfl
                    try simp only [Act.put, List.setIfInBounds_toArray, List.set_cons_zero, List.set_cons_succ, List.getElem_toArray, List.getElem_cons_zero, List.getElem_cons_succ]
                    refine wpAnyH_take (i := 4) rfl (by kernel_rfl) (by kernel_rfl) (by kernel_rfl) (fun _ _ _ h => h) (yieldsIf_load_mid (by rfl) _ _ rfl wr.heap.size (0) (by rfl) [.string rc.name, .int .i64 rc.t, .int .i64 rc.cl, .int .u32 rc.ttl, .bool rc.d.six, .int .u64 rc.d.hi, .int .u64 rc.d.lo, .string rc.d.name, .string rc.d.mail, .int .u32 rc.d.n0, .int .u32 rc.d.n1, .int .u32 rc.d.n2, .int .u32 rc.d.n3, .int .u32 rc.d.n4, .slice AX rc.d.texts.length cX, .string rc.d.raw] _ (fun w' h => h) Tryz.underlying55 rfl (by kernel_rfl)) (by assumption) ?_
                    try simp only [Act.put, List.setIfInBounds_toArray, List.set_cons_zero, List.set_cons_succ, List.getElem_toArray, List.getElem_cons_zero, List.getElem_cons_succ]
                    refine wpAnyH_ready (rs := [3, 5]) (by kernel_rfl) (by simp) ?_
                    refine AllReadyH.cons rfl (fun K hK => ?_) (AllReadyH.cons rfl (fun K hK => ?_) AllReadyH.nil)
                    · have m6 := HM68.out.1
                      go_simp
                      refine hK.out _ _ hS6 (fun hHeld => ?_)
                      clear hK K
                      try simp only [Act.put, List.setIfInBounds_toArray, List.set_cons_zero, List.set_cons_succ, List.getElem_toArray, List.getElem_cons_zero, List.getElem_cons_succ]
                      clear m6
                      refine wpAnyH_ready (rs := [5]) (by kernel_rfl) (by simp) ?_
                      refine AllReadyH.cons rfl (fun K hK => ?_) AllReadyH.nil
                      go_simp
                      refine hK.out _ _ hS8 (fun hHeld => ?_)
                      clear hK K
                      try simp only [Act.put, List.setIfInBounds_toArray, List.set_cons_zero, List.set_cons_succ, List.getElem_toArray, List.getElem_cons_zero, List.getElem_cons_succ]
                      refine wpAnyH_ready (rs := [6]) (by kernel_rfl) (by simp) ?_
                      refine AllReadyH.cons rfl (fun K hK => ?_) AllReadyH.nil
                      refine step_append_src rfl (.tmp 76) (.tmp 78) _ _ rfl 55 ir _ 16 160 Tryz.underlying27 HIR.out.1 HIR.out.2.1 HIR.out.2.2.1 HIR.out.2.2.2 rfl (by decide) Ab lb.length cb (lb.flatMap rcl) (by simp [Act.eval]) H8.out.ob _ 1 (rcl (rc, AX, cX)) (by simp [Act.eval])
                        (Src.ofSlice _ Tryz.underlying27 ⟨w6.drew.heap.size, 0, none⟩ 1 1 [.string rc.name, .int .i64 rc.t, .int .i64 rc.cl, .int .u32 rc.ttl, .bool rc.d.six, .int .u64 rc.d.hi, .int .u64 rc.d.lo, .string rc.d.name, .string rc.d.mail, .int .u32 rc.d.n0, .int .u32 rc.d.n1, .int .u32 rc.d.n2, .int .u32 rc.d.n3, .int .u32 rc.d.n4, .slice AX rc.d.texts.length cX, .string rc.d.raw] rfl (newm 55 _) (by simp [Value.oneCell'])) (by simp only [maxLen]; omega) (by omega) ?_
                      intro A7 c7 w7 o1 o2 o3
                      have hb7 := H8.out.mb.fr o2 (own_ne H8.out.ob H8.out.mb (by decide))
                      have z7 := hb7.frozen 16
                      have m7 : w7.cell? ⟨M, 16, none⟩ = some (.slice Ab lb.length cb) := hb7.cell 16
                      have H9 := Lib.hid (H8.out.add1 (x := (rc, AX, cX)) (H6.out.2.2.quiet (((Fr.refl (fun _ => False) w6).drew).alloc (.cells #[.string rc.name, .int .i64 rc.t, .int .i64 rc.cl, .int .u32 rc.ttl, .bool rc.d.six, .int .u64 rc.d.hi, .int .u64 rc.d.lo, .string rc.d.name, .string rc.d.mail, .int .u32 rc.d.n0, .int .u32 rc.d.n1, .int .u32 rc.d.n2, .int .u32 rc.d.n3, .int .u32 rc.d.n4, .slice AX rc.d.texts.length cX, .string rc.d.raw] 55))) o1 o2 o3)
                      have hr7 : w7.rangeAt wr.heap.size 0 [.string rc.name, .int .i64 rc.t, .int .i64 rc.cl, .int .u32 rc.ttl, .bool rc.d.six, .int .u64 rc.d.hi, .int .u64 rc.d.lo, .string rc.d.name, .string rc.d.mail, .int .u32 rc.d.n0, .int .u32 rc.d.n1, .int .u32 rc.d.n2, .int .u32 rc.d.n3, .int .u32 rc.d.n4, .slice AX rc.d.texts.length cX, .string rc.d.raw] := range_own o2 (((H6.out.1.drew).alloc (.cells #[.string rc.name, .int .i64 rc.t, .int .i64 rc.cl, .int .u32 rc.ttl, .bool rc.d.six, .int .u64 rc.d.hi, .int .u64 rc.d.lo, .string rc.d.name, .string rc.d.mail, .int .u32 rc.d.n0, .int .u32 rc.d.n1, .int .u32 rc.d.n2, .int .u32 rc.d.n3, .int .u32 rc.d.n4, .slice AX rc.d.texts.length cX, .string rc.d.raw] 55))) (fun g => H6X.out.1 g)
                      have hr9 : (w7.setCell ⟨M, 16, none⟩ (.slice A7 (lb.length + 1) c7)).rangeAt wr.heap.size 0 [.string rc.name, .int .i64 rc.t, .int .i64 rc.cl, .int .u32 rc.ttl, .bool rc.d.six, .int .u64 rc.d.hi, .int .u64 rc.d.lo, .string rc.d.name, .string rc.d.mail, .int .u32 rc.d.n0, .int .u32 rc.d.n1, .int .u32 rc.d.n2, .int .u32 rc.d.n3, .int .u32 rc.d.n4, .slice AX rc.d.texts.length cX, .string rc.d.raw] := range_set hr7 H6X.out.2
                      clear o1 o2 o3 hb7 hHeld
                      refine hK.out _ _ hr7 (fun hHeld => ?_)
                      clear hK K
                      try simp only [Act.put, List.setIfInBounds_toArray, List.set_cons_zero, List.set_cons_succ, List.getElem_toArray, List.getElem_cons_zero, List.getElem_cons_succ]
                      refine wpAnyH_take (i := 7) (v := ?_) rfl (by kernel_rfl) (by kernel_rfl) (by kernel_rfl) (fun _ _ _ h => h) (Or.inl ⟨by rfl, ?_⟩) (by assumption) ?_
                      rotate_left
                      · intro w hSw
                        go_simp
                        try with_reducible rfl
                      try simp only [Act.put, List.setIfInBounds_toArray, List.set_cons_zero, List.set_cons_succ, List.getElem_toArray, List.getElem_cons_zero, List.getElem_cons_succ]
                      refine wpAnyH_ready (rs := [8]) (by kernel_rfl) (by simp) ?_
                      refine AllReadyH.cons rfl (fun K hK => ?_) AllReadyH.nil
                      go_simp
                      refine hK.out _ _ hr9 (fun hHeld => ?_)
                      clear hK K
                      try simp only [Act.put, List.setIfInBounds_toArray, List.set_cons_zero, List.set_cons_succ, List.getElem_toArray, List.getElem_cons_zero, List.getElem_cons_succ]
                      refine wpAnyH_done (by kernel_rfl) ?_ _
                      clear hHeld z7 m7 hr7 hr9 hS6 hS8
                      go_wp2_with fail
                      go_roundg (n2 - (k + 1))
                      case measure => have := HG.out.1; omega
                      case rel =>
                        have hz1 : (rreadC s (raccN s (ma s).2.1 k).2.1).2.2 = 0 := by rw [← HG.out.2.2.1, ← HQ.out.2.2]; exact HE.out
                        have hr := raccN_ok HG.out.2.1 hz1
                        rw [← HG.out.2.2.1, ← HQ.out.1, ← HQ.out.2.1] at hr
                        refine ⟨k + 1, A7, lb ++ [(rc, AX, cX)], c7, rfl, hlt, by go_num, by rw [hr], by rw [hr], by rw [hr, List.map_append, HG.out.2.2.2.1]; rfl, ?_⟩
                        exact H9.out
                    · go_simp
                      refine hK.out _ _ hS8 (fun hHeld => ?_)
                      clear hK K
                      try simp only [Act.put, List.setIfInBounds_toArray, List.set_cons_zero, List.set_cons_succ, List.getElem_toArray, List.getElem_cons_zero, List.getElem_cons_succ]
                      have m8 := HM68.out.2
                      have m8' := H6.out.2.1.mb.cell 16
                      have hM6 := H6.out.2.1.mb.lt
                      refine wpAnyH_ready (rs := [3]) (by kernel_rfl) (by simp) ?_
                      refine AllReadyH.cons rfl (fun K hK => ?_) AllReadyH.nil
                      go_simp
                      refine hK.out _ _ hS8 (fun hHeld => ?_)
                      clear hK K
                      try simp only [Act.put, List.setIfInBounds_toArray, List.set_cons_zero, List.set_cons_succ, List.getElem_toArray, List.getElem_cons_zero, List.getElem_cons_succ]
                      clear m8 m8' hM6
                      refine wpAnyH_ready (rs := [6]) (by kernel_rfl) (by simp) ?_
                      refine AllReadyH.cons rfl (fun K hK => ?_) AllReadyH.nil
                      refine step_append_src rfl (.tmp 76) (.tmp 78) _ _ rfl 55 ir _ 16 160 Tryz.underlying27 HIR.out.1 HIR.out.2.1 HIR.out.2.2.1 HIR.out.2.2.2 rfl (by decide) Ab lb.length cb (lb.flatMap rcl) (by simp [Act.eval]) H8.out.ob _ 1 (rcl (rc, AX, cX)) (by simp [Act.eval])
                        (Src.ofSlice _ Tryz.underlying27 ⟨w6.drew.heap.size, 0, none⟩ 1 1 [.string rc.name, .int .i64 rc.t, .int .i64 rc.cl, .int .u32 rc.ttl, .bool rc.d.six, .int .u64 rc.d.hi, .int .u64 rc.d.lo, .string rc.d.name, .string rc.d.mail, .int .u32 rc.d.n0, .int .u32 rc.d.n1, .int .u32 rc.d.n2, .int .u32 rc.d.n3, .int .u32 rc.d.n4, .slice AX rc.d.texts.length cX, .string rc.d.raw] rfl (newm 55 _) (by simp [Value.oneCell'])) (by simp only [maxLen]; omega) (by omega) ?_
                      intro A7 c7 w7 o1 o2 o3
                      have hb7 := H8.out.mb.fr o2 (own_ne H8.out.ob H8.out.mb (by decide))
                      have z7 := hb7.frozen 16
                      have m7 : w7.cell? ⟨M, 16, none⟩ = some (.slice Ab lb.length cb) := hb7.cell 16
                      have H9 := Lib.hid (H8.out.add1 (x := (rc, AX, cX)) (H6.out.2.2.quiet (((Fr.refl (fun _ => False) w6).drew).alloc (.cells #[.string rc.name, .int .i64 rc.t, .int .i64 rc.cl, .int .u32 rc.ttl, .bool rc.d.six, .int .u64 rc.d.hi, .int .u64 rc.d.lo, .string rc.d.name, .string rc.d.mail, .int .u32 rc.d.n0, .int .u32 rc.d.n1, .int .u32 rc.d.n2, .int .u32 rc.d.n3, .int .u32 rc.d.n4, .slice AX rc.d.texts.length cX, .string rc.d.raw] 55))) o1 o2 o3)
                      have hr7 : w7.rangeAt wr.heap.size 0 [.string rc.name, .int .i64 rc.t, .int .i64 rc.cl, .int .u32 rc.ttl, .bool rc.d.six, .int .u64 rc.d.hi, .int .u64 rc.d.lo, .string rc.d.name, .string rc.d.mail, .int .u32 rc.d.n0, .int .u32 rc.d.n1, .int .u32 rc.d.n2, .int .u32 rc.d.n3, .int .u32 rc.d.n4, .slice AX rc.d.texts.length cX, .string rc.d.raw] := range_own o2 (((H6.out.1.drew).alloc (.cells #[.string rc.name, .int .i64 rc.t, .int .i64 rc.cl, .int .u32 rc.ttl, .bool rc.d.six, .int .u64 rc.d.hi, .int .u64 rc.d.lo, .string rc.d.name, .string rc.d.mail, .int .u32 rc.d.n0, .int .u32 rc.d.n1, .int .u32 rc.d.n2, .int .u32 rc.d.n3, .int .u32 rc.d.n4, .slice AX rc.d.texts.length cX, .string rc.d.raw] 55))) (fun g => H6X.out.1 g)
                      have hr9 : (w7.setCell ⟨M, 16, none⟩ (.slice A7 (lb.length + 1) c7)).rangeAt wr.heap.size 0 [.string rc.name, .int .i64 rc.t, .int .i64 rc.cl, .int .u32 rc.ttl, .bool rc.d.six, .int .u64 rc.d.hi, .int .u64 rc.d.lo, .string rc.d.name, .string rc.d.mail, .int .u32 rc.d.n0, .int .u32 rc.d.n1, .int .u32 rc.d.n2, .int .u32 rc.d.n3, .int .u32 rc.d.n4, .slice AX rc.d.texts.length cX, .string rc.d.raw] := range_set hr7 H6X.out.2
                      clear o1 o2 o3 hb7 hHeld
                      refine hK.out _ _ hr7 (fun hHeld => ?_)
                      clear hK K
                      try simp only [Act.put, List.setIfInBounds_toArray, List.set_cons_zero, List.set_cons_succ, List.getElem_toArray, List.getElem_cons_zero, List.getElem_cons_succ]
                      refine wpAnyH_take (i := 7) (v := ?_) rfl (by kernel_rfl) (by kernel_rfl) (by kernel_rfl) (fun _ _ _ h => h) (Or.inl ⟨by rfl, ?_⟩) (by assumption) ?_
                      rotate_left
                      · intro w hSw
                        go_simp
                        try with_reducible rfl
                      try simp only [Act.put, List.setIfInBounds_toArray, List.set_cons_zero, List.set_cons_succ, List.getElem_toArray, List.getElem_cons_zero, List.getElem_cons_succ]
                      refine wpAnyH_ready (rs := [8]) (by kernel_rfl) (by simp) ?_
                      refine AllReadyH.cons rfl (fun K hK => ?_) AllReadyH.nil
                      go_simp
                      refine hK.out _ _ hr9 (fun hHeld => ?_)
                      clear hK K
                      try simp only [Act.put, List.setIfInBounds_toArray, List.set_cons_zero, List.set_cons_succ, List.getElem_toArray, List.getElem_cons_zero, List.getElem_cons_succ]
                      refine wpAnyH_done (by kernel_rfl) ?_ _
                      clear hHeld z7 m7 hr7 hr9 hS6 hS8
                      go_wp2_with fail
                      go_roundg (n2 - (k + 1))
                      case measure => have := HG.out.1; omega
                      case rel =>
                        have hz1 : (rreadC s (raccN s (ma s).2.1 k).2.1).2.2 = 0 := by rw [← HG.out.2.2.1, ← HQ.out.2.2]; exact HE.out
                        have hr := raccN_ok HG.out.2.1 hz1
                        rw [← HG.out.2.2.1, ← HQ.out.1, ← HQ.out.2.1] at hr
                        refine ⟨k + 1, A7, lb ++ [(rc, AX, cX)], c7, rfl, hlt, by go_num, by rw [hr], by rw [hr], by rw [hr, List.map_append, HG.out.2.2.2.1]; rfl, ?_⟩
                        exact H9.out
                  · have t1 : (e1 != 0) = true := by simp [hne]
                    have HE := Lib.hid hne
                    clear hne
                    go_wp2_with (first
                      | (go_at_call 43
                         (with_reducible refine (rread_any s at0 _ HSY.out).mono ?_)
                         rintro e w5 ⟨AX, cX, rfl, tx5, f5, n5⟩
                         rw [← HQ.out.1, ← HQ.out.2.1, ← HQ.out.2.2]
                         have H5 := Lib.hid (And.intro ((Blk.new wr 55 #[.string ⟨#[]⟩, .int .i64 0, .int .i64 0, .int .u32 0, .bool false, .int .u64 0, .int .u64 0, .string ⟨#[]⟩, .string ⟨#[]⟩, .int .u32 0, .int .u32 0, .int .u32 0, .int .u32 0, .int .u32 0, .slice none 0 0, .string ⟨#[]⟩]).fr f5 id) (((Fr.refl (fun _ => False) wr).alloc _).then f5))
                         clear tx5 f5 n5)
                      | (refine wpList_store_part rfl 55 _ _ rfl wr.heap.size 0 (by rfl) (rcl (rc, AX, cX)) (by rfl) 55 _ H5.out.1 (by kernel_rfl) (rcl_onem _) (by simp [rcl_lenm]) #[.string rc.name, .int .i64 rc.t, .int .i64 rc.cl, .int .u32 rc.ttl, .bool rc.d.six, .int .u64 rc.d.hi, .int .u64 rc.d.lo, .string rc.d.name, .string rc.d.mail, .int .u32 rc.d.n0, .int .u32 rc.d.n1, .int .u32 rc.d.n2, .int .u32 rc.d.n3, .int .u32 rc.d.n4, .slice AX rc.d.texts.length cX, .string rc.d.raw] (by rfl) ?_
                         intro w6 b6 f6
                         have H6 := Lib.hid (H0.out.quiet (H5.out.2.step f6 (fun k hk => .inr (by omega))))
                         clear b6 f6)
                      | (refine wpList_store_part rfl 29 _ _ rfl w.heap.size 0 (by rfl) _ (by rfl) 29 _ H6.out.rb (by kernel_rfl) (by simp [Value.oneCell']) (by simp) #[.int .u16 0, .bool false, .int .i64 0, .bool false, .bool false, .bool false, .bool false, .bool false, .bool false, .int .i64 0, .int .i64 0, .int .i64 0, .int .i64 0, .int .i64 0, .slice none 0 0, .slice none 0 0, .slice none 0 0, .slice none 0 0] (by rfl) ?_; intro wz bz fz; have HZ := Lib.hid (And.intro bz fz); clear bz fz)
                      | fail "no arm")
                    have herr : mreadE s = e1 := by
                      rw [mE_b HSM.out HE0.out HMQ.out.1 HM0.out.1 (k := k) (by rw [← Hn2.out]; exact hlt) HG.out.2.1 (by rw [← HG.out.2.2.1, ← HQ.out.2.2]; exact HE.out), ← HG.out.2.2.1, HQ.out.2.2]
                    have hu : Tryz.prog.underlying 29 = _ := Tryz.underlying29
                    refine bodyPost_ret (results_cell_tmp Tryz.results16 HZ.out.1 rfl rfl hu rfl (by kernel_rfl)) rfl ?_
                    exact ⟨(H6.out.fr).step HZ.out.2 (fun k hk => .inr (by omega)), .inl ⟨by rw [herr]; exact HE.out, by rw [herr]; try rfl⟩⟩
                · have hke : k = n2 := by omega
                  subst hke
                  clear hlt
                  have hz1 : (mb s).2.2 = 0 := by show (raccN s (ma s).2.1 _).2.2 = 0; rw [← Hn2.out]; exact HG.out.2.1
                  have ha1 : (mb s).2.1 = at0 := by show (raccN s (ma s).2.1 _).2.1 = at0; rw [← Hn2.out, HG.out.2.2.1]
                  have hm1 : lb.map Prod.fst = (mb s).1 := by show _ = (raccN s (ma s).2.1 _).1; rw [← Hn2.out]; exact HG.out.2.2.2.1
                  have HM1 := Lib.hid (And.intro hz1 (And.intro ha1 hm1))
                  clear hz1 ha1 hm1
                  rename World => v2
                  have Hv2 := H0
                  have HAT2 := Lib.hid (show at0 = (mb s).2.1 from HM1.out.2.1.symm)
                  clear H0 HG
                  go_wp2_with fail
                  rw [rounds_succ]
                  have hix := rows_ix2 M
                  have kc : v2.cell? ⟨Hb, 13, none⟩ = some (.int .i64 h.c3) := Hv2.out.hb.cell 13
                  go_upto_region 19 with fail
                  clear kc hix
                  obtain ⟨n3, hn3⟩ : ∃ n : Nat, (n : Int) = h.c3 := ⟨h.c3.toNat, by omega⟩
                  have Hn3 := Lib.hid (show n3 = (readHd s).1.c3.toNat by rw [← HHD.out]; omega)
                  go_loopg [7, 60] n3 (fun gh at_ i wr => ∃ (k : Nat) (Ac : Option Addr) (lc : RLm) (cc : Nat), gh = n3 - k ∧ k ≤ n3 ∧ i = .int .i64 (k : Nat) ∧ at_ = .int .i64 (raccN s (mb s).2.1 k).2.1 ∧ (raccN s (mb s).2.1 k).2.2 = 0 ∧ lc.map Prod.fst = (raccN s (mb s).2.1 k).1 ∧ Rmst w wr w.heap.size Hb M h Aq lq cq Aa la ca Ab lb cb Ac lc cc)
                  case atStart => exact ⟨0, none, [], 0, rfl, Nat.zero_le _, rfl, congrArg (Value.int .i64) HAT2.out, rfl, rfl, Hv2.out⟩
                  case round =>
                    obtain ⟨k, Ac, lc, cc, hgh, hk, rfl, rfl, hz, hmp, hst⟩ := hrel
                    obtain ⟨at0, hat⟩ : ∃ a, a = (raccN s (mb s).2.1 k).2.1 := ⟨_, rfl⟩
                    rw [← hat]
                    have hll : lc.length = k := by have := congrArg List.length hmp; rw [List.length_map, raccN_len hz] at this; exact this
                    have HG := Lib.hid (And.intro hgh (And.intro hz (And.intro hat (And.intro hmp hll))))
                    have H0 := Lib.hid hst
                    have hcc : (k : Int) ≤ 65535 := by omega
                    have hln : (lc.length : Int) ≤ 65535 := by omega
                    clear hgh hz hat hmp hll hst
                    by_cases hlt : k < n3
                    · have hlti : (k : Int) < h.c3 := by omega
                      obtain ⟨rc, hrc⟩ : ∃ q, q = (rreadC s at0).1 := ⟨_, rfl⟩
                      obtain ⟨a1, ha1⟩ : ∃ q, q = (rreadC s at0).2.1 := ⟨_, rfl⟩
                      obtain ⟨e1, he1⟩ : ∃ q, q = (rreadC s at0).2.2 := ⟨_, rfl⟩
                      have HQ := Lib.hid (And.intro hrc (And.intro ha1 he1))
                      clear hrc ha1 he1
                      by_cases hne : e1 = 0
                      · have t1 : (e1 != 0) = false := by simp [hne]
                        have HE := Lib.hid hne
                        clear hne
                        go_upto_region 24 with (first
                          | (go_at_call 43
                             (with_reducible refine (rread_any s at0 _ HSY.out).mono ?_)
                             rintro e w5 ⟨AX, cX, rfl, tx5, f5, n5⟩
                             rw [← HQ.out.1] at tx5
                             rw [← HQ.out.1, ← HQ.out.2.1, ← HQ.out.2.2]
                             have H5 := Lib.hid (And.intro ((Blk.new wr 55 #[.string ⟨#[]⟩, .int .i64 0, .int .i64 0, .int .u32 0, .bool false, .int .u64 0, .int .u64 0, .string ⟨#[]⟩, .string ⟨#[]⟩, .int .u32 0, .int .u32 0, .int .u32 0, .int .u32 0, .int .u32 0, .slice none 0 0, .string ⟨#[]⟩]).fr f5 id) (And.intro (((Fr.refl (fun _ => False) wr).alloc _).then f5) (And.intro tx5 n5)))
                             clear tx5 f5 n5)
                          | (refine wpList_store_part rfl 55 _ _ rfl wr.heap.size 0 (by rfl) (rcl (rc, AX, cX)) (by rfl) 55 _ H5.out.1 (by kernel_rfl) (rcl_onem _) (by simp [rcl_lenm]) #[.string rc.name, .int .i64 rc.t, .int .i64 rc.cl, .int .u32 rc.ttl, .bool rc.d.six, .int .u64 rc.d.hi, .int .u64 rc.d.lo, .string rc.d.name, .string rc.d.mail, .int .u32 rc.d.n0, .int .u32 rc.d.n1, .int .u32 rc.d.n2, .int .u32 rc.d.n3, .int .u32 rc.d.n4, .slice AX rc.d.texts.length cX, .string rc.d.raw] (by rfl) ?_
                             intro w6 b6 f6
                             have f56 := H5.out.2.1.step f6 (fun k hk => .inr (by omega))
                             have h6 := H0.out.quiet f56
                             have hwl : wr.heap.size < w5.heap.size := H5.out.1.lt
                             have H6 := Lib.hid (And.intro b6 (And.intro h6 (show TxAt w6 M Aa Ab Ac (rc, AX, cX) from ⟨H5.out.2.2.1.fr f6 (fun k hk h => by have := (H5.out.2.2.2 k hk).1; rw [World.size_alloc] at this; omega), fun k hk => by
                               have g1 := (H5.out.2.2.2 k hk).1
                               rw [World.size_alloc] at g1
                               have g2 := (H5.out.2.2.2 k hk).2
                               refine ⟨Nat.lt_of_lt_of_le g2 f6.size, by have := H0.out.mb.lt; omega, ?_, ?_, ?_⟩
                               · exact fun h => by have := own_lt H0.out.oa h; omega
                               · exact fun h => by have := own_lt H0.out.ob h; omega
                               · exact fun h => by have := own_lt H0.out.oc h; omega⟩)))
                             have H6X := Lib.hid (And.intro (show rowOf Ac wr.heap.size → False from fun g => by have := own_lt H0.out.oc g; omega) (show wr.heap.size ≠ M from by have := H0.out.mb.lt; omega))
                             clear b6 f6 f56 h6)
                          | fail "no arm")
                        have hS6 := blk_rg0 (H6.out.1.drew)
                        have m6 : w6.drew.cell? ⟨M, 17, none⟩ = some (.slice Ac lc.length cc) := (H6.out.2.1.quiet ((Fr.refl _ _).drew)).mb.cell 17
                        have h8 := (H6.out.2.1.quiet ((Fr.refl (fun _ => False) w6).drew)).quiet ((Fr.refl (fun _ => False) _).alloc (.cells #[.string rc.name, .int .i64 rc.t, .int .i64 rc.cl, .int .u32 rc.ttl, .bool rc.d.six, .int .u64 rc.d.hi, .int .u64 rc.d.lo, .string rc.d.name, .string rc.d.mail, .int .u32 rc.d.n0, .int .u32 rc.d.n1, .int .u32 rc.d.n2, .int .u32 rc.d.n3, .int .u32 rc.d.n4, .slice AX rc.d.texts.length cX, .string rc.d.raw] 55))
                        have b8 := (H6.out.1.drew).alloc (.cells #[.string rc.name, .int .i64 rc.t, .int .i64 rc.cl, .int .u32 rc.ttl, .bool rc.d.six, .int .u64 rc.d.hi, .int .u64 rc.d.lo, .string rc.d.name, .string rc.d.mail, .int .u32 rc.d.n0, .int .u32 rc.d.n1, .int .u32 rc.d.n2, .int .u32 rc.d.n3, .int .u32 rc.d.n4, .slice AX rc.d.texts.length cX, .string rc.d.raw] 55)
                        have hS8 := blk_rg0 b8
                        have m8 : ((w6.drew).alloc (.cells #[.string rc.name, .int .i64 rc.t, .int .i64 rc.cl, .int .u32 rc.ttl, .bool rc.d.six, .int .u64 rc.d.hi, .int .u64 rc.d.lo, .string rc.d.name, .string rc.d.mail, .int .u32 rc.d.n0, .int .u32 rc.d.n1, .int .u32 rc.d.n2, .int .u32 rc.d.n3, .int .u32 rc.d.n4, .slice AX rc.d.texts.length cX, .string rc.d.raw] 55)).cell? ⟨M, 17, none⟩ = some (.slice Ac lc.length cc) := h8.mb.cell 17
                        have H8 := Lib.hid h8
                        have HM68 := Lib.hid (And.intro m6 m8)
                        clear h8 b8 m6 m8
                        refine wp_region_held_drew (S := fun w' => w'.rangeAt wr.heap.size 0 [.string rc.name, .int .i64 rc.t, .int .i64 rc.cl, .int .u32 rc.ttl, .bool rc.d.six, .int .u64 rc.d.hi, .int .u64 rc.d.lo, .string rc.d.name, .string rc.d.mail, .int .u32 rc.d.n0, .int .u32 rc.d.n1, .int .u32 rc.d.n2, .int .u32 rc.d.n3, .int .u32 rc.d.n4, .slice AX rc.d.texts.length cX, .string rc.d.raw]) (by kernel_rfl) hS6 (fun hHeld => ?_)
                        refine wpAnyH_take (i := 0) (v := ?_) rfl (by kernel_rfl) (by kernel_rfl) (by kernel_rfl) (fun _ _ _ h => h) (Or.inl ⟨by rfl, ?_⟩) (by assumption) ?_
                        rotate_left
                        · intro w hSw
                          go_simp
                          try with_reducible rfl
                        try simp only [Act.put, List.setIfInBounds_toArray, List.set_cons_zero, List.set_cons_succ, List.getElem_toArray, List.getElem_cons_zero, List.getElem_cons_succ]
                        refine wpAnyH_take (i := 1) (v := ?_) rfl (by kernel_rfl) (by kernel_rfl) (by kernel_rfl) (fun _ _ _ h => h) (Or.inl ⟨by rfl, ?_⟩) (by assumption) ?_
                        rotate_left
                        · intro w hSw
                          go_simp
                          try with_reducible rfl
                        try simp only [Act.put, List.setIfInBounds_toArray, List.set_cons_zero, List.set_cons_succ, List.getElem_toArray, List.getElem_cons_zero, List.getElem_cons_succ]
                        refine wpAnyH_take (i := 2) (v := ?_) rfl (by kernel_rfl) (by kernel_rfl) (by kernel_rfl) (fun _ _ _ h => h) (Or.inl ⟨by rfl, ?_⟩) (by assumption) ?_
                        rotate_left
                        · intro w hSw
                          go_simp
                          try with_reducible rfl
                        try simp only [Act.put, List.setIfInBounds_toArray, List.set_cons_zero, List.set_cons_succ, List.getElem_toArray, List.getElem_cons_zero, List.getElem_cons_succ]
                        refine wpAnyH_take (i := 4) rfl (by kernel_rfl) (by kernel_rfl) (by kernel_rfl) (fun _ _ _ h => h) (yieldsIf_load_mid (by rfl) _ _ rfl wr.heap.size (0) (by rfl) [.string rc.name, .int .i64 rc.t, .int .i64 rc.cl, .int .u32 rc.ttl, .bool rc.d.six, .int .u64 rc.d.hi, .int .u64 rc.d.lo, .string rc.d.name, .string rc.d.mail, .int .u32 rc.d.n0, .int .u32 rc.d.n1, .int .u32 rc.d.n2, .int .u32 rc.d.n3, .int .u32 rc.d.n4, .slice AX rc.d.texts.length cX, .string rc.d.raw] _ (fun w' h => h) Tryz.underlying55 rfl (by kernel_rfl)) (by assumption) ?_
                        try simp only [Act.put, List.setIfInBounds_toArray, List.set_cons_zero, List.set_cons_succ, List.getElem_toArray, List.getElem_cons_zero, List.getElem_cons_succ]
                        refine wpAnyH_ready (rs := [3, 5]) (by kernel_rfl) (by simp) ?_
                        refine AllReadyH.cons rfl (fun K hK => ?_) (AllReadyH.cons rfl (fun K hK => ?_) AllReadyH.nil)
                        · have m6 := HM68.out.1
                          go_simp
                          refine hK.out _ _ hS6 (fun hHeld => ?_)
                          clear hK K
                          try simp only [Act.put, List.setIfInBounds_toArray, List.set_cons_zero, List.set_cons_succ, List.getElem_toArray, List.getElem_cons_zero, List.getElem_cons_succ]
                          clear m6
                          refine wpAnyH_ready (rs := [5]) (by kernel_rfl) (by simp) ?_
                          refine AllReadyH.cons rfl (fun K hK => ?_) AllReadyH.nil
                          go_simp
                          refine hK.out _ _ hS8 (fun hHeld => ?_)
                          clear hK K
                          try simp only [Act.put, List.setIfInBounds_toArray, List.set_cons_zero, List.set_cons_succ, List.getElem_toArray, List.getElem_cons_zero, List.getElem_cons_succ]
                          refine wpAnyH_ready (rs := [6]) (by kernel_rfl) (by simp) ?_
                          refine AllReadyH.cons rfl (fun K hK => ?_) AllReadyH.nil
                          refine step_append_src rfl (.tmp 76) (.tmp 78) _ _ rfl 55 ir _ 16 160 Tryz.underlying27 HIR.out.1 HIR.out.2.1 HIR.out.2.2.1 HIR.out.2.2.2 rfl (by decide) Ac lc.length cc (lc.flatMap rcl) (by simp [Act.eval]) H8.out.oc _ 1 (rcl (rc, AX, cX)) (by simp [Act.eval])
                            (Src.ofSlice _ Tryz.underlying27 ⟨w6.drew.heap.size, 0, none⟩ 1 1 [.string rc.name, .int .i64 rc.t, .int .i64 rc.cl, .int .u32 rc.ttl, .bool rc.d.six, .int .u64 rc.d.hi, .int .u64 rc.d.lo, .string rc.d.name, .string rc.d.mail, .int .u32 rc.d.n0, .int .u32 rc.d.n1, .int .u32 rc.d.n2, .int .u32 rc.d.n3, .int .u32 rc.d.n4, .slice AX rc.d.texts.length cX, .string rc.d.raw] rfl (newm 55 _) (by simp [Value.oneCell'])) (by simp only [maxLen]; omega) (by omega) ?_
                          intro A7 c7 w7 o1 o2 o3
                          have hb7 := H8.out.mb.fr o2 (own_ne H8.out.oc H8.out.mb (by decide))
                          have z7 := hb7.frozen 17
                          have m7 : w7.cell? ⟨M, 17, none⟩ = some (.slice Ac lc.length cc) := hb7.cell 17
                          have H9 := Lib.hid (H8.out.add2 (x := (rc, AX, cX)) (H6.out.2.2.quiet (((Fr.refl (fun _ => False) w6).drew).alloc (.cells #[.string rc.name, .int .i64 rc.t, .int .i64 rc.cl, .int .u32 rc.ttl, .bool rc.d.six, .int .u64 rc.d.hi, .int .u64 rc.d.lo, .string rc.d.name, .string rc.d.mail, .int .u32 rc.d.n0, .int .u32 rc.d.n1, .int .u32 rc.d.n2, .int .u32 rc.d.n3, .int .u32 rc.d.n4, .slice AX rc.d.texts.length cX, .string rc.d.raw] 55))) o1 o2 o3)
                          have hr7 : w7.rangeAt wr.heap.size 0 [.string rc.name, .int .i64 rc.t, .int .i64 rc.cl, .int .u32 rc.ttl, .bool rc.d.six, .int .u64 rc.d.hi, .int .u64 rc.d.lo, .string rc.d.name, .string rc.d.mail, .int .u32 rc.d.n0, .int .u32 rc.d.n1, .int .u32 rc.d.n2, .int .u32 rc.d.n3, .int .u32 rc.d.n4, .slice AX rc.d.texts.length cX, .string rc.d.raw] := range_own o2 (((H6.out.1.drew).alloc (.cells #[.string rc.name, .int .i64 rc.t, .int .i64 rc.cl, .int .u32 rc.ttl, .bool rc.d.six, .int .u64 rc.d.hi, .int .u64 rc.d.lo, .string rc.d.name, .string rc.d.mail, .int .u32 rc.d.n0, .int .u32 rc.d.n1, .int .u32 rc.d.n2, .int .u32 rc.d.n3, .int .u32 rc.d.n4, .slice AX rc.d.texts.length cX, .string rc.d.raw] 55))) (fun g => H6X.out.1 g)
                          have hr9 : (w7.setCell ⟨M, 17, none⟩ (.slice A7 (lc.length + 1) c7)).rangeAt wr.heap.size 0 [.string rc.name, .int .i64 rc.t, .int .i64 rc.cl, .int .u32 rc.ttl, .bool rc.d.six, .int .u64 rc.d.hi, .int .u64 rc.d.lo, .string rc.d.name, .string rc.d.mail, .int .u32 rc.d.n0, .int .u32 rc.d.n1, .int .u32 rc.d.n2, .int .u32 rc.d.n3, .int .u32 rc.d.n4, .slice AX rc.d.texts.length cX, .string rc.d.raw] := range_set hr7 H6X.out.2
                          clear o1 o2 o3 hb7 hHeld
                          refine hK.out _ _ hr7 (fun hHeld => ?_)
                          clear hK K
                          try simp only [Act.put, List.setIfInBounds_toArray, List.set_cons_zero, List.set_cons_succ, List.getElem_toArray, List.getElem_cons_zero, List.getElem_cons_succ]
                          refine wpAnyH_take (i := 7) (v := ?_) rfl (by kernel_rfl) (by kernel_rfl) (by kernel_rfl) (fun _ _ _ h => h) (Or.inl ⟨by rfl, ?_⟩) (by assumption) ?_
                          rotate_left
                          · intro w hSw
                            go_simp
                            try with_reducible rfl
                          try simp only [Act.put, List.setIfInBounds_toArray, List.set_cons_zero, List.set_cons_succ, List.getElem_toArray, List.getElem_cons_zero, List.getElem_cons_succ]
                          refine wpAnyH_ready (rs := [8]) (by kernel_rfl) (by simp) ?_
                          refine AllReadyH.cons rfl (fun K hK => ?_) AllReadyH.nil
                          go_simp
                          refine hK.out _ _ hr9 (fun hHeld => ?_)
                          clear hK K
                          try simp only [Act.put, List.setIfInBounds_toArray, List.set_cons_zero, List.set_cons_succ, List.getElem_toArray, List.getElem_cons_zero, List.getElem_cons_succ]
                          refine wpAnyH_done (by kernel_rfl) ?_ _
                          clear hHeld z7 m7 hr7 hr9 hS6 hS8
                          go_wp2_with fail
                          go_roundg (n3 - (k + 1))
                          case measure => have := HG.out.1; omega
                          case rel =>
                            have hz1 : (rreadC s (raccN s (mb s).2.1 k).2.1).2.2 = 0 := by rw [← HG.out.2.2.1, ← HQ.out.2.2]; exact HE.out
                            have hr := raccN_ok HG.out.2.1 hz1
                            rw [← HG.out.2.2.1, ← HQ.out.1, ← HQ.out.2.1] at hr
                            refine ⟨k + 1, A7, lc ++ [(rc, AX, cX)], c7, rfl, hlt, by go_num, by rw [hr], by rw [hr], by rw [hr, List.map_append, HG.out.2.2.2.1]; rfl, ?_⟩
                            exact H9.out
                        · go_simp
                          refine hK.out _ _ hS8 (fun hHeld => ?_)
                          clear hK K
                          try simp only [Act.put, List.setIfInBounds_toArray, List.set_cons_zero, List.set_cons_succ, List.getElem_toArray, List.getElem_cons_zero, List.getElem_cons_succ]
                          have m8 := HM68.out.2
                          have m8' := H6.out.2.1.mb.cell 17
                          have hM6 := H6.out.2.1.mb.lt
                          refine wpAnyH_ready (rs := [3]) (by kernel_rfl) (by simp) ?_
                          refine AllReadyH.cons rfl (fun K hK => ?_) AllReadyH.nil
                          go_simp
                          refine hK.out _ _ hS8 (fun hHeld => ?_)
                          clear hK K
                          try simp only [Act.put, List.setIfInBounds_toArray, List.set_cons_zero, List.set_cons_succ, List.getElem_toArray, List.getElem_cons_zero, List.getElem_cons_succ]
                          clear m8 m8' hM6
                          refine wpAnyH_ready (rs := [6]) (by kernel_rfl) (by simp) ?_
                          refine AllReadyH.cons rfl (fun K hK => ?_) AllReadyH.nil
                          refine step_append_src rfl (.tmp 76) (.tmp 78) _ _ rfl 55 ir _ 16 160 Tryz.underlying27 HIR.out.1 HIR.out.2.1 HIR.out.2.2.1 HIR.out.2.2.2 rfl (by decide) Ac lc.length cc (lc.flatMap rcl) (by simp [Act.eval]) H8.out.oc _ 1 (rcl (rc, AX, cX)) (by simp [Act.eval])
                            (Src.ofSlice _ Tryz.underlying27 ⟨w6.drew.heap.size, 0, none⟩ 1 1 [.string rc.name, .int .i64 rc.t, .int .i64 rc.cl, .int .u32 rc.ttl, .bool rc.d.six, .int .u64 rc.d.hi, .int .u64 rc.d.lo, .string rc.d.name, .string rc.d.mail, .int .u32 rc.d.n0, .int .u32 rc.d.n1, .int .u32 rc.d.n2, .int .u32 rc.d.n3, .int .u32 rc.d.n4, .slice AX rc.d.texts.length cX, .string rc.d.raw] rfl (newm 55 _) (by simp [Value.oneCell'])) (by simp only [maxLen]; omega) (by omega) ?_
                          intro A7 c7 w7 o1 o2 o3
                          have hb7 := H8.out.mb.fr o2 (own_ne H8.out.oc H8.out.mb (by decide))
                          have z7 := hb7.frozen 17
                          have m7 : w7.cell? ⟨M, 17, none⟩ = some (.slice Ac lc.length cc) := hb7.cell 17
                          have H9 := Lib.hid (H8.out.add2 (x := (rc, AX, cX)) (H6.out.2.2.quiet (((Fr.refl (fun _ => False) w6).drew).alloc (.cells #[.string rc.name, .int .i64 rc.t, .int .i64 rc.cl, .int .u32 rc.ttl, .bool rc.d.six, .int .u64 rc.d.hi, .int .u64 rc.d.lo, .string rc.d.name, .string rc.d.mail, .int .u32 rc.d.n0, .int .u32 rc.d.n1, .int .u32 rc.d.n2, .int .u32 rc.d.n3, .int .u32 rc.d.n4, .slice AX rc.d.texts.length cX, .string rc.d.raw] 55))) o1 o2 o3)
                          have hr7 : w7.rangeAt wr.heap.size 0 [.string rc.name, .int .i64 rc.t, .int .i64 rc.cl, .int .u32 rc.ttl, .bool rc.d.six, .int .u64 rc.d.hi, .int .u64 rc.d.lo, .string rc.d.name, .string rc.d.mail, .int .u32 rc.d.n0, .int .u32 rc.d.n1, .int .u32 rc.d.n2, .int .u32 rc.d.n3, .int .u32 rc.d.n4, .slice AX rc.d.texts.length cX, .string rc.d.raw] := range_own o2 (((H6.out.1.drew).alloc (.cells #[.string rc.name, .int .i64 rc.t, .int .i64 rc.cl, .int .u32 rc.ttl, .bool rc.d.six, .int .u64 rc.d.hi, .int .u64 rc.d.lo, .string rc.d.name, .string rc.d.mail, .int .u32 rc.d.n0, .int .u32 rc.d.n1, .int .u32 rc.d.n2, .int .u32 rc.d.n3, .int .u32 rc.d.n4, .slice AX rc.d.texts.length cX, .string rc.d.raw] 55))) (fun g => H6X.out.1 g)
                          have hr9 : (w7.setCell ⟨M, 17, none⟩ (.slice A7 (lc.length + 1) c7)).rangeAt wr.heap.size 0 [.string rc.name, .int .i64 rc.t, .int .i64 rc.cl, .int .u32 rc.ttl, .bool rc.d.six, .int .u64 rc.d.hi, .int .u64 rc.d.lo, .string rc.d.name, .string rc.d.mail, .int .u32 rc.d.n0, .int .u32 rc.d.n1, .int .u32 rc.d.n2, .int .u32 rc.d.n3, .int .u32 rc.d.n4, .slice AX rc.d.texts.length cX, .string rc.d.raw] := range_set hr7 H6X.out.2
                          clear o1 o2 o3 hb7 hHeld
                          refine hK.out _ _ hr7 (fun hHeld => ?_)
                          clear hK K
                          try simp only [Act.put, List.setIfInBounds_toArray, List.set_cons_zero, List.set_cons_succ, List.getElem_toArray, List.getElem_cons_zero, List.getElem_cons_succ]
                          refine wpAnyH_take (i := 7) (v := ?_) rfl (by kernel_rfl) (by kernel_rfl) (by kernel_rfl) (fun _ _ _ h => h) (Or.inl ⟨by rfl, ?_⟩) (by assumption) ?_
                          rotate_left
                          · intro w hSw
                            go_simp
                            try with_reducible rfl
                          try simp only [Act.put, List.setIfInBounds_toArray, List.set_cons_zero, List.set_cons_succ, List.getElem_toArray, List.getElem_cons_zero, List.getElem_cons_succ]
                          refine wpAnyH_ready (rs := [8]) (by kernel_rfl) (by simp) ?_
                          refine AllReadyH.cons rfl (fun K hK => ?_) AllReadyH.nil
                          go_simp
                          refine hK.out _ _ hr9 (fun hHeld => ?_)
                          clear hK K
                          try simp only [Act.put, List.setIfInBounds_toArray, List.set_cons_zero, List.set_cons_succ, List.getElem_toArray, List.getElem_cons_zero, List.getElem_cons_succ]
                          refine wpAnyH_done (by kernel_rfl) ?_ _
                          clear hHeld z7 m7 hr7 hr9 hS6 hS8
                          go_wp2_with fail
                          go_roundg (n3 - (k + 1))
                          case measure => have := HG.out.1; omega
                          case rel =>
                            have hz1 : (rreadC s (raccN s (mb s).2.1 k).2.1).2.2 = 0 := by rw [← HG.out.2.2.1, ← HQ.out.2.2]; exact HE.out
                            have hr := raccN_ok HG.out.2.1 hz1
                            rw [← HG.out.2.2.1, ← HQ.out.1, ← HQ.out.2.1] at hr
                            refine ⟨k + 1, A7, lc ++ [(rc, AX, cX)], c7, rfl, hlt, by go_num, by rw [hr], by rw [hr], by rw [hr, List.map_append, HG.out.2.2.2.1]; rfl, ?_⟩
                            exact H9.out
                      · have t1 : (e1 != 0) = true := by simp [hne]
                        have HE := Lib.hid hne
                        clear hne
                        go_wp2_with (first
                          | (go_at_call 43
                             (with_reducible refine (rread_any s at0 _ HSY.out).mono ?_)
                             rintro e w5 ⟨AX, cX, rfl, tx5, f5, n5⟩
                             rw [← HQ.out.1, ← HQ.out.2.1, ← HQ.out.2.2]
                             have H5 := Lib.hid (And.intro ((Blk.new wr 55 #[.string ⟨#[]⟩, .int .i64 0, .int .i64 0, .int .u32 0, .bool false, .int .u64 0, .int .u64 0, .string ⟨#[]⟩, .string ⟨#[]⟩, .int .u32 0, .int .u32 0, .int .u32 0, .int .u32 0, .int .u32 0, .slice none 0 0, .string ⟨#[]⟩]).fr f5 id) (((Fr.refl (fun _ => False) wr).alloc _).then f5))
                             clear tx5 f5 n5)
                          | (refine wpList_store_part rfl 55 _ _ rfl wr.heap.size 0 (by rfl) (rcl (rc, AX, cX)) (by rfl) 55 _ H5.out.1 (by kernel_rfl) (rcl_onem _) (by simp [rcl_lenm]) #[.string rc.name, .int .i64 rc.t, .int .i64 rc.cl, .int .u32 rc.ttl, .bool rc.d.six, .int .u64 rc.d.hi, .int .u64 rc.d.lo, .string rc.d.name, .string rc.d.mail, .int .u32 rc.d.n0, .int .u32 rc.d.n1, .int .u32 rc.d.n2, .int .u32 rc.d.n3, .int .u32 rc.d.n4, .slice AX rc.d.texts.length cX, .string rc.d.raw] (by rfl) ?_
                             intro w6 b6 f6
                             have H6 := Lib.hid (H0.out.quiet (H5.out.2.step f6 (fun k hk => .inr (by omega))))
                             clear b6 f6)
                          | (refine wpList_store_part rfl 29 _ _ rfl w.heap.size 0 (by rfl) _ (by rfl) 29 _ H6.out.rb (by kernel_rfl) (by simp [Value.oneCell']) (by simp) #[.int .u16 0, .bool false, .int .i64 0, .bool false, .bool false, .bool false, .bool false, .bool false, .bool false, .int .i64 0, .int .i64 0, .int .i64 0, .int .i64 0, .int .i64 0, .slice none 0 0, .slice none 0 0, .slice none 0 0, .slice none 0 0] (by rfl) ?_; intro wz bz fz; have HZ := Lib.hid (And.intro bz fz); clear bz fz)
                          | fail "no arm")
                        have herr : mreadE s = e1 := by
                          rw [mE_c HSM.out HE0.out HMQ.out.1 HM0.out.1 HM1.out.1 (k := k) (by rw [← Hn3.out]; exact hlt) HG.out.2.1 (by rw [← HG.out.2.2.1, ← HQ.out.2.2]; exact HE.out), ← HG.out.2.2.1, HQ.out.2.2]
                        have hu : Tryz.prog.underlying 29 = _ := Tryz.underlying29
                        refine bodyPost_ret (results_cell_tmp Tryz.results16 HZ.out.1 rfl rfl hu rfl (by kernel_rfl)) rfl ?_
                        exact ⟨(H6.out.fr).step HZ.out.2 (fun k hk => .inr (by omega)), .inl ⟨by rw [herr]; exact HE.out, by rw [herr]; try rfl⟩⟩
                    · have hke : k = n3 := by omega
                      subst hke
                      clear hlt
                      have hz2 : (mc s).2.2 = 0 := by show (raccN s (mb s).2.1 _).2.2 = 0; rw [← Hn3.out]; exact HG.out.2.1
                      have ha2 : (mc s).2.1 = at0 := by show (raccN s (mb s).2.1 _).2.1 = at0; rw [← Hn3.out, HG.out.2.2.1]
                      have hm2 : lc.map Prod.fst = (mc s).1 := by show _ = (raccN s (mb s).2.1 _).1; rw [← Hn3.out]; exact HG.out.2.2.2.1
                      have HM2 := Lib.hid (And.intro hz2 (And.intro ha2 hm2))
                      clear hz2 ha2 hm2
                      rename World => v3
                      have Hv3 := H0
                      clear H0 HG
                      by_cases hend : at0 = ((s.size : Nat) : Int)
                      · have t2 : (at0 != ((s.size : Nat) : Int)) = false := by simp [hend]
                        have HEND := Lib.hid hend
                        clear hend
                        go_wp2_with fail
                        rw [rounds_succ]
                        go_wp2_with (first
                          | (refine wpList_load_blk rfl 29 _ rfl M (by rfl) 29 _ _ Hv3.out.mb Tryz.underlying29 rfl (by kernel_rfl) ?_)
                          | (refine wpList_store_part rfl 29 _ _ rfl w.heap.size 0 (by rfl) _ (by rfl) 29 _ Hv3.out.rb (by kernel_rfl) (by simp [Value.oneCell']) (by simp) #[.int .u16 h.id, .bool h.resp, .int .i64 h.op, .bool h.aa, .bool h.tc, .bool h.rd, .bool h.ra, .bool h.ad, .bool h.cd, .int .i64 h.rc, .int .i64 h.c0, .int .i64 h.c1, .int .i64 h.c2, .int .i64 h.c3, .slice Aq lq.length cq, .slice Aa la.length ca, .slice Ab lb.length cb, .slice Ac lc.length cc] (by rfl) ?_; intro wz bz fz; have HZ := Lib.hid (And.intro bz fz); clear bz fz)
                          | fail "no arm")
                        have herr : mreadE s = 0 := by rw [mE_end HSM.out HE0.out HMQ.out.1 HM0.out.1 HM1.out.1 HM2.out.1, if_neg (by rw [HM2.out.2.1, HEND.out]; simp)]
                        have hu : Tryz.prog.underlying 29 = _ := Tryz.underlying29
                        refine bodyPost_ret (results_cell_tmp Tryz.results16 HZ.out.1 rfl rfl hu rfl (by kernel_rfl)) rfl ?_
                        refine ⟨Hv3.out.frr HZ.out.2, .inr ⟨herr, h, Aq, lq, cq, Aa, la, ca, Ab, lb, cb, Ac, lc, cc, rfl, Hv3.out.mem HZ.out.2, ?_⟩⟩
                        unfold msOf mreadM
                        rw [← HHD.out, HMQ.out.2.2, HM0.out.2.2, HM1.out.2.2, HM2.out.2.2]
                      · have t2 : (at0 != ((s.size : Nat) : Int)) = true := by simp [hend]
                        have HEND := Lib.hid hend
                        clear hend
                        go_wp2_with fail
                        rw [rounds_succ]
                        go_wp2_with (first
                          | (refine wpList_store_part rfl 29 _ _ rfl w.heap.size 0 (by rfl) _ (by rfl) 29 _ Hv3.out.rb (by kernel_rfl) (by simp [Value.oneCell']) (by simp) #[.int .u16 0, .bool false, .int .i64 0, .bool false, .bool false, .bool false, .bool false, .bool false, .bool false, .int .i64 0, .int .i64 0, .int .i64 0, .int .i64 0, .int .i64 0, .slice none 0 0, .slice none 0 0, .slice none 0 0, .slice none 0 0] (by rfl) ?_; intro wz bz fz; have HZ := Lib.hid (And.intro bz fz); clear bz fz)
                          | fail "no arm")
                        have herr : mreadE s = 4 := by rw [mE_end HSM.out HE0.out HMQ.out.1 HM0.out.1 HM1.out.1 HM2.out.1, if_pos (by rw [HM2.out.2.1]; exact HEND.out)]
                        have hu : Tryz.prog.underlying 29 = _ := Tryz.underlying29
                        refine bodyPost_ret (results_cell_tmp Tryz.results16 HZ.out.1 rfl rfl hu rfl (by kernel_rfl)) rfl ?_
                        exact ⟨(Hv3.out.fr).step HZ.out.2 (fun k hk => .inr (by omega)), .inl ⟨by rw [herr]; exact (by decide), by rw [herr]; try rfl⟩⟩
    · have t0 : (e0 != 0) = true := by simp [he]
      have HE0 := Lib.hid he
      clear he
      go_enter Tryz.func16, Tryz.ntmps16
      go_upto_region 1 with fail
      rw [← HW.out]
      clear HW
      go_wp2_with (first
        | (go_at_call 41
           (with_reducible refine (read_hd s W HS.out).mono ?_)
           rintro e w1 ⟨rfl, f1⟩
           rw [← HHD.out, ← HHE.out]
           have H1 := Lib.hid (And.intro (HB.out.1.fr f1 id) (HB.out.2.then f1))
           clear f1)
        | (refine wpList_store_part rfl 25 _ _ rfl w1.heap.size 0 (by rfl) _ (by rfl) 25 _ (Blk.new w1 25 _) (by kernel_rfl) (by simp [Value.oneCell']) (by simp) #[.int .u16 h.id, .bool h.resp, .int .i64 h.op, .bool h.aa, .bool h.tc, .bool h.rd, .bool h.ra, .bool h.ad, .bool h.cd, .int .i64 h.rc, .int .i64 h.c0, .int .i64 h.c1, .int .i64 h.c2, .int .i64 h.c3] (by rfl) ?_
           intro w2 b2 f2
           have H2 := Lib.hid (And.intro (H1.out.1.fr (((Fr.refl (fun _ => False) w1).alloc _).step f2 (fun k hk => .inr (by subst hk; exact Nat.le_refl _))) id) (H1.out.2.then (((Fr.refl (fun _ => False) w1).alloc _).step f2 (fun k hk => .inr (by subst hk; exact Nat.le_refl _)))))
           clear b2 f2)
        | (refine wpList_store_part rfl 29 _ _ rfl w.heap.size 0 (by rfl) _ (by rfl) 29 _ H2.out.1 (by kernel_rfl) (by simp [Value.oneCell']) (by simp) #[.int .u16 0, .bool false, .int .i64 0, .bool false, .bool false, .bool false, .bool false, .bool false, .bool false, .int .i64 0, .int .i64 0, .int .i64 0, .int .i64 0, .int .i64 0, .slice none 0 0, .slice none 0 0, .slice none 0 0, .slice none 0 0] (by rfl) ?_; intro wz bz fz; have HZ := Lib.hid (And.intro bz fz); clear bz fz)
        | fail "no arm")
      have herr : mreadE s = e0 := by rw [mE_hd HSM.out (by rw [← HHE.out]; exact HE0.out)]; exact HHE.out.symm
      have hu : Tryz.prog.underlying 29 = _ := Tryz.underlying29
      refine bodyPost_ret (results_cell_tmp Tryz.results16 HZ.out.1 rfl rfl hu rfl (by kernel_rfl)) rfl ?_
      exact ⟨(H2.out.2).step HZ.out.2 (fun k hk => .inr (by omega)), .inl ⟨by rw [herr]; exact HE0.out, by rw [herr]; try rfl⟩⟩
end Go.Proofs.YtmbgejiahmhffaaGreat
