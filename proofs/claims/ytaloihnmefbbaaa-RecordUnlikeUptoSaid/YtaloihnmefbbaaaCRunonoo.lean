/-
  LAYER 10: RecordUnlike, a case.
-/
import Derived.Test.YtaloihnmefbbaaaCRun
namespace Go.Proofs.Ytaloihnmefbbaaa
set_option linter.unusedVariables false
set_option linter.unusedSimpArgs false
open Go.RowKit

set_option maxRecDepth 100000 in
set_option maxHeartbeats 16000000 in
theorem run_on_oo (a : Rcd) (A : Option Addr) (ka : Nat) (b : Rcd) (B : Option Addr) (kb : Nat) (q r : Qn) (w : World) (ha : RcIn w A a ∧ a.name.size + a.d.light ≤ 1048576) (hb : RcIn w B b ∧ b.name.size + b.d.light ≤ 1048576) (hq : QOk q) (hr : QOk r) (hla : rlight a = true) (hlb : rlight b = true) (hq4 : ¬ 400 < q.1.size) (hr4 : ¬ 400 < r.1.size) (hca : a.check = 0) (hcb : b.check ≠ 0) (hcq : qcheck q.1 q.2.1 q.2.2 = 0) (hcr : qcheck r.1 r.2.1 r.2.2 = 0) :
    Calls Try.prog 4 #[a.val (.slice A a.d.texts.length ka), b.val (.slice B b.d.texts.length kb), qval q, qval r] w fun e w' => e = .returned (.bool true) ∧ Below w.heap.size w w' := by
  obtain ⟨W, hW⟩ : ∃ W, W = ((((w.alloc (.cells (a.cells (.slice A a.d.texts.length ka)) 32)).alloc (.cells (b.cells (.slice B b.d.texts.length kb)) 32)).alloc (.cells #[.string q.1, .int .i64 q.2.1, .int .i64 q.2.2] 46)).alloc (.cells #[.string r.1, .int .i64 r.2.1, .int .i64 r.2.2] 46)) := ⟨_, rfl⟩
  have hf : Fr (fun _ => False) w W := by rw [hW]; exact ((((Fr.refl _ _).alloc _).alloc _).alloc _).alloc _
  have hru : RU w W a b q r A B ka kb := by
    refine ⟨?_, ?_, ?_, ?_, ha.1.fr0 hf, hb.1.fr0 hf, hf⟩
    · rw [hW]; exact (((Blk.new w 32 _).alloc _).alloc _).alloc _
    · rw [hW]
      have := ((Blk.new (w.alloc (.cells (a.cells (.slice A a.d.texts.length ka)) 32)) 32 (b.cells (.slice B b.d.texts.length kb))).alloc (.cells #[.string q.1, .int .i64 q.2.1, .int .i64 q.2.2] 46)).alloc (.cells #[.string r.1, .int .i64 r.2.1, .int .i64 r.2.2] 46)
      rwa [World.size_alloc] at this
    · rw [hW]
      have := (Blk.new ((w.alloc (.cells (a.cells (.slice A a.d.texts.length ka)) 32)).alloc (.cells (b.cells (.slice B b.d.texts.length kb)) 32)) 46 #[.string q.1, .int .i64 q.2.1, .int .i64 q.2.2]).alloc (.cells #[.string r.1, .int .i64 r.2.1, .int .i64 r.2.2] 46)
      rwa [World.size_alloc, World.size_alloc] at this
    · rw [hW]
      have := Blk.new (((w.alloc (.cells (a.cells (.slice A a.d.texts.length ka)) 32)).alloc (.cells (b.cells (.slice B b.d.texts.length kb)) 32)).alloc (.cells #[.string q.1, .int .i64 q.2.1, .int .i64 q.2.2] 46)) 46 #[.string r.1, .int .i64 r.2.1, .int .i64 r.2.2]
      rwa [World.size_alloc, World.size_alloc, World.size_alloc] at this
  have H := Lib.hid hru
  have HB := Lib.hid (And.intro ha.2 hb.2)
  have HQ := Lib.hid (And.intro hq hr)
  have HOK := Lib.hid (And.intro ha.1.ok hb.1.ok)
  have hq1 : q.1.size ≤ 1048576 := hq.1
  have hr1 : r.1.size ≤ 1048576 := hr.1
  unfold Rcd.val qval
  unfold Rcd.cells at hW ⊢
  have HW := Lib.hid hW
  clear hf hru ha hb hq hr hW
  go_enter Try.func4, Try.ntmps4
  go_upto_region 1 with fail
  rw [← HW.out]
  clear HW
  go_wp2_with fail
  refine (lives10_any _).mono ?_
  rintro e w1 ⟨rfl, f1⟩
  have H1 := Lib.hid (H.out.fr0 f1)
  clear f1 H
  have x0 := H1.out.cq.1
  have y0 := H1.out.cr.1
  obtain ⟨P0, hP0⟩ : ∃ P0 : Pk, P0 = ⟨⟨[], 65535, 0⟩, fun _ => none⟩ := ⟨_, rfl⟩
  have hu : UG P0 0 := by rw [hP0]; exact UG.start
  have hla2 : a.d.light ≤ 2000 := by
    have := hla
    unfold rlight at this
    rw [Bool.and_eq_true, decide_eq_true_eq, decide_eq_true_eq] at this
    exact this.2
  have hlb2 : b.d.light ≤ 2000 := by
    have := hlb
    unfold rlight at this
    rw [Bool.and_eq_true, decide_eq_true_eq, decide_eq_true_eq] at this
    exact this.2
  have HP := Lib.hid (And.intro hP0.symm (And.intro hu (And.intro hla2 hlb2)))
  have HLA := Lib.hid hla
  have HLB := Lib.hid hlb
  clear hP0 hu hla hlb hla2 hlb2
  go_upto_region 6 with (first
      | (refine wpList_load_blk rfl 32 _ rfl w.heap.size (by rfl) 32 _ _ H1.out.ba Try.underlying32 rfl (by kernel_rfl) ?_
         unfold Rcd.cells)
      | (go_at_call 11
         (with_reducible refine (rlight_any a A ka w1 H1.out.ra (by have := HB.out.1; omega) (by have := HB.out.1; omega)).mono ?_)
         rintro e w2 ⟨rfl, f2⟩
         rw [HLA.out]
         have H2 := Lib.hid (H1.out.fr0 f2)
         clear f2 x0 y0
         have x0 := H2.out.cq.1
         have y0 := H2.out.cr.1)
      | (refine wpList_load_blkg (by rfl) 32 _ rfl (w.heap.size + 1) (by rfl) 32 _ _ H2.out.bb Try.underlying32 rfl (by kernel_rfl) ?_
         unfold Rcd.cells)
      | (go_at_call 11
         (with_reducible refine (rlight_any b B kb w2 H2.out.rb (by have := HB.out.2; omega) (by have := HB.out.2; omega)).mono ?_)
         rintro e w3 ⟨rfl, f3⟩
         rw [HLB.out]
         have H3 := Lib.hid (H2.out.fr0 f3)
         clear f3 x0 y0
         have x0 := H3.out.cq.1
         have y0 := H3.out.cr.1)
      | (go_at_call 12
         (with_reducible refine (pnew_pd w3).mono ?_)
         rintro e w4 ⟨px, X, rfl, g1⟩
         rw [HP.out.1] at g1
         have H4 := Lib.hid g1
         clear g1)
      | (go_at_call 12
         (with_reducible refine (pnew_pd w4).mono ?_)
         rintro e w5 ⟨py, Y, rfl, g1⟩
         rw [HP.out.1] at g1
         have H5 := Lib.hid (And.intro (PD2.make H4.out g1) (And.intro g1.fr (fun k (hk : X k) => H4.out.pk.lt k hk)))
         clear g1)
      | (go_at_call 12
         (with_reducible refine (pnew_pd w5).mono ?_)
         rintro e w6 ⟨pz, Z, rfl, g1⟩
         rw [HP.out.1] at g1
         have H6 := Lib.hid g1
         clear g1)
      | (go_at_call 12
         (with_reducible refine (pnew_pd w6).mono ?_)
         rintro e w7 ⟨pk, K, rfl, g1⟩
         rw [HP.out.1] at g1
         have H7 := Lib.hid (And.intro (PD2.make H6.out g1) (H5.out.1.quiet (H6.out.fr.then g1.fr)))
         clear g1))
  have hfz : Fr (fun _ => False) w3 w7 := H7.out.2.p.fr
  have hX : ∀ k, X k → w3.heap.size ≤ k ∧ k < w5.heap.size := fun k hk => ⟨H7.out.2.p.far k hk, Nat.lt_of_lt_of_le (H5.out.2.2 k hk) H5.out.2.1.size⟩
  have hY : ∀ k, Y k → w3.heap.size ≤ k ∧ k < w5.heap.size := fun k hk => ⟨H7.out.2.q.far k hk, H5.out.1.q.pk.lt k hk⟩
  have HXY := Lib.hid (And.intro hX hY)
  have HR7 := Lib.hid (H3.out.fr0 hfz)
  have HX0 := Lib.hid (H7.out.2.quiet ((Fr.refl _ w7).drew))
  clear hfz hX hY x0 y0
  go_cut [59] (fun v wx => v = .bool false ∧ Tw w3 w5 w7 wx)
  case first =>
    clear hcq hcr
    have HCA := Lib.hid hca
    have HCB := Lib.hid hcb
    have hne : (b.check == 0) = false := by rw [beq_eq_false_iff_ne]; exact hcb
    clear hca hcb
    refine wp_region_held_drew (S := fun w' => RU w w' a b q r A B ka kb) (by kernel_rfl) (HR7.out.fr0 ((Fr.refl _ _).drew)) (fun hHeld => ?_)
    refine wpAnyH_take (i := 0) (v := ?_) rfl (by kernel_rfl) (by kernel_rfl) (by kernel_rfl) (fun _ _ _ h => h) (Or.inl ⟨by rfl, ?_⟩) (by assumption) ?_
    rotate_left
    · intro w hSw
      go_simp
      try with_reducible rfl
    try simp only [Act.put, List.setIfInBounds_toArray, List.set_cons_zero, List.set_cons_succ, List.getElem_toArray, List.getElem_cons_zero, List.getElem_cons_succ]
    refine wpAnyH_take (i := 1) rfl (by kernel_rfl) (by kernel_rfl) (by kernel_rfl) (fun _ _ _ h => h) (yieldsIf_load_mid (by rfl) _ _ rfl w.heap.size 0 (by rfl) [.string a.name, .int .i64 a.t, .int .i64 a.cl, .int .u32 a.ttl, .bool a.d.six, .int .u64 a.d.hi, .int .u64 a.d.lo, .string a.d.name, .string a.d.mail, .int .u32 a.d.n0, .int .u32 a.d.n1, .int .u32 a.d.n2, .int .u32 a.d.n3, .int .u32 a.d.n4, .slice A a.d.texts.length ka, .string a.d.raw] _ (fun w' h => h.range_a) Try.underlying32 rfl (by kernel_rfl)) (by assumption) ?_
    try simp only [Act.put, List.setIfInBounds_toArray, List.set_cons_zero, List.set_cons_succ, List.getElem_toArray, List.getElem_cons_zero, List.getElem_cons_succ]
    refine wpAnyH_ready (rs := [2]) (by kernel_rfl) (by simp) ?_
    refine AllReadyH.cons rfl (fun K hK => ?_) AllReadyH.nil
    go_simp
    (with_reducible refine (rput_ok HX0.out.p HP.out.2.1 a A ka H3.out.ra (by have := HP.out.2.2.1; omega) HCA.out).mono ?_)
    rintro e w8 ⟨rfl, X8, g1, g2, g3⟩
    have f8 := g2.fromD
    have H8 := Lib.hid (And.intro (HX0.out.stepP g1 g2 g3) (And.intro f8 (HR7.out.step f8 (fun k hk => H3.out.far k (HXY.out.1 k hk).1))))
    clear g1 g2 g3 f8
    refine hK.out _ _ H8.out.2.2 (fun hHeld => ?_)
    clear hK K
    try simp only [Act.put, List.setIfInBounds_toArray, List.set_cons_zero, List.set_cons_succ, List.getElem_toArray, List.getElem_cons_zero, List.getElem_cons_succ]
    refine wpAnyH_take (i := 3) (v := ?_) rfl (by kernel_rfl) (by kernel_rfl) (by kernel_rfl) (fun _ _ _ h => h) (Or.inl ⟨by rfl, ?_⟩) (by assumption) ?_
    rotate_left
    · intro w hSw
      go_simp
      try with_reducible rfl
    try simp only [Act.put, List.setIfInBounds_toArray, List.set_cons_zero, List.set_cons_succ, List.getElem_toArray, List.getElem_cons_zero, List.getElem_cons_succ]
    refine wpAnyH_take (i := 4) (v := ?_) rfl (by kernel_rfl) (by kernel_rfl) (by kernel_rfl) (fun _ _ _ h => h) (Or.inl ⟨by rfl, ?_⟩) (by assumption) ?_
    rotate_left
    · intro w hSw
      go_simp
      try with_reducible rfl
    try simp only [Act.put, List.setIfInBounds_toArray, List.set_cons_zero, List.set_cons_succ, List.getElem_toArray, List.getElem_cons_zero, List.getElem_cons_succ]
    refine wpAnyH_take (i := 5) (v := ?_) rfl (by kernel_rfl) (by kernel_rfl) (by kernel_rfl) (fun _ _ _ h => h) (Or.inl ⟨by rfl, ?_⟩) (by assumption) ?_
    rotate_left
    · intro w hSw
      go_simp
      try with_reducible rfl
    try simp only [Act.put, List.setIfInBounds_toArray, List.set_cons_zero, List.set_cons_succ, List.getElem_toArray, List.getElem_cons_zero, List.getElem_cons_succ]
    refine wpAnyH_take (i := 6) rfl (by kernel_rfl) (by kernel_rfl) (by kernel_rfl) (fun _ _ _ h => h) (yieldsIf_load_mid (by rfl) _ _ rfl (w.heap.size + 1) 0 (by rfl) [.string b.name, .int .i64 b.t, .int .i64 b.cl, .int .u32 b.ttl, .bool b.d.six, .int .u64 b.d.hi, .int .u64 b.d.lo, .string b.d.name, .string b.d.mail, .int .u32 b.d.n0, .int .u32 b.d.n1, .int .u32 b.d.n2, .int .u32 b.d.n3, .int .u32 b.d.n4, .slice B b.d.texts.length kb, .string b.d.raw] _ (fun w' h => h.range_b) Try.underlying32 rfl (by kernel_rfl)) (by assumption) ?_
    try simp only [Act.put, List.setIfInBounds_toArray, List.set_cons_zero, List.set_cons_succ, List.getElem_toArray, List.getElem_cons_zero, List.getElem_cons_succ]
    refine wpAnyH_ready (rs := [7]) (by kernel_rfl) (by simp) ?_
    refine AllReadyH.cons rfl (fun K hK => ?_) AllReadyH.nil
    go_simp
    (with_reducible refine (rput_no H8.out.1.q HP.out.2.1 b B kb H3.out.rb (by have := HP.out.2.2.2; omega) HCB.out).mono ?_)
    rintro e w9 ⟨rfl, Y9, g1, g2, g3⟩
    have H9 := Lib.hid (And.intro g2 (And.intro (H8.out.2.2.step g2 (fun k hk => H3.out.far k (HXY.out.2 k hk).1)) (H8.out.1.stepQ g1 g2 g3)))
    clear g1 g2 g3
    refine hK.out _ _ H9.out.2.1 (fun hHeld => ?_)
    clear hK K
    try simp only [Act.put, List.setIfInBounds_toArray, List.set_cons_zero, List.set_cons_succ, List.getElem_toArray, List.getElem_cons_zero, List.getElem_cons_succ]
    refine wpAnyH_take (i := 8) (v := ?_) rfl (by kernel_rfl) (by kernel_rfl) (by kernel_rfl) (fun _ _ _ h => h) (Or.inl ⟨by rfl, ?_⟩) (by assumption) ?_
    rotate_left
    · intro w hSw
      go_simp
      try with_reducible rfl
    try simp only [Act.put, List.setIfInBounds_toArray, List.set_cons_zero, List.set_cons_succ, List.getElem_toArray, List.getElem_cons_zero, List.getElem_cons_succ]
    refine wpAnyH_take (i := 9) (v := ?_) rfl (by kernel_rfl) (by kernel_rfl) (by kernel_rfl) (fun _ _ _ h => h) (Or.inl ⟨by rfl, ?_⟩) (by assumption) ?_
    rotate_left
    · intro w hSw
      go_simp
      try with_reducible rfl
    try simp only [Act.put, List.setIfInBounds_toArray, List.set_cons_zero, List.set_cons_succ, List.getElem_toArray, List.getElem_cons_zero, List.getElem_cons_succ]
    refine wpAnyH_take (i := 10) (v := ?_) rfl (by kernel_rfl) (by kernel_rfl) (by kernel_rfl) (fun _ _ _ h => h) (Or.inl ⟨by rfl, ?_⟩) (by assumption) ?_
    rotate_left
    · intro w hSw
      go_simp
      try with_reducible rfl
    try simp only [Act.put, List.setIfInBounds_toArray, List.set_cons_zero, List.set_cons_succ, List.getElem_toArray, List.getElem_cons_zero, List.getElem_cons_succ]
    refine wpAnyH_skip 11 rfl (by kernel_rfl) (by kernel_rfl) (by kernel_rfl) (fun _ _ _ h => h) (by rfl) (by assumption) ?_
    try simp only [Act.put, List.setIfInBounds_toArray, List.set_cons_zero, List.set_cons_succ, List.getElem_toArray, List.getElem_cons_zero, List.getElem_cons_succ]
    refine wpAnyH_skip 12 rfl (by kernel_rfl) (by kernel_rfl) (by kernel_rfl) (fun _ _ _ h => h) (by rfl) (by assumption) ?_
    try simp only [Act.put, List.setIfInBounds_toArray, List.set_cons_zero, List.set_cons_succ, List.getElem_toArray, List.getElem_cons_zero, List.getElem_cons_succ]
    refine wpAnyH_skip 13 rfl (by kernel_rfl) (by kernel_rfl) (by kernel_rfl) (fun _ _ _ h => h) (by rfl) (by assumption) ?_
    try simp only [Act.put, List.setIfInBounds_toArray, List.set_cons_zero, List.set_cons_succ, List.getElem_toArray, List.getElem_cons_zero, List.getElem_cons_succ]
    refine wpAnyH_skip 14 rfl (by kernel_rfl) (by kernel_rfl) (by kernel_rfl) (fun _ _ _ h => h) (by rfl) (by assumption) ?_
    try simp only [Act.put, List.setIfInBounds_toArray, List.set_cons_zero, List.set_cons_succ, List.getElem_toArray, List.getElem_cons_zero, List.getElem_cons_succ]
    refine wpAnyH_skip 15 rfl (by kernel_rfl) (by kernel_rfl) (by kernel_rfl) (fun _ _ _ h => h) (by rfl) (by assumption) ?_
    try simp only [Act.put, List.setIfInBounds_toArray, List.set_cons_zero, List.set_cons_succ, List.getElem_toArray, List.getElem_cons_zero, List.getElem_cons_succ]
    refine wpAnyH_skip 16 rfl (by kernel_rfl) (by kernel_rfl) (by kernel_rfl) (fun _ _ _ h => h) (by rfl) (by assumption) ?_
    try simp only [Act.put, List.setIfInBounds_toArray, List.set_cons_zero, List.set_cons_succ, List.getElem_toArray, List.getElem_cons_zero, List.getElem_cons_succ]
    refine wpAnyH_skip 17 rfl (by kernel_rfl) (by kernel_rfl) (by kernel_rfl) (fun _ _ _ h => h) (by rfl) (by assumption) ?_
    try simp only [Act.put, List.setIfInBounds_toArray, List.set_cons_zero, List.set_cons_succ, List.getElem_toArray, List.getElem_cons_zero, List.getElem_cons_succ]
    refine wpAnyH_skip 18 rfl (by kernel_rfl) (by kernel_rfl) (by kernel_rfl) (fun _ _ _ h => h) (by rfl) (by assumption) ?_
    try simp only [Act.put, List.setIfInBounds_toArray, List.set_cons_zero, List.set_cons_succ, List.getElem_toArray, List.getElem_cons_zero, List.getElem_cons_succ]
    refine wpAnyH_skip 19 rfl (by kernel_rfl) (by kernel_rfl) (by kernel_rfl) (fun _ _ _ h => h) (by rfl) (by assumption) ?_
    try simp only [Act.put, List.setIfInBounds_toArray, List.set_cons_zero, List.set_cons_succ, List.getElem_toArray, List.getElem_cons_zero, List.getElem_cons_succ]
    refine wpAnyH_take (i := 20) (v := ?_) rfl (by kernel_rfl) (by kernel_rfl) (by kernel_rfl) (fun _ _ _ h => h) (Or.inl ⟨by rfl, ?_⟩) (by assumption) ?_
    rotate_left
    · intro w hSw
      go_simp
      try with_reducible rfl
    try simp only [Act.put, List.setIfInBounds_toArray, List.set_cons_zero, List.set_cons_succ, List.getElem_toArray, List.getElem_cons_zero, List.getElem_cons_succ]
    refine wpAnyH_done (by kernel_rfl) ?_ _
    go_wp2_with fail
    go_meet
    exact ⟨rfl, (H8.out.2.1.mono (T := fun k => w3.heap.size ≤ k ∧ k < w5.heap.size) fun k _ hk => HXY.out.1 k hk).then (H9.out.1.mono fun k _ hk => HXY.out.2 k hk)⟩
  case rest =>
    clear hca hcb
    obtain ⟨rfl, htw⟩ := hcut
    have hpd : PD2 w3 wc pz Z P0 pk K P0 := by
      have hz : ∀ k, Z k → w5.heap.size ≤ k := H7.out.1.p.far
      have hk : ∀ k, K k → w5.heap.size ≤ k := H7.out.1.q.far
      have h35 : w3.heap.size ≤ w5.heap.size := H5.out.1.p.fr.size
      have hfr : Fr (fun _ => False) w3 wc := H7.out.2.p.fr.step htw fun k g => .inr g.1
      exact ⟨⟨H7.out.1.p.pk.fr htw (fun k h g => by have := hz k h; omega), hfr, fun k h => by have := hz k h; omega⟩, ⟨H7.out.1.q.pk.fr htw (fun k h g => by have := hk k h; omega), hfr, fun k h => by have := hk k h; omega⟩, H7.out.1.apart⟩
    have HRx := Lib.hid (HR7.out.step htw fun k g => H3.out.far k g.1)
    have HPD := Lib.hid (hpd.quiet ((Fr.refl _ wc).drew))
    clear htw hpd
    go_wp2_with fail
    obtain ⟨c0, c1, c2⟩ := HRx.out.cq
    obtain ⟨c3, c4, c5⟩ := HRx.out.cr
    obtain ⟨d0, d1, d2⟩ := (HRx.out.fr0 ((Fr.refl _ wc).drew)).cq
    obtain ⟨d3, d4, d5⟩ := (HRx.out.fr0 ((Fr.refl _ wc).drew)).cr
    have hun := qput_unlike HP.out.2.1 hcq hcr (by decide)
    have heq : ((headB P0 q.1 q.2.1 q.2.2).x.b == (headB P0 r.1 r.2.1 r.2.2).x.b) = qsameB q.1 r.1 q.2.1 r.2.1 q.2.2 r.2.2 := by rw [Bool.eq_iff_iff, beq_iff_eq, qsameB_iff]; exact hun
    have HCQ := Lib.hid hcq
    have HCR := Lib.hid hcr
    obtain ⟨z1, hz1⟩ : ∃ z1, z1 = headB P0 q.1 q.2.1 q.2.2 := ⟨_, rfl⟩
    obtain ⟨z2, hz2⟩ : ∃ z2, z2 = headB P0 r.1 r.2.1 r.2.2 := ⟨_, rfl⟩
    rw [← hz1, ← hz2] at heq
    have HEQ := Lib.hid (And.intro heq (And.intro hz1 hz2))
    have HMX := Lib.hid (show q.1.size ≤ maxLen ∧ r.1.size ≤ maxLen from ⟨by unfold maxLen; omega, by unfold maxLen; omega⟩)
    have HI := Lib.hid (show i64ok q.2.1 ∧ i64ok r.2.1 ∧ i64ok q.2.2 ∧ i64ok r.2.2 from ⟨HQ.out.1.2.1, HQ.out.2.2.1, HQ.out.1.2.2, HQ.out.2.2.2⟩)
    clear hcq hcr hun heq hz1 hz2
    go_region_held3 (fun w' => w'.cell? ⟨(w.heap.size + 1 + 1), 0, none⟩ = some (.string q.1) ∧ w'.cell? ⟨(w.heap.size + 1 + 1), 1, none⟩ = some (.int .i64 q.2.1) ∧ w'.cell? ⟨(w.heap.size + 1 + 1), 2, none⟩ = some (.int .i64 q.2.2) ∧ w'.cell? ⟨(w.heap.size + 1 + 1 + 1), 0, none⟩ = some (.string r.1) ∧ w'.cell? ⟨(w.heap.size + 1 + 1 + 1), 1, none⟩ = some (.int .i64 r.2.1) ∧ w'.cell? ⟨(w.heap.size + 1 + 1 + 1), 2, none⟩ = some (.int .i64 r.2.2))
      (first | exact ⟨c0, c1, c2, c3, c4, c5⟩ | exact ⟨d0, d1, d2, d3, d4, d5⟩ | exact ⟨m0, m1, m2, m3, m4, m5⟩ | exact ⟨n0, n1, n2, n3, n4, n5⟩ | exact ⟨k0, k1, k2, k3, k4, k5⟩)
      (first
      | (go_at_call 20
         (with_reducible refine (qput_ok HPD.out.p HP.out.2.1 q.1 q.2.1 q.2.2 (by decide) HCQ.out).mono ?_)
         rintro e w11 ⟨rfl, Z11, g1, g2, g3⟩
         rw [← HEQ.out.2.1] at g1
         have f11 := g2.fromD
         have H11 := Lib.hid (And.intro (HPD.out.stepP g1 g2 g3) (HRx.out.step f11 (fun k hk => H3.out.far k (HPD.out.p.far k hk))))
         obtain ⟨m0, m1, m2⟩ := H11.out.2.cq
         obtain ⟨m3, m4, m5⟩ := H11.out.2.cr
         clear g1 g2 g3 f11)
      | (go_at_call 20
         (with_reducible refine (qput_ok H11.out.1.q HP.out.2.1 r.1 r.2.1 r.2.2 (by decide) HCR.out).mono ?_)
         rintro e w12 ⟨rfl, K12, g1, g2, g3⟩
         rw [← HEQ.out.2.2] at g1
         have H12 := Lib.hid (And.intro (H11.out.1.stepQ g1 g2 g3) (H11.out.2.step g2 (fun k hk => H3.out.far k (H11.out.1.q.far k hk))))
         obtain ⟨n0, n1, n2⟩ := H12.out.2.cq
         obtain ⟨n3, n4, n5⟩ := H12.out.2.cr
         clear g1 g2 g3)
      | (go_at_call 15
         (first
          | (with_reducible refine (text_pd H12.out.1.p).mono ?_)
          | (with_reducible refine (text_pd H12.out.1.q).mono ?_)
          | (with_reducible refine (text_pd H13.out.1.p).mono ?_)
          | (with_reducible refine (text_pd H13.out.1.q).mono ?_))
         rintro e w' ⟨rfl, rfl⟩)
      | (go_at_call 21
         (with_reducible refine (qsame_any q.1 r.1 q.2.1 r.2.1 q.2.2 r.2.2 HMX.out.1 HMX.out.2 HI.out.1 HI.out.2.1 HI.out.2.2.1 HI.out.2.2.2 w12).mono ?_)
         rintro e w13 ⟨rfl, f13⟩
         have H13 := Lib.hid (And.intro (H12.out.1.quiet f13) (H12.out.2.fr0 f13))
         obtain ⟨k0, k1, k2⟩ := H13.out.2.cq
         obtain ⟨k3, k4, k5⟩ := H13.out.2.cr
         clear f13)
      | fail "no arm")
    all_goals
      go_wp2_with fail
      go_ret
      refine ⟨ret_bool ?_, H13.out.2.fr.below (fun _ h => h.elim) (Nat.le_refl _)⟩
      have h := HEQ.out.1
      simp [h]
end Go.Proofs.Ytaloihnmefbbaaa
