/-
  LAYER 11: nameplatekit.Own at api.Record, Records.
-/
import Derived.Test.YtmbgejiahmhffaaGreatSMpt
import Derived.Test.YtmbgejiahmhffaaGreatSMcq
import Derived.WalkMore
namespace Go.Proofs.YtmbgejiahmhffaaGreat
open Go.RowKit
set_option linter.unusedVariables false
set_option linter.unusedSimpArgs false

theorem Tryz.infoRcO : (Tryz.prog.info? 55).map (fun i => (i.zero, i.size, i.bytes)) = some (some (.agg #[.string ⟨#[]⟩, .int .i64 0, .int .i64 0, .int .u32 0, .bool false, .int .u64 0, .int .u64 0, .string ⟨#[]⟩, .string ⟨#[]⟩, .int .u32 0, .int .u32 0, .int .u32 0, .int .u32 0, .int .u32 0, .slice none 0 0, .string ⟨#[]⟩]), 16, 160) := by kernel_rfl
theorem rcs_onem (l : RLm) : ∀ u ∈ l.flatMap rcl, u.oneCell' = true := by
  intro u hu
  obtain ⟨x, _, h⟩ := List.mem_flatMap.1 hu
  exact rcl_onem x u h
theorem rcs_len (l : RLm) : (l.flatMap rcl).length = l.length * 16 := by
  induction l with
  | nil => rfl
  | cons x l ih => rw [List.flatMap_cons, List.length_append, ih, rcl_lenm, List.length_cons]; omega
theorem src_recs {P : Program} {w : World} {tx e' : TypeId} (hk : P.underlying tx = some (.slice e')) {A : Option Addr} {l : RLm} {cap : Nat} (h : RowIn w A (l.flatMap rcl)) : Src P 16 tx (.slice A l.length cap) l.length (l.flatMap rcl) w := by
  rcases l with _ | ⟨x, l⟩
  · rcases A with _ | a
    · exact Src.ofNil w hk cap
    · exact Src.ofSlice w hk a 0 cap [] (by rfl) (fun j u hu => by simp at hu) (fun u hu => by simp at hu)
  · obtain ⟨b, off, rfl, hb, hc⟩ := h (by rw [rcs_len, List.length_cons]; omega)
    exact Src.ofSlice w hk ⟨b, off, none⟩ _ cap _ (rcs_len _) (fun j u hu => by rw [add_off]; exact hc j u hu) (rcs_onem _)
theorem own_mt {w : World} {g : Nat} {e : TypeId} {size : Nat} (h : Blk w g e #[]) : w.ownsRow 0 e size (.slice (some ⟨g, 0, none⟩) 0 0) 0 [] :=
  ⟨by simp, .inr ⟨g, 0, #[], rfl, Nat.zero_le _, h, Nat.le_refl _, by simp only [maxLen]; omega, by simp, by simp⟩⟩
def OwnPost (w : World) (l : RLm) (e : Ending) (w' : World) : Prop :=
  ∃ A cap, e = .returned (.slice A l.length cap) ∧ w'.ownsRow 0 55 16 (.slice A l.length cap) l.length (l.flatMap rcl) ∧ (∀ k, rowOf A k → w.heap.size ≤ k) ∧ Fr (fun _ => False) w w'
set_option maxRecDepth 100000 in
set_option maxHeartbeats 4000000 in
theorem ownrec_any (A : Option Addr) (cap : Nat) (l : RLm) (w : World) (h : RowIn w A (l.flatMap rcl)) (hn : l.length ≤ 1048576) :
    Calls Tryz.prog 40 #[.slice A l.length cap] w (OwnPost w l) := by
  obtain ⟨i0, hi, hz0, hz1, hz2⟩ := info_parts Tryz.infoRcO
  have hfe : Fr (fun _ => False) w (w.alloc (.cells #[] 55)) := (Fr.refl _ w).alloc _
  have HS := Lib.hid (src_recs (P := Tryz.prog) (cap := cap) Tryz.underlying27 (rowIn_fr0 h hfe))
  have HF := Lib.hid hfe
  clear h hfe
  go_enter Tryz.func40, Tryz.ntmps40
  go_upto_region 1 with fail
  go_wp2_with (first
    | (at_builtin; refine wpList_append_src rfl (.tmp 3) (.tmp 4) _ _ rfl 55 i0 _ 16 160 Tryz.underlying27 hi hz0 hz1 hz2 rfl (by decide) (some ⟨w.heap.size, 0, none⟩) 0 0 [] (by rfl) (own_mt (Blk.new w _ _)) _ l.length (l.flatMap rcl) (by rfl)
         HS.out (by simp only [maxLen]; omega) (by omega) ?_
       intro A2 c2 w4 o1 o2 o3
       rw [Nat.zero_add, List.nil_append] at o1
       have hk : ∀ k, rowOf A2 k → w.heap.size ≤ k := fun k hk => by
         rcases o3 k hk with ⟨b, hb, rfl⟩ | h
         · injection hb with hb
           rw [← hb]
           exact Nat.le_refl _
         · rw [World.size_alloc] at h; omega
       have hS : ∀ k, rowOf (some ⟨w.heap.size, 0, none⟩) k → k = w.heap.size := fun k hk => by
         obtain ⟨b, hb, rfl⟩ := hk
         injection hb with hb
         rw [← hb]
       have H1 := Lib.hid (And.intro o1 (And.intro hk (HF.out.step o2 fun k h => .inr (by have := hS _ h; omega))))
       rw [Nat.zero_add]
       clear o1 o2 o3 hk hS)
    | fail "no arm")
  go_ret
  exact ⟨A2, c2, rfl, H1.out.1, H1.out.2.1, H1.out.2.2⟩
-- MARK
set_option maxRecDepth 100000 in
set_option maxHeartbeats 8000000 in
theorem recs_any (h : Hd) (Aq : Option Addr) (nq : Nat) (cq : Nat) (Aa : Option Addr) (la : RLm) (ca : Nat) (Ab : Option Addr) (lb : RLm) (cb : Nat) (Ac : Option Addr) (lc : RLm) (cc : Nat) (w : World) (ha : RowIn w Aa (la.flatMap rcl)) (hb : RowIn w Ab (lb.flatMap rcl)) (hc : RowIn w Ac (lc.flatMap rcl)) (na : la.length ≤ 1048576) (nb : lb.length ≤ 1048576) (nc : lc.length ≤ 1048576) :
    Calls Tryz.prog 14 #[.agg #[.int .u16 h.id, .bool h.resp, .int .i64 h.op, .bool h.aa, .bool h.tc, .bool h.rd, .bool h.ra, .bool h.ad, .bool h.cd, .int .i64 h.rc, .int .i64 h.c0, .int .i64 h.c1, .int .i64 h.c2, .int .i64 h.c3, .slice Aq nq cq, .slice Aa la.length ca, .slice Ab lb.length cb, .slice Ac lc.length cc]] w (OwnPost w (la ++ lb ++ lc)) := by
  obtain ⟨i0, hi, hz0, hz1, hz2⟩ := info_parts Tryz.infoRcO
  have HI := Lib.hid (And.intro hi (And.intro hz0 (And.intro hz1 hz2)))
  obtain ⟨W, hW⟩ : ∃ W, W = w.alloc (.cells #[.int .u16 h.id, .bool h.resp, .int .i64 h.op, .bool h.aa, .bool h.tc, .bool h.rd, .bool h.ra, .bool h.ad, .bool h.cd, .int .i64 h.rc, .int .i64 h.c0, .int .i64 h.c1, .int .i64 h.c2, .int .i64 h.c3, .slice Aq nq cq, .slice Aa la.length ca, .slice Ab lb.length cb, .slice Ac lc.length cc] 29) := ⟨_, rfl⟩
  have b1 : Blk W w.heap.size 29 #[.int .u16 h.id, .bool h.resp, .int .i64 h.op, .bool h.aa, .bool h.tc, .bool h.rd, .bool h.ra, .bool h.ad, .bool h.cd, .int .i64 h.rc, .int .i64 h.c0, .int .i64 h.c1, .int .i64 h.c2, .int .i64 h.c3, .slice Aq nq cq, .slice Aa la.length ca, .slice Ab lb.length cb, .slice Ac lc.length cc] := by rw [hW]; exact Blk.new _ _ _
  have hf : Fr (fun _ => False) w W := by rw [hW]; exact (Fr.refl _ _).alloc _
  have HW := Lib.hid hW
  have HB := Lib.hid (And.intro b1.drew (hf.then ((Fr.refl (fun _ => False) W).drew)))
  have HR := Lib.hid (And.intro ha (And.intro hb hc))
  have hS0 : W.drew.cell? ⟨w.heap.size, 15, none⟩ = some (.slice Aa la.length ca) ∧ W.drew.cell? ⟨w.heap.size, 16, none⟩ = some (.slice Ab lb.length cb) ∧ W.drew.cell? ⟨w.heap.size, 17, none⟩ = some (.slice Ac lc.length cc) := ⟨HB.out.1.cell 15, HB.out.1.cell 16, HB.out.1.cell 17⟩
  clear hi hz0 hz1 hz2 hW b1 hf ha hb hc
  go_enter Tryz.func14, Tryz.ntmps14
  go_upto_region 1 with fail
  rw [← HW.out]
  clear HW
  refine wp_region_held_drew (S := fun w' => w'.cell? ⟨w.heap.size, 15, none⟩ = some (.slice Aa la.length ca) ∧ w'.cell? ⟨w.heap.size, 16, none⟩ = some (.slice Ab lb.length cb) ∧ w'.cell? ⟨w.heap.size, 17, none⟩ = some (.slice Ac lc.length cc)) (by kernel_rfl) hS0 (fun hHeld => ?_)
  refine wpAnyH_take (i := 0) (v := ?_) rfl (by kernel_rfl) (by kernel_rfl) (by kernel_rfl) (fun _ _ _ h => h) (Or.inl ⟨by rfl, ?_⟩) (by assumption) ?_
  rotate_left
  · intro w hSw
    go_simp
    try with_reducible rfl
  try simp only [Act.put, List.setIfInBounds_toArray, List.set_cons_zero, List.set_cons_succ, List.getElem_toArray, List.getElem_cons_zero, List.getElem_cons_succ]
  refine wpAnyH_take (i := 1) (v := ?_) rfl (by kernel_rfl) (by kernel_rfl) (by kernel_rfl) (fun _ _ _ h => h) (Or.inl ⟨by rfl, ?_⟩) (by assumption) ?_
  rotate_left
  · intro w hSw
    have hc0 := hSw.1
    go_simp
    try with_reducible rfl
  try simp only [Act.put, List.setIfInBounds_toArray, List.set_cons_zero, List.set_cons_succ, List.getElem_toArray, List.getElem_cons_zero, List.getElem_cons_succ]
  refine wpAnyH_take (i := 3) (v := ?_) rfl (by kernel_rfl) (by kernel_rfl) (by kernel_rfl) (fun _ _ _ h => h) (Or.inl ⟨by rfl, ?_⟩) (by assumption) ?_
  rotate_left
  · intro w hSw
    go_simp
    try with_reducible rfl
  try simp only [Act.put, List.setIfInBounds_toArray, List.set_cons_zero, List.set_cons_succ, List.getElem_toArray, List.getElem_cons_zero, List.getElem_cons_succ]
  refine wpAnyH_take (i := 4) (v := ?_) rfl (by kernel_rfl) (by kernel_rfl) (by kernel_rfl) (fun _ _ _ h => h) (Or.inl ⟨by rfl, ?_⟩) (by assumption) ?_
  rotate_left
  · intro w hSw
    have hc0 := hSw.2.1
    go_simp
    try with_reducible rfl
  try simp only [Act.put, List.setIfInBounds_toArray, List.set_cons_zero, List.set_cons_succ, List.getElem_toArray, List.getElem_cons_zero, List.getElem_cons_succ]
  refine wpAnyH_take (i := 6) (v := ?_) rfl (by kernel_rfl) (by kernel_rfl) (by kernel_rfl) (fun _ _ _ h => h) (Or.inl ⟨by rfl, ?_⟩) (by assumption) ?_
  rotate_left
  · intro w hSw
    go_simp
    try with_reducible rfl
  try simp only [Act.put, List.setIfInBounds_toArray, List.set_cons_zero, List.set_cons_succ, List.getElem_toArray, List.getElem_cons_zero, List.getElem_cons_succ]
  refine wpAnyH_take (i := 7) (v := ?_) rfl (by kernel_rfl) (by kernel_rfl) (by kernel_rfl) (fun _ _ _ h => h) (Or.inl ⟨by rfl, ?_⟩) (by assumption) ?_
  rotate_left
  · intro w hSw
    have hc0 := hSw.2.2
    go_simp
    try with_reducible rfl
  try simp only [Act.put, List.setIfInBounds_toArray, List.set_cons_zero, List.set_cons_succ, List.getElem_toArray, List.getElem_cons_zero, List.getElem_cons_succ]
  refine wpAnyH_ready (rs := [2]) (by kernel_rfl) (by simp) ?_
  refine AllReadyH.cons rfl (fun K hK => ?_) AllReadyH.nil
  go_simp
  (with_reducible refine (ownrec_any Aa ca la W.drew (rowIn_fr0 HR.out.1 HB.out.2) na).mono ?_)
  rintro e w4 ⟨A4, c4, rfl, o1, o2, o3⟩
  have hb4 := HB.out.1.fr o3 id
  have hS4 : w4.cell? ⟨w.heap.size, 15, none⟩ = some (.slice Aa la.length ca) ∧ w4.cell? ⟨w.heap.size, 16, none⟩ = some (.slice Ab lb.length cb) ∧ w4.cell? ⟨w.heap.size, 17, none⟩ = some (.slice Ac lc.length cc) := ⟨hb4.cell 15, hb4.cell 16, hb4.cell 17⟩
  have hsz := HB.out.2.size
  have H4 := Lib.hid (And.intro hb4 (And.intro o1 (And.intro (HB.out.2.then o3) (show ∀ k, rowOf A4 k → w.heap.size ≤ k from fun k hk => Nat.le_trans hsz (o2 k hk)))))
  clear o1 o2 o3 hb4 hHeld hS0 hsz
  refine hK.out _ _ hS4 (fun hHeld => ?_)
  clear hK K
  try simp only [Act.put, List.setIfInBounds_toArray, List.set_cons_zero, List.set_cons_succ, List.getElem_toArray, List.getElem_cons_zero, List.getElem_cons_succ]
  refine wpAnyH_ready (rs := [5]) (by kernel_rfl) (by simp) ?_
  refine AllReadyH.cons rfl (fun K hK => ?_) AllReadyH.nil
  refine step_append_src rfl (.tmp 5) (.tmp 7) _ _ rfl 55 i0 _ 16 160 Tryz.underlying27 HI.out.1 HI.out.2.1 HI.out.2.2.1 HI.out.2.2.2 rfl (by decide) A4 la.length c4 (la.flatMap rcl) (by simp [Act.eval]) H4.out.2.1 _ lb.length (lb.flatMap rcl) (by simp [Act.eval])
    (src_recs (P := Tryz.prog) (cap := cb) Tryz.underlying27 (rowIn_fr0 HR.out.2.1 H4.out.2.2.1)) (by simp only [maxLen]; omega) (by omega) ?_
  intro A5 c5 w5 o1 o2 o3
  have hb5 := H4.out.1.fr o2 (own_ne H4.out.2.1 H4.out.1 (by decide))
  have hS5 : w5.cell? ⟨w.heap.size, 15, none⟩ = some (.slice Aa la.length ca) ∧ w5.cell? ⟨w.heap.size, 16, none⟩ = some (.slice Ab lb.length cb) ∧ w5.cell? ⟨w.heap.size, 17, none⟩ = some (.slice Ac lc.length cc) := ⟨hb5.cell 15, hb5.cell 16, hb5.cell 17⟩
  have hf5 := H4.out.2.2.1.step o2 (fun k hk => .inr (H4.out.2.2.2 k hk))
  have hs4 := H4.out.2.2.1.size
  have H5 := Lib.hid (And.intro hb5 (And.intro o1 (And.intro hf5 (show ∀ k, rowOf A5 k → w.heap.size ≤ k from fun k hk => (o3 k hk).elim (H4.out.2.2.2 k) (fun g => Nat.le_trans hs4 g)))))
  clear o1 o2 o3 hb5 hf5 hHeld hS4 hs4
  refine hK.out _ _ hS5 (fun hHeld => ?_)
  clear hK K
  try simp only [Act.put, List.setIfInBounds_toArray, List.set_cons_zero, List.set_cons_succ, List.getElem_toArray, List.getElem_cons_zero, List.getElem_cons_succ]
  refine wpAnyH_ready (rs := [8]) (by kernel_rfl) (by simp) ?_
  refine AllReadyH.cons rfl (fun K hK => ?_) AllReadyH.nil
  refine step_append_src rfl (.tmp 8) (.tmp 10) _ _ rfl 55 i0 _ 16 160 Tryz.underlying27 HI.out.1 HI.out.2.1 HI.out.2.2.1 HI.out.2.2.2 rfl (by decide) A5 (la.length + lb.length) c5 (la.flatMap rcl ++ lb.flatMap rcl) (by simp [Act.eval]) H5.out.2.1 _ lc.length (lc.flatMap rcl) (by simp [Act.eval])
    (src_recs (P := Tryz.prog) (cap := cc) Tryz.underlying27 (rowIn_fr0 HR.out.2.2 H5.out.2.2.1)) (by simp only [maxLen]; omega) (by omega) ?_
  intro A6 c6 w6 o1 o2 o3
  have hb6 := H5.out.1.fr o2 (own_ne H5.out.2.1 H5.out.1 (by decide))
  have hS6 : w6.cell? ⟨w.heap.size, 15, none⟩ = some (.slice Aa la.length ca) ∧ w6.cell? ⟨w.heap.size, 16, none⟩ = some (.slice Ab lb.length cb) ∧ w6.cell? ⟨w.heap.size, 17, none⟩ = some (.slice Ac lc.length cc) := ⟨hb6.cell 15, hb6.cell 16, hb6.cell 17⟩
  have hf6 := H5.out.2.2.1.step o2 (fun k hk => .inr (H5.out.2.2.2 k hk))
  have hs5 := H5.out.2.2.1.size
  have H6 := Lib.hid (And.intro o1 (And.intro hf6 (show ∀ k, rowOf A6 k → w.heap.size ≤ k from fun k hk => (o3 k hk).elim (H5.out.2.2.2 k) (fun g => Nat.le_trans hs5 g))))
  clear o1 o2 o3 hb6 hf6 hHeld hS5 hs5
  refine hK.out _ _ hS6 (fun hHeld => ?_)
  clear hK K
  try simp only [Act.put, List.setIfInBounds_toArray, List.set_cons_zero, List.set_cons_succ, List.getElem_toArray, List.getElem_cons_zero, List.getElem_cons_succ]
  refine wpAnyH_take (i := 9) (v := ?_) rfl (by kernel_rfl) (by kernel_rfl) (by kernel_rfl) (fun _ _ _ h => h) (Or.inl ⟨by rfl, ?_⟩) (by assumption) ?_
  rotate_left
  · intro w hSw
    go_simp
    try with_reducible rfl
  try simp only [Act.put, List.setIfInBounds_toArray, List.set_cons_zero, List.set_cons_succ, List.getElem_toArray, List.getElem_cons_zero, List.getElem_cons_succ]
  refine wpAnyH_done (by kernel_rfl) ?_ _
  go_wp2_with fail
  go_ret
  refine ⟨A6, c6, by rw [List.length_append, List.length_append]; rfl, ?_, H6.out.2.2, H6.out.2.1⟩
  rw [List.flatMap_append, List.flatMap_append, List.length_append, List.length_append]
  exact H6.out.1
end Go.Proofs.YtmbgejiahmhffaaGreat
