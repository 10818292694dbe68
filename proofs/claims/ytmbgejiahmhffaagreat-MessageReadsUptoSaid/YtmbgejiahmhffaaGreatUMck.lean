/-
  LAYER 11: counts, rows.
-/
import Derived.Test.YtmbgejiahmhffaaGreatUMsc
import Derived.Test.YtmbgejiahmhffaaGreatUOpenm
import Derived.Test.YtmbgejiahmhffaaGreatUunL
import Derived.Test.YtmbgejiahmhffaaGreatUunD
import Derived.Test.YtmbgejiahmhffaaGreatUDlp
namespace Go.Proofs.YtmbgejiahmhffaaGreat
open Go.RowKit
set_option linter.unusedVariables false
set_option linter.unusedSimpArgs false

abbrev RLm := List (Rcd × Option Addr × Nat)
def msOf (h : Hd) (lq : List Qn) (la lb lc : RLm) : Ms := ⟨h, lq, la.map Prod.fst, lb.map Prod.fst, lc.map Prod.fst⟩
theorem rcl_lenm (x : Rcd × Option Addr × Nat) : (rcl x).length = 16 := rfl
theorem qcl_lenm (x : Qn) : (qcl x).length = 3 := rfl
theorem rcl_onem (x : Rcd × Option Addr × Nat) : ∀ u ∈ rcl x, u.oneCell' = true := by
  intro u hu
  simp only [rcl, Rcd.cells, List.mem_cons, List.not_mem_nil, or_false] at hu
  rcases hu with rfl | rfl | rfl | rfl | rfl | rfl | rfl | rfl | rfl | rfl | rfl | rfl | rfl | rfl | rfl | rfl <;> rfl
theorem qcl_onem (q : Qn) : ∀ u ∈ qcl q, u.oneCell' = true := by intro u hu; simp [qcl] at hu; rcases hu with rfl | rfl | rfl <;> rfl
theorem firstE_at : ∀ {L : List Int} {k : Nat} {x : Int}, L[k]? = some x → x ≠ 0 → (∀ y ∈ L.take k, y = 0) → firstE L = x
  | [], k, x, h, _, _ => by simp at h
  | y :: L, 0, x, h, hx, _ => by
    obtain rfl : y = x := by simpa using h
    unfold firstE
    rw [if_pos hx]
  | y :: L, k + 1, x, h, hx, ht => by
    have hy : y = 0 := ht y (by simp)
    unfold firstE
    rw [if_neg (by simp [hy])]
    exact firstE_at (by simpa using h) hx (fun z hz => ht z (by simp [hz]))
def cntLits (a0 a1 a2 a3 : Int) : List Lit := [.int .i64 a0, .int .i64 a1, .int .i64 a2, .int .i64 a3]
def cntV (a0 a1 a2 a3 : Int) : Value := .agg #[.int .i64 a0, .int .i64 a1, .int .i64 a2, .int .i64 a3]
theorem wf_i64m {n : Int} (h : i64k n) : (Lit.int .i64 n).wf = true := by
  obtain ⟨h1, h2⟩ := h
  simp [Lit.wf, IntKind.min, IntKind.max, IntKind.signed, IntKind.bits]
  omega
theorem cnt_keyLits (a0 a1 a2 a3 : Int) (h0 : i64k a0) (h1 : i64k a1) (h2 : i64k a2) (h3 : i64k a3) : Tryz.prog.keyLits 3 23 (cntV a0 a1 a2 a3).cells.toList = some (cntLits a0 a1 a2 a3) := by
  have w0 := wf_i64m h0
  have w1 := wf_i64m h1
  have w2 := wf_i64m h2
  have w3 := wf_i64m h3
  have hc : Tryz.prog.cellsOf 23 = 4 := by kernel_rfl
  have c1 : Tryz.prog.cellsOf 3 = 1 := by kernel_rfl
  simp [Program.keyLits, Tryz.underlying23, Tryz.underlying3, hc, c1, w0, w1, w2, w3, Value.cells, cntV, cntLits, List.range_succ]
theorem cnt_formed (a0 a1 a2 a3 : Int) : (cntV a0 a1 a2 a3).formed Tryz.prog 23 = true := by kernel_rfl
theorem cnt_equal (a0 a1 a2 a3 b0 b1 b2 b3 : Int) (h0 : i64k a0) (h1 : i64k a1) (h2 : i64k a2) (h3 : i64k a3) (k0 : i64k b0) (k1 : i64k b1) (k2 : i64k b2) (k3 : i64k b3) (w : World) :
    (Op.equalIn 10000 23 (.agg #[.int .i64 a0, .int .i64 a1, .int .i64 a2, .int .i64 a3]) (.agg #[.int .i64 b0, .int .i64 b1, .int .i64 b2, .int .i64 b3])).run Tryz.prog w = .ok (decide (a0 = b0 ∧ a1 = b1 ∧ a2 = b2 ∧ a3 = b3)) w := by
  obtain ⟨r, hr, hiff⟩ := run_equalIn_deep (P := Tryz.prog) 9997 3 23 (by kernel_rfl) w 3 3 (cntV a0 a1 a2 a3) (cntV b0 b1 b2 b3) _ _ (cnt_formed _ _ _ _) (cnt_formed _ _ _ _) (cnt_keyLits a0 a1 a2 a3 h0 h1 h2 h3) (cnt_keyLits b0 b1 b2 b3 k0 k1 k2 k3)
  have e' : r = decide (a0 = b0 ∧ a1 = b1 ∧ a2 = b2 ∧ a3 = b3) := by
    rw [Bool.eq_iff_iff, decide_eq_true_eq, hiff]
    simp [cntLits]
  rw [← e']
  unfold cntV at hr
  exact hr
set_option maxRecDepth 100000 in
set_option maxHeartbeats 4000000 in
theorem counts_any (h : Hd) (Aq : Option Addr) (lq : List Qn) (cq : Nat) (Aa : Option Addr) (la : RLm) (ca : Nat) (Ab : Option Addr) (lb : RLm) (cb : Nat) (Ac : Option Addr) (lc : RLm) (cc : Nat) (w : World) (n0 : lq.length ≤ 1048576) (n1 : la.length ≤ 1048576) (n2 : lb.length ≤ 1048576) (n3 : lc.length ≤ 1048576) :
    Calls Tryz.prog 28 #[.agg #[.int .u16 h.id, .bool h.resp, .int .i64 h.op, .bool h.aa, .bool h.tc, .bool h.rd, .bool h.ra, .bool h.ad, .bool h.cd, .int .i64 h.rc, .int .i64 h.c0, .int .i64 h.c1, .int .i64 h.c2, .int .i64 h.c3, .slice Aq lq.length cq, .slice Aa la.length ca, .slice Ab lb.length cb, .slice Ac lc.length cc]] w fun e w' => e = .returned (.agg #[.int .i64 (lq.length : Nat), .int .i64 (la.length : Nat), .int .i64 (lb.length : Nat), .int .i64 (lc.length : Nat)]) ∧ Fr (fun _ => False) w w' := by
  obtain ⟨W, hW⟩ : ∃ W, W = (w.alloc (.cells #[.int .u16 h.id, .bool h.resp, .int .i64 h.op, .bool h.aa, .bool h.tc, .bool h.rd, .bool h.ra, .bool h.ad, .bool h.cd, .int .i64 h.rc, .int .i64 h.c0, .int .i64 h.c1, .int .i64 h.c2, .int .i64 h.c3, .slice Aq lq.length cq, .slice Aa la.length ca, .slice Ab lb.length cb, .slice Ac lc.length cc] 29)).alloc (.cells #[.int .i64 0, .int .i64 0, .int .i64 0, .int .i64 0] 23) := ⟨_, rfl⟩
  have b1 : Blk W w.heap.size 29 #[.int .u16 h.id, .bool h.resp, .int .i64 h.op, .bool h.aa, .bool h.tc, .bool h.rd, .bool h.ra, .bool h.ad, .bool h.cd, .int .i64 h.rc, .int .i64 h.c0, .int .i64 h.c1, .int .i64 h.c2, .int .i64 h.c3, .slice Aq lq.length cq, .slice Aa la.length ca, .slice Ab lb.length cb, .slice Ac lc.length cc] := by rw [hW]; exact (Blk.new w 29 _).alloc _
  have b2 : Blk W (w.heap.size + 1) 23 #[.int .i64 0, .int .i64 0, .int .i64 0, .int .i64 0] := by
    rw [hW]
    have := Blk.new (w.alloc (.cells #[.int .u16 h.id, .bool h.resp, .int .i64 h.op, .bool h.aa, .bool h.tc, .bool h.rd, .bool h.ra, .bool h.ad, .bool h.cd, .int .i64 h.rc, .int .i64 h.c0, .int .i64 h.c1, .int .i64 h.c2, .int .i64 h.c3, .slice Aq lq.length cq, .slice Aa la.length ca, .slice Ab lb.length cb, .slice Ac lc.length cc] 29)) 23 #[.int .i64 0, .int .i64 0, .int .i64 0, .int .i64 0]
    rwa [World.size_alloc] at this
  have hf : Fr (fun _ => False) w W := by rw [hW]; exact ((Fr.refl _ _).alloc _).alloc _
  have c14 := b1.cell 14
  have c15 := b1.cell 15
  have c16 := b1.cell 16
  have c17 := b1.cell 17
  have HB := Lib.hid (And.intro b2 hf)
  have HW := Lib.hid hW
  clear b1 b2 hf hW
  go_enter Tryz.func28, Tryz.ntmps28
  go_upto_region 1 with fail
  rw [← HW.out]
  clear HW
  go_wp2_with (first
    | (refine wpList_store_part rfl 23 _ _ rfl (w.heap.size + 1) 0 (by rfl) _ (by rfl) 23 _ HB.out.1 (by kernel_rfl) (by simp [Value.oneCell']) (by simp) #[.int .i64 (lq.length : Nat), .int .i64 (la.length : Nat), .int .i64 (lb.length : Nat), .int .i64 (lc.length : Nat)] (by rfl) ?_
       intro w3 b3 f3
       have H3 := Lib.hid (And.intro b3 (HB.out.2.step f3 (fun k hk => .inr (by omega))))
       clear b3 f3)
    | fail "no arm")
  have hu : Tryz.prog.underlying 23 = _ := Tryz.underlying23
  refine bodyPost_ret (results_cell_blk Tryz.results28 H3.out.1 rfl hu rfl (by kernel_rfl)) rfl ?_
  exact ⟨rfl, H3.out.2⟩
set_option maxRecDepth 100000 in
set_option maxHeartbeats 4000000 in
theorem rows_any (M : Nat) (w : World) (hM : M < w.heap.size) :
    Calls Tryz.prog 30 #[.pointer (some ⟨M, 0, none⟩)] w fun e w' => e = .returned (.agg #[.pointer (some ⟨M, 15, none⟩), .pointer (some ⟨M, 16, none⟩), .pointer (some ⟨M, 17, none⟩)]) ∧ Fr (fun _ => False) w w' := by
  have hf : Fr (fun _ => False) w (w.alloc (.cells #[.pointer none, .pointer none, .pointer none] 73)) := (Fr.refl _ _).alloc _
  have hb := Blk.new w 73 #[.pointer none, .pointer none, .pointer none]
  obtain ⟨W, hW⟩ : ∃ W, W = w.alloc (.cells #[.pointer none, .pointer none, .pointer none] 73) := ⟨_, rfl⟩
  rw [← hW] at hf hb
  have z0 := hb.cell 0
  have z1 := hb.cell 1
  have z2 := hb.cell 2
  have f0 := hb.frozen 0
  have f1 := hb.frozen 1
  have f2 := hb.frozen 2
  have HB := Lib.hid (And.intro hb hf)
  have HW := Lib.hid hW
  clear hb hf hW
  go_enter Tryz.func30, Tryz.ntmps30
  go_upto_region 1 with fail
  rw [← HW.out]
  clear HW
  go_region
  have b3 := (blk_set3 (u0 := .pointer (some ⟨M, 15, none⟩)) (u1 := .pointer (some ⟨M, 16, none⟩)) (u2 := .pointer (some ⟨M, 17, none⟩)) HB.out.1).drew
  have f3 := (fr_set3 (w := W) (q := w.heap.size) (u0 := .pointer (some ⟨M, 15, none⟩)) (u1 := .pointer (some ⟨M, 16, none⟩)) (u2 := .pointer (some ⟨M, 17, none⟩))).drew
  obtain ⟨V, hV⟩ : ∃ V, V = (((W.setCell ⟨w.heap.size, 0, none⟩ (.pointer (some ⟨M, 15, none⟩))).setCell ⟨w.heap.size, 1, none⟩ (.pointer (some ⟨M, 16, none⟩))).setCell ⟨w.heap.size, 2, none⟩ (.pointer (some ⟨M, 17, none⟩))).drew := ⟨_, rfl⟩
  rw [← hV] at b3 f3
  rw [← hV]
  have H3 := Lib.hid (And.intro b3 (HB.out.2.step f3 (fun k hk => .inr (by omega))))
  clear hV b3 f3 z0 z1 z2 f0 f1 f2
  go_wp2_with fail
  have hu : Tryz.prog.underlying 73 = _ := Tryz.underlying73
  refine bodyPost_ret (results_cell_blk Tryz.results30 H3.out.1 rfl hu rfl (by kernel_rfl)) rfl ?_
  exact ⟨rfl, H3.out.2⟩
end Go.Proofs.YtmbgejiahmhffaaGreat
