/-
  TEXTS OF THIS CLAIM, TOGETHER: Mbk, Mli, Weq, Wes, Psm, Rcc, Mmt, Mlv, Mlw.
-/
import Derived.Test.YtncfdfgcnblicaaBunP
import Derived.Test.YtncfdfgcnblicaaBunL
import Derived.Test.YtncfdfgcnblicaaBunI
/-
  LAYER 25: the law's books.
-/
namespace Go.Proofs.Ytncfdfgcnblicaa
open Go.RowKit
set_option linter.unusedVariables false
set_option linter.unusedSimpArgs false

set_option maxRecDepth 100000 in
set_option maxHeartbeats 8000000 in
theorem books_yes (q : Pn) (A : Option Addr) (cap : Nat) (w : World) (hq : PnIn w A q) (hm : q.may 4 = true) (hA : A = none → q.ws = []) (hcap : A = none → cap = 0) :
    Calls Try.prog 10 #[.agg #[.int .u16 (q.id : Nat), .string q.q.1, .int .i64 q.q.2.1, .int .i64 q.q.2.2, .int .i64 q.sv, .int .i64 q.tr, .int .i64 q.dl, .slice A q.ws.length cap]] w fun e w' => (∃ b r, e = .returned (.tuple #[.pointer (some ⟨b, 0, none⟩), .pointer (some ⟨r, 0, none⟩), .bool true]) ∧ (∃ A' cap', BkO w' b 4 4 q A' cap') ∧ (∃ A' cap', RkO w' r 4 4 q A' cap')) ∧ Fr (fun _ => False) w w' := by
  obtain ⟨W, hW⟩ : ∃ W, W = w.alloc (.cells #[.int .u16 (q.id : Nat), .string q.q.1, .int .i64 q.q.2.1, .int .i64 q.q.2.2, .int .i64 q.sv, .int .i64 q.tr, .int .i64 q.dl, .slice A q.ws.length cap] 28) := ⟨_, rfl⟩
  have hf : Fr (fun _ => False) w W := by rw [hW]; exact (Fr.refl _ _).alloc _
  have hb : Blk W w.heap.size 28 #[.int .u16 (q.id : Nat), .string q.q.1, .int .i64 q.q.2.1, .int .i64 q.q.2.2, .int .i64 q.sv, .int .i64 q.tr, .int .i64 q.dl, .slice A q.ws.length cap] := by rw [hW]; exact Blk.new w 28 #[.int .u16 (q.id : Nat), .string q.q.1, .int .i64 q.q.2.1, .int .i64 q.q.2.2, .int .i64 q.sv, .int .i64 q.tr, .int .i64 q.dl, .slice A q.ws.length cap]
  have HB := Lib.hid (And.intro hb hf)
  have HQ := Lib.hid (And.intro hq (And.intro (show i64k 4 by unfold i64k; omega) (And.intro hA hcap)))
  have HM := Lib.hid hm
  have HLW := Lib.hid (show w.heap.size < W.heap.size from hb.lt)
  have HW := Lib.hid hW
  clear hb hf hW hm hq hA hcap
  go_enter Try.func10, Try.ntmps10
  go_upto_region 1 with fail
  rw [← HW.out]
  clear HW
  go_upto_region 5 with (first
    | (go_at_call 24
       (with_reducible refine (bnew_any 4 4 W (by decide) (by decide) (by decide) (by decide)).mono ?_)
       rintro e w1 ⟨rfl, g1, f1⟩
       have H1 := Lib.hid (And.intro g1 (And.intro (HB.out.1.fr f1 id) (HB.out.2.then f1)))
       clear g1 f1)
    | (go_at_call 25
       (with_reducible refine (rbnew_any 4 4 w1 (by decide) (by decide) (by decide) (by decide)).mono ?_)
       rintro e w2 ⟨rfl, g2, f2⟩
       have H2 := Lib.hid (And.intro (Blk.fr H1.out.1 f2 id) (And.intro g2 (And.intro (H1.out.2.1.fr f2 id) (H1.out.2.2.then f2))))
       have HL1 := Lib.hid (show W.heap.size < w1.heap.size from Blk.lt H1.out.1)
       clear g2 f2)
    | fail "no arm")
  have hWs := HLW.out
  refine wp_region_held_drew (S := fun w' => w'.rangeAt w.heap.size 0 [.int .u16 (q.id : Nat), .string q.q.1, .int .i64 q.q.2.1, .int .i64 q.q.2.2, .int .i64 q.sv, .int .i64 q.tr, .int .i64 q.dl, .slice A q.ws.length cap]) (by kernel_rfl) (blk_rg (H2.out.2.2.1.fr ((Fr.refl (fun _ => False) w2).drew) id)) (fun hHeld => ?_)
  refine wpAnyH_take (i := 0) (v := ?_) rfl (by kernel_rfl) (by kernel_rfl) (by kernel_rfl) (fun _ _ _ h => h) (Or.inl ⟨by rfl, ?_⟩) (by assumption) ?_
  rotate_left
  · intro w hSw
    go_simp
    try with_reducible rfl
  try simp only [Act.put, List.setIfInBounds_toArray, List.set_cons_zero, List.set_cons_succ, List.getElem_toArray, List.getElem_cons_zero, List.getElem_cons_succ]
  refine wpAnyH_take (i := 1) (v := ?_) rfl (by kernel_rfl) (by kernel_rfl) (by kernel_rfl) (fun _ _ _ h => h) (Or.inl ⟨by rfl, ?_⟩) (by assumption) ?_
  rotate_left
  · intro w hSw
    go_simp
    try with_reducible rfl
  try simp only [Act.put, List.setIfInBounds_toArray, List.set_cons_zero, List.set_cons_succ, List.getElem_toArray, List.getElem_cons_zero, List.getElem_cons_succ]
  refine wpAnyH_take (i := 2) (v := ?_) rfl (by kernel_rfl) (by kernel_rfl) (by kernel_rfl) (fun _ _ _ h => h) (Or.inl ⟨by rfl, ?_⟩) (by assumption) ?_
  rotate_left
  · intro w hSw
    go_simp
    try with_reducible rfl
  try simp only [Act.put, List.setIfInBounds_toArray, List.set_cons_zero, List.set_cons_succ, List.getElem_toArray, List.getElem_cons_zero, List.getElem_cons_succ]
  refine wpAnyH_take (i := 3) rfl (by kernel_rfl) (by kernel_rfl) (by kernel_rfl) (fun _ _ _ h => h) (yieldsIf_load_mid (by rfl) _ _ rfl w.heap.size 0 (by rfl) [.int .u16 (q.id : Nat), .string q.q.1, .int .i64 q.q.2.1, .int .i64 q.q.2.2, .int .i64 q.sv, .int .i64 q.tr, .int .i64 q.dl, .slice A q.ws.length cap] _ (fun w' h => h) Try.underlying28 rfl (by kernel_rfl)) (by assumption) ?_
  try simp only [Act.put, List.setIfInBounds_toArray, List.set_cons_zero, List.set_cons_succ, List.getElem_toArray, List.getElem_cons_zero, List.getElem_cons_succ]
  refine wpAnyH_take (i := 5) (v := ?_) rfl (by kernel_rfl) (by kernel_rfl) (by kernel_rfl) (fun _ _ _ h => h) (Or.inl ⟨by rfl, ?_⟩) (by assumption) ?_
  rotate_left
  · intro w hSw
    go_simp
    try with_reducible rfl
  try simp only [Act.put, List.setIfInBounds_toArray, List.set_cons_zero, List.set_cons_succ, List.getElem_toArray, List.getElem_cons_zero, List.getElem_cons_succ]
  refine wpAnyH_take (i := 6) rfl (by kernel_rfl) (by kernel_rfl) (by kernel_rfl) (fun _ _ _ h => h) (yieldsIf_load_mid (by rfl) _ _ rfl w.heap.size 0 (by rfl) [.int .u16 (q.id : Nat), .string q.q.1, .int .i64 q.q.2.1, .int .i64 q.q.2.2, .int .i64 q.sv, .int .i64 q.tr, .int .i64 q.dl, .slice A q.ws.length cap] _ (fun w' h => h) Try.underlying28 rfl (by kernel_rfl)) (by assumption) ?_
  try simp only [Act.put, List.setIfInBounds_toArray, List.set_cons_zero, List.set_cons_succ, List.getElem_toArray, List.getElem_cons_zero, List.getElem_cons_succ]
  have hbk : BkE w2.drew W.heap.size 4 4 := Blk.fr H2.out.1 ((Fr.refl (fun _ => False) w2).drew) id
  refine wpAnyH_ready (rs := [4]) (by kernel_rfl) (by simp) ?_
  refine AllReadyH.cons rfl (fun K hK => ?_) AllReadyH.nil
  go_simp
  (with_reducible refine (badd_yes W.heap.size 4 4 q A cap w2.drew hbk (HQ.out.1.fr0 (H2.out.2.2.2.then ((Fr.refl (fun _ => False) w2).drew))) HQ.out.2.1 HM.out HQ.out.2.2.1 HQ.out.2.2.2 ⟨by decide, by decide⟩).mono ?_)
  rintro e w3 ⟨rfl, ⟨A2, cap2, g3⟩, f3⟩
  have f3' := f3.fromD
  have hx3 := H2.out.2.2.1.fr f3' (by omega)
  have hr3 := Blk.fr H2.out.2.1 f3' (by have := HL1.out; omega)
  have hs3 := f3'.size
  have H3 := Lib.hid (And.intro g3 (And.intro hr3 (And.intro hx3 (H2.out.2.2.2.step f3' (fun k hk => .inr (by omega))))))
  have hS3 := blk_rg hx3
  clear g3 f3 f3' hr3 hx3 hHeld
  refine hK.out _ _ hS3 (fun hHeld => ?_)
  clear hK K
  try simp only [Act.put, List.setIfInBounds_toArray, List.set_cons_zero, List.set_cons_succ, List.getElem_toArray, List.getElem_cons_zero, List.getElem_cons_succ]
  have hrk : RkE w3 w1.heap.size 4 4 := H3.out.2.1
  refine wpAnyH_ready (rs := [7]) (by kernel_rfl) (by simp) ?_
  refine AllReadyH.cons rfl (fun K hK => ?_) AllReadyH.nil
  go_simp
  (with_reducible refine (radd_yes w1.heap.size 4 4 q A cap w3 hrk (HQ.out.1.fr0 H3.out.2.2.2) HM.out (by decide)).mono ?_)
  rintro e w4 ⟨rfl, g4, f4⟩
  have hlr := H2.out.2.1.lt
  have hx4 := H3.out.2.2.1.fr f4 (by have := HL1.out; omega)
  have hk := H3.out.1 _ w4 f4 (by have := HL1.out; omega) (fun k hk => by rw [hk]; exact hlr)
  have H4 := Lib.hid (And.intro hk (And.intro g4 (H3.out.2.2.2.step f4 (fun k hk => .inr (by have := HL1.out; omega)))))
  have hS4 := blk_rg hx4
  clear g4 f4 hx4 hk hHeld
  refine hK.out _ _ hS4 (fun hHeld => ?_)
  clear hK K
  try simp only [Act.put, List.setIfInBounds_toArray, List.set_cons_zero, List.set_cons_succ, List.getElem_toArray, List.getElem_cons_zero, List.getElem_cons_succ]
  refine wpAnyH_take (i := 8) (v := ?_) rfl (by kernel_rfl) (by kernel_rfl) (by kernel_rfl) (fun _ _ _ h => h) (Or.inl ⟨by rfl, ?_⟩) (by assumption) ?_
  rotate_left
  · intro w hSw
    go_simp
    try with_reducible rfl
  try simp only [Act.put, List.setIfInBounds_toArray, List.set_cons_zero, List.set_cons_succ, List.getElem_toArray, List.getElem_cons_zero, List.getElem_cons_succ]
  refine wpAnyH_take (i := 9) (v := ?_) rfl (by kernel_rfl) (by kernel_rfl) (by kernel_rfl) (fun _ _ _ h => h) (Or.inl ⟨by rfl, ?_⟩) (by assumption) ?_
  rotate_left
  · intro w hSw
    go_simp
    try with_reducible rfl
  try simp only [Act.put, List.setIfInBounds_toArray, List.set_cons_zero, List.set_cons_succ, List.getElem_toArray, List.getElem_cons_zero, List.getElem_cons_succ]
  refine wpAnyH_take (i := 10) (v := ?_) rfl (by kernel_rfl) (by kernel_rfl) (by kernel_rfl) (fun _ _ _ h => h) (Or.inl ⟨by rfl, ?_⟩) (by assumption) ?_
  rotate_left
  · intro w hSw
    go_simp
    try with_reducible rfl
  try simp only [Act.put, List.setIfInBounds_toArray, List.set_cons_zero, List.set_cons_succ, List.getElem_toArray, List.getElem_cons_zero, List.getElem_cons_succ]
  refine wpAnyH_take (i := 11) (v := ?_) rfl (by kernel_rfl) (by kernel_rfl) (by kernel_rfl) (fun _ _ _ h => h) (Or.inl ⟨by rfl, ?_⟩) (by assumption) ?_
  rotate_left
  · intro w hSw
    go_simp
    try with_reducible rfl
  try simp only [Act.put, List.setIfInBounds_toArray, List.set_cons_zero, List.set_cons_succ, List.getElem_toArray, List.getElem_cons_zero, List.getElem_cons_succ]
  refine wpAnyH_done (by kernel_rfl) ?_ _
  clear hHeld
  go_wp2_with fail
  refine bodyPost_ret (v := .tuple #[.pointer (some ⟨W.heap.size, 0, none⟩), .pointer (some ⟨w1.heap.size, 0, none⟩), .bool true]) (by simp [results, Try.results10, go_sem]) rfl ?_
  exact ⟨⟨W.heap.size, w1.heap.size, by rfl, ⟨A2, cap2, H4.out.1⟩, H4.out.2.1⟩, H4.out.2.2⟩
set_option maxRecDepth 100000 in
set_option maxHeartbeats 8000000 in
theorem books_no (q : Pn) (A : Option Addr) (cap : Nat) (w : World) (hq : PnIn w A q) (hm : q.may 4 = false) (hA : A = none → q.ws = []) (hcap : A = none → cap = 0) :
    Calls Try.prog 10 #[.agg #[.int .u16 (q.id : Nat), .string q.q.1, .int .i64 q.q.2.1, .int .i64 q.q.2.2, .int .i64 q.sv, .int .i64 q.tr, .int .i64 q.dl, .slice A q.ws.length cap]] w fun e w' => (∃ b r, e = .returned (.tuple #[.pointer (some ⟨b, 0, none⟩), .pointer (some ⟨r, 0, none⟩), .bool true]) ∧ BkE w' b 4 4 ∧ RkE w' r 4 4) ∧ Fr (fun _ => False) w w' := by
  obtain ⟨W, hW⟩ : ∃ W, W = w.alloc (.cells #[.int .u16 (q.id : Nat), .string q.q.1, .int .i64 q.q.2.1, .int .i64 q.q.2.2, .int .i64 q.sv, .int .i64 q.tr, .int .i64 q.dl, .slice A q.ws.length cap] 28) := ⟨_, rfl⟩
  have hf : Fr (fun _ => False) w W := by rw [hW]; exact (Fr.refl _ _).alloc _
  have hb : Blk W w.heap.size 28 #[.int .u16 (q.id : Nat), .string q.q.1, .int .i64 q.q.2.1, .int .i64 q.q.2.2, .int .i64 q.sv, .int .i64 q.tr, .int .i64 q.dl, .slice A q.ws.length cap] := by rw [hW]; exact Blk.new w 28 #[.int .u16 (q.id : Nat), .string q.q.1, .int .i64 q.q.2.1, .int .i64 q.q.2.2, .int .i64 q.sv, .int .i64 q.tr, .int .i64 q.dl, .slice A q.ws.length cap]
  have HB := Lib.hid (And.intro hb hf)
  have HQ := Lib.hid (And.intro hq (And.intro (show i64k 4 by unfold i64k; omega) (And.intro hA hcap)))
  have HM := Lib.hid hm
  have HLW := Lib.hid (show w.heap.size < W.heap.size from hb.lt)
  have HW := Lib.hid hW
  clear hb hf hW hm hq hA hcap
  go_enter Try.func10, Try.ntmps10
  go_upto_region 1 with fail
  rw [← HW.out]
  clear HW
  go_upto_region 5 with (first
    | (go_at_call 24
       (with_reducible refine (bnew_any 4 4 W (by decide) (by decide) (by decide) (by decide)).mono ?_)
       rintro e w1 ⟨rfl, g1, f1⟩
       have H1 := Lib.hid (And.intro g1 (And.intro (HB.out.1.fr f1 id) (HB.out.2.then f1)))
       clear g1 f1)
    | (go_at_call 25
       (with_reducible refine (rbnew_any 4 4 w1 (by decide) (by decide) (by decide) (by decide)).mono ?_)
       rintro e w2 ⟨rfl, g2, f2⟩
       have H2 := Lib.hid (And.intro (Blk.fr H1.out.1 f2 id) (And.intro g2 (And.intro (H1.out.2.1.fr f2 id) (H1.out.2.2.then f2))))
       have HL1 := Lib.hid (show W.heap.size < w1.heap.size from Blk.lt H1.out.1)
       clear g2 f2)
    | fail "no arm")
  have hWs := HLW.out
  refine wp_region_held_drew (S := fun w' => w'.rangeAt w.heap.size 0 [.int .u16 (q.id : Nat), .string q.q.1, .int .i64 q.q.2.1, .int .i64 q.q.2.2, .int .i64 q.sv, .int .i64 q.tr, .int .i64 q.dl, .slice A q.ws.length cap]) (by kernel_rfl) (blk_rg (H2.out.2.2.1.fr ((Fr.refl (fun _ => False) w2).drew) id)) (fun hHeld => ?_)
  refine wpAnyH_take (i := 0) (v := ?_) rfl (by kernel_rfl) (by kernel_rfl) (by kernel_rfl) (fun _ _ _ h => h) (Or.inl ⟨by rfl, ?_⟩) (by assumption) ?_
  rotate_left
  · intro w hSw
    go_simp
    try with_reducible rfl
  try simp only [Act.put, List.setIfInBounds_toArray, List.set_cons_zero, List.set_cons_succ, List.getElem_toArray, List.getElem_cons_zero, List.getElem_cons_succ]
  refine wpAnyH_take (i := 1) (v := ?_) rfl (by kernel_rfl) (by kernel_rfl) (by kernel_rfl) (fun _ _ _ h => h) (Or.inl ⟨by rfl, ?_⟩) (by assumption) ?_
  rotate_left
  · intro w hSw
    go_simp
    try with_reducible rfl
  try simp only [Act.put, List.setIfInBounds_toArray, List.set_cons_zero, List.set_cons_succ, List.getElem_toArray, List.getElem_cons_zero, List.getElem_cons_succ]
  refine wpAnyH_take (i := 2) (v := ?_) rfl (by kernel_rfl) (by kernel_rfl) (by kernel_rfl) (fun _ _ _ h => h) (Or.inl ⟨by rfl, ?_⟩) (by assumption) ?_
  rotate_left
  · intro w hSw
    go_simp
    try with_reducible rfl
  try simp only [Act.put, List.setIfInBounds_toArray, List.set_cons_zero, List.set_cons_succ, List.getElem_toArray, List.getElem_cons_zero, List.getElem_cons_succ]
  refine wpAnyH_take (i := 3) rfl (by kernel_rfl) (by kernel_rfl) (by kernel_rfl) (fun _ _ _ h => h) (yieldsIf_load_mid (by rfl) _ _ rfl w.heap.size 0 (by rfl) [.int .u16 (q.id : Nat), .string q.q.1, .int .i64 q.q.2.1, .int .i64 q.q.2.2, .int .i64 q.sv, .int .i64 q.tr, .int .i64 q.dl, .slice A q.ws.length cap] _ (fun w' h => h) Try.underlying28 rfl (by kernel_rfl)) (by assumption) ?_
  try simp only [Act.put, List.setIfInBounds_toArray, List.set_cons_zero, List.set_cons_succ, List.getElem_toArray, List.getElem_cons_zero, List.getElem_cons_succ]
  refine wpAnyH_take (i := 5) (v := ?_) rfl (by kernel_rfl) (by kernel_rfl) (by kernel_rfl) (fun _ _ _ h => h) (Or.inl ⟨by rfl, ?_⟩) (by assumption) ?_
  rotate_left
  · intro w hSw
    go_simp
    try with_reducible rfl
  try simp only [Act.put, List.setIfInBounds_toArray, List.set_cons_zero, List.set_cons_succ, List.getElem_toArray, List.getElem_cons_zero, List.getElem_cons_succ]
  refine wpAnyH_take (i := 6) rfl (by kernel_rfl) (by kernel_rfl) (by kernel_rfl) (fun _ _ _ h => h) (yieldsIf_load_mid (by rfl) _ _ rfl w.heap.size 0 (by rfl) [.int .u16 (q.id : Nat), .string q.q.1, .int .i64 q.q.2.1, .int .i64 q.q.2.2, .int .i64 q.sv, .int .i64 q.tr, .int .i64 q.dl, .slice A q.ws.length cap] _ (fun w' h => h) Try.underlying28 rfl (by kernel_rfl)) (by assumption) ?_
  try simp only [Act.put, List.setIfInBounds_toArray, List.set_cons_zero, List.set_cons_succ, List.getElem_toArray, List.getElem_cons_zero, List.getElem_cons_succ]
  have hbk : BkE w2.drew W.heap.size 4 4 := Blk.fr H2.out.1 ((Fr.refl (fun _ => False) w2).drew) id
  refine wpAnyH_ready (rs := [4]) (by kernel_rfl) (by simp) ?_
  refine AllReadyH.cons rfl (fun K hK => ?_) AllReadyH.nil
  go_simp
  (with_reducible refine (badd_no W.heap.size 4 4 q A cap w2.drew hbk (HQ.out.1.fr0 (H2.out.2.2.2.then ((Fr.refl (fun _ => False) w2).drew))) HQ.out.2.1 HM.out).mono ?_)
  rintro e w3 ⟨rfl, f3⟩
  have f3' := f3.fromD
  have H3 := Lib.hid (And.intro (Blk.fr H2.out.1 f3' id) (And.intro (Blk.fr H2.out.2.1 f3' id) (And.intro (H2.out.2.2.1.fr f3' id) (H2.out.2.2.2.then f3'))))
  have hS3 := blk_rg H3.out.2.2.1
  clear f3 f3' hHeld
  refine hK.out _ _ hS3 (fun hHeld => ?_)
  clear hK K
  try simp only [Act.put, List.setIfInBounds_toArray, List.set_cons_zero, List.set_cons_succ, List.getElem_toArray, List.getElem_cons_zero, List.getElem_cons_succ]
  have hrk : RkE w3 w1.heap.size 4 4 := H3.out.2.1
  refine wpAnyH_ready (rs := [7]) (by kernel_rfl) (by simp) ?_
  refine AllReadyH.cons rfl (fun K hK => ?_) AllReadyH.nil
  go_simp
  (with_reducible refine (radd_no w1.heap.size 4 4 q A cap w3 hrk (HQ.out.1.fr0 H3.out.2.2.2) HM.out).mono ?_)
  rintro e w4 ⟨rfl, f4⟩
  have H4 := Lib.hid (And.intro (Blk.fr H3.out.1 f4 id) (And.intro (Blk.fr H3.out.2.1 f4 id) (H3.out.2.2.2.then f4)))
  have hS4 := blk_rg (H3.out.2.2.1.fr f4 id)
  clear f4 hHeld
  refine hK.out _ _ hS4 (fun hHeld => ?_)
  clear hK K
  try simp only [Act.put, List.setIfInBounds_toArray, List.set_cons_zero, List.set_cons_succ, List.getElem_toArray, List.getElem_cons_zero, List.getElem_cons_succ]
  refine wpAnyH_take (i := 8) (v := ?_) rfl (by kernel_rfl) (by kernel_rfl) (by kernel_rfl) (fun _ _ _ h => h) (Or.inl ⟨by rfl, ?_⟩) (by assumption) ?_
  rotate_left
  · intro w hSw
    go_simp
    try with_reducible rfl
  try simp only [Act.put, List.setIfInBounds_toArray, List.set_cons_zero, List.set_cons_succ, List.getElem_toArray, List.getElem_cons_zero, List.getElem_cons_succ]
  refine wpAnyH_take (i := 9) (v := ?_) rfl (by kernel_rfl) (by kernel_rfl) (by kernel_rfl) (fun _ _ _ h => h) (Or.inl ⟨by rfl, ?_⟩) (by assumption) ?_
  rotate_left
  · intro w hSw
    go_simp
    try with_reducible rfl
  try simp only [Act.put, List.setIfInBounds_toArray, List.set_cons_zero, List.set_cons_succ, List.getElem_toArray, List.getElem_cons_zero, List.getElem_cons_succ]
  refine wpAnyH_take (i := 10) (v := ?_) rfl (by kernel_rfl) (by kernel_rfl) (by kernel_rfl) (fun _ _ _ h => h) (Or.inl ⟨by rfl, ?_⟩) (by assumption) ?_
  rotate_left
  · intro w hSw
    go_simp
    try with_reducible rfl
  try simp only [Act.put, List.setIfInBounds_toArray, List.set_cons_zero, List.set_cons_succ, List.getElem_toArray, List.getElem_cons_zero, List.getElem_cons_succ]
  refine wpAnyH_take (i := 11) (v := ?_) rfl (by kernel_rfl) (by kernel_rfl) (by kernel_rfl) (fun _ _ _ h => h) (Or.inl ⟨by rfl, ?_⟩) (by assumption) ?_
  rotate_left
  · intro w hSw
    go_simp
    try with_reducible rfl
  try simp only [Act.put, List.setIfInBounds_toArray, List.set_cons_zero, List.set_cons_succ, List.getElem_toArray, List.getElem_cons_zero, List.getElem_cons_succ]
  refine wpAnyH_done (by kernel_rfl) ?_ _
  clear hHeld
  go_wp2_with fail
  refine bodyPost_ret (v := .tuple #[.pointer (some ⟨W.heap.size, 0, none⟩), .pointer (some ⟨w1.heap.size, 0, none⟩), .bool true]) (by simp [results, Try.results10, go_sem]) rfl ?_
  exact ⟨⟨W.heap.size, w1.heap.size, by rfl, H4.out.1, H4.out.2.1⟩, H4.out.2.2⟩
end Go.Proofs.Ytncfdfgcnblicaa

/-
  LAYER 25: light, of an empty message.
-/
namespace Go.Proofs.Ytncfdfgcnblicaa
open Go.RowKit
set_option linter.unusedVariables false
set_option linter.unusedSimpArgs false

set_option maxRecDepth 100000 in
set_option maxHeartbeats 1000000 in
theorem lrecs_nil (w : World) : Calls Try.prog 22 #[.slice none 0 0, .int .i64 10] w fun e w' => e = .returned (.bool true) ∧ w = w' := by
  go_enter Try.func22, Try.ntmps22
  go_upto_region 2 with fail
  go_loopw [5] (fun i wr => i = .int .i64 0 ∧ wr = w) (fun _ _ => 0)
  case atStart => exact ⟨rfl, rfl⟩
  case round =>
    obtain ⟨rfl, rfl⟩ := hrel
    go_wp2_with fail
    go_ret
    exact ⟨rfl, rfl⟩
def lightP (q : Pn) : Bool := decide (q.q.1.size ≤ 300) && decide (q.ws.length ≤ 10)
set_option maxRecDepth 100000 in
set_option maxHeartbeats 1000000 in
theorem light25_any (q : Pn) (A : Option Addr) (cap : Nat) (w : World) (hn : q.q.1.size ≤ 1048576) (hl : q.ws.length ≤ 1048576) :
    Calls Try.prog 7 #[.agg #[.int .u16 (q.id : Nat), .string q.q.1, .int .i64 q.q.2.1, .int .i64 q.q.2.2, .int .i64 q.sv, .int .i64 q.tr, .int .i64 q.dl, .slice A q.ws.length cap], .agg #[.int .u16 0, .bool false, .int .i64 0, .bool false, .bool false, .bool false, .bool false, .bool false, .bool false, .int .i64 0, .int .i64 0, .int .i64 0, .int .i64 0, .int .i64 0, .slice none 0 0, .slice none 0 0, .slice none 0 0, .slice none 0 0]] w (EqPost w (lightP q)) := by
  obtain ⟨W, hW⟩ : ∃ W, W = (w.alloc (.cells #[.int .u16 (q.id : Nat), .string q.q.1, .int .i64 q.q.2.1, .int .i64 q.q.2.2, .int .i64 q.sv, .int .i64 q.tr, .int .i64 q.dl, .slice A q.ws.length cap] 28)).alloc (.cells #[.int .u16 0, .bool false, .int .i64 0, .bool false, .bool false, .bool false, .bool false, .bool false, .bool false, .int .i64 0, .int .i64 0, .int .i64 0, .int .i64 0, .int .i64 0, .slice none 0 0, .slice none 0 0, .slice none 0 0, .slice none 0 0] 37) := ⟨_, rfl⟩
  have hf : Fr (fun _ => False) w W := by rw [hW]; exact ((Fr.refl _ _).alloc _).alloc _
  have v1 : Blk W w.heap.size 28 #[.int .u16 (q.id : Nat), .string q.q.1, .int .i64 q.q.2.1, .int .i64 q.q.2.2, .int .i64 q.sv, .int .i64 q.tr, .int .i64 q.dl, .slice A q.ws.length cap] := by rw [hW]; exact (Blk.new w 28 _).alloc _
  have v2 : Blk W (w.heap.size + 1) 37 #[.int .u16 0, .bool false, .int .i64 0, .bool false, .bool false, .bool false, .bool false, .bool false, .bool false, .int .i64 0, .int .i64 0, .int .i64 0, .int .i64 0, .int .i64 0, .slice none 0 0, .slice none 0 0, .slice none 0 0, .slice none 0 0] := by
    rw [hW]
    have := Blk.new (w.alloc (.cells #[.int .u16 (q.id : Nat), .string q.q.1, .int .i64 q.q.2.1, .int .i64 q.q.2.2, .int .i64 q.sv, .int .i64 q.tr, .int .i64 q.dl, .slice A q.ws.length cap] 28)) 37 #[.int .u16 0, .bool false, .int .i64 0, .bool false, .bool false, .bool false, .bool false, .bool false, .bool false, .int .i64 0, .int .i64 0, .int .i64 0, .int .i64 0, .int .i64 0, .slice none 0 0, .slice none 0 0, .slice none 0 0, .slice none 0 0]
    rwa [World.size_alloc] at this
  have c1 := v1.cell 1
  have c7 := v1.cell 7
  have d0 := v2.cell 14
  have d1 := v2.cell 15
  have d2 := v2.cell 16
  obtain ⟨R, hR⟩ : ∃ R, R = lightP q := ⟨_, rfl⟩
  rw [← hR]
  have HR := Lib.hid (And.intro hR hf)
  have HW := Lib.hid hW
  clear v1 v2 hW hR hf
  by_cases h1 : 300 < (q.q.1.size : Int)
  · go_enter Try.func7, Try.ntmps7
    go_upto_region 1 with fail
    rw [← HW.out]
    clear HW
    go_wp2_with fail
    go_ret
    exact ⟨ret_bool (by rw [HR.out.1]; unfold lightP; rw [decide_eq_false (show ¬ q.q.1.size ≤ 300 by omega)]; rfl), HR.out.2⟩
  · by_cases h2 : 10 < (q.ws.length : Int)
    · go_enter Try.func7, Try.ntmps7
      go_upto_region 1 with fail
      rw [← HW.out]
      clear HW
      go_wp2_with fail
      go_ret
      exact ⟨ret_bool (by rw [HR.out.1]; unfold lightP; rw [decide_eq_false (show ¬ q.ws.length ≤ 10 by omega), Bool.and_false]), HR.out.2⟩
    · have hRt : R = true := by rw [HR.out.1]; unfold lightP; rw [decide_eq_true (show q.q.1.size ≤ 300 by omega), decide_eq_true (show q.ws.length ≤ 10 by omega)]; rfl
      have HT := Lib.hid hRt
      clear hRt
      go_enter Try.func7, Try.ntmps7
      go_upto_region 1 with fail
      rw [← HW.out]
      clear HW
      go_upto_region 4 with (first
      | (go_at_call 22
         (with_reducible refine (lrecs_nil W).mono ?_)
         rintro e w1 ⟨rfl, rfl⟩)
      | fail "no arm")
      go_loopw [5] (fun i wr => i = .int .i64 0 ∧ wr = W) (fun _ _ => 0)
      case atStart => exact ⟨rfl, rfl⟩
      case round =>
        obtain ⟨rfl, rfl⟩ := hrel
        go_wp2_with fail
        go_ret
        exact ⟨ret_bool HT.out.symm, HR.out.2⟩
end Go.Proofs.Ytncfdfgcnblicaa

/-
  LAYER 24: a waiter compared with itself.
-/
namespace Go.Proofs.Ytncfdfgcnblicaa
open Go.RowKit
set_option linter.unusedVariables false
set_option linter.unusedSimpArgs false

def Wt.lits (x : Wt) : List Lit := [.int .i64 x.cl, .int .u16 x.h.id, .bool x.h.resp, .int .i64 x.h.op, .bool x.h.aa, .bool x.h.tc, .bool x.h.rd, .bool x.h.ra, .bool x.h.ad, .bool x.h.cd, .int .i64 x.h.rc, .int .i64 x.h.c0, .int .i64 x.h.c1, .int .i64 x.h.c2, .int .i64 x.h.c3, .string x.q.1.data.toList, .int .i64 x.q.2.1, .int .i64 x.q.2.2]
theorem wt_keyLits (x : Wt) (hx : x.ok) : Try.prog.keyLits 4 69 (Value.agg #[.int .i64 x.cl, .int .u16 x.h.id, .bool x.h.resp, .int .i64 x.h.op, .bool x.h.aa, .bool x.h.tc, .bool x.h.rd, .bool x.h.ra, .bool x.h.ad, .bool x.h.cd, .int .i64 x.h.rc, .int .i64 x.h.c0, .int .i64 x.h.c1, .int .i64 x.h.c2, .int .i64 x.h.c3, .string x.q.1, .int .i64 x.q.2.1, .int .i64 x.q.2.2]).cells.toList = some x.lits := by
  obtain ⟨h0, ⟨h1, h2, h3, h4, h5, h6, h7⟩, g1, g2, g3⟩ := hx
  have w0 := wf_i64 h0
  have w1 := wf_u16 h1
  have w2 := wf_i64 h2
  have w3 := wf_i64 h3
  have w4 := wf_i64 h4
  have w5 := wf_i64 h5
  have w6 := wf_i64 h6
  have w7 := wf_i64 h7
  have w8 := wf_i64 g2
  have w9 := wf_i64 g3
  have hs : x.q.1.size ≤ maxLen := by simp only [maxLen]; omega
  have hcw : Try.prog.cellsOf 69 = 18 := by kernel_rfl
  have hc : Try.prog.cellsOf 33 = 14 := by kernel_rfl
  have hcq : Try.prog.cellsOf 25 = 3 := by kernel_rfl
  have cn : Try.prog.cellsOf 23 = 1 := by kernel_rfl
  have c16 : Try.prog.cellsOf 22 = 1 := by kernel_rfl
  have c1 : Try.prog.cellsOf 4 = 1 := by kernel_rfl
  have c64 : Try.prog.cellsOf 3 = 1 := by kernel_rfl
  have c4 : Try.prog.cellsOf 31 = 4 := by kernel_rfl
  have hi : Try.prog.keyLits 3 3 [.int .i64 x.cl] = some [.int .i64 x.cl] := by simp [Program.keyLits, Try.underlying3, w0]
  have hh : Try.prog.keyLits 3 33 [.int .u16 x.h.id, .bool x.h.resp, .int .i64 x.h.op, .bool x.h.aa, .bool x.h.tc, .bool x.h.rd, .bool x.h.ra, .bool x.h.ad, .bool x.h.cd, .int .i64 x.h.rc, .int .i64 x.h.c0, .int .i64 x.h.c1, .int .i64 x.h.c2, .int .i64 x.h.c3] = some x.h.lits := hd_keyLits x.h ⟨h1, h2, h3, h4, h5, h6, h7⟩
  have hq : Try.prog.keyLits 3 25 [.string x.q.1, .int .i64 x.q.2.1, .int .i64 x.q.2.2] = some (qLits x.q.1 x.q.2.1 x.q.2.2) := q_keyLits x.q.1 x.q.2.1 x.q.2.2 hs g2 g3
  unfold Program.keyLits
  simp [Try.underlying69, hcw, hc, hcq, c64, hi, hh, hq, Value.cells, Wt.lits, Hd.lits, qLits, List.range_succ]
theorem wt_formed (x : Wt) : (Value.agg #[.int .i64 x.cl, .int .u16 x.h.id, .bool x.h.resp, .int .i64 x.h.op, .bool x.h.aa, .bool x.h.tc, .bool x.h.rd, .bool x.h.ra, .bool x.h.ad, .bool x.h.cd, .int .i64 x.h.rc, .int .i64 x.h.c0, .int .i64 x.h.c1, .int .i64 x.h.c2, .int .i64 x.h.c3, .string x.q.1, .int .i64 x.q.2.1, .int .i64 x.q.2.2]).formed Try.prog 69 = true := by kernel_rfl
theorem wt_neq (x : Wt) (hx : x.ok) (w : World) : (Go.binOp .neq 69 (.agg #[.int .i64 x.cl, .int .u16 x.h.id, .bool x.h.resp, .int .i64 x.h.op, .bool x.h.aa, .bool x.h.tc, .bool x.h.rd, .bool x.h.ra, .bool x.h.ad, .bool x.h.cd, .int .i64 x.h.rc, .int .i64 x.h.c0, .int .i64 x.h.c1, .int .i64 x.h.c2, .int .i64 x.h.c3, .string x.q.1, .int .i64 x.q.2.1, .int .i64 x.q.2.2]) (.agg #[.int .i64 x.cl, .int .u16 x.h.id, .bool x.h.resp, .int .i64 x.h.op, .bool x.h.aa, .bool x.h.tc, .bool x.h.rd, .bool x.h.ra, .bool x.h.ad, .bool x.h.cd, .int .i64 x.h.rc, .int .i64 x.h.c0, .int .i64 x.h.c1, .int .i64 x.h.c2, .int .i64 x.h.c3, .string x.q.1, .int .i64 x.q.2.1, .int .i64 x.q.2.2])).run Try.prog w = .ok (.bool false) w := by
  obtain ⟨r, hr, hiff⟩ := run_equalIn_deep (P := Try.prog) 9996 4 69 (by kernel_rfl) w 4 4 (.agg #[.int .i64 x.cl, .int .u16 x.h.id, .bool x.h.resp, .int .i64 x.h.op, .bool x.h.aa, .bool x.h.tc, .bool x.h.rd, .bool x.h.ra, .bool x.h.ad, .bool x.h.cd, .int .i64 x.h.rc, .int .i64 x.h.c0, .int .i64 x.h.c1, .int .i64 x.h.c2, .int .i64 x.h.c3, .string x.q.1, .int .i64 x.q.2.1, .int .i64 x.q.2.2]) (.agg #[.int .i64 x.cl, .int .u16 x.h.id, .bool x.h.resp, .int .i64 x.h.op, .bool x.h.aa, .bool x.h.tc, .bool x.h.rd, .bool x.h.ra, .bool x.h.ad, .bool x.h.cd, .int .i64 x.h.rc, .int .i64 x.h.c0, .int .i64 x.h.c1, .int .i64 x.h.c2, .int .i64 x.h.c3, .string x.q.1, .int .i64 x.q.2.1, .int .i64 x.q.2.2]) x.lits x.lits (wt_formed x) (wt_formed x) (wt_keyLits x hx) (wt_keyLits x hx)
  have e : r = true := hiff.2 rfl
  subst e
  rw [run_neq_struct, hr]
  rfl
end Go.Proofs.Ytncfdfgcnblicaa

/-
  LAYER 24: rows of the same waiters are equal.
-/
namespace Go.Proofs.Ytncfdfgcnblicaa
open Go.RowKit
set_option linter.unusedVariables false
set_option linter.unusedSimpArgs false

set_option maxRecDepth 100000 in
set_option maxHeartbeats 1000000 in
theorem wequal_same (A B : Option Addr) (c1 c2 : Nat) (l : List Wt) (w : World) (hA : RowIn w A (l.flatMap wcl)) (hB : RowIn w B (l.flatMap wcl)) (hl : ∀ x ∈ l, x.ok) (hn : l.length ≤ 1048576) :
    Calls Try.prog 36 #[.slice A l.length c1, .slice B l.length c2] w (EqPost w true) := by
  have HL := Lib.hid (And.intro hA (And.intro hB hl))
  clear hA hB hl
  go_enter Try.func36, Try.ntmps36
  go_upto_region 4 with fail
  go_loopw [13] (fun i wr => ∃ k : Nat, k ≤ l.length ∧ i = .int .i64 (k : Nat) ∧ Fr (fun _ => False) w wr) (fun i _ => l.length - (intOf i).toNat)
  case atStart => exact ⟨0, Nat.zero_le _, rfl, Fr.refl _ _⟩
  case round =>
    obtain ⟨k, hk, rfl, hfr⟩ := hrel
    have HF := Lib.hid hfr
    clear hfr
    by_cases hlt : k < l.length
    · obtain ⟨x, hx⟩ : ∃ x, l[k]? = some x := ⟨l[k], List.getElem?_eq_getElem hlt⟩
      obtain ⟨b1, o1, rfl, hb1, hr1⟩ := rowIn_w HL.out.1 hx
      obtain ⟨b2, o2, rfl, hb2, hr2⟩ := rowIn_w HL.out.2.1 hx
      have HX := Lib.hid (HL.out.2.2 x (List.mem_of_getElem? hx))
      have hd : Fr (fun _ => False) w wr.drew := HF.out.then ((Fr.refl _ _).drew)
      have HG := Lib.hid (And.intro (range_fr0 hd hb1 hr1) (range_fr0 hd hb2 hr2))
      have hne := wt_neq x HX.out
      have hk0 : (0 : Int) ≤ (k : Int) := by omega
      have hlti : (k : Int) < (l.length : Int) := by omega
      clear hx hr1 hr2 hd
      go_upto_region 6 with fail
      refine wp_region_held_drew (S := fun w' => w'.rangeAt b1 (o1 + k * 18) [.int .i64 x.cl, .int .u16 x.h.id, .bool x.h.resp, .int .i64 x.h.op, .bool x.h.aa, .bool x.h.tc, .bool x.h.rd, .bool x.h.ra, .bool x.h.ad, .bool x.h.cd, .int .i64 x.h.rc, .int .i64 x.h.c0, .int .i64 x.h.c1, .int .i64 x.h.c2, .int .i64 x.h.c3, .string x.q.1, .int .i64 x.q.2.1, .int .i64 x.q.2.2] ∧ w'.rangeAt b2 (o2 + k * 18) [.int .i64 x.cl, .int .u16 x.h.id, .bool x.h.resp, .int .i64 x.h.op, .bool x.h.aa, .bool x.h.tc, .bool x.h.rd, .bool x.h.ra, .bool x.h.ad, .bool x.h.cd, .int .i64 x.h.rc, .int .i64 x.h.c0, .int .i64 x.h.c1, .int .i64 x.h.c2, .int .i64 x.h.c3, .string x.q.1, .int .i64 x.q.2.1, .int .i64 x.q.2.2]) (by kernel_rfl) HG.out (fun hHeld => ?_)
      refine wpAnyH_take (i := 0) (v := ?_) rfl (by kernel_rfl) (by kernel_rfl) (by kernel_rfl) (fun _ _ _ h => h) (Or.inl ⟨by rfl, ?_⟩) (by assumption) ?_
      rotate_left
      · intro w hSw
        go_simp
        try with_reducible rfl
      try simp only [Act.put, List.setIfInBounds_toArray, List.set_cons_zero, List.set_cons_succ, List.getElem_toArray, List.getElem_cons_zero, List.getElem_cons_succ]
      refine wpAnyH_take (i := 1) (v := ?_) rfl (by kernel_rfl) (by kernel_rfl) (by kernel_rfl) (fun _ _ _ h => h) (Or.inl ⟨by rfl, ?_⟩) (by assumption) ?_
      rotate_left
      · intro w hSw
        go_simp
        try with_reducible rfl
      try simp only [Act.put, List.setIfInBounds_toArray, List.set_cons_zero, List.set_cons_succ, List.getElem_toArray, List.getElem_cons_zero, List.getElem_cons_succ]
      refine wpAnyH_take (i := 2) (v := ?_) rfl (by kernel_rfl) (by kernel_rfl) (by kernel_rfl) (fun _ _ _ h => h) (Or.inl ⟨by rfl, ?_⟩) (by assumption) ?_
      rotate_left
      · intro w hSw
        go_simp
        try with_reducible rfl
      try simp only [Act.put, List.setIfInBounds_toArray, List.set_cons_zero, List.set_cons_succ, List.getElem_toArray, List.getElem_cons_zero, List.getElem_cons_succ]
      refine wpAnyH_take (i := 3) rfl (by kernel_rfl) (by kernel_rfl) (by kernel_rfl) (fun _ _ _ h => h) (yieldsIf_load_mid (by rfl) _ _ rfl b1 (o1 + k * 18) (by rfl) [.int .i64 x.cl, .int .u16 x.h.id, .bool x.h.resp, .int .i64 x.h.op, .bool x.h.aa, .bool x.h.tc, .bool x.h.rd, .bool x.h.ra, .bool x.h.ad, .bool x.h.cd, .int .i64 x.h.rc, .int .i64 x.h.c0, .int .i64 x.h.c1, .int .i64 x.h.c2, .int .i64 x.h.c3, .string x.q.1, .int .i64 x.q.2.1, .int .i64 x.q.2.2] _ (fun w' h => h.1) Try.underlying69 rfl (by kernel_rfl)) (by assumption) ?_
      try simp only [Act.put, List.setIfInBounds_toArray, List.set_cons_zero, List.set_cons_succ, List.getElem_toArray, List.getElem_cons_zero, List.getElem_cons_succ]
      refine wpAnyH_take (i := 4) (v := ?_) rfl (by kernel_rfl) (by kernel_rfl) (by kernel_rfl) (fun _ _ _ h => h) (Or.inl ⟨by rfl, ?_⟩) (by assumption) ?_
      rotate_left
      · intro w hSw
        go_simp
        try with_reducible rfl
      try simp only [Act.put, List.setIfInBounds_toArray, List.set_cons_zero, List.set_cons_succ, List.getElem_toArray, List.getElem_cons_zero, List.getElem_cons_succ]
      refine wpAnyH_take (i := 5) (v := ?_) rfl (by kernel_rfl) (by kernel_rfl) (by kernel_rfl) (fun _ _ _ h => h) (Or.inl ⟨by rfl, ?_⟩) (by assumption) ?_
      rotate_left
      · intro w hSw
        go_simp
        try with_reducible rfl
      try simp only [Act.put, List.setIfInBounds_toArray, List.set_cons_zero, List.set_cons_succ, List.getElem_toArray, List.getElem_cons_zero, List.getElem_cons_succ]
      refine wpAnyH_take (i := 6) (v := ?_) rfl (by kernel_rfl) (by kernel_rfl) (by kernel_rfl) (fun _ _ _ h => h) (Or.inl ⟨by rfl, ?_⟩) (by assumption) ?_
      rotate_left
      · intro w hSw
        go_simp
        try with_reducible rfl
      try simp only [Act.put, List.setIfInBounds_toArray, List.set_cons_zero, List.set_cons_succ, List.getElem_toArray, List.getElem_cons_zero, List.getElem_cons_succ]
      refine wpAnyH_take (i := 7) rfl (by kernel_rfl) (by kernel_rfl) (by kernel_rfl) (fun _ _ _ h => h) (yieldsIf_load_mid (by rfl) _ _ rfl b2 (o2 + k * 18) (by rfl) [.int .i64 x.cl, .int .u16 x.h.id, .bool x.h.resp, .int .i64 x.h.op, .bool x.h.aa, .bool x.h.tc, .bool x.h.rd, .bool x.h.ra, .bool x.h.ad, .bool x.h.cd, .int .i64 x.h.rc, .int .i64 x.h.c0, .int .i64 x.h.c1, .int .i64 x.h.c2, .int .i64 x.h.c3, .string x.q.1, .int .i64 x.q.2.1, .int .i64 x.q.2.2] _ (fun w' h => h.2) Try.underlying69 rfl (by kernel_rfl)) (by assumption) ?_
      try simp only [Act.put, List.setIfInBounds_toArray, List.set_cons_zero, List.set_cons_succ, List.getElem_toArray, List.getElem_cons_zero, List.getElem_cons_succ]
      refine wpAnyH_take (i := 8) (v := ?_) rfl (by kernel_rfl) (by kernel_rfl) (by kernel_rfl) (fun _ _ _ h => h) (Or.inl ⟨by rfl, ?_⟩) (by assumption) ?_
      rotate_left
      · intro w hSw
        go_simp
        try with_reducible rfl
      try simp only [Act.put, List.setIfInBounds_toArray, List.set_cons_zero, List.set_cons_succ, List.getElem_toArray, List.getElem_cons_zero, List.getElem_cons_succ]
      refine wpAnyH_done (by kernel_rfl) ?_ _
      clear hHeld
      go_wp2_with fail
      go_roundw
      case rel => exact ⟨k + 1, by omega, by go_num, HF.out.then ((Fr.refl _ _).drew)⟩
      case measure => simp [intOf]; omega
    · go_wp2_with fail
      go_ret
      exact ⟨rfl, HF.out⟩
end Go.Proofs.Ytncfdfgcnblicaa

/-
  LAYER 24: Same, of the same question that is pending.
-/
namespace Go.Proofs.Ytncfdfgcnblicaa
open Go.RowKit
set_option linter.unusedVariables false
set_option linter.unusedSimpArgs false

set_option maxRecDepth 100000 in
set_option maxHeartbeats 1000000 in
theorem psame_same (q : Pn) (A B : Option Addr) (c1 c2 : Nat) (w : World) (hA : PnIn w A q) (hB : RowIn w B (q.ws.flatMap wcl)) :
    Calls Try.prog 13 #[.agg #[.int .u16 (q.id : Nat), .string q.q.1, .int .i64 q.q.2.1, .int .i64 q.q.2.2, .int .i64 q.sv, .int .i64 q.tr, .int .i64 q.dl, .slice A q.ws.length c1], .agg #[.int .u16 (q.id : Nat), .string q.q.1, .int .i64 q.q.2.1, .int .i64 q.q.2.2, .int .i64 q.sv, .int .i64 q.tr, .int .i64 q.dl, .slice B q.ws.length c2]] w (EqPost w true) := by
  obtain ⟨W, hW⟩ : ∃ W, W = (w.alloc (.cells #[.int .u16 (q.id : Nat), .string q.q.1, .int .i64 q.q.2.1, .int .i64 q.q.2.2, .int .i64 q.sv, .int .i64 q.tr, .int .i64 q.dl, .slice A q.ws.length c1] 28)).alloc (.cells #[.int .u16 (q.id : Nat), .string q.q.1, .int .i64 q.q.2.1, .int .i64 q.q.2.2, .int .i64 q.sv, .int .i64 q.tr, .int .i64 q.dl, .slice B q.ws.length c2] 28) := ⟨_, rfl⟩
  have hf : Fr (fun _ => False) w W := by rw [hW]; exact ((Fr.refl _ _).alloc _).alloc _
  have v1 : Blk W w.heap.size 28 #[.int .u16 (q.id : Nat), .string q.q.1, .int .i64 q.q.2.1, .int .i64 q.q.2.2, .int .i64 q.sv, .int .i64 q.tr, .int .i64 q.dl, .slice A q.ws.length c1] := by rw [hW]; exact (Blk.new w 28 _).alloc _
  have v2 : Blk W (w.heap.size + 1) 28 #[.int .u16 (q.id : Nat), .string q.q.1, .int .i64 q.q.2.1, .int .i64 q.q.2.2, .int .i64 q.sv, .int .i64 q.tr, .int .i64 q.dl, .slice B q.ws.length c2] := by
    rw [hW]
    have := Blk.new (w.alloc (.cells #[.int .u16 (q.id : Nat), .string q.q.1, .int .i64 q.q.2.1, .int .i64 q.q.2.2, .int .i64 q.sv, .int .i64 q.tr, .int .i64 q.dl, .slice A q.ws.length c1] 28)) 28 #[.int .u16 (q.id : Nat), .string q.q.1, .int .i64 q.q.2.1, .int .i64 q.q.2.2, .int .i64 q.sv, .int .i64 q.tr, .int .i64 q.dl, .slice B q.ws.length c2]
    rwa [World.size_alloc] at this
  have hqe : ∀ w : World, (Go.binOp .eql 25 (.agg #[.string q.q.1, .int .i64 q.q.2.1, .int .i64 q.q.2.2]) (.agg #[.string q.q.1, .int .i64 q.q.2.1, .int .i64 q.q.2.2])).run Try.prog w = .ok (.bool true) w := fun w => by
    have hs : q.q.1.size ≤ maxLen := by have := hA.q.1; simp only [maxLen]; omega
    have h := q_eql q.q.1 q.q.1 q.q.2.1 q.q.2.1 q.q.2.2 q.q.2.2 hs hs hA.q.2.1 hA.q.2.1 hA.q.2.2 hA.q.2.2 w
    rw [qsameB_iff.2 ⟨rfl, rfl, rfl⟩] at h
    exact h
  have a0 := v1.cell 0
  have a1 := v1.cell 1
  have a2 := v1.cell 2
  have a3 := v1.cell 3
  have a4 := v1.cell 4
  have a5 := v1.cell 5
  have a6 := v1.cell 6
  have a7 := v1.cell 7
  have b0 := v2.cell 0
  have b1 := v2.cell 1
  have b2 := v2.cell 2
  have b3 := v2.cell 3
  have b4 := v2.cell 4
  have b5 := v2.cell 5
  have b6 := v2.cell 6
  have b7 := v2.cell 7
  have HB := Lib.hid (And.intro hf (And.intro (hA.fr0 hf) (rowIn_fr0 hB hf)))
  have HW := Lib.hid hW
  clear v1 v2 hf hW hA hB
  go_enter Try.func13, Try.ntmps13
  go_upto_region 1 with fail
  rw [← HW.out]
  clear HW
  go_wp2_with (first
    | (go_at_call 36
       (with_reducible refine (wequal_same A B c1 c2 q.ws W HB.out.2.1.row HB.out.2.2 HB.out.2.1.ws HB.out.2.1.len).mono ?_)
       rintro e w1 ⟨rfl, f1⟩
       have H1 := Lib.hid (HB.out.1.then f1)
       clear f1)
    | fail "no arm")
  go_ret
  exact ⟨rfl, H1.out⟩
end Go.Proofs.Ytncfdfgcnblicaa

/-
  LAYER 24, THE REFERENCE: Check.
-/
namespace Go.Proofs.Ytncfdfgcnblicaa
open Go.RowKit
set_option linter.unusedVariables false
set_option linter.unusedSimpArgs false

set_option maxRecDepth 100000 in
set_option maxHeartbeats 1000000 in
theorem rpCheck_any (p : Pn) (A : Option Addr) (cap : Nat) (w : World) (hp : PnIn w A p) : Calls Try.prog 8 #[.agg #[.int .u16 (p.id : Nat), .string p.q.1, .int .i64 p.q.2.1, .int .i64 p.q.2.2, .int .i64 p.sv, .int .i64 p.tr, .int .i64 p.dl, .slice A p.ws.length cap]] w (IntPost w (if p.may 64 = true then 0 else 2)) := by
  obtain ⟨R, hR⟩ : ∃ R : Int, R = if p.may 64 = true then 0 else 2 := ⟨_, rfl⟩
  rw [← hR]
  obtain ⟨W, hW⟩ : ∃ W, W = w.alloc (.cells #[.int .u16 (p.id : Nat), .string p.q.1, .int .i64 p.q.2.1, .int .i64 p.q.2.2, .int .i64 p.sv, .int .i64 p.tr, .int .i64 p.dl, .slice A p.ws.length cap] 28) := ⟨_, rfl⟩
  have hf : Fr (fun _ => False) w W := by rw [hW]; exact (Fr.refl _ _).alloc _
  have hb : Blk W w.heap.size 28 #[.int .u16 (p.id : Nat), .string p.q.1, .int .i64 p.q.2.1, .int .i64 p.q.2.2, .int .i64 p.sv, .int .i64 p.tr, .int .i64 p.dl, .slice A p.ws.length cap] := by rw [hW]; exact Blk.new _ _ _
  have HR := Lib.hid (And.intro hR (And.intro (hp.fr0 hf) (And.intro hb hf)))
  have HW := Lib.hid hW
  clear hR hp hb hf hW
  go_enter Try.func8, Try.ntmps8
  go_upto_region 1 with fail
  rw [← HW.out]
  clear HW
  go_wp2_with (first
    | (refine wpList_load_blk rfl 28 _ rfl w.heap.size (by rfl) 28 _ _ HR.out.2.2.1 Try.underlying28 rfl (by kernel_rfl) ?_)
    | (go_at_call 23
       (with_reducible refine (rpcheck_any p A cap 64 W HR.out.2.1).mono ?_)
       rintro e w1 ⟨rfl, f1⟩
       rw [← HR.out.1]
       have H1 := Lib.hid (HR.out.2.2.2.then f1)
       clear f1)
    | fail "no arm")
  go_ret
  exact ⟨rfl, H1.out⟩
end Go.Proofs.Ytncfdfgcnblicaa

/-
  LAYER 25, PLAIN: which replies match.
-/
namespace Go.Proofs.Ytncfdfgcnblicaa
set_option linter.unusedVariables false
set_option linter.unusedSimpArgs false

theorem sameQ_refl {q : Qn} (h : qcheck q.1 q.2.1 q.2.2 = 0) : sameQ q q = true := by
  unfold sameQ
  rw [decide_eq_true h, decide_eq_true rfl]
  rfl
theorem match_self {q : Pn} {h : Hd} (hr : h.resp = true) (ho : h.op = 0) (hid : h.id = (q.id : Int)) (hq : qcheck q.q.1 q.q.2.1 q.q.2.2 = 0) : matchB q h [q.q] q.sv = true := by
  unfold matchB cond
  rw [show ([q.q] : List Qn).headD (⟨#[]⟩, 0, 0) = q.q from rfl, sameQ_refl hq, hr, ho, hid]
  simp
theorem match_not {q : Pn} {h : Hd} {l : List Qn} {sv : Int} (k : Nat) (hk : k < 5) (hc : cond q h l sv k = false) : matchB q h l sv = false := by
  unfold matchB
  rcases (show k = 0 ∨ k = 1 ∨ k = 2 ∨ k = 3 ∨ k = 4 by omega) with rfl | rfl | rfl | rfl | rfl <;> simp [hc]
theorem key_parts {n m : ByteArray} {t u c d : Int} (h : keyQ n t c = keyQ m u d) : foldN n = foldN m ∧ octs (t % 65536).toNat 2 = octs (u % 65536).toNat 2 ∧ octs (c % 65536).toNat 2 = octs (d % 65536).toNat 2 := by
  unfold keyQ at h
  obtain ⟨h1, h2⟩ := List.append_inj' h (by simp [octs])
  obtain ⟨h3, h4⟩ := List.append_inj' h2 (by simp [octs])
  exact ⟨h1, h3, h4⟩
theorem octs2_inj {a b : Nat} (ha : a < 65536) (hb : b < 65536) (h : octs a 2 = octs b 2) : a = b := by
  simp [octs] at h
  obtain ⟨h1, h2⟩ := h
  have h1' := congrArg UInt8.toNat h1
  have h2' := congrArg UInt8.toNat h2
  simp at h1' h2'
  omega
theorem sameQ_not {a b : Qn} (h : foldN a.1 ≠ foldN b.1 ∨ a.2.1 % 65536 ≠ b.2.1 % 65536 ∨ a.2.2 % 65536 ≠ b.2.2 % 65536) : sameQ a b = false := by
  unfold sameQ
  rw [decide_eq_false (p := keyQ a.1 a.2.1 a.2.2 = keyQ b.1 b.2.1 b.2.2) ?_, Bool.and_false, Bool.and_false]
  intro hk
  obtain ⟨h1, h2, h3⟩ := key_parts hk
  rcases h with h | h | h
  · exact h h1
  · have := octs2_inj (by omega) (by omega) h2
    omega
  · have := octs2_inj (by omega) (by omega) h3
    omega
end Go.Proofs.Ytncfdfgcnblicaa

/-
  LAYER 25: the chapter's example.
-/
namespace Go.Proofs.Ytncfdfgcnblicaa
open Go.RowKit
set_option linter.unusedVariables false
set_option linter.unusedSimpArgs false

theorem rowIn_blk {w : World} {g : Nat} {t : TypeId} {vs : List Value} (h : Blk w g t vs.toArray) : RowIn w (some ⟨g, 0, none⟩) vs :=
  fun _ => ⟨g, 0, rfl, h.lt, fun i x hx => by rw [Nat.zero_add, h.cell i, List.getElem?_toArray]; exact hx⟩
theorem host1 (x : UInt8) (g : Nat) (w : World) (h : Blk w g 9 #[.string ⟨#[x]⟩]) : Calls Try.prog 19 #[.slice (some ⟨g, 0, none⟩) 1 1] w fun e w' => e = .returned (.string ⟨#[1, x]⟩) ∧ Fr (fun _ => False) w w' :=
  host_any (some ⟨g, 0, none⟩) 1 [⟨#[x]⟩] w (rowIn_blk (vs := [.string ⟨#[x]⟩]) h) (fun y hy => by rw [List.mem_singleton.1 hy]; exact ⟨Nat.le_refl 1, by show 1 ≤ 63; decide⟩) (by simp) (by simp [mkN])
def h0_25 : Hd := ⟨0, false, 0, false, false, false, false, false, false, 0, 0, 0, 0, 0⟩
abbrev h25 : Hd := ⟨7, true, 0, false, false, true, false, false, false, 0, 1, 0, 0, 0⟩
abbrev x25 : Wt := ⟨0, ⟨0, false, 0, false, false, false, false, false, false, 0, 0, 0, 0, 0⟩, (⟨#[1, 97]⟩, 1, 1)⟩
abbrev q25 : Pn := ⟨7, (⟨#[1, 97]⟩, 1, 1), 0, 0, 0, [x25]⟩
theorem may25 : q25.may 4 = true := by kernel_rfl
theorem qc25a : qcheck ⟨#[1, 97]⟩ 1 1 = 0 := by kernel_rfl
theorem qc25b : qcheck ⟨#[1, 65]⟩ 1 1 = 0 := by kernel_rfl
theorem key25 : keyQ ⟨#[1, 97]⟩ 1 1 = keyQ ⟨#[1, 65]⟩ 1 1 := by kernel_rfl
theorem sq25 : sameQ (⟨#[1, 97]⟩, 1, 1) (⟨#[1, 65]⟩, 1, 1) = true := by
  unfold sameQ
  rw [decide_eq_true qc25a, decide_eq_true qc25b, decide_eq_true key25]
  rfl
theorem m25y : matchB q25 h25 [(⟨#[1, 65]⟩, 1, 1)] 0 = true := by
  unfold matchB cond
  rw [show ([(⟨#[1, 65]⟩, 1, 1)] : List Qn).headD (⟨#[]⟩, 0, 0) = (⟨#[1, 65]⟩, 1, 1) from rfl, sq25]
  rfl
theorem m25n : matchB q25 h25 [(⟨#[1, 65]⟩, 1, 1)] 1 = false := by
  unfold matchB cond
  simp
theorem okq25 : QOk q25.q := ⟨by show 2 ≤ 1048576; decide, by unfold i64k; decide, by unfold i64k; decide⟩
theorem ok25 : ∀ x ∈ ([(⟨#[1, 65]⟩, 1, 1)] : List Qn), QOk x := fun x hx => by
  rw [List.mem_singleton.1 hx]
  exact ⟨by show 2 ≤ 1048576; decide, by unfold i64k; decide, by unfold i64k; decide⟩
theorem pn25 {w : World} {g : Nat} (h : Blk w g 69 #[.int .i64 0, .int .u16 0, .bool false, .int .i64 0, .bool false, .bool false, .bool false, .bool false, .bool false, .bool false, .int .i64 0, .int .i64 0, .int .i64 0, .int .i64 0, .int .i64 0, .string ⟨#[1, 97]⟩, .int .i64 1, .int .i64 1]) : PnIn w (some ⟨g, 0, none⟩) q25 :=
  ⟨rowIn_blk h, fun x hx => by rw [List.mem_singleton.1 hx]; exact ⟨by unfold i64k; decide, by unfold Hd.ok; decide, okq25⟩, by decide, okq25, by unfold i64k; decide, by unfold i64k; decide, by unfold i64k; decide, by decide⟩
theorem books25 (g : Nat) (w : World) (h : Blk w g 69 #[.int .i64 0, .int .u16 0, .bool false, .int .i64 0, .bool false, .bool false, .bool false, .bool false, .bool false, .bool false, .int .i64 0, .int .i64 0, .int .i64 0, .int .i64 0, .int .i64 0, .string ⟨#[1, 97]⟩, .int .i64 1, .int .i64 1]) : Calls Try.prog 10 #[.agg #[.int .u16 7, .string ⟨#[1, 97]⟩, .int .i64 1, .int .i64 1, .int .i64 0, .int .i64 0, .int .i64 0, .slice (some ⟨g, 0, none⟩) 1 1]] w fun e w' => (∃ b r, e = .returned (.tuple #[.pointer (some ⟨b, 0, none⟩), .pointer (some ⟨r, 0, none⟩), .bool true]) ∧ (∃ A' cap', BkO w' b 4 4 q25 A' cap') ∧ (∃ A' cap', RkO w' r 4 4 q25 A' cap')) ∧ Fr (fun _ => False) w w' :=
  books_yes q25 (some ⟨g, 0, none⟩) 1 w (pn25 h) may25 (fun h => by cases h) (fun h => by cases h)
theorem reply25 (w : World) : Calls Try.prog 11 #[.int .u16 7, .agg #[.string ⟨#[1, 65]⟩, .int .i64 1, .int .i64 1]] w fun e w' => ∃ g, e = .returned (.agg #[.int .u16 7, .bool true, .int .i64 0, .bool false, .bool false, .bool true, .bool false, .bool false, .bool false, .int .i64 0, .int .i64 1, .int .i64 0, .int .i64 0, .int .i64 0, .slice (some ⟨g, 0, none⟩) 1 1, .slice none 0 0, .slice none 0 0, .slice none 0 0]) ∧ Blk w' g 25 #[.string ⟨#[1, 65]⟩, .int .i64 1, .int .i64 1] ∧ w.heap.size ≤ g ∧ Fr (fun _ => False) w w' :=
  lreply_any 7 (⟨#[1, 65]⟩, 1, 1) w
theorem match25 (b : Nat) (A' : Option Addr) (c' g : Nat) (sv : Int) (w : World) (hk : BkO w b 4 4 q25 A' c') (hb : Blk w g 25 #[.string ⟨#[1, 65]⟩, .int .i64 1, .int .i64 1]) : Calls Try.prog 12 #[.pointer (some ⟨b, 0, none⟩), .int .i64 sv, .agg #[.int .u16 7, .bool true, .int .i64 0, .bool false, .bool false, .bool true, .bool false, .bool false, .bool false, .int .i64 0, .int .i64 1, .int .i64 0, .int .i64 0, .int .i64 0, .slice (some ⟨g, 0, none⟩) 1 1, .slice none 0 0, .slice none 0 0, .slice none 0 0]] w (ReplyPost w q25 (matchB q25 h25 [(⟨#[1, 65]⟩, 1, 1)] sv)) :=
  mreply_any b 4 4 q25 A' c' h25 [(⟨#[1, 65]⟩, 1, 1)] (some ⟨g, 0, none⟩) 1 sv none none none 0 0 0 0 0 0 w hk (rowIn_blk hb) ok25 okq25 (by decide) (fun _ => ⟨g, 0, rfl⟩) (fun k hk => by obtain ⟨a, ha, rfl⟩ := hk; injection ha with ha; subst ha; exact hb.lt)
theorem match25y (b : Nat) (A' : Option Addr) (c' g : Nat) (w : World) (hk : BkO w b 4 4 q25 A' c') (hb : Blk w g 25 #[.string ⟨#[1, 65]⟩, .int .i64 1, .int .i64 1]) : Calls Try.prog 12 #[.pointer (some ⟨b, 0, none⟩), .int .i64 0, .agg #[.int .u16 7, .bool true, .int .i64 0, .bool false, .bool false, .bool true, .bool false, .bool false, .bool false, .int .i64 0, .int .i64 1, .int .i64 0, .int .i64 0, .int .i64 0, .slice (some ⟨g, 0, none⟩) 1 1, .slice none 0 0, .slice none 0 0, .slice none 0 0]] w fun e w' => ∃ X2 e2, e = .returned (.tuple #[.agg #[.int .u16 7, .string ⟨#[1, 97]⟩, .int .i64 1, .int .i64 1, .int .i64 0, .int .i64 0, .int .i64 0, .slice X2 1 e2], .bool true]) ∧ Fr (fun _ => False) w w' := by
  refine (match25 b A' c' g 0 w hk hb).mono ?_
  rintro e w' ⟨f, _, hy⟩
  obtain ⟨X2, e2, rfl, _, _⟩ := hy m25y
  exact ⟨X2, e2, rfl, f⟩
theorem match25n (b : Nat) (A' : Option Addr) (c' g : Nat) (w : World) (hk : BkO w b 4 4 q25 A' c') (hb : Blk w g 25 #[.string ⟨#[1, 65]⟩, .int .i64 1, .int .i64 1]) : Calls Try.prog 12 #[.pointer (some ⟨b, 0, none⟩), .int .i64 1, .agg #[.int .u16 7, .bool true, .int .i64 0, .bool false, .bool false, .bool true, .bool false, .bool false, .bool false, .int .i64 0, .int .i64 1, .int .i64 0, .int .i64 0, .int .i64 0, .slice (some ⟨g, 0, none⟩) 1 1, .slice none 0 0, .slice none 0 0, .slice none 0 0]] w fun e w' => e = .returned (.tuple #[.agg #[.int .u16 0, .string ⟨#[]⟩, .int .i64 0, .int .i64 0, .int .i64 0, .int .i64 0, .int .i64 0, .slice none 0 0], .bool false]) ∧ Fr (fun _ => False) w w' := by
  refine (match25 b A' c' g 1 w hk hb).mono ?_
  rintro e w' ⟨f, hn, _⟩
  exact ⟨hn m25n, f⟩
end Go.Proofs.Ytncfdfgcnblicaa

/-
  LAYER 25: the chapter's example, walked.
-/
namespace Go.Proofs.Ytncfdfgcnblicaa
open Go.RowKit
set_option linter.unusedVariables false
set_option linter.unusedSimpArgs false

set_option maxRecDepth 100000 in
set_option maxHeartbeats 1000000 in
theorem lives25_any (w : World) : Calls Try.prog 6 #[] w (EqPost w true) := by
  go_enter Try.func6, Try.ntmps6
  go_upto_region 4 with (first
    | (go_at_call 19
       (with_reducible refine (host1 97 w.heap.size (w.alloc (.cells #[.string ⟨#[97]⟩] 9)) (Blk.new _ _ _)).mono ?_)
       rintro e w1 ⟨rfl, f⟩
       have Gw1 := Lib.hid (((Fr.refl (fun _ => False) w).alloc _).then f)
       clear f)
    | (go_at_call 18
       (with_reducible refine (ask_any ⟨#[1, 97]⟩ w1).mono ?_)
       rintro e w2 ⟨rfl, f⟩
       have Gw2 := Lib.hid (Gw1.out.then f)
       clear f)
    | (go_at_call 19
       (with_reducible refine (host1 97 w2.heap.size (w2.alloc (.cells #[.string ⟨#[97]⟩] 9)) (Blk.new _ _ _)).mono ?_)
       rintro e w3 ⟨rfl, f⟩
       have Gw3 := Lib.hid (Gw2.out.then <| ((Fr.refl (fun _ => False) w2).alloc _).then f)
       clear f)
    | (go_at_call 18
       (with_reducible refine (ask_any ⟨#[1, 97]⟩ w3).mono ?_)
       rintro e w4 ⟨rfl, f⟩
       have Gw4 := Lib.hid (Gw3.out.then f)
       clear f)
    | (go_at_call 10
       (with_reducible refine (books25 w4.heap.size (w4.alloc (.cells #[.int .i64 0, .int .u16 0, .bool false, .int .i64 0, .bool false, .bool false, .bool false, .bool false, .bool false, .bool false, .int .i64 0, .int .i64 0, .int .i64 0, .int .i64 0, .int .i64 0, .string ⟨#[1, 97]⟩, .int .i64 1, .int .i64 1] 69)) (Blk.new _ _ _)).mono ?_)
       rintro e w5 ⟨⟨b, r, rfl, ⟨A', c', hk⟩, _⟩, f⟩
       have HK := Lib.hid hk
       have Gw5 := Lib.hid (Gw4.out.then (((Fr.refl (fun _ => False) w4).alloc _).then f))
       clear hk f)
    | fail "no arm")
  go_upto_region 5 with (first
    | (go_at_call 19
       (with_reducible refine (host1 65 w5.heap.size (w5.alloc (.cells #[.string ⟨#[65]⟩] 9)) (Blk.new _ _ _)).mono ?_)
       rintro e w6 ⟨rfl, f⟩
       have Gw6 := Lib.hid (((Fr.refl (fun _ => False) w5).alloc _).then f)
       clear f)
    | (go_at_call 18
       (with_reducible refine (ask_any ⟨#[1, 65]⟩ w6).mono ?_)
       rintro e w7 ⟨rfl, f⟩
       have Gw7 := Lib.hid (Gw6.out.then f)
       clear f)
    | (go_at_call 11
       (with_reducible refine (reply25 w7).mono ?_)
       rintro e w8 ⟨ga, rfl, b, k, f⟩
       have Gw8 := Lib.hid (Gw7.out.then f)
       have Rw8 := Lib.hid b
       clear b k f)
    | (go_at_call 12
       (with_reducible refine (match25y b A' c' ga w8 (HK.out.fr0 Gw8.out) Rw8.out).mono ?_)
       rintro e w9 ⟨X2, e2, rfl, f⟩
       have Gw9 := Lib.hid (Gw8.out.then f)
       clear f)
    | (refine wpList_store_part rfl 28 _ _ rfl w9.heap.size 0 (by rfl) _ (by rfl) 28 _ (Blk.new w9 28 _) (by kernel_rfl) (by simp [Value.oneCell']) (by simp) #[.int .u16 7, .string ⟨#[1, 97]⟩, .int .i64 1, .int .i64 1, .int .i64 0, .int .i64 0, .int .i64 0, .slice X2 1 e2] (by rfl) ?_
       intro w10 b3 f3
       have Gw10 := Lib.hid (Gw9.out.then (((Fr.refl (fun _ => False) w9).alloc _).step f3 (fun k hk => .inr (by subst hk; exact Nat.le_refl _))))
       have Bw10 := Lib.hid b3
       clear b3 f3)
    | fail "no arm")
  go_upto_region 6 with (first
    | (go_at_call 19
       (with_reducible refine (host1 65 w10.heap.size (w10.alloc (.cells #[.string ⟨#[65]⟩] 9)) (Blk.new _ _ _)).mono ?_)
       rintro e w11 ⟨rfl, f⟩
       have Gw11 := Lib.hid (((Fr.refl (fun _ => False) w10).alloc _).then f)
       clear f)
    | (go_at_call 18
       (with_reducible refine (ask_any ⟨#[1, 65]⟩ w11).mono ?_)
       rintro e w12 ⟨rfl, f⟩
       have Gw12 := Lib.hid (Gw11.out.then f)
       clear f)
    | (go_at_call 11
       (with_reducible refine (reply25 w12).mono ?_)
       rintro e w13 ⟨gb, rfl, b, k, f⟩
       have Gw13 := Lib.hid (Gw12.out.then f)
       have Rw13 := Lib.hid b
       clear b k f)
    | (go_at_call 12
       (with_reducible refine (match25n b A' c' gb w13 (HK.out.fr0 (Gw10.out.then Gw13.out)) Rw13.out).mono ?_)
       rintro e w14 ⟨rfl, f⟩
       have Gw14 := Lib.hid (Gw13.out.then f)
       have F14 := Lib.hid f
       clear f)
    | (refine wpList_store_part rfl 28 _ _ rfl w14.heap.size 0 (by rfl) _ (by rfl) 28 _ (Blk.new w14 28 _) (by kernel_rfl) (by simp [Value.oneCell']) (by simp) #[.int .u16 0, .string ⟨#[]⟩, .int .i64 0, .int .i64 0, .int .i64 0, .int .i64 0, .int .i64 0, .slice none 0 0] (by rfl) ?_
       intro w15 b3 f3
       have Gw15 := Lib.hid (Gw14.out.then (((Fr.refl (fun _ => False) w14).alloc _).step f3 (fun k hk => .inr (by subst hk; exact Nat.le_refl _))))
       have Bw15 := Lib.hid b3
       clear b3 f3)
    | fail "no arm")
  have c0 : w15.cell? ⟨w9.heap.size, 0, none⟩ = some (.int .u16 7) := (Bw10.out.fr Gw15.out id).cell 0
  go_wp2_with fail
  go_ret
  exact ⟨rfl, (Gw5.out.then Gw10.out).then Gw15.out⟩
end Go.Proofs.Ytncfdfgcnblicaa
