/-
  LAYER 10: RecordNames: the law's walk.
-/
import Derived.Test.YtaloihnmefbbaaaBunJ
namespace Go.Proofs.Ytaloihnmefbbaaa
set_option linter.unusedVariables false
set_option linter.unusedSimpArgs false
open Go.RowKit
set_option maxRecDepth 100000 in
set_option maxHeartbeats 16000000 in
theorem recordNames_walk (w : World) : Calls Try.prog 8 #[] w fun e w' => e = .returned (.bool true) ∧ Below w.heap.size w w' := by
  have HF := Lib.hid (Fr.refl (fun _ => False) w)
  go_enter Try.func8, Try.ntmps8
  go_upto_region 6 with (first
    | (go_at_call 10
       (with_reducible refine (lives10_any _).mono ?_)
       rintro e w1 ⟨rfl, f1⟩
       have HF := Lib.hid (HF.out.then f1)
       clear f1)
    | (go_at_call 32
       (first | (with_reducible refine (rd_e _).mono ?_) | (with_reducible refine (rd_f _).mono ?_) | (with_reducible refine (rd_g _).mono ?_))
       rintro e w1 ⟨A, cap, rfl, f1⟩
       have HF := Lib.hid (HF.out.then f1)
       clear f1)
    | (refine wpList_store_part rfl 32 _ _ rfl _ 0 (by rfl) _ (by rfl) 32 _ (Blk.new _ _ _) (by kernel_rfl) (by simp [Value.oneCell']) (by simp) _ (by rfl) ?_
       intro w1 b1 f1
       have HF := Lib.hid ((HF.out.alloc _).step f1 (fun k hk => .inr (by subst hk; exact HF.out.size)))
       clear b1 f1)
    | fail "no arm")
  go_upto_region 7 with (first
    | (go_at_call 33
       (with_reducible refine (rd_h _).mono ?_)
       rintro e w6 ⟨rfl, f1⟩
       have HF := Lib.hid (HF.out.then f1)
       clear f1)
    | (refine wpList_store_part rfl 46 _ _ rfl w6.heap.size 0 (by rfl) [.string ⟨#[1, 97]⟩, .int .i64 28, .int .i64 1] (by rfl) 46 _ (Blk.new _ _ _) (by kernel_rfl) (by simp [Value.oneCell']) (by simp) #[.string ⟨#[1, 97]⟩, .int .i64 28, .int .i64 1] (by rfl) ?_
       intro w7 b1 f1
       have HF := Lib.hid ((HF.out.alloc _).step f1 (fun k hk => .inr (by subst hk; exact HF.out.size)))
       have HQ := Lib.hid b1
       clear b1 f1)
    | fail "no arm")
  have hqq := q_eql ⟨#[1, 97]⟩ ⟨#[1, 97]⟩ 28 28 1 1 (by decide) (by decide) (by unfold i64ok; decide) (by unfold i64ok; decide) (by unfold i64ok; decide) (by unfold i64ok; decide)
  rw [show qsameB ⟨#[1, 97]⟩ ⟨#[1, 97]⟩ 28 28 1 1 = true by kernel_rfl] at hqq
  have k0 := HQ.out.cell 0
  have k1 := HQ.out.cell 1
  have k2 := HQ.out.cell 2
  simp only [List.getElem?_toArray, List.getElem?_cons_zero, List.getElem?_cons_succ] at k0 k1 k2
  go_wp2_with (first
    | (go_at_call 33
       (with_reducible refine (rd_i _).mono ?_)
       rintro e w8 ⟨rfl, f1⟩
       have HF := Lib.hid (HF.out.then f1)
       clear k0 k1 k2
       have HQ := Lib.hid (HQ.out.fr f1 id)
       have k0 := HQ.out.cell 0
       have k1 := HQ.out.cell 1
       have k2 := HQ.out.cell 2
       simp only [List.getElem?_toArray, List.getElem?_cons_zero, List.getElem?_cons_succ] at k0 k1 k2
       clear f1)
    | (refine wpList_store_part rfl 46 _ _ rfl _ 0 (by rfl) [.string ⟨#[]⟩, .int .i64 0, .int .i64 0] (by rfl) 46 _ (Blk.new _ _ _) (by kernel_rfl) (by simp [Value.oneCell']) (by simp) _ (by rfl) ?_
       intro w9 b1 f1
       have HF := Lib.hid ((HF.out.alloc _).step f1 (fun k hk => .inr (by subst hk; exact HF.out.size)))
       clear k0 k1 k2
       have HQ := Lib.hid ((HQ.out.alloc _).fr f1 (fun e => Nat.ne_of_lt HQ.out.lt e))
       have k0 := HQ.out.cell 0
       have k1 := HQ.out.cell 1
       have k2 := HQ.out.cell 2
       simp only [List.getElem?_toArray, List.getElem?_cons_zero, List.getElem?_cons_succ] at k0 k1 k2
       clear b1 f1)
    | (go_at_call 13
       (with_reducible refine (put_nil10 _).mono ?_)
       rintro e w8 ⟨rfl, f1⟩
       have HF := Lib.hid (HF.out.then f1)
       clear k0 k1 k2
       have HQ := Lib.hid (HQ.out.fr f1 id)
       have k0 := HQ.out.cell 0
       have k1 := HQ.out.cell 1
       have k2 := HQ.out.cell 2
       simp only [List.getElem?_toArray, List.getElem?_cons_zero, List.getElem?_cons_succ] at k0 k1 k2
       clear f1)
    | (go_at_call 20
       (with_reducible refine (qput_nil10 _ _ _ _).mono ?_)
       rintro e w8 ⟨rfl, f1⟩
       have HF := Lib.hid (HF.out.then f1)
       clear k0 k1 k2
       have HQ := Lib.hid (HQ.out.fr f1 id)
       have k0 := HQ.out.cell 0
       have k1 := HQ.out.cell 1
       have k2 := HQ.out.cell 2
       simp only [List.getElem?_toArray, List.getElem?_cons_zero, List.getElem?_cons_succ] at k0 k1 k2
       clear f1)
    | (go_at_call 14
       (first | (with_reducible refine (ck_a _).mono ?_) | (with_reducible refine (ck_b _).mono ?_))
       rintro e w8 ⟨rfl, f1⟩
       have HF := Lib.hid (HF.out.then f1)
       clear k0 k1 k2
       have HQ := Lib.hid (HQ.out.fr f1 id)
       have k0 := HQ.out.cell 0
       have k1 := HQ.out.cell 1
       have k2 := HQ.out.cell 2
       simp only [List.getElem?_toArray, List.getElem?_cons_zero, List.getElem?_cons_succ] at k0 k1 k2
       clear f1)
    | (go_at_call 34
       (with_reducible refine (ck_q _).mono ?_)
       rintro e w8 ⟨rfl, f1⟩
       have HF := Lib.hid (HF.out.then f1)
       clear k0 k1 k2
       have HQ := Lib.hid (HQ.out.fr f1 id)
       have k0 := HQ.out.cell 0
       have k1 := HQ.out.cell 1
       have k2 := HQ.out.cell 2
       simp only [List.getElem?_toArray, List.getElem?_cons_zero, List.getElem?_cons_succ] at k0 k1 k2
       clear f1)
    | (go_at_call 21
       (first | (with_reducible refine (sm_a _).mono ?_) | (with_reducible refine (sm_b _).mono ?_))
       rintro e w8 ⟨rfl, f1⟩
       have HF := Lib.hid (HF.out.then f1)
       clear k0 k1 k2
       have HQ := Lib.hid (HQ.out.fr f1 id)
       have k0 := HQ.out.cell 0
       have k1 := HQ.out.cell 1
       have k2 := HQ.out.cell 2
       simp only [List.getElem?_toArray, List.getElem?_cons_zero, List.getElem?_cons_succ] at k0 k1 k2
       clear f1)
    | (go_at_call 35
       (with_reducible refine (sz_a _).mono ?_)
       rintro e w8 ⟨rfl, f1⟩
       have HF := Lib.hid (HF.out.then f1)
       clear k0 k1 k2
       have HQ := Lib.hid (HQ.out.fr f1 id)
       have k0 := HQ.out.cell 0
       have k1 := HQ.out.cell 1
       have k2 := HQ.out.cell 2
       simp only [List.getElem?_toArray, List.getElem?_cons_zero, List.getElem?_cons_succ] at k0 k1 k2
       clear f1)
    | fail "no arm")
  go_ret
  exact ⟨rfl, HF.out.below (fun _ h => h.elim) (Nat.le_refl _)⟩
end Go.Proofs.Ytaloihnmefbbaaa
