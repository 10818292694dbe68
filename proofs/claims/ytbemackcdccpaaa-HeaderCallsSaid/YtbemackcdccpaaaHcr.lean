/-
  THE CONTRACTS OF THE REFERENCE OF LAYER 6: Check, flag, Reply, Put.
-/
import Derived.Test.YtbemackcdccpaaaHdrrep
import Derived.Test.YtbemackcdccpaaaHdbits2
import Derived.Test.YtbemackcdccpaaaRefa
import Derived.BigQuiet
namespace Go.Proofs.Ytbemackcdccpaaa
open Go.RowKit

theorem Hd.ok_le (h : Hd) {j : Nat} (hj : h.okTo j = false) : ∀ k, j ≤ k → h.okTo k = false
  | 0, h0 => by
    have : j = 0 := by omega
    subst this; exact hj
  | k + 1, h0 => by
    by_cases e : j = k + 1
    · subst e; exact hj
    · have := h.ok_le hj k (by omega)
      show (h.okTo k && _) = false
      rw [this]; rfl
theorem Hd.check_no (h : Hd) {j : Nat} (hj : h.okTo j = false) (hk : j ≤ 4) : h.check = 2 := by
  have := h.ok_le hj 4 hk
  rw [h.okTo4] at this
  unfold Hd.check
  rw [this]; rfl
theorem Hd.check_yes (h : Hd) (hj : h.okTo 4 = true) : h.check = 0 := by
  rw [h.okTo4] at hj
  unfold Hd.check
  rw [hj]; rfl

set_option maxRecDepth 100000 in
set_option maxHeartbeats 4000000 in
theorem rcheck6_any (h : Hd) (w : World) :
    Calls Try.prog 67 #[h.val] w fun e w' => e = .returned (.int .i64 h.check) ∧ Fr (fun _ => False) w w' := by
  have hb := Blk.new w 45 h.cells.toArray
  have hf : Fr (fun _ => False) w (w.alloc (.cells h.cells.toArray 45)) := (Fr.refl _ _).alloc _
  change Blk (w.alloc (.cells #[.int .u16 h.id, .bool h.resp, .int .i64 h.op, .bool h.aa, .bool h.tc, .bool h.rd, .bool h.ra, .bool h.ad, .bool h.cd, .int .i64 h.rc, .int .i64 h.c0, .int .i64 h.c1, .int .i64 h.c2, .int .i64 h.c3] 45)) w.heap.size 45 _ at hb
  change Fr (fun _ => False) w (w.alloc (.cells #[.int .u16 h.id, .bool h.resp, .int .i64 h.op, .bool h.aa, .bool h.tc, .bool h.rd, .bool h.ra, .bool h.ad, .bool h.cd, .int .i64 h.rc, .int .i64 h.c0, .int .i64 h.c1, .int .i64 h.c2, .int .i64 h.c3] 45)) at hf
  have HV : Hid (∀ j, j ≤ 4 → h.okTo j = false → h.check = 2) := fun j hj e => h.check_no e hj
  have HY : Hid (h.okTo 4 = true → h.check = 0) := h.check_yes
  have h0 : h.okTo 0 = (four h.op && four h.rc) := rfl
  have hst : ∀ k, h.okTo (k + 1) = (h.okTo k && sixteen (h.count k)) := fun _ => rfl
  have HS := Lib.hid hst
  clear hst
  have HB := Lib.hid hb
  have HF := Lib.hid hf
  have c2 : (w.alloc (.cells #[.int .u16 h.id, .bool h.resp, .int .i64 h.op, .bool h.aa, .bool h.tc, .bool h.rd, .bool h.ra, .bool h.ad, .bool h.cd, .int .i64 h.rc, .int .i64 h.c0, .int .i64 h.c1, .int .i64 h.c2, .int .i64 h.c3] 45)).cell? ⟨w.heap.size, 2, none⟩ = some (.int .i64 h.op) := hb.cell 2
  have c9 : (w.alloc (.cells #[.int .u16 h.id, .bool h.resp, .int .i64 h.op, .bool h.aa, .bool h.tc, .bool h.rd, .bool h.ra, .bool h.ad, .bool h.cd, .int .i64 h.rc, .int .i64 h.c0, .int .i64 h.c1, .int .i64 h.c2, .int .i64 h.c3] 45)).cell? ⟨w.heap.size, 9, none⟩ = some (.int .i64 h.rc) := hb.cell 9
  clear hb hf
  rcases (show (0 ≤ h.op ∧ h.op ≤ 15 ∧ 0 ≤ h.rc ∧ h.rc ≤ 15) ∨ ¬ 0 ≤ h.op ∨ (0 ≤ h.op ∧ ¬ h.op ≤ 15) ∨ (0 ≤ h.op ∧ h.op ≤ 15 ∧ ¬ 0 ≤ h.rc) ∨ (0 ≤ h.op ∧ h.op ≤ 15 ∧ 0 ≤ h.rc ∧ ¬ h.rc ≤ 15) by omega)
    with ⟨a1, a2, a3, a4⟩ | a1 | ⟨a1, a2⟩ | ⟨a1, a2, a3⟩ | ⟨a1, a2, a3, a4⟩
  · have HZ : Hid (h.okTo 0 = true) := by show h.okTo 0 = true; rw [h0]; simp [four, *]
    clear h0
    go_enter Try.func67, Try.ntmps67
    go_wp2_with fail
    clear a1 a2 a3 a4 c2 c9
    generalize w.alloc (.cells #[.int .u16 h.id, .bool h.resp, .int .i64 h.op, .bool h.aa, .bool h.tc, .bool h.rd, .bool h.ra, .bool h.ad, .bool h.cd, .int .i64 h.rc, .int .i64 h.c0, .int .i64 h.c1, .int .i64 h.c2, .int .i64 h.c3] 45) = W at *
    generalize w.heap.size = p at *
    have c10 : W.cell? ⟨p, 10, none⟩ = some (.int .i64 h.c0) := HB.out.cell 10
    have c11 : W.cell? ⟨p, 11, none⟩ = some (.int .i64 h.c1) := HB.out.cell 11
    have c12 : W.cell? ⟨p, 12, none⟩ = some (.int .i64 h.c2) := HB.out.cell 12
    have c13 : W.cell? ⟨p, 13, none⟩ = some (.int .i64 h.c3) := HB.out.cell 13
    go_loop [3] (fun i => ∃ k : Nat, k ≤ 4 ∧ i = .int .i64 k ∧ h.okTo k = true) (fun i => 4 - (intOf i).toNat)
    case atStart => exact ⟨0, Nat.zero_le _, rfl, HZ.out⟩
    case round =>
      obtain ⟨k, hk, rfl, hok⟩ := hrel
      have HO := Lib.hid hok
      clear hok
      rcases (show k = 0 ∨ k = 1 ∨ k = 2 ∨ k = 3 ∨ k = 4 by omega) with rfl | rfl | rfl | rfl | rfl
      · have H1 := Lib.hid (HS.out 0)
        rcases (show ¬ 0 ≤ h.c0 ∨ (0 ≤ h.c0 ∧ ¬ h.c0 ≤ 65535) ∨ (0 ≤ h.c0 ∧ h.c0 ≤ 65535) by omega) with b1 | ⟨b1, b2⟩ | ⟨b1, b2⟩
        · have HC : Hid (h.check = 2) := HV.out 1 (by decide) (by rw [H1.out]; simp only [sixteen, Hd.count, Bool.and_eq_false_iff, decide_eq_false_iff_not]; omega)
          go_wp2_with fail
          go_ret
          exact ⟨by rw [HC.out]; rfl, HF.out⟩
        · have HC : Hid (h.check = 2) := HV.out 1 (by decide) (by rw [H1.out]; simp only [sixteen, Hd.count, Bool.and_eq_false_iff, decide_eq_false_iff_not]; omega)
          go_wp2_with fail
          go_ret
          exact ⟨by rw [HC.out]; rfl, HF.out⟩
        · have HN : Hid (h.okTo 1 = true) := by show h.okTo 1 = true; rw [H1.out, HO.out]; simp [sixteen, Hd.count, b1, b2]
          go_wp2_with fail
          go_round
          case rel => exact ⟨1, by decide, by go_num, HN.out⟩
          case measure => simp [intOf]
      · have H1 := Lib.hid (HS.out 1)
        rcases (show ¬ 0 ≤ h.c1 ∨ (0 ≤ h.c1 ∧ ¬ h.c1 ≤ 65535) ∨ (0 ≤ h.c1 ∧ h.c1 ≤ 65535) by omega) with b1 | ⟨b1, b2⟩ | ⟨b1, b2⟩
        · have HC : Hid (h.check = 2) := HV.out 2 (by decide) (by rw [H1.out]; simp only [sixteen, Hd.count, Bool.and_eq_false_iff, decide_eq_false_iff_not]; omega)
          go_wp2_with fail
          go_ret
          exact ⟨by rw [HC.out]; rfl, HF.out⟩
        · have HC : Hid (h.check = 2) := HV.out 2 (by decide) (by rw [H1.out]; simp only [sixteen, Hd.count, Bool.and_eq_false_iff, decide_eq_false_iff_not]; omega)
          go_wp2_with fail
          go_ret
          exact ⟨by rw [HC.out]; rfl, HF.out⟩
        · have HN : Hid (h.okTo 2 = true) := by show h.okTo 2 = true; rw [H1.out, HO.out]; simp [sixteen, Hd.count, b1, b2]
          go_wp2_with fail
          go_round
          case rel => exact ⟨2, by decide, by go_num, HN.out⟩
          case measure => simp [intOf]
      · have H1 := Lib.hid (HS.out 2)
        rcases (show ¬ 0 ≤ h.c2 ∨ (0 ≤ h.c2 ∧ ¬ h.c2 ≤ 65535) ∨ (0 ≤ h.c2 ∧ h.c2 ≤ 65535) by omega) with b1 | ⟨b1, b2⟩ | ⟨b1, b2⟩
        · have HC : Hid (h.check = 2) := HV.out 3 (by decide) (by rw [H1.out]; simp only [sixteen, Hd.count, Bool.and_eq_false_iff, decide_eq_false_iff_not]; omega)
          go_wp2_with fail
          go_ret
          exact ⟨by rw [HC.out]; rfl, HF.out⟩
        · have HC : Hid (h.check = 2) := HV.out 3 (by decide) (by rw [H1.out]; simp only [sixteen, Hd.count, Bool.and_eq_false_iff, decide_eq_false_iff_not]; omega)
          go_wp2_with fail
          go_ret
          exact ⟨by rw [HC.out]; rfl, HF.out⟩
        · have HN : Hid (h.okTo 3 = true) := by show h.okTo 3 = true; rw [H1.out, HO.out]; simp [sixteen, Hd.count, b1, b2]
          go_wp2_with fail
          go_round
          case rel => exact ⟨3, by decide, by go_num, HN.out⟩
          case measure => simp [intOf]
      · have H1 := Lib.hid (HS.out 3)
        rcases (show ¬ 0 ≤ h.c3 ∨ (0 ≤ h.c3 ∧ ¬ h.c3 ≤ 65535) ∨ (0 ≤ h.c3 ∧ h.c3 ≤ 65535) by omega) with b1 | ⟨b1, b2⟩ | ⟨b1, b2⟩
        · have HC : Hid (h.check = 2) := HV.out 4 (by decide) (by rw [H1.out]; simp only [sixteen, Hd.count, Bool.and_eq_false_iff, decide_eq_false_iff_not]; omega)
          go_wp2_with fail
          go_ret
          exact ⟨by rw [HC.out]; rfl, HF.out⟩
        · have HC : Hid (h.check = 2) := HV.out 4 (by decide) (by rw [H1.out]; simp only [sixteen, Hd.count, Bool.and_eq_false_iff, decide_eq_false_iff_not]; omega)
          go_wp2_with fail
          go_ret
          exact ⟨by rw [HC.out]; rfl, HF.out⟩
        · have HN : Hid (h.okTo 4 = true) := by show h.okTo 4 = true; rw [H1.out, HO.out]; simp [sixteen, Hd.count, b1, b2]
          go_wp2_with fail
          go_round
          case rel => exact ⟨4, by decide, by go_num, HN.out⟩
          case measure => simp [intOf]
      · go_wp2_with fail
        go_ret
        exact ⟨by rw [HY.out HO.out]; rfl, HF.out⟩
  all_goals
    have hc : h.check = 2 := HV.out 0 (by decide) (by rw [h0]; simp only [four, Bool.and_eq_false_iff, decide_eq_false_iff_not]; omega)
    have HC := Lib.hid hc
    clear hc h0
    go_enter Try.func67, Try.ntmps67
    go_wp2_with fail
    go_ret
    exact ⟨by rw [HC.out]; rfl, HF.out⟩

set_option maxRecDepth 100000 in
set_option maxHeartbeats 1000000 in
theorem flag_v (b : Bool) (j V : Int) (hj : (j = 15 ∧ V = 32768) ∨ (j = 10 ∧ V = 1024) ∨ (j = 9 ∧ V = 512) ∨ (j = 8 ∧ V = 256) ∨ (j = 7 ∧ V = 128) ∨ (j = 5 ∧ V = 32) ∨ (j = 4 ∧ V = 16)) (w : World) :
    Calls Try.prog 87 #[.bool b, .int .u64 j] w fun e w' => e = .returned (.int .u32 (V * (b01 b : Int))) ∧ w = w' := by
  have h1 : ∀ V : Int, V * ((b01 true : Nat) : Int) = V := fun V => by simp [b01]
  have h2 : ∀ V : Int, V * ((b01 false : Nat) : Int) = 0 := fun V => by simp [b01]
  cases b
  · rw [h2]
    clear h1 h2 hj
    go_enter Try.func87, Try.ntmps87
    go_wp2
    go_ret
    exact ⟨rfl, rfl⟩
  · rw [h1]
    clear h1 h2
    rcases hj with ⟨rfl, rfl⟩ | ⟨rfl, rfl⟩ | ⟨rfl, rfl⟩ | ⟨rfl, rfl⟩ | ⟨rfl, rfl⟩ | ⟨rfl, rfl⟩ | ⟨rfl, rfl⟩
    all_goals
      go_enter Try.func87, Try.ntmps87
      go_wp2
      go_ret
      exact ⟨rfl, rfl⟩
theorem flag_q (b : Bool) (j V : Int) (hj : (j = 15 ∧ V = 32768) ∨ (j = 10 ∧ V = 1024) ∨ (j = 9 ∧ V = 512) ∨ (j = 8 ∧ V = 256) ∨ (j = 7 ∧ V = 128) ∨ (j = 5 ∧ V = 32) ∨ (j = 4 ∧ V = 16)) (w : World) (n : Nat) :
    Calls Try.prog 87 #[.bool b, .int .u64 j] (w.drewN n) fun e w' => e = .returned (.int .u32 (V * (b01 b : Int))) ∧ ∃ m, w' = w.drewN m := by
  refine (flag_v b j V hj _).mono ?_
  rintro e w' ⟨rfl, rfl⟩
  exact ⟨rfl, n, rfl⟩

set_option maxRecDepth 100000 in
set_option maxHeartbeats 4000000 in
theorem rreply_any (h : Hd) (rc : Int) (w : World) :
    Calls Try.prog 68 #[h.val, .int .i64 rc] w fun e w' => e = .returned (h.reply rc).val ∧ Fr (fun _ => False) w w' := by
  have hrep : h.reply rc = ⟨h.id, true, h.op, false, false, h.rd, true, false, h.cd, rc % 16, 0, 0, 0, 0⟩ := rfl
  have h1 : rc.tmod 16 < 16 := Int.tmod_lt_of_pos _ (by decide)
  have h2 := Int.mul_tdiv_add_tmod rc 16
  have h3 : -16 < rc.tmod 16 := by have := Int.lt_tmod_of_pos rc (show (0 : Int) < 16 by decide); omega
  have hm : (rc.tmod 16 < 0 ∧ rc % 16 = rc.tmod 16 + 16) ∨ (0 ≤ rc.tmod 16 ∧ rc % 16 = rc.tmod 16) := by omega
  clear h2
  have HR := Lib.hid hrep
  clear hrep
  rcases hm with ⟨m1, m2⟩ | ⟨m1, m2⟩
  · have q1 : IntKind.i64.wrap (rc.tmod 16 + 16) = rc % 16 := by rw [IntWalk.i64_in _ (by omega)]; omega
    have HM := Lib.hid m2
    clear m2
    go_enter Try.func68, Try.ntmps68
    go_wp2_with fail
    have hb := Blk.new (w.alloc (.cells #[.int .u16 h.id, .bool h.resp, .int .i64 h.op, .bool h.aa, .bool h.tc, .bool h.rd, .bool h.ra, .bool h.ad, .bool h.cd, .int .i64 h.rc, .int .i64 h.c0, .int .i64 h.c1, .int .i64 h.c2, .int .i64 h.c3] 45)) 45
      #[.int .u16 h.id, .bool true, .int .i64 h.op, .bool false, .bool false, .bool h.rd, .bool true, .bool false, .bool h.cd, .int .i64 (rc % 16), .int .i64 0, .int .i64 0, .int .i64 0, .int .i64 0]
    have hf := ((Fr.refl (fun _ => False) w).alloc (.cells #[.int .u16 h.id, .bool h.resp, .int .i64 h.op, .bool h.aa, .bool h.tc, .bool h.rd, .bool h.ra, .bool h.ad, .bool h.cd, .int .i64 h.rc, .int .i64 h.c0, .int .i64 h.c1, .int .i64 h.c2, .int .i64 h.c3] 45)).alloc
      (.cells #[.int .u16 h.id, .bool true, .int .i64 h.op, .bool false, .bool false, .bool h.rd, .bool true, .bool false, .bool h.cd, .int .i64 (rc % 16), .int .i64 0, .int .i64 0, .int .i64 0, .int .i64 0] 45)
    rw [show (w.alloc (.cells #[.int .u16 h.id, .bool h.resp, .int .i64 h.op, .bool h.aa, .bool h.tc, .bool h.rd, .bool h.ra, .bool h.ad, .bool h.cd, .int .i64 h.rc, .int .i64 h.c0, .int .i64 h.c1, .int .i64 h.c2, .int .i64 h.c3] 45)).heap.size = w.heap.size + 1 by simp] at hb
    generalize (w.alloc (.cells #[.int .u16 h.id, .bool h.resp, .int .i64 h.op, .bool h.aa, .bool h.tc, .bool h.rd, .bool h.ra, .bool h.ad, .bool h.cd, .int .i64 h.rc, .int .i64 h.c0, .int .i64 h.c1, .int .i64 h.c2, .int .i64 h.c3] 45)).alloc
      (.cells #[.int .u16 h.id, .bool true, .int .i64 h.op, .bool false, .bool false, .bool h.rd, .bool true, .bool false, .bool h.cd, .int .i64 (rc % 16), .int .i64 0, .int .i64 0, .int .i64 0, .int .i64 0] 45) = W at *
    have d0 := hb.cell 0
    have d1 := hb.cell 1
    have d2 := hb.cell 2
    have d3 := hb.cell 3
    have d4 := hb.cell 4
    have d5 := hb.cell 5
    have d6 := hb.cell 6
    have d7 := hb.cell 7
    have d8 := hb.cell 8
    have d9 := hb.cell 9
    have d10 := hb.cell 10
    have d11 := hb.cell 11
    have d12 := hb.cell 12
    have d13 := hb.cell 13
    simp only [List.getElem?_toArray, List.getElem?_cons_zero, List.getElem?_cons_succ] at d0 d1 d2 d3 d4 d5 d6 d7 d8 d9 d10 d11 d12 d13
    refine bodyPost_ret (v := (h.reply rc).val) (by simp [results, Try.results68, go_sem, Hd.reply, d0, d1, d2, d3, d4, d5, d6, d7, d8, d9, d10, d11, d12, d13]) rfl ?_
    exact ⟨rfl, hf⟩
  · go_enter Try.func68, Try.ntmps68
    go_wp2_with fail
    rw [← m2]
    have hb := Blk.new (w.alloc (.cells #[.int .u16 h.id, .bool h.resp, .int .i64 h.op, .bool h.aa, .bool h.tc, .bool h.rd, .bool h.ra, .bool h.ad, .bool h.cd, .int .i64 h.rc, .int .i64 h.c0, .int .i64 h.c1, .int .i64 h.c2, .int .i64 h.c3] 45)) 45
      #[.int .u16 h.id, .bool true, .int .i64 h.op, .bool false, .bool false, .bool h.rd, .bool true, .bool false, .bool h.cd, .int .i64 (rc % 16), .int .i64 0, .int .i64 0, .int .i64 0, .int .i64 0]
    have hf := ((Fr.refl (fun _ => False) w).alloc (.cells #[.int .u16 h.id, .bool h.resp, .int .i64 h.op, .bool h.aa, .bool h.tc, .bool h.rd, .bool h.ra, .bool h.ad, .bool h.cd, .int .i64 h.rc, .int .i64 h.c0, .int .i64 h.c1, .int .i64 h.c2, .int .i64 h.c3] 45)).alloc
      (.cells #[.int .u16 h.id, .bool true, .int .i64 h.op, .bool false, .bool false, .bool h.rd, .bool true, .bool false, .bool h.cd, .int .i64 (rc % 16), .int .i64 0, .int .i64 0, .int .i64 0, .int .i64 0] 45)
    rw [show (w.alloc (.cells #[.int .u16 h.id, .bool h.resp, .int .i64 h.op, .bool h.aa, .bool h.tc, .bool h.rd, .bool h.ra, .bool h.ad, .bool h.cd, .int .i64 h.rc, .int .i64 h.c0, .int .i64 h.c1, .int .i64 h.c2, .int .i64 h.c3] 45)).heap.size = w.heap.size + 1 by simp] at hb
    generalize (w.alloc (.cells #[.int .u16 h.id, .bool h.resp, .int .i64 h.op, .bool h.aa, .bool h.tc, .bool h.rd, .bool h.ra, .bool h.ad, .bool h.cd, .int .i64 h.rc, .int .i64 h.c0, .int .i64 h.c1, .int .i64 h.c2, .int .i64 h.c3] 45)).alloc
      (.cells #[.int .u16 h.id, .bool true, .int .i64 h.op, .bool false, .bool false, .bool h.rd, .bool true, .bool false, .bool h.cd, .int .i64 (rc % 16), .int .i64 0, .int .i64 0, .int .i64 0, .int .i64 0] 45) = W at *
    have d0 := hb.cell 0
    have d1 := hb.cell 1
    have d2 := hb.cell 2
    have d3 := hb.cell 3
    have d4 := hb.cell 4
    have d5 := hb.cell 5
    have d6 := hb.cell 6
    have d7 := hb.cell 7
    have d8 := hb.cell 8
    have d9 := hb.cell 9
    have d10 := hb.cell 10
    have d11 := hb.cell 11
    have d12 := hb.cell 12
    have d13 := hb.cell 13
    simp only [List.getElem?_toArray, List.getElem?_cons_zero, List.getElem?_cons_succ] at d0 d1 d2 d3 d4 d5 d6 d7 d8 d9 d10 d11 d12 d13
    refine bodyPost_ret (v := (h.reply rc).val) (by simp [results, Try.results68, go_sem, Hd.reply, d0, d1, d2, d3, d4, d5, d6, d7, d8, d9, d10, d11, d12, d13]) rfl ?_
    exact ⟨rfl, hf⟩
end Go.Proofs.Ytbemackcdccpaaa
