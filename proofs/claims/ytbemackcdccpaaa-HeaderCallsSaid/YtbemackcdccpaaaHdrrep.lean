/-
  LAYER 6: Reply, and the chapter's own example.
-/
import Derived.Test.YtbemackcdccpaaaHdrput
import Derived.Test.YtbemackcdccpaaaLives3
namespace Go.Proofs.Ytbemackcdccpaaa
open Go.RowKit

theorem i64_and15 (n : Int) : bits .and .i64 n 15 = n % 16 := by
  show IntKind.i64.wrap ((BitVec.ofInt 64 n &&& BitVec.ofInt 64 15).toNat : Int) = _
  have e : (BitVec.ofInt 64 15).toNat = 2 ^ 4 - 1 := rfl
  rw [BitVec.toNat_and, e, Nat.and_two_pow_sub_one_eq_mod, BitVec.toNat_ofInt, IntKind.wrap_i64]
  omega
theorem pick16 (n : Int) : pick n 16 = n % 16 := by
  have h1 : n.tmod 16 < 16 := Int.tmod_lt_of_pos _ (by decide)
  have h2 := Int.mul_tdiv_add_tmod n 16
  have h3 : -16 < n.tmod 16 := by have := Int.lt_tmod_of_pos n (show (0 : Int) < 16 by decide); omega
  unfold pick
  split <;> omega

def Hd.reply (h : Hd) (rc : Int) : Hd := ⟨h.id, true, h.op, false, false, h.rd, true, false, h.cd, rc % 16, 0, 0, 0, 0⟩

set_option maxRecDepth 100000 in
set_option maxHeartbeats 4000000 in
theorem reply_any (h : Hd) (rc : Int) (w : World) :
    Calls Try.prog 39 #[h.val, .int .i64 rc] w fun e w' => e = .returned (h.reply rc).val ∧ Fr (fun _ => False) w w' := by
  have ha := i64_and15 rc
  go_enter Try.func39, Try.ntmps39
  go_wp2_with fail
  have hb := Blk.new (w.alloc (.cells #[.int .u16 h.id, .bool h.resp, .int .i64 h.op, .bool h.aa, .bool h.tc, .bool h.rd, .bool h.ra, .bool h.ad, .bool h.cd, .int .i64 h.rc, .int .i64 h.c0, .int .i64 h.c1, .int .i64 h.c2, .int .i64 h.c3] 45)) 45
    #[.int .u16 h.id, .bool true, .int .i64 h.op, .bool false, .bool false, .bool h.rd, .bool true, .bool false, .bool h.cd, .int .i64 (rc % 16), .int .i64 0, .int .i64 0, .int .i64 0, .int .i64 0]
  have hf := ((Fr.refl (fun _ => False) w).alloc (.cells #[.int .u16 h.id, .bool h.resp, .int .i64 h.op, .bool h.aa, .bool h.tc, .bool h.rd, .bool h.ra, .bool h.ad, .bool h.cd, .int .i64 h.rc, .int .i64 h.c0, .int .i64 h.c1, .int .i64 h.c2, .int .i64 h.c3] 45)).alloc
    (.cells #[.int .u16 h.id, .bool true, .int .i64 h.op, .bool false, .bool false, .bool h.rd, .bool true, .bool false, .bool h.cd, .int .i64 (rc % 16), .int .i64 0, .int .i64 0, .int .i64 0, .int .i64 0] 45)
  rw [show (w.alloc (.cells #[.int .u16 h.id, .bool h.resp, .int .i64 h.op, .bool h.aa, .bool h.tc, .bool h.rd, .bool h.ra, .bool h.ad, .bool h.cd, .int .i64 h.rc, .int .i64 h.c0, .int .i64 h.c1, .int .i64 h.c2, .int .i64 h.c3] 45)).heap.size = w.heap.size + 1 by simp] at hb
  generalize (w.alloc (.cells #[.int .u16 h.id, .bool h.resp, .int .i64 h.op, .bool h.aa, .bool h.tc, .bool h.rd, .bool h.ra, .bool h.ad, .bool h.cd, .int .i64 h.rc, .int .i64 h.c0, .int .i64 h.c1, .int .i64 h.c2, .int .i64 h.c3] 45)).alloc
    (.cells #[.int .u16 h.id, .bool true, .int .i64 h.op, .bool false, .bool false, .bool h.rd, .bool true, .bool false, .bool h.cd, .int .i64 (rc % 16), .int .i64 0, .int .i64 0, .int .i64 0, .int .i64 0] 45) = W at *
  have d0 := hb.cell 0
  have d1 := hb.cell 1
  have d2 := hb.cell 2
  have d3 := hb.cell 3
  have d4 := hb.cell 4
  have d5 := hb.cell 5
  have d6 := hb.cell 6
  have d7 := hb.cell 7
  have d8 := hb.cell 8
  have d9 := hb.cell 9
  have d10 := hb.cell 10
  have d11 := hb.cell 11
  have d12 := hb.cell 12
  have d13 := hb.cell 13
  simp only [List.getElem?_toArray, List.getElem?_cons_zero, List.getElem?_cons_succ] at d0 d1 d2 d3 d4 d5 d6 d7 d8 d9 d10 d11 d12 d13
  refine bodyPost_ret (v := (h.reply rc).val) (by simp [results, Try.results39, go_sem, Hd.reply, d0, d1, d2, d3, d4, d5, d6, d7, d8, d9, d10, d11, d12, d13]) rfl ?_
  exact ⟨rfl, hf⟩

set_option maxRecDepth 100000 in
set_option maxHeartbeats 4000000 in
theorem lives6_any (w : World) :
    Calls Try.prog 37 #[] w fun e w' => e = .returned (.bool true) ∧ Fr (fun _ => False) w w' := by
  have hp : (Hd.mk 1 false 0 false false true false false false 0 1 0 0 0).put = ⟨#[0, 1, 1, 0, 0, 1, 0, 0, 0, 0, 0, 0]⟩ := by kernel_rfl
  have hc : (Hd.mk 1 false 0 false false true false false false 0 1 0 0 0).check = 0 := by kernel_rfl
  go_enter Try.func37, Try.ntmps37
  go_wp2_with fail
  refine (put_hd ⟨1, false, 0, false, false, true, false, false, false, 0, 1, 0, 0, 0⟩ _ (by simp [Hd.ok])).mono ?_
  rintro e w' ⟨rfl, f1⟩
  rw [hp, hc]
  clear hp hc
  go_wp2_with fail
  go_ret
  exact ⟨rfl, f1⟩
end Go.Proofs.Ytbemackcdccpaaa
