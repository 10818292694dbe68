/-
  LAYER 6: HeaderNames.
-/
import Derived.Test.YtbemackcdccpaaaHdrread
import Derived.Test.YtbemackcdccpaaaHdreq
import Derived.Test.YtbemackcdccpaaaHdrrep
namespace Go.Proofs.Ytbemackcdccpaaa
open Go.RowKit

set_option maxRecDepth 100000 in
set_option maxHeartbeats 4000000 in
theorem headerNames_walk (w : World) :
    Calls Try.prog 18 #[] w fun e w' => e = .returned (.bool true) ∧ Below w.heap.size w w' := by
  have r1 : readHd ⟨#[0, 1, 1, 0, 0, 1, 0, 0, 0, 0, 0]⟩ = (Hd.zero, 8) := by kernel_rfl
  have r2 : readHd ⟨#[0, 1, 0, 64, 0, 1, 0, 0, 0, 0, 0, 0]⟩ = (Hd.zero, 4) := by kernel_rfl
  have r3 : readHd ⟨#[18, 52, 255, 191, 0, 1, 0, 2, 0, 3, 0, 4, 109, 111, 114, 101]⟩ = (⟨4660, true, 15, true, true, true, true, true, true, 15, 1, 2, 3, 4⟩, 0) := by kernel_rfl
  have p1 : (Hd.mk 0 false 16 false false false false false false 0 0 0 0 0).put = ⟨#[]⟩ := by kernel_rfl
  have q1 : (Hd.mk 0 false 16 false false false false false false 0 0 0 0 0).check = 2 := by kernel_rfl
  have p2 : (Hd.mk 0 false 0 false false false false false false 0 0 0 65536 0).put = ⟨#[]⟩ := by kernel_rfl
  have q2 : (Hd.mk 0 false 0 false false false false false false 0 0 0 65536 0).check = 2 := by kernel_rfl
  have q3 : (Hd.mk 0 false 0 false false false false false false (-1) 0 0 0 0).check = 2 := by kernel_rfl
  have rp : (Hd.mk 7 false 2 true false true false true false 0 1 0 0 0).reply (-1) = ⟨7, true, 2, false, false, true, true, false, false, 15, 0, 0, 0, 0⟩ := by kernel_rfl
  have h3 : ∀ w, (Go.binOp .eql 45 (.agg #[.int .u16 4660, .bool true, .int .i64 15, .bool true, .bool true, .bool true, .bool true, .bool true, .bool true, .int .i64 15, .int .i64 1, .int .i64 2, .int .i64 3, .int .i64 4]) (.agg #[.int .u16 4660, .bool true, .int .i64 15, .bool true, .bool true, .bool true, .bool true, .bool true, .bool true, .int .i64 15, .int .i64 1, .int .i64 2, .int .i64 3, .int .i64 4])).run Try.prog w = .ok (.bool true) w := fun w =>
    (hd_eql ⟨4660, true, 15, true, true, true, true, true, true, 15, 1, 2, 3, 4⟩ ⟨4660, true, 15, true, true, true, true, true, true, 15, 1, 2, 3, 4⟩ (by simp [Hd.ok]) (by simp [Hd.ok]) w).trans (by simp)
  have h4 : ∀ w, (Go.binOp .eql 45 (.agg #[.int .u16 7, .bool true, .int .i64 2, .bool false, .bool false, .bool true, .bool true, .bool false, .bool false, .int .i64 15, .int .i64 0, .int .i64 0, .int .i64 0, .int .i64 0]) (.agg #[.int .u16 7, .bool true, .int .i64 2, .bool false, .bool false, .bool true, .bool true, .bool false, .bool false, .int .i64 15, .int .i64 0, .int .i64 0, .int .i64 0, .int .i64 0])).run Try.prog w = .ok (.bool true) w := fun w =>
    (hd_eql ⟨7, true, 2, false, false, true, true, false, false, 15, 0, 0, 0, 0⟩ ⟨7, true, 2, false, false, true, true, false, false, 15, 0, 0, 0, 0⟩ (by simp [Hd.ok]) (by simp [Hd.ok]) w).trans (by simp)
  go_enter Try.func18, Try.ntmps18
  go_wp2_with fail
  refine (lives6_any _).mono ?_
  rintro e w1 ⟨rfl, f1⟩
  have F := Lib.hid f1
  clear f1
  go_wp2_with fail
  refine (read_hd _ _ (by decide)).mono ?_
  rintro e w2 ⟨rfl, f2⟩
  replace F := Lib.hid ((F.out.then f2).alloc (.cells #[.int .u16 0, .bool false, .int .i64 0, .bool false, .bool false, .bool false, .bool false, .bool false, .bool false, .int .i64 0, .int .i64 0, .int .i64 0, .int .i64 0, .int .i64 0] 45))
  rw [r1]
  clear f2 r1
  go_wp2_with fail
  change Calls _ _ _ (w2.alloc (.cells #[.int .u16 0, .bool false, .int .i64 0, .bool false, .bool false, .bool false, .bool false, .bool false, .bool false, .int .i64 0, .int .i64 0, .int .i64 0, .int .i64 0, .int .i64 0] 45)) _
  generalize w2.alloc (.cells #[.int .u16 0, .bool false, .int .i64 0, .bool false, .bool false, .bool false, .bool false, .bool false, .bool false, .int .i64 0, .int .i64 0, .int .i64 0, .int .i64 0, .int .i64 0] 45) = W2 at F ⊢
  refine (read_hd _ _ (by decide)).mono ?_
  rintro e w3 ⟨rfl, f3⟩
  replace F := Lib.hid ((F.out.then f3).alloc (.cells #[.int .u16 0, .bool false, .int .i64 0, .bool false, .bool false, .bool false, .bool false, .bool false, .bool false, .int .i64 0, .int .i64 0, .int .i64 0, .int .i64 0, .int .i64 0] 45))
  rw [r2]
  clear f3 r2
  go_wp2_with fail
  change Calls _ _ _ (w3.alloc (.cells #[.int .u16 0, .bool false, .int .i64 0, .bool false, .bool false, .bool false, .bool false, .bool false, .bool false, .int .i64 0, .int .i64 0, .int .i64 0, .int .i64 0, .int .i64 0] 45)) _
  generalize w3.alloc (.cells #[.int .u16 0, .bool false, .int .i64 0, .bool false, .bool false, .bool false, .bool false, .bool false, .bool false, .int .i64 0, .int .i64 0, .int .i64 0, .int .i64 0, .int .i64 0] 45) = W3 at F ⊢
  refine (read_hd _ _ (by decide)).mono ?_
  rintro e w4 ⟨rfl, f4⟩
  replace F := Lib.hid ((F.out.then f4).alloc (.cells #[.int .u16 4660, .bool true, .int .i64 15, .bool true, .bool true, .bool true, .bool true, .bool true, .bool true, .int .i64 15, .int .i64 1, .int .i64 2, .int .i64 3, .int .i64 4] 45))
  rw [r3]
  clear f4 r3
  have B := Lib.hid (Blk.new w4 45 #[.int .u16 4660, .bool true, .int .i64 15, .bool true, .bool true, .bool true, .bool true, .bool true, .bool true, .int .i64 15, .int .i64 1, .int .i64 2, .int .i64 3, .int .i64 4])
  go_wp2_with fail
  generalize w4.alloc (.cells #[.int .u16 4660, .bool true, .int .i64 15, .bool true, .bool true, .bool true, .bool true, .bool true, .bool true, .int .i64 15, .int .i64 1, .int .i64 2, .int .i64 3, .int .i64 4] 45) = W4 at F B ⊢
  generalize w4.heap.size = r at B ⊢
  refine (put_hd ⟨0, false, 16, false, false, false, false, false, false, 0, 0, 0, 0, 0⟩ _ (by simp [Hd.ok])).mono ?_
  rintro e w5 ⟨rfl, f5⟩
  rw [p1, q1]
  replace F := Lib.hid (F.out.then f5)
  replace B := Lib.hid (B.out.fr f5 id)
  clear f5 p1 q1
  go_wp2_with fail
  refine (put_hd ⟨0, false, 0, false, false, false, false, false, false, 0, 0, 0, 65536, 0⟩ _ (by simp [Hd.ok])).mono ?_
  rintro e w6 ⟨rfl, f6⟩
  rw [p2, q2]
  replace F := Lib.hid (F.out.then f6)
  replace B := Lib.hid (B.out.fr f6 id)
  clear f6 p2 q2
  go_wp2_with fail
  refine (reply_any ⟨7, false, 2, true, false, true, false, true, false, 0, 1, 0, 0, 0⟩ (-1) _).mono ?_
  rintro e w7 ⟨rfl, f7⟩
  rw [rp]
  replace F := Lib.hid ((F.out.then f7).alloc (.cells #[.int .u16 7, .bool true, .int .i64 2, .bool false, .bool false, .bool true, .bool true, .bool false, .bool false, .int .i64 15, .int .i64 0, .int .i64 0, .int .i64 0, .int .i64 0] 45))
  replace B := Lib.hid ((B.out.fr f7 id).alloc (.cells #[.int .u16 7, .bool true, .int .i64 2, .bool false, .bool false, .bool true, .bool true, .bool false, .bool false, .int .i64 15, .int .i64 0, .int .i64 0, .int .i64 0, .int .i64 0] 45))
  have C := Lib.hid (Blk.new w7 45 #[.int .u16 7, .bool true, .int .i64 2, .bool false, .bool false, .bool true, .bool true, .bool false, .bool false, .int .i64 15, .int .i64 0, .int .i64 0, .int .i64 0, .int .i64 0])
  clear f7 rp
  go_wp2_with fail
  generalize w7.alloc (.cells #[.int .u16 7, .bool true, .int .i64 2, .bool false, .bool false, .bool true, .bool true, .bool false, .bool false, .int .i64 15, .int .i64 0, .int .i64 0, .int .i64 0, .int .i64 0] 45) = W7 at F B C ⊢
  generalize w7.heap.size = r2 at C ⊢
  refine (lives6_any _).mono ?_
  rintro e w8 ⟨rfl, f8⟩
  replace F := Lib.hid (F.out.then f8)
  have hb := B.out.fr f8 id
  have hc := C.out.fr f8 id
  clear f8 B C
  have c0 := hb.cell 0
  have c1 := hb.cell 1
  have c2 := hb.cell 2
  have c3 := hb.cell 3
  have c4 := hb.cell 4
  have c5 := hb.cell 5
  have c6 := hb.cell 6
  have c7 := hb.cell 7
  have c8 := hb.cell 8
  have c9 := hb.cell 9
  have c10 := hb.cell 10
  have c11 := hb.cell 11
  have c12 := hb.cell 12
  have c13 := hb.cell 13
  simp only [List.getElem?_toArray, List.getElem?_cons_zero, List.getElem?_cons_succ] at c0 c1 c2 c3 c4 c5 c6 c7 c8 c9 c10 c11 c12 c13
  have d0 := hc.cell 0
  have d1 := hc.cell 1
  have d2 := hc.cell 2
  have d3 := hc.cell 3
  have d4 := hc.cell 4
  have d5 := hc.cell 5
  have d6 := hc.cell 6
  have d7 := hc.cell 7
  have d8 := hc.cell 8
  have d9 := hc.cell 9
  have d10 := hc.cell 10
  have d11 := hc.cell 11
  have d12 := hc.cell 12
  have d13 := hc.cell 13
  simp only [List.getElem?_toArray, List.getElem?_cons_zero, List.getElem?_cons_succ] at d0 d1 d2 d3 d4 d5 d6 d7 d8 d9 d10 d11 d12 d13
  clear hb hc
  go_wp2_with fail
  refine (check_any ⟨0, false, 0, false, false, false, false, false, false, -1, 0, 0, 0, 0⟩ _).mono ?_
  rintro e w9 ⟨rfl, f9⟩
  rw [q3]
  replace F := Lib.hid (F.out.then f9)
  clear f9
  go_wp2_with fail
  go_ret
  exact ⟨rfl, F.out.below (fun _ h => h.elim) (Nat.le_refl _)⟩
end Go.Proofs.Ytbemackcdccpaaa
