/-
  LAYER 6: HeaderReply, of a header that may be.
-/
import Derived.Test.YtbemackcdccpaaaHdrrep
import Derived.Test.YtbemackcdccpaaaHdreq
import Derived.Test.YtbemackcdccpaaaHdl0
namespace Go.Proofs.Ytbemackcdccpaaa
open Go.RowKit

set_option maxRecDepth 100000 in
set_option maxHeartbeats 4000000 in
theorem headerReply_yes (h : Hd) (rc : Int) (w : World) (hok : h.ok) (hm : h.may = true) (_hrc : -9223372036854775808 ≤ rc ∧ rc ≤ 9223372036854775807) :
    Calls Try.prog 5 #[h.val, .int .i64 rc] w fun e w' => e = .returned (.bool true) ∧ Below w.heap.size w w' := by
  have HK := Lib.hid hok
  clear hok
  have hrv : (h.reply rc).val = .agg #[.int .u16 h.id, .bool true, .int .i64 h.op, .bool false, .bool false, .bool h.rd, .bool true, .bool false, .bool h.cd, .int .i64 (rc % 16), .int .i64 0, .int .i64 0, .int .i64 0, .int .i64 0] := rfl
  have HV := Lib.hid hrv
  have hq : ∀ w, (Go.binOp .eql 45 (h.reply rc).val (h.reply rc).val).run Try.prog w = .ok (.bool true) w := fun w => by
    rw [hd_eql _ _ (Hd.reply_ok HK.out rc) (Hd.reply_ok HK.out rc)]
    simp
  rw [hrv] at hq
  have hz : ∀ w, (Go.binOp .eql 43 (.agg #[.int .i64 0, .int .i64 0, .int .i64 0, .int .i64 0]) (.agg #[.int .i64 0, .int .i64 0, .int .i64 0, .int .i64 0])).run Try.prog w = .ok (.bool true) w := fun _ => by kernel_rfl
  clear hrv
  go_enter Try.func5, Try.ntmps5
  go_wp2_with fail
  refine (lives6_any _).mono ?_
  rintro e w1 ⟨rfl, f1⟩
  have hb : Blk w1 w.heap.size 45 h.cells.toArray := (Blk.new w 45 _).fr f1 id
  have HF : Hid (Fr (fun _ => False) w w1) := ((Fr.refl _ _).alloc _).then f1
  generalize hp : w.heap.size = p at hb ⊢
  have HG := Lib.hid (Nat.le_of_eq hp)
  have HB := Lib.hid hb
  clear f1 hb hp
  have c0 : w1.cell? ⟨p, 0, none⟩ = some (.int .u16 h.id) := HB.out.cell 0
  have c1 : w1.cell? ⟨p, 1, none⟩ = some (.bool h.resp) := HB.out.cell 1
  have c2 : w1.cell? ⟨p, 2, none⟩ = some (.int .i64 h.op) := HB.out.cell 2
  have c3 : w1.cell? ⟨p, 3, none⟩ = some (.bool h.aa) := HB.out.cell 3
  have c4 : w1.cell? ⟨p, 4, none⟩ = some (.bool h.tc) := HB.out.cell 4
  have c5 : w1.cell? ⟨p, 5, none⟩ = some (.bool h.rd) := HB.out.cell 5
  have c6 : w1.cell? ⟨p, 6, none⟩ = some (.bool h.ra) := HB.out.cell 6
  have c7 : w1.cell? ⟨p, 7, none⟩ = some (.bool h.ad) := HB.out.cell 7
  have c8 : w1.cell? ⟨p, 8, none⟩ = some (.bool h.cd) := HB.out.cell 8
  have c9 : w1.cell? ⟨p, 9, none⟩ = some (.int .i64 h.rc) := HB.out.cell 9
  have c10 : w1.cell? ⟨p, 10, none⟩ = some (.int .i64 h.c0) := HB.out.cell 10
  have c11 : w1.cell? ⟨p, 11, none⟩ = some (.int .i64 h.c1) := HB.out.cell 11
  have c12 : w1.cell? ⟨p, 12, none⟩ = some (.int .i64 h.c2) := HB.out.cell 12
  have c13 : w1.cell? ⟨p, 13, none⟩ = some (.int .i64 h.c3) := HB.out.cell 13
  go_wp2_with fail
  refine (reply_any h rc _).mono ?_
  rintro e w2 ⟨rfl, f2⟩
  rw [HV.out]
  have HB2 := Lib.hid ((HB.out.fr f2 id).alloc (.cells #[.int .u16 h.id, .bool true, .int .i64 h.op, .bool false, .bool false, .bool h.rd, .bool true, .bool false, .bool h.cd, .int .i64 (rc % 16), .int .i64 0, .int .i64 0, .int .i64 0, .int .i64 0] 45))
  have HF2 := Lib.hid ((HF.out.then f2).alloc (.cells #[.int .u16 h.id, .bool true, .int .i64 h.op, .bool false, .bool false, .bool h.rd, .bool true, .bool false, .bool h.cd, .int .i64 (rc % 16), .int .i64 0, .int .i64 0, .int .i64 0, .int .i64 0] 45))
  have HR2 := Lib.hid (Blk.new w2 45 #[.int .u16 h.id, .bool true, .int .i64 h.op, .bool false, .bool false, .bool h.rd, .bool true, .bool false, .bool h.cd, .int .i64 (rc % 16), .int .i64 0, .int .i64 0, .int .i64 0, .int .i64 0])
  clear c0 c1 c2 c3 c4 c5 c6 c7 c8 c9 c10 c11 c12 c13 f2 HB HF
  have c0 : (w2.alloc (.cells #[.int .u16 h.id, .bool true, .int .i64 h.op, .bool false, .bool false, .bool h.rd, .bool true, .bool false, .bool h.cd, .int .i64 (rc % 16), .int .i64 0, .int .i64 0, .int .i64 0, .int .i64 0] 45)).cell? ⟨p, 0, none⟩ = some (.int .u16 h.id) := HB2.out.cell 0
  have c1 : (w2.alloc (.cells #[.int .u16 h.id, .bool true, .int .i64 h.op, .bool false, .bool false, .bool h.rd, .bool true, .bool false, .bool h.cd, .int .i64 (rc % 16), .int .i64 0, .int .i64 0, .int .i64 0, .int .i64 0] 45)).cell? ⟨p, 1, none⟩ = some (.bool h.resp) := HB2.out.cell 1
  have c2 : (w2.alloc (.cells #[.int .u16 h.id, .bool true, .int .i64 h.op, .bool false, .bool false, .bool h.rd, .bool true, .bool false, .bool h.cd, .int .i64 (rc % 16), .int .i64 0, .int .i64 0, .int .i64 0, .int .i64 0] 45)).cell? ⟨p, 2, none⟩ = some (.int .i64 h.op) := HB2.out.cell 2
  have c3 : (w2.alloc (.cells #[.int .u16 h.id, .bool true, .int .i64 h.op, .bool false, .bool false, .bool h.rd, .bool true, .bool false, .bool h.cd, .int .i64 (rc % 16), .int .i64 0, .int .i64 0, .int .i64 0, .int .i64 0] 45)).cell? ⟨p, 3, none⟩ = some (.bool h.aa) := HB2.out.cell 3
  have c4 : (w2.alloc (.cells #[.int .u16 h.id, .bool true, .int .i64 h.op, .bool false, .bool false, .bool h.rd, .bool true, .bool false, .bool h.cd, .int .i64 (rc % 16), .int .i64 0, .int .i64 0, .int .i64 0, .int .i64 0] 45)).cell? ⟨p, 4, none⟩ = some (.bool h.tc) := HB2.out.cell 4
  have c5 : (w2.alloc (.cells #[.int .u16 h.id, .bool true, .int .i64 h.op, .bool false, .bool false, .bool h.rd, .bool true, .bool false, .bool h.cd, .int .i64 (rc % 16), .int .i64 0, .int .i64 0, .int .i64 0, .int .i64 0] 45)).cell? ⟨p, 5, none⟩ = some (.bool h.rd) := HB2.out.cell 5
  have c6 : (w2.alloc (.cells #[.int .u16 h.id, .bool true, .int .i64 h.op, .bool false, .bool false, .bool h.rd, .bool true, .bool false, .bool h.cd, .int .i64 (rc % 16), .int .i64 0, .int .i64 0, .int .i64 0, .int .i64 0] 45)).cell? ⟨p, 6, none⟩ = some (.bool h.ra) := HB2.out.cell 6
  have c7 : (w2.alloc (.cells #[.int .u16 h.id, .bool true, .int .i64 h.op, .bool false, .bool false, .bool h.rd, .bool true, .bool false, .bool h.cd, .int .i64 (rc % 16), .int .i64 0, .int .i64 0, .int .i64 0, .int .i64 0] 45)).cell? ⟨p, 7, none⟩ = some (.bool h.ad) := HB2.out.cell 7
  have c8 : (w2.alloc (.cells #[.int .u16 h.id, .bool true, .int .i64 h.op, .bool false, .bool false, .bool h.rd, .bool true, .bool false, .bool h.cd, .int .i64 (rc % 16), .int .i64 0, .int .i64 0, .int .i64 0, .int .i64 0] 45)).cell? ⟨p, 8, none⟩ = some (.bool h.cd) := HB2.out.cell 8
  have c9 : (w2.alloc (.cells #[.int .u16 h.id, .bool true, .int .i64 h.op, .bool false, .bool false, .bool h.rd, .bool true, .bool false, .bool h.cd, .int .i64 (rc % 16), .int .i64 0, .int .i64 0, .int .i64 0, .int .i64 0] 45)).cell? ⟨p, 9, none⟩ = some (.int .i64 h.rc) := HB2.out.cell 9
  have c10 : (w2.alloc (.cells #[.int .u16 h.id, .bool true, .int .i64 h.op, .bool false, .bool false, .bool h.rd, .bool true, .bool false, .bool h.cd, .int .i64 (rc % 16), .int .i64 0, .int .i64 0, .int .i64 0, .int .i64 0] 45)).cell? ⟨p, 10, none⟩ = some (.int .i64 h.c0) := HB2.out.cell 10
  have c11 : (w2.alloc (.cells #[.int .u16 h.id, .bool true, .int .i64 h.op, .bool false, .bool false, .bool h.rd, .bool true, .bool false, .bool h.cd, .int .i64 (rc % 16), .int .i64 0, .int .i64 0, .int .i64 0, .int .i64 0] 45)).cell? ⟨p, 11, none⟩ = some (.int .i64 h.c1) := HB2.out.cell 11
  have c12 : (w2.alloc (.cells #[.int .u16 h.id, .bool true, .int .i64 h.op, .bool false, .bool false, .bool h.rd, .bool true, .bool false, .bool h.cd, .int .i64 (rc % 16), .int .i64 0, .int .i64 0, .int .i64 0, .int .i64 0] 45)).cell? ⟨p, 12, none⟩ = some (.int .i64 h.c2) := HB2.out.cell 12
  have c13 : (w2.alloc (.cells #[.int .u16 h.id, .bool true, .int .i64 h.op, .bool false, .bool false, .bool h.rd, .bool true, .bool false, .bool h.cd, .int .i64 (rc % 16), .int .i64 0, .int .i64 0, .int .i64 0, .int .i64 0] 45)).cell? ⟨p, 13, none⟩ = some (.int .i64 h.c3) := HB2.out.cell 13
  go_wp2_with fail
  clear c0 c1 c2 c3 c4 c5 c6 c7 c8 c9 c10 c11 c12 c13
  generalize w2.alloc (.cells #[.int .u16 h.id, .bool true, .int .i64 h.op, .bool false, .bool false, .bool h.rd, .bool true, .bool false, .bool h.cd, .int .i64 (rc % 16), .int .i64 0, .int .i64 0, .int .i64 0, .int .i64 0] 45) = W at *
  generalize w2.heap.size = r at *
  refine (check_any h _).mono ?_
  rintro e w3 ⟨rfl, f3⟩
  have HB3 := Lib.hid (HB2.out.fr f3 id)
  have HF3 := Lib.hid (HF2.out.then f3)
  have hr3 := HR2.out.fr f3 id
  clear f3 HB2 HF2 HR2
  have c0 : w3.cell? ⟨p, 0, none⟩ = some (.int .u16 h.id) := HB3.out.cell 0
  have c1 : w3.cell? ⟨p, 1, none⟩ = some (.bool h.resp) := HB3.out.cell 1
  have c2 : w3.cell? ⟨p, 2, none⟩ = some (.int .i64 h.op) := HB3.out.cell 2
  have c3 : w3.cell? ⟨p, 3, none⟩ = some (.bool h.aa) := HB3.out.cell 3
  have c4 : w3.cell? ⟨p, 4, none⟩ = some (.bool h.tc) := HB3.out.cell 4
  have c5 : w3.cell? ⟨p, 5, none⟩ = some (.bool h.rd) := HB3.out.cell 5
  have c6 : w3.cell? ⟨p, 6, none⟩ = some (.bool h.ra) := HB3.out.cell 6
  have c7 : w3.cell? ⟨p, 7, none⟩ = some (.bool h.ad) := HB3.out.cell 7
  have c8 : w3.cell? ⟨p, 8, none⟩ = some (.bool h.cd) := HB3.out.cell 8
  have c9 : w3.cell? ⟨p, 9, none⟩ = some (.int .i64 h.rc) := HB3.out.cell 9
  have c10 : w3.cell? ⟨p, 10, none⟩ = some (.int .i64 h.c0) := HB3.out.cell 10
  have c11 : w3.cell? ⟨p, 11, none⟩ = some (.int .i64 h.c1) := HB3.out.cell 11
  have c12 : w3.cell? ⟨p, 12, none⟩ = some (.int .i64 h.c2) := HB3.out.cell 12
  have c13 : w3.cell? ⟨p, 13, none⟩ = some (.int .i64 h.c3) := HB3.out.cell 13
  have d0 := hr3.cell 0
  have d1 := hr3.cell 1
  have d2 := hr3.cell 2
  have d3 := hr3.cell 3
  have d4 := hr3.cell 4
  have d5 := hr3.cell 5
  have d6 := hr3.cell 6
  have d7 := hr3.cell 7
  have d8 := hr3.cell 8
  have d9 := hr3.cell 9
  have d10 := hr3.cell 10
  have d11 := hr3.cell 11
  have d12 := hr3.cell 12
  have d13 := hr3.cell 13
  simp only [List.getElem?_toArray, List.getElem?_cons_zero, List.getElem?_cons_succ] at d0 d1 d2 d3 d4 d5 d6 d7 d8 d9 d10 d11 d12 d13
  have HR3 := Lib.hid hr3
  clear hr3
  have hc : h.check = 0 := by unfold Hd.check; rw [hm]; rfl
  have HC := Lib.hid (Hd.reply_may hm rc)
  rw [hc]
  clear hc hm
  go_wp2_with fail
  refine (check_any (h.reply rc) _).mono ?_
  rintro e w5 ⟨rfl, f5⟩
  rw [HC.out]
  replace c0 := (f5.cell (p := ⟨p, 0, none⟩) HB3.out.lt id).trans c0
  replace c1 := (f5.cell (p := ⟨p, 1, none⟩) HB3.out.lt id).trans c1
  replace c2 := (f5.cell (p := ⟨p, 2, none⟩) HB3.out.lt id).trans c2
  replace c3 := (f5.cell (p := ⟨p, 3, none⟩) HB3.out.lt id).trans c3
  replace c4 := (f5.cell (p := ⟨p, 4, none⟩) HB3.out.lt id).trans c4
  replace c5 := (f5.cell (p := ⟨p, 5, none⟩) HB3.out.lt id).trans c5
  replace c6 := (f5.cell (p := ⟨p, 6, none⟩) HB3.out.lt id).trans c6
  replace c7 := (f5.cell (p := ⟨p, 7, none⟩) HB3.out.lt id).trans c7
  replace c8 := (f5.cell (p := ⟨p, 8, none⟩) HB3.out.lt id).trans c8
  replace c9 := (f5.cell (p := ⟨p, 9, none⟩) HB3.out.lt id).trans c9
  replace c10 := (f5.cell (p := ⟨p, 10, none⟩) HB3.out.lt id).trans c10
  replace c11 := (f5.cell (p := ⟨p, 11, none⟩) HB3.out.lt id).trans c11
  replace c12 := (f5.cell (p := ⟨p, 12, none⟩) HB3.out.lt id).trans c12
  replace c13 := (f5.cell (p := ⟨p, 13, none⟩) HB3.out.lt id).trans c13
  replace d0 := (f5.cell (p := ⟨r, 0, none⟩) HR3.out.lt id).trans d0
  replace d1 := (f5.cell (p := ⟨r, 1, none⟩) HR3.out.lt id).trans d1
  replace d2 := (f5.cell (p := ⟨r, 2, none⟩) HR3.out.lt id).trans d2
  replace d3 := (f5.cell (p := ⟨r, 3, none⟩) HR3.out.lt id).trans d3
  replace d4 := (f5.cell (p := ⟨r, 4, none⟩) HR3.out.lt id).trans d4
  replace d5 := (f5.cell (p := ⟨r, 5, none⟩) HR3.out.lt id).trans d5
  replace d6 := (f5.cell (p := ⟨r, 6, none⟩) HR3.out.lt id).trans d6
  replace d7 := (f5.cell (p := ⟨r, 7, none⟩) HR3.out.lt id).trans d7
  replace d8 := (f5.cell (p := ⟨r, 8, none⟩) HR3.out.lt id).trans d8
  replace d9 := (f5.cell (p := ⟨r, 9, none⟩) HR3.out.lt id).trans d9
  replace d10 := (f5.cell (p := ⟨r, 10, none⟩) HR3.out.lt id).trans d10
  replace d11 := (f5.cell (p := ⟨r, 11, none⟩) HR3.out.lt id).trans d11
  replace d12 := (f5.cell (p := ⟨r, 12, none⟩) HR3.out.lt id).trans d12
  replace d13 := (f5.cell (p := ⟨r, 13, none⟩) HR3.out.lt id).trans d13
  replace HB3 := Lib.hid (HB3.out.fr f5 id)
  replace HR3 := Lib.hid (HR3.out.fr f5 id)
  replace HF3 := Lib.hid (HF3.out.then f5)
  clear f5
  go_wp2_with fail
  clear c1 c3 c4 c6 c7 c9 c10 c11 c12 c13
  have g1 : (0 : Int) ≤ rc % 16 := by omega
  have g2 : rc % 16 < 16 := by omega
  have g3 : decide ((0 : Int) ≤ rc % 16) = true := decide_eq_true g1
  have g4 : decide (rc % 16 < 16) = true := decide_eq_true g2
  simp only [List.append_eq, List.cons_append, List.nil_append]
  go_region_held3 (fun w' => w'.cell? ⟨p, 0, none⟩ = some (.int .u16 h.id) ∧ w'.cell? ⟨p, 2, none⟩ = some (.int .i64 h.op) ∧ w'.cell? ⟨p, 5, none⟩ = some (.bool h.rd) ∧ w'.cell? ⟨p, 8, none⟩ = some (.bool h.cd) ∧ w'.cell? ⟨r, 0, none⟩ = some (.int .u16 h.id) ∧ w'.cell? ⟨r, 1, none⟩ = some (.bool true) ∧ w'.cell? ⟨r, 2, none⟩ = some (.int .i64 h.op) ∧ w'.cell? ⟨r, 3, none⟩ = some (.bool false) ∧ w'.cell? ⟨r, 4, none⟩ = some (.bool false) ∧ w'.cell? ⟨r, 5, none⟩ = some (.bool h.rd) ∧ w'.cell? ⟨r, 6, none⟩ = some (.bool true) ∧ w'.cell? ⟨r, 7, none⟩ = some (.bool false) ∧ w'.cell? ⟨r, 8, none⟩ = some (.bool h.cd) ∧ w'.cell? ⟨r, 9, none⟩ = some (.int .i64 (rc % 16)) ∧ w'.cell? ⟨r, 10, none⟩ = some (.int .i64 0) ∧ w'.cell? ⟨r, 11, none⟩ = some (.int .i64 0) ∧ w'.cell? ⟨r, 12, none⟩ = some (.int .i64 0) ∧ w'.cell? ⟨r, 13, none⟩ = some (.int .i64 0))
    (first | exact ⟨c0, c2, c5, c8, d0, d1, d2, d3, d4, d5, d6, d7, d8, d9, d10, d11, d12, d13⟩ | exact ⟨e0, e2, e5, e8, k0, k1, k2, k3, k4, k5, k6, k7, k8, k9, k10, k11, k12, k13⟩)
    (first
      | (go_at_call 27
         refine (pick_any rc 16 _ (by decide) (by decide)).mono ?_
         rintro e w' ⟨rfl, rfl⟩
         rw [pick16])
      | (go_at_call 39
         refine (reply_any (h.reply rc) rc _).mono ?_
         rintro e w4 ⟨rfl, f4⟩
         rw [h.reply_reply rc, HV.out]
         have e0 := (f4.cell (p := ⟨p, 0, none⟩) HB3.out.lt id).trans c0
         have e2 := (f4.cell (p := ⟨p, 2, none⟩) HB3.out.lt id).trans c2
         have e5 := (f4.cell (p := ⟨p, 5, none⟩) HB3.out.lt id).trans c5
         have e8 := (f4.cell (p := ⟨p, 8, none⟩) HB3.out.lt id).trans c8
         have k0 := (f4.cell (p := ⟨r, 0, none⟩) HR3.out.lt id).trans d0
         have k1 := (f4.cell (p := ⟨r, 1, none⟩) HR3.out.lt id).trans d1
         have k2 := (f4.cell (p := ⟨r, 2, none⟩) HR3.out.lt id).trans d2
         have k3 := (f4.cell (p := ⟨r, 3, none⟩) HR3.out.lt id).trans d3
         have k4 := (f4.cell (p := ⟨r, 4, none⟩) HR3.out.lt id).trans d4
         have k5 := (f4.cell (p := ⟨r, 5, none⟩) HR3.out.lt id).trans d5
         have k6 := (f4.cell (p := ⟨r, 6, none⟩) HR3.out.lt id).trans d6
         have k7 := (f4.cell (p := ⟨r, 7, none⟩) HR3.out.lt id).trans d7
         have k8 := (f4.cell (p := ⟨r, 8, none⟩) HR3.out.lt id).trans d8
         have k9 := (f4.cell (p := ⟨r, 9, none⟩) HR3.out.lt id).trans d9
         have k10 := (f4.cell (p := ⟨r, 10, none⟩) HR3.out.lt id).trans d10
         have k11 := (f4.cell (p := ⟨r, 11, none⟩) HR3.out.lt id).trans d11
         have k12 := (f4.cell (p := ⟨r, 12, none⟩) HR3.out.lt id).trans d12
         have k13 := (f4.cell (p := ⟨r, 13, none⟩) HR3.out.lt id).trans d13
         have F4 := Lib.hid f4
         clear f4))
  go_wp2_with fail
  go_ret
  exact ⟨rfl, (HF3.out.then F4.out.fromD).below (fun _ h => h.elim) (Nat.le_refl _)⟩
end Go.Proofs.Ytbemackcdccpaaa
