/-
  THE CONTRACTS OF LAYER 6 (header): the flags, the octets.
-/
import Derived.Test.YtmbgejiahmhffaaGreatUunL
namespace Go.Proofs.YtmbgejiahmhffaaGreat
open Go.RowKit

abbrev flagsVal (p : Nat) : Value :=
  .agg #[.int .u32 32768, .pointer (some ⟨p, 1, none⟩), .int .u32 1024, .pointer (some ⟨p, 3, none⟩), .int .u32 512, .pointer (some ⟨p, 4, none⟩), .int .u32 256, .pointer (some ⟨p, 5, none⟩),
    .int .u32 128, .pointer (some ⟨p, 6, none⟩), .int .u32 32, .pointer (some ⟨p, 7, none⟩), .int .u32 16, .pointer (some ⟨p, 8, none⟩)]
set_option maxRecDepth 100000 in
set_option maxHeartbeats 4000000 in
theorem flags_any (p : Nat) (w : World) :
    Calls Tryz.prog 62 #[.pointer (some ⟨p, 0, none⟩)] w fun e w' => e = .returned (flagsVal p) ∧ Fr (fun _ => False) w w' := by
  go_enter Tryz.func62, Tryz.ntmps62
  go_wp2_with fail
  generalize hz : #[Value.int IntKind.u32 0, Value.pointer none, Value.int IntKind.u32 0, Value.pointer none, Value.int IntKind.u32 0, Value.pointer none, Value.int IntKind.u32 0, Value.pointer none,
    Value.int IntKind.u32 0, Value.pointer none, Value.int IntKind.u32 0, Value.pointer none, Value.int IntKind.u32 0, Value.pointer none] = Z
  have hb := Blk.new w 120 Z
  have hf : Fr (fun _ => False) w (w.alloc (.cells Z 120)) := (Fr.refl _ _).alloc _
  have hge : w.heap.size ≤ w.heap.size := Nat.le_refl _
  generalize w.alloc (.cells Z 120) = W at *
  generalize hr : w.heap.size = r at hb ⊢
  have HR : Hid (w.heap.size ≤ r) := Nat.le_of_eq hr
  have HF := Lib.hid hf
  clear hf hge hr
  subst hz
  go_still_tail 29, (by kernel_rfl)
  change wpList _ _ _ _ _ W.drew
  have hb2 := hb.drew
  have HF2 := Lib.hid HF.out.drew
  clear hb HF
  generalize W.drew = W2 at *
  have c0 := hb2.cell 0
  have f0 := hb2.frozen 0
  have c1 := hb2.cell 1
  have f1 := hb2.frozen 1
  have c2 := hb2.cell 2
  have f2 := hb2.frozen 2
  have c3 := hb2.cell 3
  have f3 := hb2.frozen 3
  have c4 := hb2.cell 4
  have f4 := hb2.frozen 4
  have c5 := hb2.cell 5
  have f5 := hb2.frozen 5
  have c6 := hb2.cell 6
  have f6 := hb2.frozen 6
  have c7 := hb2.cell 7
  have f7 := hb2.frozen 7
  have c8 := hb2.cell 8
  have f8 := hb2.frozen 8
  have c9 := hb2.cell 9
  have f9 := hb2.frozen 9
  have c10 := hb2.cell 10
  have f10 := hb2.frozen 10
  have c11 := hb2.cell 11
  have f11 := hb2.frozen 11
  have c12 := hb2.cell 12
  have f12 := hb2.frozen 12
  have c13 := hb2.cell 13
  have f13 := hb2.frozen 13
  simp only [List.getElem?_toArray, List.getElem?_cons_zero, List.getElem?_cons_succ] at c0 c1 c2 c3 c4 c5 c6 c7 c8 c9 c10 c11 c12 c13
  have HB := Lib.hid hb2
  clear hb2
  go_wp2_with fail
  have hB := ((((((((((((((HB.out.set_ 0 (.int .u32 32768)).set_ 1 (.pointer (some ⟨p, 1, none⟩))).set_ 2 (.int .u32 1024)).set_ 3 (.pointer (some ⟨p, 3, none⟩))).set_ 4 (.int .u32 512)).set_ 5 (.pointer (some ⟨p, 4, none⟩))).set_ 6 (.int .u32 256)).set_ 7 (.pointer (some ⟨p, 5, none⟩))).set_ 8 (.int .u32 128)).set_ 9 (.pointer (some ⟨p, 6, none⟩))).set_ 10 (.int .u32 32)).set_ 11 (.pointer (some ⟨p, 7, none⟩))).set_ 12 (.int .u32 16)).set_ 13 (.pointer (some ⟨p, 8, none⟩)))
  have hF := ((((((((((((((HF2.out.setCell (p := ⟨r, 0, none⟩) (fun h => absurd h (Nat.not_lt.2 HR.out)) (.int .u32 32768)).setCell (p := ⟨r, 1, none⟩) (fun h => absurd h (Nat.not_lt.2 HR.out)) (.pointer (some ⟨p, 1, none⟩))).setCell (p := ⟨r, 2, none⟩) (fun h => absurd h (Nat.not_lt.2 HR.out)) (.int .u32 1024)).setCell (p := ⟨r, 3, none⟩) (fun h => absurd h (Nat.not_lt.2 HR.out)) (.pointer (some ⟨p, 3, none⟩))).setCell (p := ⟨r, 4, none⟩) (fun h => absurd h (Nat.not_lt.2 HR.out)) (.int .u32 512)).setCell (p := ⟨r, 5, none⟩) (fun h => absurd h (Nat.not_lt.2 HR.out)) (.pointer (some ⟨p, 4, none⟩))).setCell (p := ⟨r, 6, none⟩) (fun h => absurd h (Nat.not_lt.2 HR.out)) (.int .u32 256)).setCell (p := ⟨r, 7, none⟩) (fun h => absurd h (Nat.not_lt.2 HR.out)) (.pointer (some ⟨p, 5, none⟩))).setCell (p := ⟨r, 8, none⟩) (fun h => absurd h (Nat.not_lt.2 HR.out)) (.int .u32 128)).setCell (p := ⟨r, 9, none⟩) (fun h => absurd h (Nat.not_lt.2 HR.out)) (.pointer (some ⟨p, 6, none⟩))).setCell (p := ⟨r, 10, none⟩) (fun h => absurd h (Nat.not_lt.2 HR.out)) (.int .u32 32)).setCell (p := ⟨r, 11, none⟩) (fun h => absurd h (Nat.not_lt.2 HR.out)) (.pointer (some ⟨p, 7, none⟩))).setCell (p := ⟨r, 12, none⟩) (fun h => absurd h (Nat.not_lt.2 HR.out)) (.int .u32 16)).setCell (p := ⟨r, 13, none⟩) (fun h => absurd h (Nat.not_lt.2 HR.out)) (.pointer (some ⟨p, 8, none⟩)))
  simp only [List.setIfInBounds_toArray, List.set_cons_zero, List.set_cons_succ] at hB
  generalize ((((((((((((((W2.setCell ⟨r, 0, none⟩ (.int .u32 32768)).setCell ⟨r, 1, none⟩ (.pointer (some ⟨p, 1, none⟩))).setCell ⟨r, 2, none⟩ (.int .u32 1024)).setCell ⟨r, 3, none⟩ (.pointer (some ⟨p, 3, none⟩))).setCell ⟨r, 4, none⟩ (.int .u32 512)).setCell ⟨r, 5, none⟩ (.pointer (some ⟨p, 4, none⟩))).setCell ⟨r, 6, none⟩ (.int .u32 256)).setCell ⟨r, 7, none⟩ (.pointer (some ⟨p, 5, none⟩))).setCell ⟨r, 8, none⟩ (.int .u32 128)).setCell ⟨r, 9, none⟩ (.pointer (some ⟨p, 6, none⟩))).setCell ⟨r, 10, none⟩ (.int .u32 32)).setCell ⟨r, 11, none⟩ (.pointer (some ⟨p, 7, none⟩))).setCell ⟨r, 12, none⟩ (.int .u32 16)).setCell ⟨r, 13, none⟩ (.pointer (some ⟨p, 8, none⟩))) = W3 at hB hF ⊢
  clear c0 f0 c1 f1 c2 f2 c3 f3 c4 f4 c5 f5 c6 f6 c7 f7 c8 f8 c9 f9 c10 f10 c11 f11 c12 f12 c13 f13
  have d0 := hB.cell 0
  have d1 := hB.cell 1
  have d2 := hB.cell 2
  have d3 := hB.cell 3
  have d4 := hB.cell 4
  have d5 := hB.cell 5
  have d6 := hB.cell 6
  have d7 := hB.cell 7
  have d8 := hB.cell 8
  have d9 := hB.cell 9
  have d10 := hB.cell 10
  have d11 := hB.cell 11
  have d12 := hB.cell 12
  have d13 := hB.cell 13
  simp only [List.getElem?_toArray, List.getElem?_cons_zero, List.getElem?_cons_succ] at d0 d1 d2 d3 d4 d5 d6 d7 d8 d9 d10 d11 d12 d13
  refine bodyPost_ret (v := flagsVal p) (by simp [results, Tryz.results62, go_sem, d0, d1, d2, d3, d4, d5, d6, d7, d8, d9, d10, d11, d12, d13]; done) rfl ?_
  exact ⟨rfl, hF⟩
end Go.Proofs.YtmbgejiahmhffaaGreat
