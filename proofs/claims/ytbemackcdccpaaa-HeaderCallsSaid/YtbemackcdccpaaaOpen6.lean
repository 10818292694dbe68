/-
  A HEADER THAT CAME IN, OPENED.
-/
import Derived.Test.YtbemackcdccpaaaOpen
import Derived.Test.YtbemackcdccpaaaHdrp
import Derived.Test.YtbemackcdccpaaaProg
namespace Go.Proofs.Ytbemackcdccpaaa
open Go.ChangeShapes Go.WideShapes Go.ChangeAt Go.RowKit Go.Deep

theorem fourteen {α : Type} : ∀ l : List α, l.length = 14 → ∃ e0 e1 e2 e3 e4 e5 e6 e7 e8 e9 e10 e11 e12 e13, l = [e0, e1, e2, e3, e4, e5, e6, e7, e8, e9, e10, e11, e12, e13]
  | [e0, e1, e2, e3, e4, e5, e6, e7, e8, e9, e10, e11, e12, e13], _ => ⟨e0, e1, e2, e3, e4, e5, e6, e7, e8, e9, e10, e11, e12, e13, rfl⟩

set_option maxRecDepth 100000 in
theorem open_header {W : World} {H : Type} {enc : TypeId × Value → H} {v : Value} {base : Nat} {d : DataW H} {p : List MemPlace}
    (hv : Value.okWide Try.prog W .any base 45 v) (h : DataW.Trod enc Try.prog W 0 (fun _ => true) true 45 v d p) : ∃ x : Hd, v = x.val ∧ x.ok := by
  obtain ⟨cs, rfl, _⟩ := okWide_struct Try.underlying45 hv
  obtain ⟨fuel, hf⟩ := h
  obtain ⟨ys, n, _, _, hl, hyl, hff⟩ := DataW.trod_struct Try.underlying45 hf
  have hc : Try.prog.cellsOf 45 = 14 := by kernel_rfl
  have c16 : Try.prog.cellsOf 42 = 1 := by kernel_rfl
  have c1 : Try.prog.cellsOf 4 = 1 := by kernel_rfl
  have c64 : Try.prog.cellsOf 3 = 1 := by kernel_rfl
  have c4 : Try.prog.cellsOf 43 = 4 := by kernel_rfl
  rw [hc] at hl
  change ys.length = 11 at hyl
  obtain ⟨e0, e1, e2, e3, e4, e5, e6, e7, e8, e9, e10, e11, e12, e13, hcs⟩ := fourteen _ hl
  rw [hcs] at hff
  have t0 : DataW.trod enc Try.prog W 0 (fun _ => true) true n 42 (([e0, e1, e2, e3, e4, e5, e6, e7, e8, e9, e10, e11, e12, e13].drop 0).take (Try.prog.cellsOf 42)) = ys[0]? := hff 0 _ rfl
  rw [c16, List.getElem?_eq_getElem (by omega : 0 < ys.length)] at t0
  obtain ⟨n0, q0, _, w0⟩ := DataW.trod_int Try.underlying42 t0
  have r0 := bounds_u16 w0
  have t1 : DataW.trod enc Try.prog W 0 (fun _ => true) true n 4 (([e0, e1, e2, e3, e4, e5, e6, e7, e8, e9, e10, e11, e12, e13].drop 1).take (Try.prog.cellsOf 4)) = ys[1]? := hff 1 _ rfl
  rw [c1, List.getElem?_eq_getElem (by omega : 1 < ys.length)] at t1
  obtain ⟨b1, q1, _⟩ := DataW.trod_bool Try.underlying4 t1
  have t2 : DataW.trod enc Try.prog W 0 (fun _ => true) true n 3 (([e0, e1, e2, e3, e4, e5, e6, e7, e8, e9, e10, e11, e12, e13].drop 2).take (Try.prog.cellsOf 3)) = ys[2]? := hff 2 _ rfl
  rw [c64, List.getElem?_eq_getElem (by omega : 2 < ys.length)] at t2
  obtain ⟨n2, q2, _, w2⟩ := DataW.trod_int Try.underlying3 t2
  have r2 := bounds_i64 w2
  have t3 : DataW.trod enc Try.prog W 0 (fun _ => true) true n 4 (([e0, e1, e2, e3, e4, e5, e6, e7, e8, e9, e10, e11, e12, e13].drop 3).take (Try.prog.cellsOf 4)) = ys[3]? := hff 3 _ rfl
  rw [c1, List.getElem?_eq_getElem (by omega : 3 < ys.length)] at t3
  obtain ⟨b3, q3, _⟩ := DataW.trod_bool Try.underlying4 t3
  have t4 : DataW.trod enc Try.prog W 0 (fun _ => true) true n 4 (([e0, e1, e2, e3, e4, e5, e6, e7, e8, e9, e10, e11, e12, e13].drop 4).take (Try.prog.cellsOf 4)) = ys[4]? := hff 4 _ rfl
  rw [c1, List.getElem?_eq_getElem (by omega : 4 < ys.length)] at t4
  obtain ⟨b4, q4, _⟩ := DataW.trod_bool Try.underlying4 t4
  have t5 : DataW.trod enc Try.prog W 0 (fun _ => true) true n 4 (([e0, e1, e2, e3, e4, e5, e6, e7, e8, e9, e10, e11, e12, e13].drop 5).take (Try.prog.cellsOf 4)) = ys[5]? := hff 5 _ rfl
  rw [c1, List.getElem?_eq_getElem (by omega : 5 < ys.length)] at t5
  obtain ⟨b5, q5, _⟩ := DataW.trod_bool Try.underlying4 t5
  have t6 : DataW.trod enc Try.prog W 0 (fun _ => true) true n 4 (([e0, e1, e2, e3, e4, e5, e6, e7, e8, e9, e10, e11, e12, e13].drop 6).take (Try.prog.cellsOf 4)) = ys[6]? := hff 6 _ rfl
  rw [c1, List.getElem?_eq_getElem (by omega : 6 < ys.length)] at t6
  obtain ⟨b6, q6, _⟩ := DataW.trod_bool Try.underlying4 t6
  have t7 : DataW.trod enc Try.prog W 0 (fun _ => true) true n 4 (([e0, e1, e2, e3, e4, e5, e6, e7, e8, e9, e10, e11, e12, e13].drop 7).take (Try.prog.cellsOf 4)) = ys[7]? := hff 7 _ rfl
  rw [c1, List.getElem?_eq_getElem (by omega : 7 < ys.length)] at t7
  obtain ⟨b7, q7, _⟩ := DataW.trod_bool Try.underlying4 t7
  have t8 : DataW.trod enc Try.prog W 0 (fun _ => true) true n 4 (([e0, e1, e2, e3, e4, e5, e6, e7, e8, e9, e10, e11, e12, e13].drop 8).take (Try.prog.cellsOf 4)) = ys[8]? := hff 8 _ rfl
  rw [c1, List.getElem?_eq_getElem (by omega : 8 < ys.length)] at t8
  obtain ⟨b8, q8, _⟩ := DataW.trod_bool Try.underlying4 t8
  have t9 : DataW.trod enc Try.prog W 0 (fun _ => true) true n 3 (([e0, e1, e2, e3, e4, e5, e6, e7, e8, e9, e10, e11, e12, e13].drop 9).take (Try.prog.cellsOf 3)) = ys[9]? := hff 9 _ rfl
  rw [c64, List.getElem?_eq_getElem (by omega : 9 < ys.length)] at t9
  obtain ⟨n9, q9, _, w9⟩ := DataW.trod_int Try.underlying3 t9
  have r9 := bounds_i64 w9
  have t10 : DataW.trod enc Try.prog W 0 (fun _ => true) true n 43 (([e0, e1, e2, e3, e4, e5, e6, e7, e8, e9, e10, e11, e12, e13].drop 10).take (Try.prog.cellsOf 43)) = ys[10]? := hff 10 _ rfl
  rw [c4, List.getElem?_eq_getElem (by omega : 10 < ys.length)] at t10
  obtain ⟨zs, m, _, _, _, hzl, hzz⟩ := DataW.trod_array Try.underlying43 t10
  have u0 := hzz 0 (by decide)
  rw [c64, List.getElem?_eq_getElem (by omega : 0 < zs.length)] at u0
  obtain ⟨m0, s0, _, x0⟩ := DataW.trod_int Try.underlying3 u0
  have y0 := bounds_i64 x0
  have u1 := hzz 1 (by decide)
  rw [c64, List.getElem?_eq_getElem (by omega : 1 < zs.length)] at u1
  obtain ⟨m1, s1, _, x1⟩ := DataW.trod_int Try.underlying3 u1
  have y1 := bounds_i64 x1
  have u2 := hzz 2 (by decide)
  rw [c64, List.getElem?_eq_getElem (by omega : 2 < zs.length)] at u2
  obtain ⟨m2, s2, _, x2⟩ := DataW.trod_int Try.underlying3 u2
  have y2 := bounds_i64 x2
  have u3 := hzz 3 (by decide)
  rw [c64, List.getElem?_eq_getElem (by omega : 3 < zs.length)] at u3
  obtain ⟨m3, s3, _, x3⟩ := DataW.trod_int Try.underlying3 u3
  have y3 := bounds_i64 x3
  simp only [List.drop_succ_cons, List.drop_zero, List.take_succ_cons, List.take_zero, List.cons.injEq, and_true] at q0 q1 q2 q3 q4 q5 q6 q7 q8 q9 s0 s1 s2 s3
  try simp at q0
  try simp at q1
  try simp at q2
  try simp at q3
  try simp at q4
  try simp at q5
  try simp at q6
  try simp at q7
  try simp at q8
  try simp at q9
  try simp at s0
  try simp at s1
  try simp at s2
  try simp at s3
  subst q0 q1 q2 q3 q4 q5 q6 q7 q8 q9 s0 s1 s2 s3
  refine ⟨⟨n0, b1, n2, b3, b4, b5, b6, b7, b8, n9, m0, m1, m2, m3⟩, ?_, r0, r2, r9, y0, y1, y2, y3⟩
  have : cs.toList = _ := hcs
  cases cs
  simp only at this
  subst this
  rfl
end Go.Proofs.Ytbemackcdccpaaa
