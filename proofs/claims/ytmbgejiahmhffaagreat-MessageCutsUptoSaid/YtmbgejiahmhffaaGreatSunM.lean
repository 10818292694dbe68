/-
  TEXTS OF THIS CLAIM, TOGETHER: Pnd, Openp, Pnm.
-/
import Derived.Test.YtmbgejiahmhffaaGreatSunI
import Derived.Test.YtmbgejiahmhffaaGreatSunL
import Derived.Test.YtmbgejiahmhffaaGreatSunG
import Derived.Test.YtmbgejiahmhffaaGreatSunK
import Derived.Deep.MidRow
import Derived.Deep.DeepCutAuto
import Derived.Deep.LoopGhost
/-
  LAYER 24: waiters and pending questions as they lie; which may be.
-/
namespace Go.Proofs.YtmbgejiahmhffaaGreat
open Go.RowKit
set_option linter.unusedVariables false
set_option linter.unusedSimpArgs false

structure Wt where
  cl : Int
  h : Hd
  q : Qn
structure Pn where
  id : Nat
  q : Qn
  sv : Int
  tr : Int
  dl : Int
  ws : List Wt
def Wt.ok (x : Wt) : Prop := i64k x.cl ∧ x.h.ok ∧ QOk x.q
def wcl (x : Wt) : List Value := [.int .i64 x.cl, .int .u16 x.h.id, .bool x.h.resp, .int .i64 x.h.op, .bool x.h.aa, .bool x.h.tc, .bool x.h.rd, .bool x.h.ra, .bool x.h.ad, .bool x.h.cd, .int .i64 x.h.rc, .int .i64 x.h.c0, .int .i64 x.h.c1, .int .i64 x.h.c2, .int .i64 x.h.c3, .string x.q.1, .int .i64 x.q.2.1, .int .i64 x.q.2.2]
/-- May a waiter be? -/
def Wt.may (x : Wt) : Bool := decide (qcheck x.q.1 x.q.2.1 x.q.2.2 = 0) && x.h.may
abbrev Pn.val (p : Pn) (A : Option Addr) (cap : Nat) : Value := .agg #[.int .u16 (p.id : Nat), .string p.q.1, .int .i64 p.q.2.1, .int .i64 p.q.2.2, .int .i64 p.sv, .int .i64 p.tr, .int .i64 p.dl, .slice A p.ws.length cap]
/-- May a pending question be, with so many waiters? -/
def Pn.bare (p : Pn) (most : Int) : Prop := qcheck p.q.1 p.q.2.1 p.q.2.2 = 0 ∧ 0 ≤ p.sv ∧ 0 ≤ p.tr ∧ (0 ≤ p.dl ∧ p.dl ≤ 1099511627776) ∧ 1 ≤ (p.ws.length : Int) ∧ (p.ws.length : Int) ≤ most
instance (p : Pn) (most : Int) : Decidable (p.bare most) := by unfold Pn.bare; exact inferInstance
def Pn.may (p : Pn) (most : Int) : Bool := decide (p.bare most) && p.ws.all Wt.may
theorem take_succ_of0 {α : Type} {l : List α} {k : Nat} {x : α} (h : l[k]? = some x) : l.take (k + 1) = l.take k ++ [x] := by rw [List.take_add_one, h]; rfl
structure PnIn (w : World) (A : Option Addr) (p : Pn) : Prop where
  row : RowIn w A (p.ws.flatMap wcl)
  ws : ∀ x ∈ p.ws, x.ok
  id : p.id < 65536
  q : QOk p.q
  sv : i64k p.sv
  tr : i64k p.tr
  dl : i64k p.dl
  len : p.ws.length ≤ 1048576
theorem range_fr0 {w wx : World} {b o : Nat} {cs : List Value} (f : Fr (fun _ => False) w wx) (hb : b < w.heap.size) (h : w.rangeAt b o cs) : wx.rangeAt b o cs := fun j v hv => (f.cell (p := ⟨b, o + j, none⟩) hb id).trans (h j v hv)
end Go.Proofs.YtmbgejiahmhffaaGreat

/-
  A HEADER, A WAITER, WAITERS, A PENDING QUESTION THAT CAME IN, OPENED (cells).
-/
namespace Go.Proofs.YtmbgejiahmhffaaGreat
set_option linter.unusedVariables false
set_option linter.unusedSimpArgs false
set_option linter.constructorNameAsVariable false
open Go.ChangeShapes Go.WideShapes Go.ChangeAt Go.RowKit Go.Deep

theorem eighteen_c {α : Type} : ∀ l : List α, l.length = 18 → ∃ e0 e1 e2 e3 e4 e5 e6 e7 e8 e9 e10 e11 e12 e13 e14 e15 e16 e17, l = [e0, e1, e2, e3, e4, e5, e6, e7, e8, e9, e10, e11, e12, e13, e14, e15, e16, e17]
  | [e0, e1, e2, e3, e4, e5, e6, e7, e8, e9, e10, e11, e12, e13, e14, e15, e16, e17], _ => ⟨e0, e1, e2, e3, e4, e5, e6, e7, e8, e9, e10, e11, e12, e13, e14, e15, e16, e17, rfl⟩
theorem bulk_pos {H : Type} (d : DataW H) : 1 ≤ Rows.uptoBulk d := by
  cases d with
  | lit l => cases l <;> simp [Rows.uptoBulk]
  | _ => simp [Rows.uptoBulk]
theorem bulk_count {H : Type} : ∀ l : List (DataW H), l.length ≤ Rows.uptoBulkAll l
  | [] => Nat.zero_le _
  | x :: r => by
    have := bulk_count r
    have := bulk_pos x
    simp only [Rows.uptoBulkAll, List.length_cons]
    omega
section
variable {W : World} {H : Type} {enc : TypeId × Value → H} {fuel : Nat} {cs : List Value} {x : DataW H × List MemPlace}
set_option maxRecDepth 100000 in
theorem open_header_c (hf : DataW.trod enc Tryz.prog W 0 (fun _ => true) true fuel 25 cs = some x) : ∃ h : Hd, cs = h.cells ∧ h.ok := by
  obtain ⟨ys, n, _, _, hl, hyl, hff⟩ := DataW.trod_struct Tryz.underlying25 hf
  have hc : Tryz.prog.cellsOf 25 = 14 := by kernel_rfl
  have c16 : Tryz.prog.cellsOf 22 = 1 := by kernel_rfl
  have c1 : Tryz.prog.cellsOf 4 = 1 := by kernel_rfl
  have c64 : Tryz.prog.cellsOf 3 = 1 := by kernel_rfl
  have c4 : Tryz.prog.cellsOf 23 = 4 := by kernel_rfl
  rw [hc] at hl
  change ys.length = 11 at hyl
  obtain ⟨e0, e1, e2, e3, e4, e5, e6, e7, e8, e9, e10, e11, e12, e13, hcs⟩ := fourteen _ hl
  rw [hcs] at hff
  have t0 : DataW.trod enc Tryz.prog W 0 (fun _ => true) true n 22 (([e0, e1, e2, e3, e4, e5, e6, e7, e8, e9, e10, e11, e12, e13].drop 0).take (Tryz.prog.cellsOf 22)) = ys[0]? := hff 0 _ rfl
  rw [c16, List.getElem?_eq_getElem (by omega : 0 < ys.length)] at t0
  obtain ⟨n0, q0, _, w0⟩ := DataW.trod_int Tryz.underlying22 t0
  have r0 := bounds_u16 w0
  have t1 : DataW.trod enc Tryz.prog W 0 (fun _ => true) true n 4 (([e0, e1, e2, e3, e4, e5, e6, e7, e8, e9, e10, e11, e12, e13].drop 1).take (Tryz.prog.cellsOf 4)) = ys[1]? := hff 1 _ rfl
  rw [c1, List.getElem?_eq_getElem (by omega : 1 < ys.length)] at t1
  obtain ⟨b1, q1, _⟩ := DataW.trod_bool Tryz.underlying4 t1
  have t2 : DataW.trod enc Tryz.prog W 0 (fun _ => true) true n 3 (([e0, e1, e2, e3, e4, e5, e6, e7, e8, e9, e10, e11, e12, e13].drop 2).take (Tryz.prog.cellsOf 3)) = ys[2]? := hff 2 _ rfl
  rw [c64, List.getElem?_eq_getElem (by omega : 2 < ys.length)] at t2
  obtain ⟨n2, q2, _, w2⟩ := DataW.trod_int Tryz.underlying3 t2
  have r2 := bounds_i64 w2
  have t3 : DataW.trod enc Tryz.prog W 0 (fun _ => true) true n 4 (([e0, e1, e2, e3, e4, e5, e6, e7, e8, e9, e10, e11, e12, e13].drop 3).take (Tryz.prog.cellsOf 4)) = ys[3]? := hff 3 _ rfl
  rw [c1, List.getElem?_eq_getElem (by omega : 3 < ys.length)] at t3
  obtain ⟨b3, q3, _⟩ := DataW.trod_bool Tryz.underlying4 t3
  have t4 : DataW.trod enc Tryz.prog W 0 (fun _ => true) true n 4 (([e0, e1, e2, e3, e4, e5, e6, e7, e8, e9, e10, e11, e12, e13].drop 4).take (Tryz.prog.cellsOf 4)) = ys[4]? := hff 4 _ rfl
  rw [c1, List.getElem?_eq_getElem (by omega : 4 < ys.length)] at t4
  obtain ⟨b4, q4, _⟩ := DataW.trod_bool Tryz.underlying4 t4
  have t5 : DataW.trod enc Tryz.prog W 0 (fun _ => true) true n 4 (([e0, e1, e2, e3, e4, e5, e6, e7, e8, e9, e10, e11, e12, e13].drop 5).take (Tryz.prog.cellsOf 4)) = ys[5]? := hff 5 _ rfl
  rw [c1, List.getElem?_eq_getElem (by omega : 5 < ys.length)] at t5
  obtain ⟨b5, q5, _⟩ := DataW.trod_bool Tryz.underlying4 t5
  have t6 : DataW.trod enc Tryz.prog W 0 (fun _ => true) true n 4 (([e0, e1, e2, e3, e4, e5, e6, e7, e8, e9, e10, e11, e12, e13].drop 6).take (Tryz.prog.cellsOf 4)) = ys[6]? := hff 6 _ rfl
  rw [c1, List.getElem?_eq_getElem (by omega : 6 < ys.length)] at t6
  obtain ⟨b6, q6, _⟩ := DataW.trod_bool Tryz.underlying4 t6
  have t7 : DataW.trod enc Tryz.prog W 0 (fun _ => true) true n 4 (([e0, e1, e2, e3, e4, e5, e6, e7, e8, e9, e10, e11, e12, e13].drop 7).take (Tryz.prog.cellsOf 4)) = ys[7]? := hff 7 _ rfl
  rw [c1, List.getElem?_eq_getElem (by omega : 7 < ys.length)] at t7
  obtain ⟨b7, q7, _⟩ := DataW.trod_bool Tryz.underlying4 t7
  have t8 : DataW.trod enc Tryz.prog W 0 (fun _ => true) true n 4 (([e0, e1, e2, e3, e4, e5, e6, e7, e8, e9, e10, e11, e12, e13].drop 8).take (Tryz.prog.cellsOf 4)) = ys[8]? := hff 8 _ rfl
  rw [c1, List.getElem?_eq_getElem (by omega : 8 < ys.length)] at t8
  obtain ⟨b8, q8, _⟩ := DataW.trod_bool Tryz.underlying4 t8
  have t9 : DataW.trod enc Tryz.prog W 0 (fun _ => true) true n 3 (([e0, e1, e2, e3, e4, e5, e6, e7, e8, e9, e10, e11, e12, e13].drop 9).take (Tryz.prog.cellsOf 3)) = ys[9]? := hff 9 _ rfl
  rw [c64, List.getElem?_eq_getElem (by omega : 9 < ys.length)] at t9
  obtain ⟨n9, q9, _, w9⟩ := DataW.trod_int Tryz.underlying3 t9
  have r9 := bounds_i64 w9
  have t10 : DataW.trod enc Tryz.prog W 0 (fun _ => true) true n 23 (([e0, e1, e2, e3, e4, e5, e6, e7, e8, e9, e10, e11, e12, e13].drop 10).take (Tryz.prog.cellsOf 23)) = ys[10]? := hff 10 _ rfl
  rw [c4, List.getElem?_eq_getElem (by omega : 10 < ys.length)] at t10
  obtain ⟨zs, m, _, _, _, hzl, hzz⟩ := DataW.trod_array Tryz.underlying23 t10
  have u0 := hzz 0 (by decide)
  rw [c64, List.getElem?_eq_getElem (by omega : 0 < zs.length)] at u0
  obtain ⟨m0, s0, _, x0⟩ := DataW.trod_int Tryz.underlying3 u0
  have y0 := bounds_i64 x0
  have u1 := hzz 1 (by decide)
  rw [c64, List.getElem?_eq_getElem (by omega : 1 < zs.length)] at u1
  obtain ⟨m1, s1, _, x1⟩ := DataW.trod_int Tryz.underlying3 u1
  have y1 := bounds_i64 x1
  have u2 := hzz 2 (by decide)
  rw [c64, List.getElem?_eq_getElem (by omega : 2 < zs.length)] at u2
  obtain ⟨m2, s2, _, x2⟩ := DataW.trod_int Tryz.underlying3 u2
  have y2 := bounds_i64 x2
  have u3 := hzz 3 (by decide)
  rw [c64, List.getElem?_eq_getElem (by omega : 3 < zs.length)] at u3
  obtain ⟨m3, s3, _, x3⟩ := DataW.trod_int Tryz.underlying3 u3
  have y3 := bounds_i64 x3
  simp only [List.drop_succ_cons, List.drop_zero, List.take_succ_cons, List.take_zero, List.cons.injEq, and_true] at q0 q1 q2 q3 q4 q5 q6 q7 q8 q9 s0 s1 s2 s3
  try simp at q0
  try simp at q1
  try simp at q2
  try simp at q3
  try simp at q4
  try simp at q5
  try simp at q6
  try simp at q7
  try simp at q8
  try simp at q9
  try simp at s0
  try simp at s1
  try simp at s2
  try simp at s3
  subst q0 q1 q2 q3 q4 q5 q6 q7 q8 q9 s0 s1 s2 s3
  exact ⟨⟨n0, b1, n2, b3, b4, b5, b6, b7, b8, n9, m0, m1, m2, m3⟩, hcs, r0, r2, r9, y0, y1, y2, y3⟩
end
end Go.Proofs.YtmbgejiahmhffaaGreat

/-
  LAYER 24: pending.may; Check.
-/
namespace Go.Proofs.YtmbgejiahmhffaaGreat
open Go.RowKit
set_option linter.unusedVariables false
set_option linter.unusedSimpArgs false

theorem rowIn_fr0 {w w' : World} {A : Option Addr} {vs : List Value} (h : RowIn w A vs) (f : Fr (fun _ => False) w w') : RowIn w' A vs := by
  intro h0
  obtain ⟨b, off, rfl, h2, h3⟩ := h h0
  exact ⟨b, off, rfl, Nat.lt_of_lt_of_le h2 f.size, fun i x hx => (f.cell (p := ⟨b, off + i, none⟩) h2 id).trans (h3 i x hx)⟩
theorem PnIn.fr0 {w w' : World} {A : Option Addr} {p : Pn} (h : PnIn w A p) (f : Fr (fun _ => False) w w') : PnIn w' A p := ⟨rowIn_fr0 h.row f, h.ws, h.id, h.q, h.sv, h.tr, h.dl, h.len⟩
end Go.Proofs.YtmbgejiahmhffaaGreat
