/-
  TEXTS OF THIS CLAIM, TOGETHER: Pnd, Pnm.
-/
import Derived.Test.YtmbgejiahmhffaaGreatUunI
import Derived.Test.YtmbgejiahmhffaaGreatUunL
import Derived.Test.YtmbgejiahmhffaaGreatUunG
import Derived.Test.YtmbgejiahmhffaaGreatUunK
import Derived.Deep.MidRow
import Derived.Deep.DeepCutAuto
import Derived.Deep.LoopGhost
/-
  LAYER 24: waiters and pending questions as they lie; which may be.
-/
namespace Go.Proofs.YtmbgejiahmhffaaGreat
open Go.RowKit
set_option linter.unusedVariables false
set_option linter.unusedSimpArgs false

structure Wt where
  cl : Int
  h : Hd
  q : Qn
structure Pn where
  id : Nat
  q : Qn
  sv : Int
  tr : Int
  dl : Int
  ws : List Wt
def Wt.ok (x : Wt) : Prop := i64k x.cl ∧ x.h.ok ∧ QOk x.q
def wcl (x : Wt) : List Value := [.int .i64 x.cl, .int .u16 x.h.id, .bool x.h.resp, .int .i64 x.h.op, .bool x.h.aa, .bool x.h.tc, .bool x.h.rd, .bool x.h.ra, .bool x.h.ad, .bool x.h.cd, .int .i64 x.h.rc, .int .i64 x.h.c0, .int .i64 x.h.c1, .int .i64 x.h.c2, .int .i64 x.h.c3, .string x.q.1, .int .i64 x.q.2.1, .int .i64 x.q.2.2]
/-- May a waiter be? -/
def Wt.may (x : Wt) : Bool := decide (qcheck x.q.1 x.q.2.1 x.q.2.2 = 0) && x.h.may
abbrev Pn.val (p : Pn) (A : Option Addr) (cap : Nat) : Value := .agg #[.int .u16 (p.id : Nat), .string p.q.1, .int .i64 p.q.2.1, .int .i64 p.q.2.2, .int .i64 p.sv, .int .i64 p.tr, .int .i64 p.dl, .slice A p.ws.length cap]
/-- May a pending question be, with so many waiters? -/
def Pn.bare (p : Pn) (most : Int) : Prop := qcheck p.q.1 p.q.2.1 p.q.2.2 = 0 ∧ 0 ≤ p.sv ∧ 0 ≤ p.tr ∧ (0 ≤ p.dl ∧ p.dl ≤ 1099511627776) ∧ 1 ≤ (p.ws.length : Int) ∧ (p.ws.length : Int) ≤ most
instance (p : Pn) (most : Int) : Decidable (p.bare most) := by unfold Pn.bare; exact inferInstance
def Pn.may (p : Pn) (most : Int) : Bool := decide (p.bare most) && p.ws.all Wt.may
theorem take_succ_of0 {α : Type} {l : List α} {k : Nat} {x : α} (h : l[k]? = some x) : l.take (k + 1) = l.take k ++ [x] := by rw [List.take_add_one, h]; rfl
structure PnIn (w : World) (A : Option Addr) (p : Pn) : Prop where
  row : RowIn w A (p.ws.flatMap wcl)
  ws : ∀ x ∈ p.ws, x.ok
  id : p.id < 65536
  q : QOk p.q
  sv : i64k p.sv
  tr : i64k p.tr
  dl : i64k p.dl
  len : p.ws.length ≤ 1048576
theorem range_fr0 {w wx : World} {b o : Nat} {cs : List Value} (f : Fr (fun _ => False) w wx) (hb : b < w.heap.size) (h : w.rangeAt b o cs) : wx.rangeAt b o cs := fun j v hv => (f.cell (p := ⟨b, o + j, none⟩) hb id).trans (h j v hv)
end Go.Proofs.YtmbgejiahmhffaaGreat

/-
  LAYER 24: pending.may; Check.
-/
namespace Go.Proofs.YtmbgejiahmhffaaGreat
open Go.RowKit
set_option linter.unusedVariables false
set_option linter.unusedSimpArgs false

theorem rowIn_fr0 {w w' : World} {A : Option Addr} {vs : List Value} (h : RowIn w A vs) (f : Fr (fun _ => False) w w') : RowIn w' A vs := by
  intro h0
  obtain ⟨b, off, rfl, h2, h3⟩ := h h0
  exact ⟨b, off, rfl, Nat.lt_of_lt_of_le h2 f.size, fun i x hx => (f.cell (p := ⟨b, off + i, none⟩) h2 id).trans (h3 i x hx)⟩
theorem PnIn.fr0 {w w' : World} {A : Option Addr} {p : Pn} (h : PnIn w A p) (f : Fr (fun _ => False) w w') : PnIn w' A p := ⟨rowIn_fr0 h.row f, h.ws, h.id, h.q, h.sv, h.tr, h.dl, h.len⟩
end Go.Proofs.YtmbgejiahmhffaaGreat
