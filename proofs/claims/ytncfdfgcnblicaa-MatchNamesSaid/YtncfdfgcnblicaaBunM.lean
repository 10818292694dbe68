/-
  TEXTS OF THIS CLAIM, TOGETHER: Pnd, Openp, Pnm, Pnc, Vmp, Ord.
-/
import Derived.Test.YtncfdfgcnblicaaBunI
import Derived.Test.YtncfdfgcnblicaaBunL
import Derived.Test.YtncfdfgcnblicaaBunG
import Derived.Test.YtncfdfgcnblicaaBunK
import Derived.Deep.MidRow
import Derived.Deep.DeepCutAuto
import Derived.Deep.LoopGhost
import Derived.Test.YtncfdfgcnblicaaBunA
import Derived.Test.YtncfdfgcnblicaaProg
import Derived.Maps.Own
import Derived.Maps.OwnSet
import Derived.Maps.Views
/-
  LAYER 24: waiters and pending questions as they lie; which may be.
-/
namespace Go.Proofs.Ytncfdfgcnblicaa
open Go.RowKit
set_option linter.unusedVariables false
set_option linter.unusedSimpArgs false

structure Wt where
  cl : Int
  h : Hd
  q : Qn
structure Pn where
  id : Nat
  q : Qn
  sv : Int
  tr : Int
  dl : Int
  ws : List Wt
def Wt.ok (x : Wt) : Prop := i64k x.cl ∧ x.h.ok ∧ QOk x.q
def wcl (x : Wt) : List Value := [.int .i64 x.cl, .int .u16 x.h.id, .bool x.h.resp, .int .i64 x.h.op, .bool x.h.aa, .bool x.h.tc, .bool x.h.rd, .bool x.h.ra, .bool x.h.ad, .bool x.h.cd, .int .i64 x.h.rc, .int .i64 x.h.c0, .int .i64 x.h.c1, .int .i64 x.h.c2, .int .i64 x.h.c3, .string x.q.1, .int .i64 x.q.2.1, .int .i64 x.q.2.2]
/-- May a waiter be? -/
def Wt.may (x : Wt) : Bool := decide (qcheck x.q.1 x.q.2.1 x.q.2.2 = 0) && x.h.may
abbrev Pn.val (p : Pn) (A : Option Addr) (cap : Nat) : Value := .agg #[.int .u16 (p.id : Nat), .string p.q.1, .int .i64 p.q.2.1, .int .i64 p.q.2.2, .int .i64 p.sv, .int .i64 p.tr, .int .i64 p.dl, .slice A p.ws.length cap]
/-- May a pending question be, with so many waiters? -/
def Pn.bare (p : Pn) (most : Int) : Prop := qcheck p.q.1 p.q.2.1 p.q.2.2 = 0 ∧ 0 ≤ p.sv ∧ 0 ≤ p.tr ∧ (0 ≤ p.dl ∧ p.dl ≤ 1099511627776) ∧ 1 ≤ (p.ws.length : Int) ∧ (p.ws.length : Int) ≤ most
instance (p : Pn) (most : Int) : Decidable (p.bare most) := by unfold Pn.bare; exact inferInstance
def Pn.may (p : Pn) (most : Int) : Bool := decide (p.bare most) && p.ws.all Wt.may
theorem take_succ_of0 {α : Type} {l : List α} {k : Nat} {x : α} (h : l[k]? = some x) : l.take (k + 1) = l.take k ++ [x] := by rw [List.take_add_one, h]; rfl
structure PnIn (w : World) (A : Option Addr) (p : Pn) : Prop where
  row : RowIn w A (p.ws.flatMap wcl)
  ws : ∀ x ∈ p.ws, x.ok
  id : p.id < 65536
  q : QOk p.q
  sv : i64k p.sv
  tr : i64k p.tr
  dl : i64k p.dl
  len : p.ws.length ≤ 1048576

set_option maxRecDepth 100000 in
set_option maxHeartbeats 4000000 in
theorem waits_any (x : Wt) (w : World) (hx : x.ok) : Calls Try.prog 71 #[.agg #[.int .i64 x.cl, .int .u16 x.h.id, .bool x.h.resp, .int .i64 x.h.op, .bool x.h.aa, .bool x.h.tc, .bool x.h.rd, .bool x.h.ra, .bool x.h.ad, .bool x.h.cd, .int .i64 x.h.rc, .int .i64 x.h.c0, .int .i64 x.h.c1, .int .i64 x.h.c2, .int .i64 x.h.c3, .string x.q.1, .int .i64 x.q.2.1, .int .i64 x.q.2.2]] w (EqPost w x.may) := by
  obtain ⟨W, hW⟩ : ∃ W, W = w.alloc (.cells #[.int .i64 x.cl, .int .u16 x.h.id, .bool x.h.resp, .int .i64 x.h.op, .bool x.h.aa, .bool x.h.tc, .bool x.h.rd, .bool x.h.ra, .bool x.h.ad, .bool x.h.cd, .int .i64 x.h.rc, .int .i64 x.h.c0, .int .i64 x.h.c1, .int .i64 x.h.c2, .int .i64 x.h.c3, .string x.q.1, .int .i64 x.q.2.1, .int .i64 x.q.2.2] 69) := ⟨_, rfl⟩
  have hb : Blk W w.heap.size 69 #[.int .i64 x.cl, .int .u16 x.h.id, .bool x.h.resp, .int .i64 x.h.op, .bool x.h.aa, .bool x.h.tc, .bool x.h.rd, .bool x.h.ra, .bool x.h.ad, .bool x.h.cd, .int .i64 x.h.rc, .int .i64 x.h.c0, .int .i64 x.h.c1, .int .i64 x.h.c2, .int .i64 x.h.c3, .string x.q.1, .int .i64 x.q.2.1, .int .i64 x.q.2.2] := by rw [hW]; exact Blk.new _ _ _
  have hf : Fr (fun _ => False) w W := by rw [hW]; exact (Fr.refl _ _).alloc _
  obtain ⟨kq, hkq⟩ : ∃ k, k = qcheck x.q.1 x.q.2.1 x.q.2.2 := ⟨_, rfl⟩
  obtain ⟨R, hR⟩ : ∃ R, R = x.may := ⟨_, rfl⟩
  rw [← hR]
  unfold Wt.may at hR
  rw [← hkq] at hR
  have c0 := hb.cell 15
  have c1 := hb.cell 16
  have c2 := hb.cell 17
  have HB := Lib.hid (And.intro hb hf)
  have HR := Lib.hid (And.intro hkq (And.intro hR hx))
  have HW := Lib.hid hW
  clear hb hf hR hkq hW hx
  by_cases h1 : kq = 0
  · have e1 : (kq == 0) = true := by simp [h1]
    have H1 := Lib.hid h1
    clear h1
    go_enter Try.func71, Try.ntmps71
    go_upto_region 1 with fail
    rw [← HW.out]
    clear HW
    go_wp2_with (first
      | (go_at_call 45
         (with_reducible refine (qcheck_any x.q.1 x.q.2.1 x.q.2.2 _).mono ?_)
         rintro e w1 ⟨rfl, f1⟩
         rw [← HR.out.1]
         have H2 := Lib.hid (And.intro (HB.out.1.fr f1 id) (HB.out.2.then f1))
         clear f1 c0 c1 c2)
      | (refine wpList_load_partg (by first | rfl | (simp [Region.wanted, yielded]; done)) 33 _ rfl w.heap.size 1 (by rfl) 69 _ 14 _ H2.out.1 Try.underlying33 rfl (by kernel_rfl) (by simp) #[.int .u16 x.h.id, .bool x.h.resp, .int .i64 x.h.op, .bool x.h.aa, .bool x.h.tc, .bool x.h.rd, .bool x.h.ra, .bool x.h.ad, .bool x.h.cd, .int .i64 x.h.rc, .int .i64 x.h.c0, .int .i64 x.h.c1, .int .i64 x.h.c2, .int .i64 x.h.c3] (by rfl) ?_)
      | (go_at_call 79
         (with_reducible refine (check_any x.h _).mono ?_)
         rintro e w3 ⟨rfl, f3⟩
         have H3 := Lib.hid (H2.out.2.then f3)
         clear f3)
      | fail "no arm")
    go_ret
    refine ⟨ret_bool ?_, H3.out⟩
    rw [HR.out.2.1, H1.out]
    unfold Hd.check
    by_cases hm : x.h.may = true
    · rw [hm]; rfl
    · have hm' : x.h.may = false := by simpa using hm
      rw [hm']; rfl
  · have e1 : (kq == 0) = false := by simp [h1]
    have H1 := Lib.hid h1
    clear h1
    go_enter Try.func71, Try.ntmps71
    go_upto_region 1 with fail
    rw [← HW.out]
    clear HW
    go_wp2_with (first
      | (go_at_call 45
         (with_reducible refine (qcheck_any x.q.1 x.q.2.1 x.q.2.2 _).mono ?_)
         rintro e w1 ⟨rfl, f1⟩
         rw [← HR.out.1]
         have H2 := Lib.hid (HB.out.2.then f1)
         clear f1 c0 c1 c2)
      | fail "no arm")
    go_ret
    exact ⟨ret_bool (by rw [HR.out.2.1, decide_eq_false H1.out]; rfl), H2.out⟩

theorem may1_any (x : Wt) (w : World) (hx : x.ok) : Calls Try.prog 70 #[.agg #[.int .i64 x.cl, .int .u16 x.h.id, .bool x.h.resp, .int .i64 x.h.op, .bool x.h.aa, .bool x.h.tc, .bool x.h.rd, .bool x.h.ra, .bool x.h.ad, .bool x.h.cd, .int .i64 x.h.rc, .int .i64 x.h.c0, .int .i64 x.h.c1, .int .i64 x.h.c2, .int .i64 x.h.c3, .string x.q.1, .int .i64 x.q.2.1, .int .i64 x.q.2.2]] w (EqPost w (!x.may)) := by
  have hb : Blk (w.alloc (.cells #[.int .i64 x.cl, .int .u16 x.h.id, .bool x.h.resp, .int .i64 x.h.op, .bool x.h.aa, .bool x.h.tc, .bool x.h.rd, .bool x.h.ra, .bool x.h.ad, .bool x.h.cd, .int .i64 x.h.rc, .int .i64 x.h.c0, .int .i64 x.h.c1, .int .i64 x.h.c2, .int .i64 x.h.c3, .string x.q.1, .int .i64 x.q.2.1, .int .i64 x.q.2.2] 69)) w.heap.size 69 #[.int .i64 x.cl, .int .u16 x.h.id, .bool x.h.resp, .int .i64 x.h.op, .bool x.h.aa, .bool x.h.tc, .bool x.h.rd, .bool x.h.ra, .bool x.h.ad, .bool x.h.cd, .int .i64 x.h.rc, .int .i64 x.h.c0, .int .i64 x.h.c1, .int .i64 x.h.c2, .int .i64 x.h.c3, .string x.q.1, .int .i64 x.q.2.1, .int .i64 x.q.2.2] := Blk.new _ _ _
  obtain ⟨W, hW⟩ : ∃ W, W = w.alloc (.cells #[.int .i64 x.cl, .int .u16 x.h.id, .bool x.h.resp, .int .i64 x.h.op, .bool x.h.aa, .bool x.h.tc, .bool x.h.rd, .bool x.h.ra, .bool x.h.ad, .bool x.h.cd, .int .i64 x.h.rc, .int .i64 x.h.c0, .int .i64 x.h.c1, .int .i64 x.h.c2, .int .i64 x.h.c3, .string x.q.1, .int .i64 x.q.2.1, .int .i64 x.q.2.2] 69) := ⟨_, rfl⟩
  rw [← hW] at hb
  have HB := Lib.hid (And.intro hb (show Fr (fun _ => False) w W from by rw [hW]; exact (Fr.refl _ _).alloc _))
  have HW := Lib.hid hW
  clear hb hW
  go_enter Try.func70, Try.ntmps70
  go_upto_region 1 with fail
  rw [← HW.out]
  clear HW
  go_wp2_with (first
    | (refine wpList_load_blk rfl 69 _ rfl w.heap.size (by rfl) 69 _ _ HB.out.1 Try.underlying69 rfl (by kernel_rfl) ?_)
    | (go_at_call 71
       (with_reducible refine (waits_any x _ hx).mono ?_)
       rintro e w1 ⟨rfl, f1⟩
       have H1 := Lib.hid (HB.out.2.then f1)
       clear f1)
    | fail "no arm")
  go_ret
  exact ⟨rfl, H1.out⟩
theorem wcl_len (x : Wt) : (wcl x).length = 18 := rfl
theorem rowIn_w {w : World} {A : Option Addr} {l : List Wt} (h : RowIn w A (l.flatMap wcl)) {i : Nat} {x : Wt} (hq : l[i]? = some x) :
    ∃ b off, A = some ⟨b, off, none⟩ ∧ b < w.heap.size ∧ w.rangeAt b (off + i * 18) [.int .i64 x.cl, .int .u16 x.h.id, .bool x.h.resp, .int .i64 x.h.op, .bool x.h.aa, .bool x.h.tc, .bool x.h.rd, .bool x.h.ra, .bool x.h.ad, .bool x.h.cd, .int .i64 x.h.rc, .int .i64 x.h.c0, .int .i64 x.h.c1, .int .i64 x.h.c2, .int .i64 x.h.c3, .string x.q.1, .int .i64 x.q.2.1, .int .i64 x.q.2.2] := by
  have hl := (List.getElem?_eq_some_iff.1 hq).1
  obtain ⟨b, off, h1, h2, h3⟩ := h (by rw [flat_len wcl 18 wcl_len]; omega)
  exact ⟨b, off, h1, h2, fun j v hj => by rw [Nat.add_assoc]; exact h3 _ _ (flat_put wcl 18 wcl_len l i j x v hq hj)⟩
theorem range_fr0 {w wx : World} {b o : Nat} {cs : List Value} (f : Fr (fun _ => False) w wx) (hb : b < w.heap.size) (h : w.rangeAt b o cs) : wx.rangeAt b o cs := fun j v hv => (f.cell (p := ⟨b, o + j, none⟩) hb id).trans (h j v hv)
/-- Where the first waiter stands that may not be. -/
def badPost (w : World) (l : List Wt) (e : Ending) (w' : World) : Prop := ∃ r : Int, e = .returned (.int .i64 r) ∧ (0 ≤ r ↔ l.all Wt.may = false) ∧ -1 ≤ r ∧ r ≤ 9223372036854775807 ∧ Fr (fun _ => False) w w'
set_option maxRecDepth 100000 in
set_option maxHeartbeats 4000000 in
theorem windex_any (A : Option Addr) (cap : Nat) (l : List Wt) (w : World) (h : RowIn w A (l.flatMap wcl)) (hl : ∀ x ∈ l, x.ok) (hn : l.length ≤ 1048576) :
    Calls Try.prog 78 #[.slice A l.length cap, .func (.func 70) #[] #[]] w (badPost w l) := by
  have HL := Lib.hid (And.intro h hl)
  clear h hl
  go_enter Try.func78, Try.ntmps78
  go_upto_region 2 with fail
  go_loopw [8] (fun i wr => ∃ k : Nat, k ≤ l.length ∧ i = .int .i64 (k : Nat) ∧ (l.take k).all Wt.may = true ∧ Fr (fun _ => False) w wr) (fun i _ => l.length - (intOf i).toNat)
  case atStart => exact ⟨0, Nat.zero_le _, rfl, rfl, Fr.refl _ _⟩
  case round =>
    obtain ⟨k, hk, rfl, hall, hfr⟩ := hrel
    have HF := Lib.hid (And.intro hall hfr)
    clear hall hfr
    by_cases hlt : k < l.length
    · obtain ⟨x, hx⟩ : ∃ x, l[k]? = some x := ⟨l[k], List.getElem?_eq_getElem hlt⟩
      obtain ⟨b, off, rfl, hbs, hrg⟩ := rowIn_w HL.out.1 hx
      have HX := Lib.hid (And.intro hx (HL.out.2 x (List.mem_of_getElem? hx)))
      have HR := Lib.hid (range_fr0 HF.out.2 hbs hrg)
      clear hx hrg
      have hk0 : (0 : Int) ≤ (k : Int) := by omega
      by_cases hm : x.may = true
      · have HM := Lib.hid hm
        clear hm
        go_wp2_with (first
          | (refine wpList_load_mid rfl 69 _ rfl b (off + k * 18) (by rfl) [.int .i64 x.cl, .int .u16 x.h.id, .bool x.h.resp, .int .i64 x.h.op, .bool x.h.aa, .bool x.h.tc, .bool x.h.rd, .bool x.h.ra, .bool x.h.ad, .bool x.h.cd, .int .i64 x.h.rc, .int .i64 x.h.c0, .int .i64 x.h.c1, .int .i64 x.h.c2, .int .i64 x.h.c3, .string x.q.1, .int .i64 x.q.2.1, .int .i64 x.q.2.2] _ HR.out Try.underlying69 rfl (by kernel_rfl) ?_)
          | ((with_reducible refine (may1_any x _ HX.out.2).mono ?_)
             rintro e w1 ⟨rfl, f1⟩
             rw [HM.out]
             have H1 := Lib.hid (HF.out.2.then f1)
             clear f1)
          | fail "no arm")
        go_roundw
        case rel => exact ⟨k + 1, by omega, by go_num, by rw [take_succ_of0 HX.out.1, List.all_append, HF.out.1]; simp [HM.out], H1.out⟩
        case measure => simp [intOf]; omega
      · have hm' : x.may = false := by simpa using hm
        have HM := Lib.hid hm'
        clear hm hm'
        go_wp2_with (first
          | (refine wpList_load_mid rfl 69 _ rfl b (off + k * 18) (by rfl) [.int .i64 x.cl, .int .u16 x.h.id, .bool x.h.resp, .int .i64 x.h.op, .bool x.h.aa, .bool x.h.tc, .bool x.h.rd, .bool x.h.ra, .bool x.h.ad, .bool x.h.cd, .int .i64 x.h.rc, .int .i64 x.h.c0, .int .i64 x.h.c1, .int .i64 x.h.c2, .int .i64 x.h.c3, .string x.q.1, .int .i64 x.q.2.1, .int .i64 x.q.2.2] _ HR.out Try.underlying69 rfl (by kernel_rfl) ?_)
          | ((with_reducible refine (may1_any x _ HX.out.2).mono ?_)
             rintro e w1 ⟨rfl, f1⟩
             rw [HM.out]
             have H1 := Lib.hid (HF.out.2.then f1)
             clear f1)
          | fail "no arm")
        go_ret
        refine ⟨(k : Nat), rfl, ⟨fun _ => ?_, fun _ => by omega⟩, by omega, by omega, H1.out⟩
        rw [List.all_eq_false]
        exact ⟨x, List.mem_of_getElem? HX.out.1, by rw [HM.out]; decide⟩
    · have hke : k = l.length := by omega
      subst hke
      go_wp2_with fail
      go_ret
      refine ⟨-1, rfl, ⟨fun h => absurd h (by decide), fun h => ?_⟩, by decide, by decide, HF.out.2⟩
      have := HF.out.1
      rw [List.take_length, h] at this
      exact absurd this (by decide)
theorem wcont_any (A : Option Addr) (cap : Nat) (l : List Wt) (w : World) (h : RowIn w A (l.flatMap wcl)) (hl : ∀ x ∈ l, x.ok) (hn : l.length ≤ 1048576) :
    Calls Try.prog 69 #[.slice A l.length cap, .func (.func 70) #[] #[]] w (EqPost w (!l.all Wt.may)) := by
  go_enter Try.func69, Try.ntmps69
  go_wp2_with fail
  refine (windex_any A cap l _ h hl hn).mono ?_
  rintro e w1 ⟨r, rfl, hr, hr1, hr2, f1⟩
  have HR := Lib.hid (And.intro hr f1)
  clear hr f1
  go_wp2_with fail
  go_ret
  refine ⟨ret_bool ?_, HR.out.2⟩
  by_cases h0 : 0 ≤ r
  · rw [HR.out.1.1 h0, decide_eq_true h0]; rfl
  · rw [decide_eq_false h0]
    have : l.all Wt.may = true := by
      rcases hb : l.all Wt.may with _ | _
      · exact absurd (HR.out.1.2 hb) h0
      · rfl
    rw [this]; rfl
theorem within_any (x : Int) (w : World) (hx : i64k x) : Calls Try.prog 77 #[.int .i64 x, .int .i64 0, .int .i64 1099511627776] w fun e w' => e = .returned (.bool (decide (0 ≤ x ∧ x ≤ 1099511627776))) ∧ w = w' := by
  obtain ⟨h1, h2⟩ := hx
  by_cases h0 : 0 ≤ x
  · go_enter Try.func77, Try.ntmps77
    go_wp2_with fail
    go_ret
    exact ⟨ret_bool (by simp [h0]), rfl⟩
  · go_enter Try.func77, Try.ntmps77
    go_wp2_with fail
    go_ret
    exact ⟨ret_bool (by first | (simp; omega) | simp_all), rfl⟩
def tickE (x : Int) : Int := if 0 ≤ x ∧ x ≤ 1099511627776 then 0 else 2
theorem tick_any (x : Int) (w : World) (hx : i64k x) : Calls Try.prog 68 #[.int .i64 x] w fun e w' => e = .returned (.int .i64 (tickE x)) ∧ w = w' := by
  unfold tickE
  by_cases h0 : 0 ≤ x ∧ x ≤ 1099511627776
  · rw [if_pos h0]
    have hd : decide (0 ≤ x ∧ x ≤ 1099511627776) = true := decide_eq_true h0
    have HD := Lib.hid hd
    clear hd h0
    go_enter Try.func68, Try.ntmps68
    go_wp2_with fail
    refine (within_any x _ hx).mono ?_
    rintro e w1 ⟨rfl, rfl⟩
    rw [HD.out]
    go_wp2_with fail
    go_ret
    exact ⟨rfl, rfl⟩
  · rw [if_neg h0]
    have hd : decide (0 ≤ x ∧ x ≤ 1099511627776) = false := decide_eq_false h0
    have HD := Lib.hid hd
    clear hd h0
    go_enter Try.func68, Try.ntmps68
    go_wp2_with fail
    refine (within_any x _ hx).mono ?_
    rintro e w1 ⟨rfl, rfl⟩
    rw [HD.out]
    go_wp2_with fail
    go_ret
    exact ⟨rfl, rfl⟩
end Go.Proofs.Ytncfdfgcnblicaa

/-
  A HEADER, A WAITER, WAITERS, A PENDING QUESTION THAT CAME IN, OPENED (cells).
-/
namespace Go.Proofs.Ytncfdfgcnblicaa
set_option linter.unusedVariables false
set_option linter.unusedSimpArgs false
set_option linter.constructorNameAsVariable false
open Go.ChangeShapes Go.WideShapes Go.ChangeAt Go.RowKit Go.Deep

theorem eighteen_c {α : Type} : ∀ l : List α, l.length = 18 → ∃ e0 e1 e2 e3 e4 e5 e6 e7 e8 e9 e10 e11 e12 e13 e14 e15 e16 e17, l = [e0, e1, e2, e3, e4, e5, e6, e7, e8, e9, e10, e11, e12, e13, e14, e15, e16, e17]
  | [e0, e1, e2, e3, e4, e5, e6, e7, e8, e9, e10, e11, e12, e13, e14, e15, e16, e17], _ => ⟨e0, e1, e2, e3, e4, e5, e6, e7, e8, e9, e10, e11, e12, e13, e14, e15, e16, e17, rfl⟩
theorem eight_c {α : Type} : ∀ l : List α, l.length = 8 → ∃ e0 e1 e2 e3 e4 e5 e6 e7, l = [e0, e1, e2, e3, e4, e5, e6, e7]
  | [e0, e1, e2, e3, e4, e5, e6, e7], _ => ⟨e0, e1, e2, e3, e4, e5, e6, e7, rfl⟩
theorem bulk_pos {H : Type} (d : DataW H) : 1 ≤ Rows.uptoBulk d := by
  cases d with
  | lit l => cases l <;> simp [Rows.uptoBulk]
  | _ => simp [Rows.uptoBulk]
theorem bulk_count {H : Type} : ∀ l : List (DataW H), l.length ≤ Rows.uptoBulkAll l
  | [] => Nat.zero_le _
  | x :: r => by
    have := bulk_count r
    have := bulk_pos x
    simp only [Rows.uptoBulkAll, List.length_cons]
    omega
section
variable {W : World} {H : Type} {enc : TypeId × Value → H} {fuel : Nat} {cs : List Value} {x : DataW H × List MemPlace}
set_option maxRecDepth 100000 in
theorem open_header_c (hf : DataW.trod enc Try.prog W 0 (fun _ => true) true fuel 33 cs = some x) : ∃ h : Hd, cs = h.cells ∧ h.ok := by
  obtain ⟨ys, n, _, _, hl, hyl, hff⟩ := DataW.trod_struct Try.underlying33 hf
  have hc : Try.prog.cellsOf 33 = 14 := by kernel_rfl
  have c16 : Try.prog.cellsOf 22 = 1 := by kernel_rfl
  have c1 : Try.prog.cellsOf 4 = 1 := by kernel_rfl
  have c64 : Try.prog.cellsOf 3 = 1 := by kernel_rfl
  have c4 : Try.prog.cellsOf 31 = 4 := by kernel_rfl
  rw [hc] at hl
  change ys.length = 11 at hyl
  obtain ⟨e0, e1, e2, e3, e4, e5, e6, e7, e8, e9, e10, e11, e12, e13, hcs⟩ := fourteen _ hl
  rw [hcs] at hff
  have t0 : DataW.trod enc Try.prog W 0 (fun _ => true) true n 22 (([e0, e1, e2, e3, e4, e5, e6, e7, e8, e9, e10, e11, e12, e13].drop 0).take (Try.prog.cellsOf 22)) = ys[0]? := hff 0 _ rfl
  rw [c16, List.getElem?_eq_getElem (by omega : 0 < ys.length)] at t0
  obtain ⟨n0, q0, _, w0⟩ := DataW.trod_int Try.underlying22 t0
  have r0 := bounds_u16 w0
  have t1 : DataW.trod enc Try.prog W 0 (fun _ => true) true n 4 (([e0, e1, e2, e3, e4, e5, e6, e7, e8, e9, e10, e11, e12, e13].drop 1).take (Try.prog.cellsOf 4)) = ys[1]? := hff 1 _ rfl
  rw [c1, List.getElem?_eq_getElem (by omega : 1 < ys.length)] at t1
  obtain ⟨b1, q1, _⟩ := DataW.trod_bool Try.underlying4 t1
  have t2 : DataW.trod enc Try.prog W 0 (fun _ => true) true n 3 (([e0, e1, e2, e3, e4, e5, e6, e7, e8, e9, e10, e11, e12, e13].drop 2).take (Try.prog.cellsOf 3)) = ys[2]? := hff 2 _ rfl
  rw [c64, List.getElem?_eq_getElem (by omega : 2 < ys.length)] at t2
  obtain ⟨n2, q2, _, w2⟩ := DataW.trod_int Try.underlying3 t2
  have r2 := bounds_i64 w2
  have t3 : DataW.trod enc Try.prog W 0 (fun _ => true) true n 4 (([e0, e1, e2, e3, e4, e5, e6, e7, e8, e9, e10, e11, e12, e13].drop 3).take (Try.prog.cellsOf 4)) = ys[3]? := hff 3 _ rfl
  rw [c1, List.getElem?_eq_getElem (by omega : 3 < ys.length)] at t3
  obtain ⟨b3, q3, _⟩ := DataW.trod_bool Try.underlying4 t3
  have t4 : DataW.trod enc Try.prog W 0 (fun _ => true) true n 4 (([e0, e1, e2, e3, e4, e5, e6, e7, e8, e9, e10, e11, e12, e13].drop 4).take (Try.prog.cellsOf 4)) = ys[4]? := hff 4 _ rfl
  rw [c1, List.getElem?_eq_getElem (by omega : 4 < ys.length)] at t4
  obtain ⟨b4, q4, _⟩ := DataW.trod_bool Try.underlying4 t4
  have t5 : DataW.trod enc Try.prog W 0 (fun _ => true) true n 4 (([e0, e1, e2, e3, e4, e5, e6, e7, e8, e9, e10, e11, e12, e13].drop 5).take (Try.prog.cellsOf 4)) = ys[5]? := hff 5 _ rfl
  rw [c1, List.getElem?_eq_getElem (by omega : 5 < ys.length)] at t5
  obtain ⟨b5, q5, _⟩ := DataW.trod_bool Try.underlying4 t5
  have t6 : DataW.trod enc Try.prog W 0 (fun _ => true) true n 4 (([e0, e1, e2, e3, e4, e5, e6, e7, e8, e9, e10, e11, e12, e13].drop 6).take (Try.prog.cellsOf 4)) = ys[6]? := hff 6 _ rfl
  rw [c1, List.getElem?_eq_getElem (by omega : 6 < ys.length)] at t6
  obtain ⟨b6, q6, _⟩ := DataW.trod_bool Try.underlying4 t6
  have t7 : DataW.trod enc Try.prog W 0 (fun _ => true) true n 4 (([e0, e1, e2, e3, e4, e5, e6, e7, e8, e9, e10, e11, e12, e13].drop 7).take (Try.prog.cellsOf 4)) = ys[7]? := hff 7 _ rfl
  rw [c1, List.getElem?_eq_getElem (by omega : 7 < ys.length)] at t7
  obtain ⟨b7, q7, _⟩ := DataW.trod_bool Try.underlying4 t7
  have t8 : DataW.trod enc Try.prog W 0 (fun _ => true) true n 4 (([e0, e1, e2, e3, e4, e5, e6, e7, e8, e9, e10, e11, e12, e13].drop 8).take (Try.prog.cellsOf 4)) = ys[8]? := hff 8 _ rfl
  rw [c1, List.getElem?_eq_getElem (by omega : 8 < ys.length)] at t8
  obtain ⟨b8, q8, _⟩ := DataW.trod_bool Try.underlying4 t8
  have t9 : DataW.trod enc Try.prog W 0 (fun _ => true) true n 3 (([e0, e1, e2, e3, e4, e5, e6, e7, e8, e9, e10, e11, e12, e13].drop 9).take (Try.prog.cellsOf 3)) = ys[9]? := hff 9 _ rfl
  rw [c64, List.getElem?_eq_getElem (by omega : 9 < ys.length)] at t9
  obtain ⟨n9, q9, _, w9⟩ := DataW.trod_int Try.underlying3 t9
  have r9 := bounds_i64 w9
  have t10 : DataW.trod enc Try.prog W 0 (fun _ => true) true n 31 (([e0, e1, e2, e3, e4, e5, e6, e7, e8, e9, e10, e11, e12, e13].drop 10).take (Try.prog.cellsOf 31)) = ys[10]? := hff 10 _ rfl
  rw [c4, List.getElem?_eq_getElem (by omega : 10 < ys.length)] at t10
  obtain ⟨zs, m, _, _, _, hzl, hzz⟩ := DataW.trod_array Try.underlying31 t10
  have u0 := hzz 0 (by decide)
  rw [c64, List.getElem?_eq_getElem (by omega : 0 < zs.length)] at u0
  obtain ⟨m0, s0, _, x0⟩ := DataW.trod_int Try.underlying3 u0
  have y0 := bounds_i64 x0
  have u1 := hzz 1 (by decide)
  rw [c64, List.getElem?_eq_getElem (by omega : 1 < zs.length)] at u1
  obtain ⟨m1, s1, _, x1⟩ := DataW.trod_int Try.underlying3 u1
  have y1 := bounds_i64 x1
  have u2 := hzz 2 (by decide)
  rw [c64, List.getElem?_eq_getElem (by omega : 2 < zs.length)] at u2
  obtain ⟨m2, s2, _, x2⟩ := DataW.trod_int Try.underlying3 u2
  have y2 := bounds_i64 x2
  have u3 := hzz 3 (by decide)
  rw [c64, List.getElem?_eq_getElem (by omega : 3 < zs.length)] at u3
  obtain ⟨m3, s3, _, x3⟩ := DataW.trod_int Try.underlying3 u3
  have y3 := bounds_i64 x3
  simp only [List.drop_succ_cons, List.drop_zero, List.take_succ_cons, List.take_zero, List.cons.injEq, and_true] at q0 q1 q2 q3 q4 q5 q6 q7 q8 q9 s0 s1 s2 s3
  try simp at q0
  try simp at q1
  try simp at q2
  try simp at q3
  try simp at q4
  try simp at q5
  try simp at q6
  try simp at q7
  try simp at q8
  try simp at q9
  try simp at s0
  try simp at s1
  try simp at s2
  try simp at s3
  subst q0 q1 q2 q3 q4 q5 q6 q7 q8 q9 s0 s1 s2 s3
  exact ⟨⟨n0, b1, n2, b3, b4, b5, b6, b7, b8, n9, m0, m1, m2, m3⟩, hcs, r0, r2, r9, y0, y1, y2, y3⟩
set_option maxRecDepth 100000 in
theorem open_waiter_c (hf : DataW.trod enc Try.prog W 0 (fun _ => true) true fuel 69 cs = some x) :
    ∃ y : Wt, cs = wcl y ∧ i64k y.cl ∧ y.h.ok ∧ y.q.1.size < Rows.uptoBulk x.1 ∧ i64k y.q.2.1 ∧ i64k y.q.2.2 := by
  obtain ⟨ys, n, _, hxx, hl, hyl, hff⟩ := DataW.trod_struct Try.underlying69 hf
  have hc : Try.prog.cellsOf 69 = 18 := by kernel_rfl
  have cI : Try.prog.cellsOf 3 = 1 := by kernel_rfl
  have cH : Try.prog.cellsOf 33 = 14 := by kernel_rfl
  have cQ : Try.prog.cellsOf 25 = 3 := by kernel_rfl
  rw [hc] at hl
  change ys.length = 3 at hyl
  obtain ⟨e0, e1, e2, e3, e4, e5, e6, e7, e8, e9, e10, e11, e12, e13, e14, e15, e16, e17, hcs⟩ := eighteen_c _ hl
  rw [hcs] at hff
  have t0 : DataW.trod enc Try.prog W 0 (fun _ => true) true n 3 (([e0, e1, e2, e3, e4, e5, e6, e7, e8, e9, e10, e11, e12, e13, e14, e15, e16, e17].drop 0).take (Try.prog.cellsOf 3)) = ys[0]? := hff 0 _ rfl
  rw [cI, List.getElem?_eq_getElem (by omega : 0 < ys.length)] at t0
  obtain ⟨n0, q0, _, w0⟩ := DataW.trod_int Try.underlying3 t0
  have t1 : DataW.trod enc Try.prog W 0 (fun _ => true) true n 33 (([e0, e1, e2, e3, e4, e5, e6, e7, e8, e9, e10, e11, e12, e13, e14, e15, e16, e17].drop 1).take (Try.prog.cellsOf 33)) = ys[1]? := hff 1 _ rfl
  rw [cH, List.getElem?_eq_getElem (by omega : 1 < ys.length)] at t1
  obtain ⟨h, q1, o1⟩ := open_header_c t1
  have t2 : DataW.trod enc Try.prog W 0 (fun _ => true) true n 25 (([e0, e1, e2, e3, e4, e5, e6, e7, e8, e9, e10, e11, e12, e13, e14, e15, e16, e17].drop 15).take (Try.prog.cellsOf 25)) = ys[2]? := hff 2 _ rfl
  rw [cQ, List.getElem?_eq_getElem (by omega : 2 < ys.length)] at t2
  obtain ⟨q, q2, b2, k1, k2⟩ := open_question_c t2
  unfold Hd.cells at q1
  simp only [List.drop_succ_cons, List.drop_zero, List.take_succ_cons, List.take_zero, List.cons.injEq, and_true] at q0 q1 q2
  try simp at q0
  obtain ⟨rfl, rfl, rfl, rfl, rfl, rfl, rfl, rfl, rfl, rfl, rfl, rfl, rfl, rfl⟩ := q1
  obtain ⟨rfl, rfl, rfl⟩ := q2
  subst q0
  refine ⟨⟨n0, h, q⟩, hcs, bounds_i64 w0, o1, ?_, k1, k2⟩
  subst hxx
  obtain ⟨a0, a1, a2, rfl⟩ := three_c _ hyl
  simp only [List.getElem_cons_succ, List.getElem_cons_zero] at b2
  simp only [List.map_cons, List.map_nil, Rows.uptoBulk, Rows.uptoBulkAll]
  show q.1.size < _
  omega
set_option maxRecDepth 100000 in
theorem open_waiters_c (hb : Rows.uptoBulk x.1 ≤ 1048576) (hf : DataW.trod enc Try.prog W 0 (fun _ => true) true fuel 26 cs = some x) :
    ∃ (l : List Wt) (A : Option Addr) (cap : Nat), cs = [.slice A l.length cap] ∧ RowIn W A (l.flatMap wcl) ∧ (∀ y ∈ l, y.ok) ∧ l.length ≤ 1048576 ∧ (A = none → l = []) ∧ (A = none → cap = 0) := by
  rcases open_slice Try.underlying26 hf with ⟨hcs, _⟩ | ⟨a, len', cap', m, n, D, Pl, hcs, _, hl, hm, hmm, hx, hi⟩
  · exact ⟨[], none, 0, hcs, fun h => by simp at h, fun q hq => by simp at hq, by simp, fun _ => rfl, fun _ => rfl⟩
  · have hc : Try.prog.cellsOf 69 = 18 := by kernel_rfl
    have hlm : len' ≤ m := by simp at hmm; omega
    rw [hx] at hb
    simp only [Rows.uptoBulk] at hb
    have hcnt := bulk_count ((List.range len').map D)
    rw [List.length_map, List.length_range] at hcnt
    have key : ∀ i, i < len' → ∃ y : Wt, y.ok ∧ ∀ j v, (wcl y)[j]? = some v → W.cell? (a.add (i * 18 + j)) = some v := fun i hil => by
      obtain ⟨cs', h1, h2⟩ := hi i (by omega)
      rw [hc] at h1
      obtain ⟨y, e1, e2, e3, e4, e5, e6⟩ := open_waiter_c h2
      dsimp only at e4
      have hbi := bulk_part (l := (List.range len').map D) (i := i) (d := D i) (by simp [hil])
      refine ⟨y, ⟨e2, e3, by omega, e5, e6⟩, fun j v hj => ?_⟩
      obtain ⟨_, hcl, hat⟩ := World.cells?_some h1
      rw [← Go.Deep.add_add, hat j (by have := (List.getElem?_eq_some_iff.1 hj).1; exact this), e1]
      exact hj
    obtain ⟨l, hll, hp⟩ := list_of key
    subst hll
    refine ⟨l, some a, cap', hcs, rowIn_flat wcl 18 (fun _ => rfl) (fun q x hq => (hp q x hq).2), fun q hq => ?_, by omega, (fun h => by cases h), (fun h => by cases h)⟩
    obtain ⟨i, hi'⟩ := List.mem_iff_getElem?.1 hq
    exact (hp i q hi').1
end
set_option maxRecDepth 100000 in
theorem open_pending {W : World} {H : Type} {enc : TypeId × Value → H} {v : Value} {base : Nat} {d : DataW H} {p : List MemPlace}
    (hv : Value.okWide Try.prog W .any base 28 v) (h : DataW.Trod enc Try.prog W 0 (fun _ => true) true 28 v d p) (hb : Rows.uptoBulk d ≤ 1048576) :
    ∃ (x : Pn) (A : Option Addr) (cap : Nat), v = x.val A cap ∧ PnIn W A x ∧ (A = none → x.ws = []) ∧ (A = none → cap = 0) := by
  obtain ⟨cs, rfl, _⟩ := okWide_struct Try.underlying28 hv
  obtain ⟨fuel, hf⟩ := h
  obtain ⟨ys, n, _, hxx, hl, hyl, hff⟩ := DataW.trod_struct Try.underlying28 hf
  have hc : Try.prog.cellsOf 28 = 8 := by kernel_rfl
  have c16 : Try.prog.cellsOf 22 = 1 := by kernel_rfl
  have cI : Try.prog.cellsOf 3 = 1 := by kernel_rfl
  have cJ : Try.prog.cellsOf 2 = 1 := by kernel_rfl
  have cQ : Try.prog.cellsOf 25 = 3 := by kernel_rfl
  have cW : Try.prog.cellsOf 26 = 1 := by kernel_rfl
  rw [hc] at hl
  change ys.length = 6 at hyl
  obtain ⟨e0, e1, e2, e3, e4, e5, e6, e7, hcs⟩ := eight_c _ hl
  rw [hcs] at hff
  obtain ⟨a0, a1, a2, a3, a4, a5, rfl⟩ : ∃ a0 a1 a2 a3 a4 a5, ys = [a0, a1, a2, a3, a4, a5] := by
    match ys, hyl with
    | [a0, a1, a2, a3, a4, a5], _ => exact ⟨a0, a1, a2, a3, a4, a5, rfl⟩
  have hbb : Rows.uptoBulk a0.1 + (Rows.uptoBulk a1.1 + (Rows.uptoBulk a2.1 + (Rows.uptoBulk a3.1 + (Rows.uptoBulk a4.1 + (Rows.uptoBulk a5.1 + 0))))) ≤ 1048576 := by
    rw [(Prod.mk.inj hxx).1] at hb
    simp only [List.map_cons, List.map_nil, Rows.uptoBulk, Rows.uptoBulkAll] at hb
    omega
  have t0 : DataW.trod enc Try.prog W 0 (fun _ => true) true n 22 (([e0, e1, e2, e3, e4, e5, e6, e7].drop 0).take (Try.prog.cellsOf 22)) = some a0 := hff 0 _ rfl
  rw [c16] at t0
  obtain ⟨n0, q0, _, w0⟩ := DataW.trod_int Try.underlying22 t0
  have r0 := bounds_u16 w0
  have t1 : DataW.trod enc Try.prog W 0 (fun _ => true) true n 25 (([e0, e1, e2, e3, e4, e5, e6, e7].drop 1).take (Try.prog.cellsOf 25)) = some a1 := hff 1 _ rfl
  rw [cQ] at t1
  obtain ⟨q, q1, b1, k1, k2⟩ := open_question_c t1
  have t2 : DataW.trod enc Try.prog W 0 (fun _ => true) true n 3 (([e0, e1, e2, e3, e4, e5, e6, e7].drop 4).take (Try.prog.cellsOf 3)) = some a2 := hff 2 _ rfl
  rw [cI] at t2
  obtain ⟨n2, q2, _, w2⟩ := DataW.trod_int Try.underlying3 t2
  have t3 : DataW.trod enc Try.prog W 0 (fun _ => true) true n 3 (([e0, e1, e2, e3, e4, e5, e6, e7].drop 5).take (Try.prog.cellsOf 3)) = some a3 := hff 3 _ rfl
  rw [cI] at t3
  obtain ⟨n3, q3, _, w3⟩ := DataW.trod_int Try.underlying3 t3
  have t4 : DataW.trod enc Try.prog W 0 (fun _ => true) true n 2 (([e0, e1, e2, e3, e4, e5, e6, e7].drop 6).take (Try.prog.cellsOf 2)) = some a4 := hff 4 _ rfl
  rw [cJ] at t4
  obtain ⟨n4, q4, _, w4⟩ := DataW.trod_int Try.underlying2 t4
  have t5 : DataW.trod enc Try.prog W 0 (fun _ => true) true n 26 (([e0, e1, e2, e3, e4, e5, e6, e7].drop 7).take (Try.prog.cellsOf 26)) = some a5 := hff 5 _ rfl
  rw [cW] at t5
  obtain ⟨l, A, cap, q5, z1, z2, z3, z4, z5⟩ := open_waiters_c (by omega) t5
  simp only [List.drop_succ_cons, List.drop_zero, List.take_succ_cons, List.take_zero, List.cons.injEq, and_true] at q0 q1 q2 q3 q4 q5
  obtain ⟨rfl, rfl, rfl⟩ := q1
  subst q0 q2 q3 q4 q5
  obtain ⟨n0, rfl⟩ : ∃ k : Nat, n0 = k := ⟨n0.toNat, by omega⟩
  refine ⟨⟨n0, q, n2, n3, n4, l⟩, A, cap, ?_, ⟨z1, z2, (by show n0 < _; omega), ⟨(by show q.1.size ≤ _; omega), k1, k2⟩, bounds_i64 w2, bounds_i64 w3, bounds_i64 w4, z3⟩, z4, z5⟩
  have : cs.toList = _ := hcs
  exact congrArg Value.agg (Array.toList_inj.1 this)
end Go.Proofs.Ytncfdfgcnblicaa

/-
  LAYER 24: pending.may; Check.
-/
namespace Go.Proofs.Ytncfdfgcnblicaa
open Go.RowKit
set_option linter.unusedVariables false
set_option linter.unusedSimpArgs false

theorem rowIn_fr0 {w w' : World} {A : Option Addr} {vs : List Value} (h : RowIn w A vs) (f : Fr (fun _ => False) w w') : RowIn w' A vs := by
  intro h0
  obtain ⟨b, off, rfl, h2, h3⟩ := h h0
  exact ⟨b, off, rfl, Nat.lt_of_lt_of_le h2 f.size, fun i x hx => (f.cell (p := ⟨b, off + i, none⟩) h2 id).trans (h3 i x hx)⟩
theorem PnIn.fr0 {w w' : World} {A : Option Addr} {p : Pn} (h : PnIn w A p) (f : Fr (fun _ => False) w w') : PnIn w' A p := ⟨rowIn_fr0 h.row f, h.ws, h.id, h.q, h.sv, h.tr, h.dl, h.len⟩
theorem may_why {p : Pn} {most : Int} (h : ¬ p.bare most) : qcheck p.q.1 p.q.2.1 p.q.2.2 ≠ 0 ∨ (qcheck p.q.1 p.q.2.1 p.q.2.2 = 0 ∧ p.sv < 0) ∨ (qcheck p.q.1 p.q.2.1 p.q.2.2 = 0 ∧ 0 ≤ p.sv ∧ p.tr < 0) ∨ (qcheck p.q.1 p.q.2.1 p.q.2.2 = 0 ∧ 0 ≤ p.sv ∧ 0 ≤ p.tr ∧ tickE p.dl ≠ 0) ∨
    (qcheck p.q.1 p.q.2.1 p.q.2.2 = 0 ∧ 0 ≤ p.sv ∧ 0 ≤ p.tr ∧ tickE p.dl = 0 ∧ (p.ws.length : Int) < 1) ∨ (qcheck p.q.1 p.q.2.1 p.q.2.2 = 0 ∧ 0 ≤ p.sv ∧ 0 ≤ p.tr ∧ tickE p.dl = 0 ∧ 1 ≤ (p.ws.length : Int) ∧ most < (p.ws.length : Int)) := by
  unfold Pn.bare at h
  have ht : tickE p.dl = 0 ↔ 0 ≤ p.dl ∧ p.dl ≤ 1099511627776 := by
    unfold tickE
    by_cases hc : 0 ≤ p.dl ∧ p.dl ≤ 1099511627776
    · rw [if_pos hc]; exact ⟨fun _ => hc, fun _ => rfl⟩
    · rw [if_neg hc]; exact ⟨fun h => absurd h (by decide), fun h => absurd h hc⟩
  by_cases a : qcheck p.q.1 p.q.2.1 p.q.2.2 = 0
  · by_cases b : 0 ≤ p.sv
    · by_cases c : 0 ≤ p.tr
      · by_cases d : tickE p.dl = 0
        · by_cases e : 1 ≤ (p.ws.length : Int)
          · right; right; right; right; right
            exact ⟨a, b, c, d, e, by have := ht.1 d; by_cases f : most < (p.ws.length : Int); exact f; exact absurd ⟨a, b, c, this, e, by omega⟩ h⟩
          · right; right; right; right; left; exact ⟨a, b, c, d, by omega⟩
        · right; right; right; left; exact ⟨a, b, c, d⟩
      · right; right; left; exact ⟨a, b, by omega⟩
    · right; left; exact ⟨a, by omega⟩
  · left; exact a
set_option maxRecDepth 100000 in
set_option maxHeartbeats 8000000 in
theorem pmay_any (p : Pn) (A : Option Addr) (cap : Nat) (most : Int) (w : World) (hp : PnIn w A p) (hm : i64k most) : Calls Try.prog 53 #[.agg #[.int .u16 (p.id : Nat), .string p.q.1, .int .i64 p.q.2.1, .int .i64 p.q.2.2, .int .i64 p.sv, .int .i64 p.tr, .int .i64 p.dl, .slice A p.ws.length cap], .int .i64 most] w (EqPost w (p.may most)) := by
  obtain ⟨W, hW⟩ : ∃ W, W = w.alloc (.cells #[.int .u16 (p.id : Nat), .string p.q.1, .int .i64 p.q.2.1, .int .i64 p.q.2.2, .int .i64 p.sv, .int .i64 p.tr, .int .i64 p.dl, .slice A p.ws.length cap] 28) := ⟨_, rfl⟩
  have hb : Blk W w.heap.size 28 #[.int .u16 (p.id : Nat), .string p.q.1, .int .i64 p.q.2.1, .int .i64 p.q.2.2, .int .i64 p.sv, .int .i64 p.tr, .int .i64 p.dl, .slice A p.ws.length cap] := by rw [hW]; exact Blk.new _ _ _
  have hf : Fr (fun _ => False) w W := by rw [hW]; exact (Fr.refl _ _).alloc _
  obtain ⟨kq, hkq⟩ : ∃ k, k = qcheck p.q.1 p.q.2.1 p.q.2.2 := ⟨_, rfl⟩
  obtain ⟨tk, htk⟩ : ∃ k, k = tickE p.dl := ⟨_, rfl⟩
  obtain ⟨R, hR⟩ : ∃ R, R = p.may most := ⟨_, rfl⟩
  rw [← hR]
  have hwhy := @may_why p most
  rw [← hkq, ← htk] at hwhy
  have hbare : p.bare most → kq = 0 ∧ 0 ≤ p.sv ∧ 0 ≤ p.tr ∧ tk = 0 ∧ 1 ≤ (p.ws.length : Int) ∧ (p.ws.length : Int) ≤ most := fun h => by
    obtain ⟨a, b, c, d, e, f⟩ := h
    exact ⟨hkq.trans a, b, c, by rw [htk]; unfold tickE; rw [if_pos d], e, f⟩
  have c0 := hb.cell 1
  have c1 := hb.cell 2
  have c2 := hb.cell 3
  obtain ⟨hm1, hm2⟩ := hm
  have hln := hp.len
  have HB := Lib.hid (And.intro hb hf)
  have HR := Lib.hid (And.intro hkq (And.intro htk (And.intro hR (hp.fr0 (Fr.refl _ _)))))
  have HW := Lib.hid hW
  clear hb hf hR hkq hW htk hp
  by_cases hbr : p.bare most
  · obtain ⟨h1, h2, h3, h4, h5, h6⟩ := hbare hbr
    have e1 : (kq != 0) = false := by simp [h1]
    have e2 : (tk != 0) = false := by simp [h4]
    have H1 := Lib.hid (And.intro h1 (And.intro h4 hbr))
    clear h1 h4 hbr hwhy hbare

    go_enter Try.func53, Try.ntmps53
    go_upto_region 1 with fail
    rw [← HW.out]
    clear HW
    go_wp2_with (first
      | (go_at_call 45
         (with_reducible refine (qcheck_any p.q.1 p.q.2.1 p.q.2.2 _).mono ?_)
         rintro e w1 ⟨rfl, f1⟩
         rw [← HR.out.1]
         have hb1 := HB.out.1.fr f1 id
         have c2' := hb1.cell 4
         have c3' := hb1.cell 5
         have c4' := hb1.cell 6
         have c5' := hb1.cell 7
         have H2 := Lib.hid (And.intro hb1 (HB.out.2.then f1))
         clear f1 hb1 c0 c1 c2)
      | (go_at_call 68
         (with_reducible refine (tick_any p.dl _ HR.out.2.2.2.dl).mono ?_)
         rintro e w2 ⟨rfl, rfl⟩
         rw [← HR.out.2.1])
      | (go_at_call 69
         (with_reducible refine (wcont_any A cap p.ws _ (rowIn_fr0 HR.out.2.2.2.row H2.out.2) HR.out.2.2.2.ws HR.out.2.2.2.len).mono ?_)
         rintro e w3 ⟨rfl, f3⟩
         have H3 := Lib.hid (H2.out.2.then f3)
         clear f3)
      | fail "no arm")

    go_ret
    exact ⟨ret_bool (by rw [HR.out.2.2.1]; unfold Pn.may; rw [decide_eq_true H1.out.2.2]; simp), H3.out⟩
  · have hw := hwhy hbr
    have HRF := Lib.hid (show R = false from by rw [HR.out.2.2.1]; unfold Pn.may; rw [decide_eq_false hbr]; rfl)
    clear hwhy hbare hbr
    rcases hw with h1 | ⟨h1, h2⟩ | ⟨h1, h2, h3⟩ | ⟨h1, h2, h3, h4⟩ | ⟨h1, h2, h3, h4, h5⟩ | ⟨h1, h2, h3, h4, h5, h6⟩
    · have e1 : (kq != 0) = true := by simp [h1]
      have HH := Lib.hid True.intro
      clear h1
      go_enter Try.func53, Try.ntmps53
      go_upto_region 1 with fail
      rw [← HW.out]
      clear HW
      go_wp2_with (first
        | (go_at_call 45
           (with_reducible refine (qcheck_any p.q.1 p.q.2.1 p.q.2.2 _).mono ?_)
           rintro e w1 ⟨rfl, f1⟩
           rw [← HR.out.1]
           have hb1 := HB.out.1.fr f1 id
           have c2' := hb1.cell 4
           have c3' := hb1.cell 5
           have c4' := hb1.cell 6
           have c5' := hb1.cell 7
           have H2 := Lib.hid (And.intro hb1 (HB.out.2.then f1))
           clear f1 hb1 c0 c1 c2)
        | (go_at_call 68
           (with_reducible refine (tick_any p.dl _ HR.out.2.2.2.dl).mono ?_)
           rintro e w2 ⟨rfl, rfl⟩
           rw [← HR.out.2.1])
        | (go_at_call 69
           (with_reducible refine (wcont_any A cap p.ws _ (rowIn_fr0 HR.out.2.2.2.row H2.out.2) HR.out.2.2.2.ws HR.out.2.2.2.len).mono ?_)
           rintro e w3 ⟨rfl, f3⟩
           have H3 := Lib.hid (H2.out.2.then f3)
           clear f3)
        | fail "no arm")
      go_ret
      exact ⟨ret_bool HRF.out.symm, H2.out.2⟩
    · have e1 : (kq != 0) = false := by simp [h1]
      have HH := Lib.hid True.intro
      clear h1
      go_enter Try.func53, Try.ntmps53
      go_upto_region 1 with fail
      rw [← HW.out]
      clear HW
      go_wp2_with (first
        | (go_at_call 45
           (with_reducible refine (qcheck_any p.q.1 p.q.2.1 p.q.2.2 _).mono ?_)
           rintro e w1 ⟨rfl, f1⟩
           rw [← HR.out.1]
           have hb1 := HB.out.1.fr f1 id
           have c2' := hb1.cell 4
           have c3' := hb1.cell 5
           have c4' := hb1.cell 6
           have c5' := hb1.cell 7
           have H2 := Lib.hid (And.intro hb1 (HB.out.2.then f1))
           clear f1 hb1 c0 c1 c2)
        | (go_at_call 68
           (with_reducible refine (tick_any p.dl _ HR.out.2.2.2.dl).mono ?_)
           rintro e w2 ⟨rfl, rfl⟩
           rw [← HR.out.2.1])
        | (go_at_call 69
           (with_reducible refine (wcont_any A cap p.ws _ (rowIn_fr0 HR.out.2.2.2.row H2.out.2) HR.out.2.2.2.ws HR.out.2.2.2.len).mono ?_)
           rintro e w3 ⟨rfl, f3⟩
           have H3 := Lib.hid (H2.out.2.then f3)
           clear f3)
        | fail "no arm")
      go_ret
      exact ⟨ret_bool HRF.out.symm, H2.out.2⟩
    · have e1 : (kq != 0) = false := by simp [h1]
      have HH := Lib.hid True.intro
      clear h1
      go_enter Try.func53, Try.ntmps53
      go_upto_region 1 with fail
      rw [← HW.out]
      clear HW
      go_wp2_with (first
        | (go_at_call 45
           (with_reducible refine (qcheck_any p.q.1 p.q.2.1 p.q.2.2 _).mono ?_)
           rintro e w1 ⟨rfl, f1⟩
           rw [← HR.out.1]
           have hb1 := HB.out.1.fr f1 id
           have c2' := hb1.cell 4
           have c3' := hb1.cell 5
           have c4' := hb1.cell 6
           have c5' := hb1.cell 7
           have H2 := Lib.hid (And.intro hb1 (HB.out.2.then f1))
           clear f1 hb1 c0 c1 c2)
        | (go_at_call 68
           (with_reducible refine (tick_any p.dl _ HR.out.2.2.2.dl).mono ?_)
           rintro e w2 ⟨rfl, rfl⟩
           rw [← HR.out.2.1])
        | (go_at_call 69
           (with_reducible refine (wcont_any A cap p.ws _ (rowIn_fr0 HR.out.2.2.2.row H2.out.2) HR.out.2.2.2.ws HR.out.2.2.2.len).mono ?_)
           rintro e w3 ⟨rfl, f3⟩
           have H3 := Lib.hid (H2.out.2.then f3)
           clear f3)
        | fail "no arm")
      go_ret
      exact ⟨ret_bool HRF.out.symm, H2.out.2⟩
    · have e1 : (kq != 0) = false := by simp [h1]
      have e2 : (tk != 0) = true := by simp [h4]
      have HH := Lib.hid True.intro
      clear h1 h4
      go_enter Try.func53, Try.ntmps53
      go_upto_region 1 with fail
      rw [← HW.out]
      clear HW
      go_wp2_with (first
        | (go_at_call 45
           (with_reducible refine (qcheck_any p.q.1 p.q.2.1 p.q.2.2 _).mono ?_)
           rintro e w1 ⟨rfl, f1⟩
           rw [← HR.out.1]
           have hb1 := HB.out.1.fr f1 id
           have c2' := hb1.cell 4
           have c3' := hb1.cell 5
           have c4' := hb1.cell 6
           have c5' := hb1.cell 7
           have H2 := Lib.hid (And.intro hb1 (HB.out.2.then f1))
           clear f1 hb1 c0 c1 c2)
        | (go_at_call 68
           (with_reducible refine (tick_any p.dl _ HR.out.2.2.2.dl).mono ?_)
           rintro e w2 ⟨rfl, rfl⟩
           rw [← HR.out.2.1])
        | (go_at_call 69
           (with_reducible refine (wcont_any A cap p.ws _ (rowIn_fr0 HR.out.2.2.2.row H2.out.2) HR.out.2.2.2.ws HR.out.2.2.2.len).mono ?_)
           rintro e w3 ⟨rfl, f3⟩
           have H3 := Lib.hid (H2.out.2.then f3)
           clear f3)
        | fail "no arm")
      go_ret
      exact ⟨ret_bool HRF.out.symm, H2.out.2⟩
    · have e1 : (kq != 0) = false := by simp [h1]
      have e2 : (tk != 0) = false := by simp [h4]
      have HH := Lib.hid True.intro
      clear h1 h4
      go_enter Try.func53, Try.ntmps53
      go_upto_region 1 with fail
      rw [← HW.out]
      clear HW
      go_wp2_with (first
        | (go_at_call 45
           (with_reducible refine (qcheck_any p.q.1 p.q.2.1 p.q.2.2 _).mono ?_)
           rintro e w1 ⟨rfl, f1⟩
           rw [← HR.out.1]
           have hb1 := HB.out.1.fr f1 id
           have c2' := hb1.cell 4
           have c3' := hb1.cell 5
           have c4' := hb1.cell 6
           have c5' := hb1.cell 7
           have H2 := Lib.hid (And.intro hb1 (HB.out.2.then f1))
           clear f1 hb1 c0 c1 c2)
        | (go_at_call 68
           (with_reducible refine (tick_any p.dl _ HR.out.2.2.2.dl).mono ?_)
           rintro e w2 ⟨rfl, rfl⟩
           rw [← HR.out.2.1])
        | (go_at_call 69
           (with_reducible refine (wcont_any A cap p.ws _ (rowIn_fr0 HR.out.2.2.2.row H2.out.2) HR.out.2.2.2.ws HR.out.2.2.2.len).mono ?_)
           rintro e w3 ⟨rfl, f3⟩
           have H3 := Lib.hid (H2.out.2.then f3)
           clear f3)
        | fail "no arm")
      go_ret
      exact ⟨ret_bool HRF.out.symm, H2.out.2⟩
    · have e1 : (kq != 0) = false := by simp [h1]
      have e2 : (tk != 0) = false := by simp [h4]
      have HH := Lib.hid True.intro
      clear h1 h4
      go_enter Try.func53, Try.ntmps53
      go_upto_region 1 with fail
      rw [← HW.out]
      clear HW
      go_wp2_with (first
        | (go_at_call 45
           (with_reducible refine (qcheck_any p.q.1 p.q.2.1 p.q.2.2 _).mono ?_)
           rintro e w1 ⟨rfl, f1⟩
           rw [← HR.out.1]
           have hb1 := HB.out.1.fr f1 id
           have c2' := hb1.cell 4
           have c3' := hb1.cell 5
           have c4' := hb1.cell 6
           have c5' := hb1.cell 7
           have H2 := Lib.hid (And.intro hb1 (HB.out.2.then f1))
           clear f1 hb1 c0 c1 c2)
        | (go_at_call 68
           (with_reducible refine (tick_any p.dl _ HR.out.2.2.2.dl).mono ?_)
           rintro e w2 ⟨rfl, rfl⟩
           rw [← HR.out.2.1])
        | (go_at_call 69
           (with_reducible refine (wcont_any A cap p.ws _ (rowIn_fr0 HR.out.2.2.2.row H2.out.2) HR.out.2.2.2.ws HR.out.2.2.2.len).mono ?_)
           rintro e w3 ⟨rfl, f3⟩
           have H3 := Lib.hid (H2.out.2.then f3)
           clear f3)
        | fail "no arm")
      go_ret
      exact ⟨ret_bool HRF.out.symm, H2.out.2⟩
end Go.Proofs.Ytncfdfgcnblicaa

/-
  LAYER 24: a pending question cloned.
-/
namespace Go.Proofs.Ytncfdfgcnblicaa
open Go.RowKit
set_option linter.unusedVariables false
set_option linter.unusedSimpArgs false

theorem Try.infoWt : (Try.prog.info? 69).map (fun i => (i.zero, i.size, i.bytes)) = some (some (.agg #[.int .i64 0, .int .u16 0, .bool false, .int .i64 0, .bool false, .bool false, .bool false, .bool false, .bool false, .bool false, .int .i64 0, .int .i64 0, .int .i64 0, .int .i64 0, .int .i64 0, .string ⟨#[]⟩, .int .i64 0, .int .i64 0]), 18, 104) := by kernel_rfl
theorem wcl_one (x : Wt) : ∀ u ∈ wcl x, u.oneCell' = true := by
  intro u hu
  simp only [wcl, List.mem_cons, List.not_mem_nil, or_false] at hu
  rcases hu with rfl | rfl | rfl | rfl | rfl | rfl | rfl | rfl | rfl | rfl | rfl | rfl | rfl | rfl | rfl | rfl | rfl | rfl <;> rfl
theorem wflat_one (l : List Wt) : ∀ u ∈ l.flatMap wcl, u.oneCell' = true := by
  intro u hu
  obtain ⟨x, _, hx⟩ := List.mem_flatMap.1 hu
  exact wcl_one x u hx
/-- What a clone of waiters leaves. -/
def ClonePost (w : World) (l : List Wt) (e : Ending) (w' : World) : Prop :=
  ∃ A cap, e = .returned (.slice A l.length cap) ∧ w'.ownsRow 0 69 18 (.slice A l.length cap) l.length (l.flatMap wcl) ∧ (∀ k, rowOf A k → w.heap.size ≤ k) ∧ Fr (fun _ => False) w w'
theorem own_empty {w : World} {g : Nat} {e : TypeId} {size : Nat} (h : Blk w g e #[]) : w.ownsRow 0 e size (.slice (some ⟨g, 0, none⟩) 0 0) 0 [] :=
  ⟨by simp, .inr ⟨g, 0, #[], rfl, Nat.zero_le _, h, Nat.le_refl _, by simp only [maxLen]; omega, by simp, by simp⟩⟩
/-- The source of an append of a row of structs that came in. -/
theorem src_row {P : Program} {w : World} {tx e' : TypeId} {k : Nat} (hk : P.underlying tx = some (.slice e')) {a : Addr} {n cap : Nat} {vs : List Value} (hn : vs.length = n * k) (h : RowIn w (some a) vs) (h1 : ∀ u ∈ vs, u.oneCell' = true) : Src P k tx (.slice (some a) n cap) n vs w :=
  Src.ofSlice w hk a n cap vs hn (fun j u hu => by
    obtain ⟨b, off, e, _, hc⟩ := h (by have := (List.getElem?_eq_some_iff.1 hu).1; omega)
    injection e with e
    subst e
    rw [show (⟨b, off, none⟩ : Addr).add j = ⟨b, off + j, none⟩ from by unfold Addr.add; split <;> simp_all]
    exact hc j u hu) h1
set_option maxRecDepth 100000 in
set_option maxHeartbeats 4000000 in
theorem wclone_any (A : Option Addr) (cap : Nat) (l : List Wt) (w : World) (h : RowIn w A (l.flatMap wcl)) (hn : l.length ≤ 1048576) (hA : A = none → l = []) (hcap : A = none → cap = 0) :
    Calls Try.prog 52 #[.slice A l.length cap] w (ClonePost w l) := by
  obtain ⟨i0, hi, hz0, hz1, hz2⟩ := info_parts Try.infoWt
  rcases A with _ | a
  · obtain rfl := hA rfl
    obtain rfl := hcap rfl
    have hne : ∀ w : World, (Go.binOp .eql 26 (.slice none 0 0) (.slice none 0 0)).run Try.prog w = .ok (.bool true) w := fun w => by
      have := Lib.run_eql_slice_nil (P := Try.prog) w 26 69 none 0 0 0 0 Try.underlying26
      simpa using this
    go_enter Try.func52, Try.ntmps52
    go_wp2_with fail
    go_ret
    exact ⟨none, 0, rfl, own_nil _ _ _, fun k h => absurd h (rowOf_none k), Fr.refl _ _⟩
  · have hne : ∀ w : World, (Go.binOp .eql 26 (.slice (some a) l.length cap) (.slice none 0 0)).run Try.prog w = .ok (.bool false) w := fun w => by
      have := Lib.run_eql_slice_nil (P := Try.prog) w 26 69 (some a) l.length cap 0 0 Try.underlying26
      simpa using this
    have HS := Lib.hid (src_row (P := Try.prog) (cap := cap) Try.underlying26 (flat_len wcl 18 wcl_len l) (rowIn_fr0 h ((Fr.refl _ w).alloc (.cells #[] 69))) (wflat_one l))
    go_enter Try.func52, Try.ntmps52
    go_wp2_with (first
      | (at_builtin; refine wpList_append_src rfl (.tmp 5) (.tmp 6) _ _ rfl 69 i0 _ 18 104 Try.underlying26 hi hz0 hz1 hz2 rfl (by decide) (some ⟨w.heap.size, 0, none⟩) 0 0 [] (by rfl) (own_empty (Blk.new w _ _)) _ l.length (l.flatMap wcl) (by rfl)
           HS.out (by simp only [maxLen]; omega) (by omega) ?_
         intro A2 c2 w4 o1 o2 o3
         rw [Nat.zero_add, List.nil_append] at o1
         have HQ := Lib.hid (And.intro o1 (And.intro o2 o3))
         clear o1 o2 o3)
      | fail "no arm")
    go_ret
    refine ⟨A2, c2, rfl, HQ.out.1, fun k hk => ?_, ((Fr.refl (fun _ => False) w).alloc _).step HQ.out.2.1 fun k hk => .inr ?_⟩
    · rcases HQ.out.2.2 k hk with ⟨b, hb, rfl⟩ | h
      · injection hb with hb
        rw [← hb]
        exact Nat.le_refl _
      · rw [World.size_alloc] at h; omega
    · obtain ⟨b, hb, rfl⟩ := hk
      injection hb with hb
      rw [← hb]
      exact Nat.le_refl _
/-- What a clone of a pending question leaves. -/
def PclonePost (w : World) (p : Pn) (e : Ending) (w' : World) : Prop :=
  ∃ A cap, e = .returned (p.val A cap) ∧ w'.ownsRow 0 69 18 (.slice A p.ws.length cap) p.ws.length (p.ws.flatMap wcl) ∧ (∀ k, rowOf A k → w.heap.size ≤ k) ∧ Fr (fun _ => False) w w'
set_option maxRecDepth 100000 in
set_option maxHeartbeats 4000000 in
theorem pclone_any (p : Pn) (A : Option Addr) (cap : Nat) (w : World) (hp : PnIn w A p) (hA : A = none → p.ws = []) (hcap : A = none → cap = 0) :
    Calls Try.prog 51 #[.agg #[.int .u16 (p.id : Nat), .string p.q.1, .int .i64 p.q.2.1, .int .i64 p.q.2.2, .int .i64 p.sv, .int .i64 p.tr, .int .i64 p.dl, .slice A p.ws.length cap]] w (PclonePost w p) := by
  have hcl := fun w' f => wclone_any A cap p.ws w' (rowIn_fr0 hp.row (f : Fr (fun _ => False) w w')) hp.len hA hcap
  have HC := Lib.hid hcl
  clear hcl hp
  go_enter Try.func51, Try.ntmps51
  go_upto_region 1 with fail
  obtain ⟨W, hW⟩ : ∃ W, W = ((w.alloc (.cells #[.int .u16 (p.id : Nat), .string p.q.1, .int .i64 p.q.2.1, .int .i64 p.q.2.2, .int .i64 p.sv, .int .i64 p.tr, .int .i64 p.dl, .slice A p.ws.length cap] 28)).alloc (.cells #[.int .u16 0, .string ⟨#[]⟩, .int .i64 0, .int .i64 0, .int .i64 0, .int .i64 0, .int .i64 0, .slice none 0 0] 28)) := ⟨_, rfl⟩
  have hb1 : Blk W w.heap.size 28 #[.int .u16 (p.id : Nat), .string p.q.1, .int .i64 p.q.2.1, .int .i64 p.q.2.2, .int .i64 p.sv, .int .i64 p.tr, .int .i64 p.dl, .slice A p.ws.length cap] := by rw [hW]; exact (Blk.new w 28 _).alloc _
  have hb2 : Blk W (w.heap.size + 1) 28 #[.int .u16 0, .string ⟨#[]⟩, .int .i64 0, .int .i64 0, .int .i64 0, .int .i64 0, .int .i64 0, .slice none 0 0] := by
    rw [hW]
    have := Blk.new (w.alloc (.cells #[.int .u16 (p.id : Nat), .string p.q.1, .int .i64 p.q.2.1, .int .i64 p.q.2.2, .int .i64 p.sv, .int .i64 p.tr, .int .i64 p.dl, .slice A p.ws.length cap] 28)) 28 #[.int .u16 0, .string ⟨#[]⟩, .int .i64 0, .int .i64 0, .int .i64 0, .int .i64 0, .int .i64 0, .slice none 0 0]
    rwa [World.size_alloc] at this
  have hf : Fr (fun _ => False) w W := by rw [hW]; exact ((Fr.refl _ _).alloc _).alloc _
  rw [← hW]
  have c7 := hb1.cell 7
  have HB := Lib.hid (And.intro hb1 (And.intro hb2 hf))
  clear hb1 hb2 hf hW
  have hz7 := HB.out.1.frozen 7
  go_wp2_with (first
    | (go_at_call 52
       (with_reducible refine (HC.out W HB.out.2.2).mono ?_)
       rintro e w1 ⟨A2, c2, rfl, o1, o2, o3⟩
       have hb3 := HB.out.1.fr o3 id
       have c7' := hb3.cell 7
       have z7' := hb3.frozen 7
       have H1 := Lib.hid (And.intro hb3 (And.intro (HB.out.2.1.fr o3 id) (And.intro o1 (And.intro (fun k (hk : rowOf A2 k) => Nat.le_trans HB.out.2.2.size (o2 k hk)) (And.intro (HB.out.2.2.then o3) (fun k (hk : rowOf A2 k) => o2 k hk))))))
       clear o1 o2 o3 hb3 c7 hz7)
    | (refine wpList_load_blk rfl 28 _ rfl w.heap.size (by rfl) 28 _ _ (H1.out.1.set_ 7 (.slice A2 p.ws.length c2)) Try.underlying28 rfl (by kernel_rfl) ?_)
    | (refine wpList_store_part rfl 28 _ _ rfl (w.heap.size + 1) 0 (by rfl) _ (by rfl) 28 _ (H1.out.2.1.far (p := ⟨w.heap.size, 7, none⟩) (by simp) (.slice A2 p.ws.length c2)) (by kernel_rfl) (by simp [Value.oneCell']) (by simp) #[.int .u16 (p.id : Nat), .string p.q.1, .int .i64 p.q.2.1, .int .i64 p.q.2.2, .int .i64 p.sv, .int .i64 p.tr, .int .i64 p.dl, .slice A2 p.ws.length c2] (by rfl) ?_
       intro w2 b2 f2
       have H2 := Lib.hid (And.intro b2 f2)
       clear b2 f2)
    | fail "no arm")
  have hu : Try.prog.underlying 28 = _ := Try.underlying28
  refine bodyPost_ret (results_cell_blk Try.results51 H2.out.1 rfl hu rfl (by kernel_rfl)) rfl ?_
  have hs := H1.out.2.2.2.2.1.size
  have f12 : Fr (fun k => k = w.heap.size ∨ k = w.heap.size + 1) w1 w2 := ((Fr.refl _ w1).setCell (p := ⟨w.heap.size, 7, none⟩) (fun _ => .inl rfl) _).then (H2.out.2.mono fun k _ h => .inr h)
  have hbs := HB.out.2.1.lt
  have hW := HB.out.2.2.size
  refine ⟨A2, c2, rfl, own_fr H1.out.2.2.1 f12 (fun k hk h => ?_), fun k hk => H1.out.2.2.2.1 k hk, H1.out.2.2.2.2.1.step f12 fun k h => .inr ?_⟩
  · have := H1.out.2.2.2.2.2 k hk
    rcases h with rfl | rfl <;> omega
  · rcases h with rfl | rfl <;> omega
end Go.Proofs.Ytncfdfgcnblicaa

/-
  MAPS WHOSE ELEMENTS ARE WHATEVER VALUES: what a map tells is a function of the key.
-/
namespace Go.Proofs.Ytncfdfgcnblicaa
open Go.RowKit Go.Maps Go.ChangeMaps
set_option linter.unusedVariables false
set_option linter.unusedSimpArgs false

/-- An element is told as itself. -/
def heldElem (v : Value) : Option (DataW Value × List MemPlace) := some (.held v, [])
/-- Block b is a map of at most n entries, with keys of type K, that tells g. -/
def VMap (w : World) (K : TypeId) (b n : Nat) (g : Lit → Option Value) : Prop :=
  ∃ D : DataW Value, w.ownsMap Try.prog K heldElem b n D ∧ ∀ l, Maps.has D l = (g l).isSome ∧ ∀ zd, D.atKey l zd = match g l with | some v => .held v | none => zd
open Classical in
noncomputable def putM (g : Lit → Option Value) (k : Lit) (v : Value) : Lit → Option Value := fun l => if l = k then some v else g l
open Classical in
noncomputable def delM (g : Lit → Option Value) (k : Lit) : Lit → Option Value := fun l => if l = k then none else g l
section
variable {w w' : World} {K : TypeId} {b n : Nat} {g : Lit → Option Value}
theorem VMap.made (w : World) (K : TypeId) : VMap (w.alloc (.map #[] 0)) K w.heap.size 0 (fun _ => none) :=
  ⟨.map [], World.ownsMap_made w _ _ _, fun _ => ⟨rfl, fun _ => rfl⟩⟩
theorem VMap.lt (h : VMap w K b n g) : b < w.heap.size := by
  obtain ⟨D, h1, _⟩ := h
  exact h1.lt
theorem VMap.fr {S : Nat → Prop} (h : VMap w K b n g) (hf : Fr S w w') (hb : ¬ S b) : VMap w' K b n g := by
  obtain ⟨D, ⟨es, clock, h1, h2, h3, h4⟩, hD⟩ := h
  exact ⟨D, ⟨es, clock, (hf.block b (Array.getElem?_eq_some_iff.1 h1).1 hb).trans h1, h2, h3, h4⟩, hD⟩
theorem VMap.look (h : VMap w K b n g) (law : Keyed Try.prog K) {t e : TypeId} (ht : Try.prog.underlying t = some (.map K e)) {z : Value} (hz : (zeroValue e).run Try.prog w = .ok z w) {key : Value} {kl : Lit} (hk : keyOf Try.prog K key = some kl) :
    (Instr.lookup t (.map (some b)) key true).run Try.prog w = .ok (.tuple #[(g kl).getD z, .bool (g kl).isSome]) w := by
  obtain ⟨D, h1, h2⟩ := h
  obtain ⟨v, ps, hrun, hv⟩ := h1.look_ok law ht hz (zd := .held z) (zp := []) rfl hk
  obtain ⟨e1, e2⟩ := h2 kl
  rw [e2] at hv
  have hvv : v = (g kl).getD z := by
    rcases hg : g kl with _ | u
    · rw [hg] at hv
      simp only [heldElem, Option.some.injEq, Prod.mk.injEq, DataW.held.injEq] at hv
      exact hv.1
    · rw [hg] at hv
      simp only [heldElem, Option.some.injEq, Prod.mk.injEq, DataW.held.injEq] at hv
      exact hv.1
  rw [hrun, e1, hvv]
theorem VMap.put (h : VMap w K b n g) (law : Keyed Try.prog K) {t e : TypeId} (ht : Try.prog.underlying t = some (.map K e)) (hn : n < maxLen) {key : Value} {kl : Lit} (hk : keyOf Try.prog K key = some kl) (hkl : WideAt.IsKeyLit kl) (v : Value) :
    ∃ w', (Instr.mapUpdate t (.map (some b)) key v).run Try.prog w = .ok () w' ∧ VMap w' K b (n + 1) (putM g kl v) ∧ Fr (· = b) w w' := by
  obtain ⟨D, h1, h2⟩ := h
  obtain ⟨w', hrun, h3, h4⟩ := h1.update law ht hn hk (d := .held v) (ps := []) rfl
  refine ⟨w', hrun, ⟨_, h3, fun l => ?_⟩, (Fr.refl (· = b) w).grown (row := some b) h4 fun k hk _ => (Option.some.inj hk).symm⟩
  unfold putM
  by_cases hl : l = kl
  · subst hl
    rw [if_pos rfl]
    exact ⟨has_put_same h1.isMap hkl _, fun zd => atKey_put_same h1.isMap hkl _ _⟩
  · rw [if_neg hl, has_put_other hl]
    exact ⟨(h2 l).1, fun zd => by rw [atKey_put_other hl]; exact (h2 l).2 zd⟩
theorem VMap.del (h : VMap w K b n g) (law : Keyed Try.prog K) {t e : TypeId} (ht : Try.prog.underlying t = some (.map K e)) {key : Value} {kl : Lit} (hk : keyOf Try.prog K key = some kl) (ty : TypeId) :
    ∃ w', (Builtin.delete_ #[t, K] ty #[.map (some b), key]).run Try.prog w = .ok (.tuple #[]) w' ∧ VMap w' K b n (delM g kl) ∧ Fr (· = b) w w' := by
  obtain ⟨D, h1, h2⟩ := h
  obtain ⟨w', hrun, h3, h4⟩ := h1.drop law ht hk ty
  refine ⟨w', hrun, ⟨_, h3, fun l => ?_⟩, (Fr.refl (· = b) w).grown (row := some b) h4.grown fun k hk _ => (Option.some.inj hk).symm⟩
  unfold delM
  by_cases hl : l = kl
  · subst hl
    rw [if_pos rfl]
    exact ⟨has_del_same, fun zd => atKey_del_same _⟩
  · rw [if_neg hl, has_del_other hl]
    exact ⟨(h2 l).1, fun zd => by rw [atKey_del_other hl]; exact (h2 l).2 zd⟩
end
/-- A map's value, nil or not. -/
def MapAt (w : World) (K : TypeId) (mb : Option Nat) (n : Nat) (g : Lit → Option Value) : Prop :=
  match mb with
  | none => g = (fun _ => none) ∧ n = 0
  | some b => VMap w K b n g
theorem MapAt.fr {w w' : World} {K : TypeId} {mb : Option Nat} {n : Nat} {g : Lit → Option Value} {S : Nat → Prop} (h : MapAt w K mb n g) (f : Fr S w w') (hs : ∀ b, mb = some b → ¬ S b) : MapAt w' K mb n g := by
  cases mb with
  | none => exact h
  | some b => exact VMap.fr h f (hs b rfl)
theorem MapAt.look {w : World} {K : TypeId} {mb : Option Nat} {n : Nat} {g : Lit → Option Value} (h : MapAt w K mb n g) (law : Keyed Try.prog K) {t e : TypeId} (ht : Try.prog.underlying t = some (.map K e)) {z : Value} (hz : (zeroValue e).run Try.prog w = .ok z w) {key : Value} {kl : Lit} (hk : keyOf Try.prog K key = some kl) :
    (Instr.lookup t (.map mb) key true).run Try.prog w = .ok (.tuple #[(g kl).getD z, .bool (g kl).isSome]) w := by
  cases mb with
  | none =>
    obtain ⟨rfl, _⟩ := h
    rw [Maps.look_nil true law ht hz hk]
    rfl
  | some b => exact VMap.look h law ht hz hk
end Go.Proofs.Ytncfdfgcnblicaa

/-
  LAYER 24: the two ordered maps of a book.
-/
namespace Go.Proofs.Ytncfdfgcnblicaa
open Go.RowKit Go.Maps Go.ChangeMaps Go.WideMaps
set_option linter.unusedVariables false
set_option linter.unusedSimpArgs false

theorem pendZero (w : World) : (zeroValue 28).run Try.prog w = .ok (.agg #[.int .u16 0, .string ⟨#[]⟩, .int .i64 0, .int .i64 0, .int .i64 0, .int .i64 0, .int .i64 0, .slice none 0 0]) w := by kernel_rfl
theorem strZero (w : World) : (zeroValue 9).run Try.prog w = .ok (.string ⟨#[]⟩) w := by kernel_rfl

set_option maxRecDepth 100000 in
set_option maxHeartbeats 4000000 in
theorem get1_some (p o : Nat) (mb : Option Nat) (n : Nat) (g : Lit → Option Value) (s : ByteArray) (w : World) (hc : w.cell? ⟨p, o, none⟩ = some (.map mb)) (hm : MapAt w 9 mb n g) (hs : s.size ≤ maxLen) (q : Pn) (A : Option Addr) (cap : Nat) (hg : g (.string s.data.toList) = some (.agg #[.int .u16 (q.id : Nat), .string q.q.1, .int .i64 q.q.2.1, .int .i64 q.q.2.2, .int .i64 q.sv, .int .i64 q.tr, .int .i64 q.dl, .slice A q.ws.length cap])) :
    Calls Try.prog 54 #[.pointer (some ⟨p, o, none⟩), .string s] w fun e w' => e = .returned (.tuple #[.agg #[.int .u16 (q.id : Nat), .string q.q.1, .int .i64 q.q.2.1, .int .i64 q.q.2.2, .int .i64 q.sv, .int .i64 q.tr, .int .i64 q.dl, .slice A q.ws.length cap], .bool true]) ∧ Fr (fun _ => False) w w' := by
  obtain ⟨W, hW⟩ : ∃ W, W = w.alloc (.cells #[.int .u16 0, .string ⟨#[]⟩, .int .i64 0, .int .i64 0, .int .i64 0, .int .i64 0, .int .i64 0, .slice none 0 0] 28) := ⟨_, rfl⟩
  have hb1 : Blk W w.heap.size 28 #[.int .u16 0, .string ⟨#[]⟩, .int .i64 0, .int .i64 0, .int .i64 0, .int .i64 0, .int .i64 0, .slice none 0 0] := by rw [hW]; exact Blk.new _ _ _
  have hf : Fr (fun _ => False) w W := by rw [hW]; exact (Fr.refl _ _).alloc _
  have c0 : W.cell? ⟨p, o, none⟩ = some (.map mb) := (hf.cell (p := ⟨p, o, none⟩) (World.block_lt_of_cell? _ _ hc) id).trans hc
  have hlk := (hm.fr hf (fun _ _ => id)).look (string_keyed Try.underlying9) Try.underlying97 (pendZero W) (keyOf_string_mk Try.underlying9 hs)
  rw [hg] at hlk
  simp only [Option.getD_some, Option.getD_none, Option.isSome_some, Option.isSome_none] at hlk
  have HB := Lib.hid (And.intro hb1 hf)
  have HW := Lib.hid hW
  clear hb1 hf hW hm hg
  go_enter Try.func54, Try.ntmps54
  go_upto_region 1 with fail
  rw [← HW.out]
  clear HW
  go_wp2_with (first
    | (refine wpList_store_part rfl 28 _ _ rfl W.heap.size 0 (by rfl) _ (by rfl) 28 _ (Blk.new W 28 _) (by kernel_rfl) (by simp [Value.oneCell']) (by simp) #[.int .u16 (q.id : Nat), .string q.q.1, .int .i64 q.q.2.1, .int .i64 q.q.2.2, .int .i64 q.sv, .int .i64 q.tr, .int .i64 q.dl, .slice A q.ws.length cap] (by rfl) ?_
       intro w1 b1 f1
       have H1 := Lib.hid (And.intro b1 (And.intro (((HB.out.1.alloc _).fr f1 (by have := HB.out.1.lt; omega))) (HB.out.2.then (((Fr.refl (fun _ => False) W).alloc _).step f1 (fun k hk => .inr (by subst hk; exact Nat.le_refl _))))))
       clear b1 f1 hlk c0)
    | (refine wpList_load_blk rfl 28 _ rfl W.heap.size (by rfl) 28 _ _ H1.out.1 Try.underlying28 rfl (by kernel_rfl) ?_)
    | (refine wpList_store_part rfl 28 _ _ rfl w.heap.size 0 (by rfl) _ (by rfl) 28 _ H1.out.2.1 (by kernel_rfl) (by simp [Value.oneCell']) (by simp) #[.int .u16 (q.id : Nat), .string q.q.1, .int .i64 q.q.2.1, .int .i64 q.q.2.2, .int .i64 q.sv, .int .i64 q.tr, .int .i64 q.dl, .slice A q.ws.length cap] (by rfl) ?_
       intro w2 b2 f2
       have H2 := Lib.hid (And.intro b2 (H1.out.2.2.step f2 (fun k hk => .inr (by subst hk; exact Nat.le_refl _))))
       clear b2 f2)
    | fail "no arm")
  have hu : Try.prog.underlying 28 = _ := Try.underlying28
  refine bodyPost_ret (results_cell_tmp Try.results54 H2.out.1 rfl rfl hu rfl (by kernel_rfl)) rfl ?_
  exact ⟨rfl, H2.out.2⟩

set_option maxRecDepth 100000 in
set_option maxHeartbeats 4000000 in
theorem get1_none (p o : Nat) (mb : Option Nat) (n : Nat) (g : Lit → Option Value) (s : ByteArray) (w : World) (hc : w.cell? ⟨p, o, none⟩ = some (.map mb)) (hm : MapAt w 9 mb n g) (hs : s.size ≤ maxLen) (hg : g (.string s.data.toList) = none) :
    Calls Try.prog 54 #[.pointer (some ⟨p, o, none⟩), .string s] w fun e w' => e = .returned (.tuple #[.agg #[.int .u16 0, .string ⟨#[]⟩, .int .i64 0, .int .i64 0, .int .i64 0, .int .i64 0, .int .i64 0, .slice none 0 0], .bool false]) ∧ Fr (fun _ => False) w w' := by
  obtain ⟨W, hW⟩ : ∃ W, W = w.alloc (.cells #[.int .u16 0, .string ⟨#[]⟩, .int .i64 0, .int .i64 0, .int .i64 0, .int .i64 0, .int .i64 0, .slice none 0 0] 28) := ⟨_, rfl⟩
  have hb1 : Blk W w.heap.size 28 #[.int .u16 0, .string ⟨#[]⟩, .int .i64 0, .int .i64 0, .int .i64 0, .int .i64 0, .int .i64 0, .slice none 0 0] := by rw [hW]; exact Blk.new _ _ _
  have hf : Fr (fun _ => False) w W := by rw [hW]; exact (Fr.refl _ _).alloc _
  have c0 : W.cell? ⟨p, o, none⟩ = some (.map mb) := (hf.cell (p := ⟨p, o, none⟩) (World.block_lt_of_cell? _ _ hc) id).trans hc
  have hlk := (hm.fr hf (fun _ _ => id)).look (string_keyed Try.underlying9) Try.underlying97 (pendZero W) (keyOf_string_mk Try.underlying9 hs)
  rw [hg] at hlk
  simp only [Option.getD_some, Option.getD_none, Option.isSome_some, Option.isSome_none] at hlk
  have HB := Lib.hid (And.intro hb1 hf)
  have HW := Lib.hid hW
  clear hb1 hf hW hm hg
  go_enter Try.func54, Try.ntmps54
  go_upto_region 1 with fail
  rw [← HW.out]
  clear HW
  go_wp2_with (first
    | (refine wpList_store_part rfl 28 _ _ rfl W.heap.size 0 (by rfl) _ (by rfl) 28 _ (Blk.new W 28 _) (by kernel_rfl) (by simp [Value.oneCell']) (by simp) #[.int .u16 0, .string ⟨#[]⟩, .int .i64 0, .int .i64 0, .int .i64 0, .int .i64 0, .int .i64 0, .slice none 0 0] (by rfl) ?_
       intro w1 b1 f1
       have H1 := Lib.hid (And.intro b1 (And.intro (((HB.out.1.alloc _).fr f1 (by have := HB.out.1.lt; omega))) (HB.out.2.then (((Fr.refl (fun _ => False) W).alloc _).step f1 (fun k hk => .inr (by subst hk; exact Nat.le_refl _))))))
       clear b1 f1 hlk c0)
    | (refine wpList_load_blk rfl 28 _ rfl W.heap.size (by rfl) 28 _ _ H1.out.1 Try.underlying28 rfl (by kernel_rfl) ?_)
    | (refine wpList_store_part rfl 28 _ _ rfl w.heap.size 0 (by rfl) _ (by rfl) 28 _ H1.out.2.1 (by kernel_rfl) (by simp [Value.oneCell']) (by simp) #[.int .u16 0, .string ⟨#[]⟩, .int .i64 0, .int .i64 0, .int .i64 0, .int .i64 0, .int .i64 0, .slice none 0 0] (by rfl) ?_
       intro w2 b2 f2
       have H2 := Lib.hid (And.intro b2 (H1.out.2.2.step f2 (fun k hk => .inr (by subst hk; exact Nat.le_refl _))))
       clear b2 f2)
    | fail "no arm")
  have hu : Try.prog.underlying 28 = _ := Try.underlying28
  refine bodyPost_ret (results_cell_tmp Try.results54 H2.out.1 rfl rfl hu rfl (by kernel_rfl)) rfl ?_
  exact ⟨rfl, H2.out.2⟩

theorem get2_any (p o : Nat) (mb : Option Nat) (n : Nat) (g : Lit → Option Value) (k : Nat) (w : World) (hc : w.cell? ⟨p, o, none⟩ = some (.map mb)) (hm : MapAt w 22 mb n g) (hk : k < 65536) (v : ByteArray) (b : Bool) (hg : g (.int .u16 (k : Nat)) = if b then some (.string v) else none) (hv : b = false → v = ⟨#[]⟩) :
    Calls Try.prog 55 #[.pointer (some ⟨p, o, none⟩), .int .u16 (k : Nat)] w fun e w' => e = .returned (.tuple #[.string v, .bool b]) ∧ w = w' := by
  have hwf : (Lit.int .u16 (k : Nat)).wf = true := by simp [Lit.wf, IntKind.min, IntKind.max, IntKind.signed, IntKind.bits]; omega
  have hlk := hm.look (int_keyed Try.underlying22) Try.underlying100 (strZero w) (keyOf_int_mk Try.underlying22 hwf)
  rw [hg] at hlk
  have hlk' : (Instr.lookup 100 (.map mb) (.int .u16 (k : Nat)) true).run Try.prog w = .ok (.tuple #[.string v, .bool b]) w := by
    rw [hlk]
    cases b with
    | true => rfl
    | false => rw [hv rfl]; rfl
  clear hlk hm hg hv hwf
  go_enter Try.func55, Try.ntmps55
  go_wp2_with fail
  go_ret2
  exact ⟨rfl, rfl⟩
end Go.Proofs.Ytncfdfgcnblicaa
