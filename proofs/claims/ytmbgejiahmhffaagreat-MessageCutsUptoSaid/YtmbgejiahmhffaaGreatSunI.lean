/-
  TEXTS OF THIS CLAIM, TOGETHER: Msp, Rch, Rpt, Openr, Lv10.
-/
import Derived.Test.YtmbgejiahmhffaaGreatSunC
import Derived.Test.YtmbgejiahmhffaaGreatSunH
import Derived.Test.YtmbgejiahmhffaaGreatSunG
import Derived.Deep.RegionHeld3
/-
  LAYERS 10, 11, PLAIN: questions and records one behind the other. No program.
-/
namespace Go.Proofs.YtmbgejiahmhffaaGreat
open Go.RowKit

theorem UG.exact {y : Pk} {B : Nat} (h : UG y B) : UG y y.x.b.length := ⟨h.e, h.most, h.good, Nat.le_refl _⟩
def Rcd.size (r : Rcd) : Nat := r.name.size + 11 + r.d.size (whatN r.t)
def rsum : List Rcd → Nat
  | [] => 0
  | r :: l => r.size + rsum l
def rputsB (y : Pk) : List Rcd → Pk
  | [] => y
  | r :: l => rputsB (rputB y r) l
/-- Records are read one behind the other. -/
def RReads (S : List UInt8) : Nat → List Rcd → Nat → Prop
  | a, [], e => a = e
  | a, r :: l, e => ∃ m : Nat, rreadN S (a : Nat) = (r, ((m : Nat) : Int), 0) ∧ RReads S m l e
theorem rput_tail {y : Pk} {B : Nat} (h : UG y B) {r : Rcd} (hr : r.ok) (hc : r.check = 0) (hB : B + 1000 + r.d.size (whatN r.t) ≤ 65535) : ∃ T, (rputB y r).x.b = y.x.b ++ T := by
  obtain ⟨hq, _⟩ := Rcd.check_ok hc
  obtain ⟨hn, _⟩ := qcheck_ok hq
  obtain ⟨_, _, ⟨T, t1, t2, t3⟩, _, _, hb2, _⟩ := rput_facts h hr hc hB
  obtain ⟨_, ⟨X, x1⟩, _, _⟩ := nameB_reads h false r.name hn (by omega)
  exact ⟨_, by rw [t2, hb2, x1, List.append_assoc, List.append_assoc]⟩
theorem rputs_reads : ∀ (l : List Rcd) (y : Pk), UG y y.x.b.length → (∀ r ∈ l, r.ok ∧ r.check = 0) → y.x.b.length + rsum l + 2000 ≤ 65535 →
    UG (rputsB y l) (rputsB y l).x.b.length ∧ (∃ T, (rputsB y l).x.b = y.x.b ++ T) ∧ (rputsB y l).x.b.length ≤ y.x.b.length + rsum l ∧ ∀ Z, RReads ((rputsB y l).x.b ++ Z) y.x.b.length l (rputsB y l).x.b.length
  | [], y, h, _, _ => ⟨h, ⟨[], by simp [rputsB]⟩, Nat.le_refl _, fun _ => rfl⟩
  | r :: l, y, h, hl, hB => by
    obtain ⟨hr, hc⟩ := hl r (by simp)
    have hs : rsum (r :: l) = r.name.size + 11 + r.d.size (whatN r.t) + rsum l := rfl
    rw [hs] at hB ⊢
    have hB1 : y.x.b.length + 1000 + r.d.size (whatN r.t) ≤ 65535 := by omega
    obtain ⟨_, u1, _, _, _, _, hle, _⟩ := rput_facts h hr hc hB1
    obtain ⟨T, hT⟩ := rput_tail h hr hc hB1
    obtain ⟨v1, ⟨U, v2⟩, v3, v4⟩ := rputs_reads l (rputB y r) u1.exact (fun x hx => hl x (by simp [hx])) (by omega)
    refine ⟨v1, ⟨T ++ U, by show (rputsB (rputB y r) l).x.b = _; rw [v2, hT, List.append_assoc]⟩, by show (rputsB (rputB y r) l).x.b.length ≤ _; omega, fun Z => ?_⟩
    have hrd := rread_rput h hr hc hB1 (U ++ Z)
    rw [← List.append_assoc, ← v2] at hrd
    exact ⟨_, hrd, v4 Z⟩
/-- A question: name, type, class. -/
abbrev Qn := ByteArray × Int × Int
def qsum : List Qn → Nat
  | [] => 0
  | q :: l => q.1.size + 5 + qsum l
def qputsB (y : Pk) : List Qn → Pk
  | [] => y
  | q :: l => qputsB (headB y q.1 q.2.1 q.2.2) l
def QReads (S : List UInt8) : Nat → List Qn → Nat → Prop
  | a, [], e => a = e
  | a, q :: l, e => ∃ m : Nat, qreadN S (a : Nat) = (q, ((m : Nat) : Int), 0) ∧ QReads S m l e
theorem qputs_reads : ∀ (l : List Qn) (y : Pk), UG y y.x.b.length → (∀ q ∈ l, qcheck q.1 q.2.1 q.2.2 = 0) → y.x.b.length + qsum l + 2000 ≤ 65535 →
    UG (qputsB y l) (qputsB y l).x.b.length ∧ (∃ T, (qputsB y l).x.b = y.x.b ++ T) ∧ (qputsB y l).x.b.length ≤ y.x.b.length + qsum l ∧ ∀ Z, QReads ((qputsB y l).x.b ++ Z) y.x.b.length l (qputsB y l).x.b.length
  | [], y, h, _, _ => ⟨h, ⟨[], by simp [qputsB]⟩, Nat.le_refl _, fun _ => rfl⟩
  | (n, t, cl) :: l, y, h, hl, hB => by
    have hc : qcheck n t cl = 0 := hl (n, t, cl) (by simp)
    obtain ⟨hn, _⟩ := qcheck_ok hc
    have hs : qsum ((n, t, cl) :: l) = n.size + 5 + qsum l := rfl
    rw [hs] at hB ⊢
    have hB1 : y.x.b.length + 300 ≤ 65535 := by omega
    obtain ⟨u1, hb, hle⟩ := headB_good h t cl hn hB1
    obtain ⟨_, ⟨X, x1⟩, _, _⟩ := nameB_reads h false n hn (by omega)
    have hT : (headB y n t cl).x.b = y.x.b ++ (X ++ (octs t.toNat 2 ++ octs cl.toNat 2)) := by rw [hb, x1, List.append_assoc]
    have hl2 : (headB y n t cl).x.b.length = (y.nameB false n).x.b.length + 4 := by rw [hb]; simp [octs_length]
    obtain ⟨v1, ⟨U, v2⟩, v3, v4⟩ := qputs_reads l (headB y n t cl) u1.exact (fun x hx => hl x (by simp [hx])) (by omega)
    refine ⟨v1, ⟨(X ++ (octs t.toNat 2 ++ octs cl.toNat 2)) ++ U, by show (qputsB (headB y n t cl) l).x.b = _; rw [v2, hT, List.append_assoc]⟩, by show (qputsB (headB y n t cl) l).x.b.length ≤ _; omega, fun Z => ?_⟩
    have hrd := qread_qput h hc hB1 (U ++ Z)
    rw [← List.append_assoc, ← v2] at hrd
    exact ⟨_, hrd, v4 Z⟩
end Go.Proofs.YtmbgejiahmhffaaGreat

/-
  LAYER 10: a record, a question: whether it may be; put.
-/
namespace Go.Proofs.YtmbgejiahmhffaaGreat
set_option linter.unusedVariables false
set_option linter.unusedSimpArgs false
open Go.RowKit

/-- A record in memory, cell by cell; t: the texts' slice. -/
def Rcd.cells (r : Rcd) (t : Value) : Array Value := #[.string r.name, .int .i64 r.t, .int .i64 r.cl, .int .u32 r.ttl, .bool r.d.six, .int .u64 r.d.hi, .int .u64 r.d.lo, .string r.d.name, .string r.d.mail, .int .u32 r.d.n0, .int .u32 r.d.n1, .int .u32 r.d.n2, .int .u32 r.d.n3, .int .u32 r.d.n4, t, .string r.d.raw]
def Rcd.val (r : Rcd) (t : Value) : Value := .agg (r.cells t)
/-- A record as it lies, with what is asked of it. -/
structure RcIn (w : World) (A : Option Addr) (r : Rcd) : Prop where
  d : DtIn w A r.d
  t : -9223372036854775808 ≤ r.t ∧ r.t ≤ 9223372036854775807
  cl : -9223372036854775808 ≤ r.cl ∧ r.cl ≤ 9223372036854775807
  ttl : r.ttl < 4294967296
theorem RcIn.fr0 {w w' : World} {A : Option Addr} {r : Rcd} (h : RcIn w A r) (hf : Fr (fun _ => False) w w') : RcIn w' A r := ⟨h.d.fr0 hf, h.t, h.cl, h.ttl⟩
theorem RcIn.frT {w w' : World} {A : Option Addr} {r : Rcd} {S : Nat → Prop} (h : RcIn w A r) (hf : Fr S w w') (hs : ∀ k, rowT A r.d.texts k → ¬ S k) : RcIn w' A r := ⟨h.d.frT hf hs, h.t, h.cl, h.ttl⟩
theorem RcIn.ok {w : World} {A : Option Addr} {r : Rcd} (h : RcIn w A r) : r.ok := ⟨h.ttl, h.d.ok⟩
def rcheckB (r : Rcd) : Int := if qcheck r.name r.t r.cl ≠ 0 then qcheck r.name r.t r.cl else dcheckB r.t r.d
theorem rcheckB_eq (r : Rcd) : rcheckB r = r.check := by unfold rcheckB Rcd.check; rw [dcheckB_eq]
theorem rcells {w : World} {q : Nat} {r : Rcd} {A : Option Addr} {cap : Nat} (h : Blk w q 55 (r.cells (.slice A r.d.texts.length cap))) : w.cell? ⟨q, 0, none⟩ = some (.string r.name) ∧ w.cell? ⟨q, 1, none⟩ = some (.int .i64 r.t) ∧ w.cell? ⟨q, 2, none⟩ = some (.int .i64 r.cl) ∧ w.cell? ⟨q, 3, none⟩ = some (.int .u32 r.ttl) ∧ w.cell? ⟨q, 4, none⟩ = some (.bool r.d.six) ∧ w.cell? ⟨q, 5, none⟩ = some (.int .u64 r.d.hi) ∧ w.cell? ⟨q, 6, none⟩ = some (.int .u64 r.d.lo) ∧ w.cell? ⟨q, 7, none⟩ = some (.string r.d.name) ∧ w.cell? ⟨q, 8, none⟩ = some (.string r.d.mail) ∧ w.cell? ⟨q, 9, none⟩ = some (.int .u32 r.d.n0) ∧ w.cell? ⟨q, 10, none⟩ = some (.int .u32 r.d.n1) ∧ w.cell? ⟨q, 11, none⟩ = some (.int .u32 r.d.n2) ∧ w.cell? ⟨q, 12, none⟩ = some (.int .u32 r.d.n3) ∧ w.cell? ⟨q, 13, none⟩ = some (.int .u32 r.d.n4) ∧ w.cell? ⟨q, 14, none⟩ = some (.slice A r.d.texts.length cap) ∧ w.cell? ⟨q, 15, none⟩ = some (.string r.d.raw) :=
  ⟨h.cell 0, h.cell 1, h.cell 2, h.cell 3, h.cell 4, h.cell 5, h.cell 6, h.cell 7, h.cell 8, h.cell 9, h.cell 10, h.cell 11, h.cell 12, h.cell 13, h.cell 14, h.cell 15⟩
set_option maxRecDepth 100000 in
set_option maxHeartbeats 2000000 in
theorem may_10 (n : ByteArray) (t cl : Int) (w : World) :
    Calls Tryz.prog 59 #[.string n, .int .i64 t, .int .i64 cl] w (IntPost w (qcheck n t cl)) := by
  obtain ⟨k, hk⟩ : ∃ k, k = ckN n := ⟨_, rfl⟩
  obtain ⟨R, hR⟩ : ∃ R, R = qcheck n t cl := ⟨_, rfl⟩
  rw [← hR]
  have HR := Lib.hid (And.intro hk hR)
  clear hR
  by_cases h0 : k = 0
  · have hc : R = if 0 ≤ t ∧ t ≤ 65535 ∧ 0 ≤ cl ∧ cl ≤ 65535 then 0 else 2 := by
      rw [HR.out.2]
      unfold qcheck
      rw [if_neg (by simp [← hk, h0])]
    have HC := Lib.hid hc
    have HK := Lib.hid (hk.symm.trans h0)
    clear hc h0 hk
    go_enter Tryz.func59, Tryz.ntmps59
    go_wp2_with fail
    refine (ncheck_any n _).mono ?_
    rintro e w1 ⟨rfl, m, rfl⟩
    rw [HK.out]
    go_wp2_with fail
    all_goals
      go_ret
      refine ⟨ret_int ?_, (Fr.refl _ _).drewN _⟩
      rw [HC.out]
      split <;> first | rfl | (exfalso; omega) | (exfalso; split at * <;> omega) | (exfalso; simp only [decide_eq_true_eq, decide_eq_false_iff_not] at *; split at * <;> omega)
  · have hne : (k != 0) = true := by simp [h0]
    have hr : R = k := by
      rw [HR.out.2]
      unfold qcheck
      rw [if_pos (by rw [← hk]; exact h0), hk]
    have HRK := Lib.hid hr
    have HK := Lib.hid hk
    clear hk h0 hr
    go_enter Tryz.func59, Tryz.ntmps59
    go_wp2_with fail
    refine (ncheck_any n _).mono ?_
    rintro e w1 ⟨rfl, m, rfl⟩
    rw [← HK.out]
    go_wp2_with fail
    go_ret
    exact ⟨ret_int HRK.out.symm, (Fr.refl _ _).drewN _⟩
set_option maxRecDepth 100000 in
set_option maxHeartbeats 2000000 in
theorem qcheck_any (n : ByteArray) (t cl : Int) (w : World) :
    Calls Tryz.prog 29 #[.agg #[.string n, .int .i64 t, .int .i64 cl]] w (IntPost w (qcheck n t cl)) := by
  have hf : Fr (fun _ => False) w (w.alloc (.cells #[.string n, .int .i64 t, .int .i64 cl] 40)) := (Fr.refl _ _).alloc _
  have H := Lib.hid hf
  clear hf
  obtain ⟨R, hR⟩ : ∃ R, R = qcheck n t cl := ⟨_, rfl⟩
  rw [← hR]
  have HR := Lib.hid hR
  clear hR
  go_enter Tryz.func29, Tryz.ntmps29
  go_wp2_with fail
  refine (may_10 n t cl _).mono ?_
  rintro e w1 ⟨rfl, f1⟩
  rw [← HR.out]
  have HF := Lib.hid (H.out.then f1)
  clear f1
  go_wp2_with fail
  go_ret
  exact ⟨rfl, HF.out⟩
set_option maxRecDepth 100000 in
set_option maxHeartbeats 4000000 in
theorem reccheck_any (r : Rcd) (A : Option Addr) (cap : Nat) (w : World) (h : RcIn w A r) :
    Calls Tryz.prog 31 #[.agg #[.string r.name, .int .i64 r.t, .int .i64 r.cl, .int .u32 r.ttl, .bool r.d.six, .int .u64 r.d.hi, .int .u64 r.d.lo, .string r.d.name, .string r.d.mail, .int .u32 r.d.n0, .int .u32 r.d.n1, .int .u32 r.d.n2, .int .u32 r.d.n3, .int .u32 r.d.n4, .slice A r.d.texts.length cap, .string r.d.raw]] w (IntPost w (rcheckB r)) := by
  have hb := Blk.new w 55 (r.cells (.slice A r.d.texts.length cap))
  have hf : Fr (fun _ => False) w (w.alloc (.cells (r.cells (.slice A r.d.texts.length cap)) 55)) := (Fr.refl _ _).alloc _
  obtain ⟨W, hW⟩ : ∃ W, W = w.alloc (.cells (r.cells (.slice A r.d.texts.length cap)) 55) := ⟨_, rfl⟩
  rw [← hW] at hb hf
  have H := Lib.hid (And.intro hb (And.intro hf (And.intro (h.d.fr0 hf) h.t)))
  unfold Rcd.cells at hW
  have HW := Lib.hid hW
  obtain ⟨c0, c1, c2, c3, c4, c5, c6, c7, c8, c9, c10, c11, c12, c13, c14, c15⟩ := rcells hb
  clear hb hf hW h
  obtain ⟨R, hR⟩ : ∃ R, R = rcheckB r := ⟨_, rfl⟩
  rw [← hR]
  have HR := Lib.hid hR
  clear hR
  by_cases h0 : qcheck r.name r.t r.cl = 0
  · have hr : R = dcheckB r.t r.d := by rw [HR.out]; unfold rcheckB; rw [if_neg (by simp [h0])]
    have HZ := Lib.hid (And.intro h0 hr)
    clear h0 hr
    go_enter Tryz.func31, Tryz.ntmps31
    go_upto_region 1 with fail
    rw [← HW.out]
    clear HW
    go_wp2_with (first
      | (go_at_call 59
         (with_reducible refine (may_10 r.name r.t r.cl _).mono ?_)
         rintro e w1 ⟨rfl, f1⟩
         rw [HZ.out.1]
         have H1 := Lib.hid (And.intro (H.out.1.fr f1 id) (And.intro (H.out.2.1.then f1) (H.out.2.2.1.fr0 f1)))
         clear f1 c0 c1 c2 c3 c4 c5 c6 c7 c8 c9 c10 c11 c12 c13 c14 c15
         obtain ⟨c0, c1, c2, c3, c4, c5, c6, c7, c8, c9, c10, c11, c12, c13, c14, c15⟩ := rcells H1.out.1)
      | (refine wpList_load_part rfl 53 _ rfl w.heap.size 4 (by rfl) 55 _ 12 _ H1.out.1 Tryz.underlying53 rfl (by kernel_rfl) (by simp [Rcd.cells]) #[.bool r.d.six, .int .u64 r.d.hi, .int .u64 r.d.lo, .string r.d.name, .string r.d.mail, .int .u32 r.d.n0, .int .u32 r.d.n1, .int .u32 r.d.n2, .int .u32 r.d.n3, .int .u32 r.d.n4, .slice A r.d.texts.length cap, .string r.d.raw] (by rfl) ?_)
      | (go_at_call 60
         (with_reducible refine (dCheck_any r.t r.d A cap _ H1.out.2.2 H.out.2.2.2).mono ?_)
         rintro e w2 ⟨rfl, f2⟩
         rw [← HZ.out.2]
         have H2 := Lib.hid (H1.out.2.1.then f2)
         clear f2))
    go_ret
    exact ⟨rfl, H2.out⟩
  · have hne : (qcheck r.name r.t r.cl != 0) = true := by simp [h0]
    have hr : R = qcheck r.name r.t r.cl := by rw [HR.out]; unfold rcheckB; rw [if_pos h0]
    have HZ := Lib.hid hr
    clear h0 hr
    go_enter Tryz.func31, Tryz.ntmps31
    go_upto_region 1 with fail
    rw [← HW.out]
    clear HW
    go_wp2_with (first
      | (go_at_call 59
         (with_reducible refine (may_10 r.name r.t r.cl _).mono ?_)
         rintro e w1 ⟨rfl, f1⟩
         have H1 := Lib.hid (H.out.2.1.then f1)
         clear f1))
    go_ret
    exact ⟨ret_int HZ.out.symm, H1.out⟩
end Go.Proofs.YtmbgejiahmhffaaGreat

/-
  LAYER 10: Put, PutQuestion.
-/
namespace Go.Proofs.YtmbgejiahmhffaaGreat
set_option linter.unusedVariables false
set_option linter.unusedSimpArgs false
open Go.RowKit

def HeadPost (w : World) (q : Nat) (F : Nat → Prop) (bg : List Int) (y : Pk) (e : Ending) (w' : World) : Prop :=
  e = .returned (.tuple #[]) ∧ ∃ F', PPk w' q F' y bg ∧ Fr F w w' ∧ ∀ k, F' k → F k ∨ w.heap.size ≤ k
theorem headP_fit {y : Pk} (h : y.fit) (n : ByteArray) (t cl : Int) : (headP y n t cl).fit := ((h.nameB false n).num _ _).num _ _
theorem chain2 {F F1 F2 : Nat → Prop} {a b c : World} (h1 : Fr F a b) (g1 : ∀ k, F1 k → F k ∨ a.heap.size ≤ k) (h2 : Fr F1 b c) (g2 : ∀ k, F2 k → F1 k ∨ b.heap.size ≤ k) : Fr F a c ∧ ∀ k, F2 k → F k ∨ a.heap.size ≤ k :=
  ⟨h1.trans h2 fun i hi h => (g1 i h).resolve_right (by omega), fun k hk => (g2 k hk).elim (g1 k) fun h => .inr (Nat.le_trans h1.size h)⟩
set_option maxRecDepth 100000 in
set_option maxHeartbeats 4000000 in
theorem head_any (q : Nat) (F : Nat → Prop) (y : Pk) (bg : List Int) (n : ByteArray) (t cl : Int) (w : World) (h : PPk w q F y bg) (hfit : y.fit) (ht : 0 ≤ t ∧ t ≤ 65535) (hc : 0 ≤ cl ∧ cl ≤ 65535) :
    Calls Tryz.prog 66 #[.pointer (some ⟨q, 0, none⟩), .string n, .int .i64 t, .int .i64 cl] w (HeadPost w q F bg (headP y n t cl)) := by
  have H := Lib.hid h
  have l0 := hfit.len
  have l1 := (hfit.nameB false n).len
  have l2 := ((hfit.nameB false n).num t 2).len
  have HB := Lib.hid (And.intro l0 (And.intro l1 l2))
  have hw1 : IntKind.u32.wrap t = t := IntWalk.u32_in _ (by omega)
  have hw2 : IntKind.u32.wrap cl = cl := IntWalk.u32_in _ (by omega)
  clear h l0 l1 l2
  go_enter Tryz.func66, Tryz.ntmps66
  go_wp2_with (first
    | (go_at_call 95
       (with_reducible refine (pname_any q F y bg n _ H.out (by have := HB.out.1; omega)).mono ?_)
       rintro e w1 ⟨rfl, F1, g1, g2, g3⟩
       have H1 := Lib.hid (And.intro (show PPk w1 q F1 (y.nameB false n) bg from g1) (And.intro g2 g3))
       clear g1 g2 g3)
    | (go_at_call 67
       (with_reducible refine (pnumber_any q F1 (y.nameB false n) bg t 2 w1 H1.out.1 ht.1 (by omega) (by have := HB.out.2.1; omega)).mono ?_)
       rintro e w2 ⟨rfl, F2, g1, g2, g3⟩
       have hc := chain2 H1.out.2.1 H1.out.2.2 g2 g3
       have H2 := Lib.hid (And.intro (show PPk w2 q F2 ((y.nameB false n).numP t 2) bg from g1) hc)
       clear g1 g2 g3 hc)
    | (go_at_call 67
       (with_reducible refine (pnumber_any q F2 ((y.nameB false n).numP t 2) bg cl 2 w2 H2.out.1 hc.1 (by omega) (by have := HB.out.2.2; omega)).mono ?_)
       rintro e w3 ⟨rfl, F3, g1, g2, g3⟩
       have hc := chain2 H2.out.2.1 H2.out.2.2 g2 g3
       have H3 := Lib.hid (And.intro (show PPk w3 q F3 (headP y n t cl) bg from g1) hc)
       clear g1 g2 g3 hc))
  go_end0
  exact ⟨rfl, F3, H3.out⟩
/-- What PutQuestion leaves and tells. -/
def qputR (y : Pk) (n : ByteArray) (t cl : Int) : Pk × Int := if qcheck n t cl ≠ 0 then (y, qcheck n t cl) else (headP y n t cl, (headP y n t cl).x.e)
set_option maxRecDepth 100000 in
set_option maxHeartbeats 4000000 in
theorem qput_any (q : Nat) (F : Nat → Prop) (y : Pk) (bg : List Int) (n : ByteArray) (t cl : Int) (w : World) (h : PPk w q F y bg) (hfit : y.fit) :
    Calls Tryz.prog 35 #[.pointer (some ⟨q, 0, none⟩), .agg #[.string n, .int .i64 t, .int .i64 cl]] w (PPkPost w q F bg (qputR y n t cl)) := by
  have hb := Blk.new w 40 #[.string n, .int .i64 t, .int .i64 cl]
  have hf : Fr (fun _ => False) w (w.alloc (.cells #[.string n, .int .i64 t, .int .i64 cl] 40)) := (Fr.refl _ _).alloc _
  obtain ⟨W, hW⟩ : ∃ W, W = w.alloc (.cells #[.string n, .int .i64 t, .int .i64 cl] 40) := ⟨_, rfl⟩
  rw [← hW] at hb hf
  have c0 := hb.cell 0
  have c1 := hb.cell 1
  have c2 := hb.cell 2
  simp only [List.getElem?_toArray, List.getElem?_cons_zero, List.getElem?_cons_succ] at c0 c1 c2
  have H := Lib.hid (And.intro hb (And.intro hf (And.intro h hfit)))
  have HW := Lib.hid hW
  clear hb hf hW h hfit
  obtain ⟨R, hR⟩ : ∃ R, R = qputR y n t cl := ⟨_, rfl⟩
  rw [← hR]
  have HR := Lib.hid hR
  clear hR
  by_cases h0 : qcheck n t cl = 0
  · have hr : R = (headP y n t cl, (headP y n t cl).x.e) := by rw [HR.out]; unfold qputR; rw [if_neg (by simp [h0])]
    have HZ := Lib.hid (And.intro h0 (And.intro hr (qcheck_ok h0)))
    clear h0 hr
    go_enter Tryz.func35, Tryz.ntmps35
    go_upto_region 1 with fail
    rw [← HW.out]
    clear HW
    go_wp2_with (first
      | (go_at_call 29
         (with_reducible refine (qcheck_any n t cl _).mono ?_)
         rintro e w1 ⟨rfl, f1⟩
         rw [HZ.out.1]
         have H1 := Lib.hid (And.intro (H.out.1.fr f1 id) (And.intro (H.out.2.1.then f1) (H.out.2.2.1.fr (H.out.2.1.then f1) (fun _ _ => id))))
         clear f1 c0 c1 c2
         have c0 := H1.out.1.cell 0
         have c1 := H1.out.1.cell 1
         have c2 := H1.out.1.cell 2
         simp only [List.getElem?_toArray, List.getElem?_cons_zero, List.getElem?_cons_succ] at c0 c1 c2)
      | (go_at_call 66
         (with_reducible refine (head_any q F y bg n t cl _ H1.out.2.2 H.out.2.2.2 HZ.out.2.2.2.1 HZ.out.2.2.2.2).mono ?_)
         rintro e w2 ⟨rfl, F2, g1, g2, g3⟩
         have H2 := Lib.hid (And.intro g1 (chain2 (H1.out.2.1.mono (T := F) fun _ _ h => h.elim) (fun k hk => .inl hk) g2 g3))
         clear g1 g2 g3)
      | (go_at_call 37
         (with_reducible refine (perr_any q F2 _ bg _ H2.out.1).mono ?_)
         rintro e w' ⟨rfl, rfl⟩))
    go_ret
    exact ⟨ret_int (by rw [HZ.out.2.1]), F2, by rw [HZ.out.2.1]; exact H2.out.1, H2.out.2⟩
  · have hne : (qcheck n t cl != 0) = true := by simp [h0]
    have hr : R = (y, qcheck n t cl) := by rw [HR.out]; unfold qputR; rw [if_pos h0]
    have HZ := Lib.hid hr
    clear h0 hr
    go_enter Tryz.func35, Tryz.ntmps35
    go_upto_region 1 with fail
    rw [← HW.out]
    clear HW
    go_wp2_with (first
      | (go_at_call 29
         (with_reducible refine (qcheck_any n t cl _).mono ?_)
         rintro e w1 ⟨rfl, f1⟩
         have H1 := Lib.hid (H.out.2.1.then f1)
         clear f1))
    go_ret
    exact ⟨ret_int (by rw [HZ.out]), F, by rw [HZ.out]; exact H.out.2.2.1.fr H1.out (fun _ _ => id), H1.out.mono (fun _ _ h => h.elim), fun k hk => .inl hk⟩
/-- What Put leaves and tells. -/
def rputR (y : Pk) (r : Rcd) : Pk × Int :=
  if rcheckB r ≠ 0 then (y, rcheckB r)
  else if (rc0P y r).x.e ≠ 0 then (rc0P y r, (rc0P y r).x.e)
  else (⟨((rc0P y r).x.patch (((headP y r.name r.t r.cl).numP (r.ttl : Nat) 4).x.b.length : Nat) (((rc0P y r).x.b.length - ((headP y r.name r.t r.cl).numP (r.ttl : Nat) 4).x.b.length - 2 : Nat) : Int) 2).1, (rc0P y r).get⟩, ((rc0P y r).x.patch (((headP y r.name r.t r.cl).numP (r.ttl : Nat) 4).x.b.length : Nat) (((rc0P y r).x.b.length - ((headP y r.name r.t r.cl).numP (r.ttl : Nat) 4).x.b.length - 2 : Nat) : Int) 2).2)
def RputPost (w : World) (q : Nat) (F : Nat → Prop) (bg : List Int) (y : Pk) (r : Rcd) (e : Ending) (w' : World) : Prop :=
  e = .returned (.int .i64 (rputR y r).2) ∧ ∃ F' bg', PPk w' q F' (rputR y r).1 bg' ∧ ((rcheckB r ≠ 0 ∨ (rc0P y r).x.e = 0) → bg' = bg) ∧ Fr F w w' ∧ ∀ k, F' k → F k ∨ w.heap.size ≤ k
theorem numP_err {y : Pk} {v n : Int} (h : y.x.e ≠ 0) : y.numP v n = y := by
  unfold Pk.numP
  rw [Wst.number_err h]
theorem putP_err {y : Pk} {l : List UInt8} (h : y.x.e ≠ 0) : y.putP l = y := by
  unfold Pk.putP
  rw [Wst.put_err h]
theorem numsP_err {d : Dt} {wide : Nat} : ∀ (k j : Nat) {y : Pk}, y.x.e ≠ 0 → y.numsP d wide j k = y
  | 0, _, _, _ => rfl
  | k + 1, j, y, h => by
    show (y.numP _ _).numsP d wide (j + 1) k = y
    rw [numP_err h]
    exact numsP_err k (j + 1) h
theorem textsP_err : ∀ (l : List ByteArray) {y : Pk}, y.x.e ≠ 0 → y.textsP l = y
  | [], _, _ => rfl
  | x :: r, y, h => by
    show ((y.numP _ _).putP _).textsP r = y
    rw [numP_err h, putP_err h]
    exact textsP_err r h
theorem nameB_err {y : Pk} {p : Bool} {n : ByteArray} (h0 : y.x.e ≠ 0) : y.nameB p n = y := by
  cases p
  · show (y.name n).1 = y
    unfold Pk.name
    rw [if_pos h0]
  · show (y.plain n).1 = y
    unfold Pk.plain
    rw [if_pos h0]
/-- An error stays. -/
theorem dput_err {y : Pk} {w : Wh} {d : Dt} (h : y.x.e ≠ 0) : dputP y w d = y := by
  unfold dputP
  simp only [putP_err h, numsP_err _ _ h, nameB_err h, textsP_err _ h, ite_self]
theorem stay_dput {y : Pk} {w : Wh} {d : Dt} (h : (dputP y w d).x.e = 0) : y.x.e = 0 := by
  apply Classical.byContradiction
  intro h0
  rw [dput_err h0] at h
  exact h0 h
/-- What stands never shrinks. -/
theorem ge_put (y : Pk) (l : List UInt8) : y.x.b.length ≤ (y.putP l).x.b.length := put_ge _ _
theorem ge_num (y : Pk) (v n : Int) : y.x.b.length ≤ (y.numP v n).x.b.length := number_ge _ _ _
theorem ge_rest : ∀ (n : List UInt8) (y : Pk), y.x.b.length ≤ (y.rest n).1.x.b.length := by
  intro n
  generalize hk : n.length = k
  induction k using Nat.strongRecOn generalizing n with
  | _ k ih =>
    intro y
    by_cases hn : n = []
    · subst hn
      rw [Pk.rest_nil]
      exact put_ge _ _
    · have hp : 0 < n.length := List.length_pos_iff.2 hn
      cases hg : y.get n with
      | some a =>
        rw [Pk.rest_some hn hg]
        exact number_ge _ _ _
      | none =>
        by_cases h0 : (y.x.put (n.take (1 + oc n 0))).2 = 0
        · rw [Pk.rest_go hn hg h0]
          refine Nat.le_trans (put_ge y.x (n.take (1 + oc n 0))) ?_
          have := ih (n.drop (1 + oc n 0)).length (by rw [List.length_drop]; omega) (n.drop (1 + oc n 0)) rfl ⟨(y.x.put (n.take (1 + oc n 0))).1, updAt y.get n y.x.b.length⟩
          exact this
        · rw [Pk.rest_stop hn hg h0]
          exact put_ge _ _
theorem ge_nameB (y : Pk) (p : Bool) (n : ByteArray) : y.x.b.length ≤ (y.nameB p n).x.b.length := by
  cases p
  · show _ ≤ (y.name n).1.x.b.length
    unfold Pk.name
    split
    · exact Nat.le_refl _
    · split
      · exact Nat.le_refl _
      · exact ge_rest _ _
  · show _ ≤ (y.plain n).1.x.b.length
    unfold Pk.plain
    split
    · exact Nat.le_refl _
    · split
      · exact Nat.le_refl _
      · exact put_ge _ _
theorem ge_nums (d : Dt) (wide : Nat) : ∀ (k j : Nat) (y : Pk), y.x.b.length ≤ (y.numsP d wide j k).x.b.length
  | 0, _, _ => Nat.le_refl _
  | k + 1, j, y => Nat.le_trans (ge_num y _ _) (ge_nums d wide k (j + 1) _)
theorem ge_texts : ∀ (l : List ByteArray) (y : Pk), y.x.b.length ≤ (y.textsP l).x.b.length
  | [], _ => Nat.le_refl _
  | _ :: r, y => Nat.le_trans (ge_num y _ _) (Nat.le_trans (ge_put _ _) (ge_texts r _))
theorem ge_dput (y : Pk) (w : Wh) (d : Dt) : y.x.b.length ≤ (dputP y w d).x.b.length := by
  unfold dputP
  dsimp only
  refine Nat.le_trans ?_ (Nat.le_trans (ge_texts _ _) (ge_put _ _))
  have h4 : y.x.b.length ≤ (if 0 < w.addr then y.putP (addrL d w) else y).x.b.length := by
    split
    · exact ge_put _ _
    · exact Nat.le_refl _
  generalize (if 0 < w.addr then y.putP (addrL d w) else y) = y1 at *
  have h3 : y1.x.b.length ≤ (if w.first = true then y1.numsP d w.wide 0 w.nums else y1).x.b.length := by
    split
    · exact ge_nums _ _ _ _ _
    · exact Nat.le_refl _
  generalize (if w.first = true then y1.numsP d w.wide 0 w.nums else y1) = y2 at *
  have h2 : y2.x.b.length ≤ (if 1 ≤ w.names then y2.nameB w.plain d.name else y2).x.b.length := by
    split
    · exact ge_nameB _ _ _
    · exact Nat.le_refl _
  generalize (if 1 ≤ w.names then y2.nameB w.plain d.name else y2) = y3 at *
  have h1 : y3.x.b.length ≤ (if 2 ≤ w.names then y3.nameB w.plain d.mail else y3).x.b.length := by
    split
    · exact ge_nameB _ _ _
    · exact Nat.le_refl _
  generalize (if 2 ≤ w.names then y3.nameB w.plain d.mail else y3) = y4 at *
  have h0 : y4.x.b.length ≤ (if w.first = true then y4 else y4.numsP d w.wide 0 w.nums).x.b.length := by
    split
    · exact Nat.le_refl _
    · exact ge_nums _ _ _ _ _
  omega
theorem fit_dput {y : Pk} (h : y.fit) (w : Wh) (d : Dt) : (dputP y w d).fit := by
  unfold dputP
  dsimp only
  refine Pk.fit.put (Pk.fit.texts _ ?_) _
  have h4 : (if 0 < w.addr then y.putP (addrL d w) else y).fit := by
    split
    · exact h.put _
    · exact h
  generalize (if 0 < w.addr then y.putP (addrL d w) else y) = y1 at *
  have h3 : (if w.first = true then y1.numsP d w.wide 0 w.nums else y1).fit := by
    split
    · exact Pk.fit.nums _ _ _ _ h4
    · exact h4
  generalize (if w.first = true then y1.numsP d w.wide 0 w.nums else y1) = y2 at *
  have h2 : (if 1 ≤ w.names then y2.nameB w.plain d.name else y2).fit := by
    split
    · exact h3.nameB _ _
    · exact h3
  generalize (if 1 ≤ w.names then y2.nameB w.plain d.name else y2) = y3 at *
  have h1 : (if 2 ≤ w.names then y3.nameB w.plain d.mail else y3).fit := by
    split
    · exact h2.nameB _ _
    · exact h2
  generalize (if 2 ≤ w.names then y3.nameB w.plain d.mail else y3) = y4 at *
  split
  · exact h1
  · exact Pk.fit.nums _ _ _ _ h1
theorem number_e0 (x : Wst) : (x.number 0 2).2 = (x.number 0 2).1.e := by
  unfold Wst.number
  split
  · rfl
  · rename_i h
    rw [if_pos (by decide)]
    unfold Wst.put
    split
    · rfl
    · split
      · rfl
      · exact (Classical.not_not.1 h).symm
theorem number_len0 (x : Wst) (h : (x.number 0 2).2 = 0) : (x.number 0 2).1.b.length = x.b.length + 2 := by
  unfold Wst.number at h ⊢
  split at h
  · exact absurd h (by assumption)
  · rename_i h0
    rw [if_neg h0, if_pos (by decide)]
    rw [if_pos (by decide)] at h
    unfold Wst.put at h ⊢
    rw [if_neg h0] at h ⊢
    split at h
    · cases h
    · rename_i h1
      rw [if_neg h1]
      dsimp only
      rw [List.length_append, octs_length]
      rfl
set_option maxRecDepth 100000 in
set_option maxHeartbeats 8000000 in
theorem recput_any (q : Nat) (F : Nat → Prop) (y : Pk) (bg : List Int) (r : Rcd) (A : Option Addr) (cap : Nat) (w : World) (h : PPk w q F y bg) (hfit : y.fit) (hbg : bg.length ≤ 1000000) (hr : RcIn w A r) (hfar : ∀ k, rowT A r.d.texts k → ¬ F k) :
    Calls Tryz.prog 36 #[.pointer (some ⟨q, 0, none⟩), .agg #[.string r.name, .int .i64 r.t, .int .i64 r.cl, .int .u32 r.ttl, .bool r.d.six, .int .u64 r.d.hi, .int .u64 r.d.lo, .string r.d.name, .string r.d.mail, .int .u32 r.d.n0, .int .u32 r.d.n1, .int .u32 r.d.n2, .int .u32 r.d.n3, .int .u32 r.d.n4, .slice A r.d.texts.length cap, .string r.d.raw]] w (RputPost w q F bg y r) := by
  have hb := Blk.new w 55 (r.cells (.slice A r.d.texts.length cap))
  have hf : Fr (fun _ => False) w (w.alloc (.cells (r.cells (.slice A r.d.texts.length cap)) 55)) := (Fr.refl _ _).alloc _
  obtain ⟨W, hW⟩ : ∃ W, W = w.alloc (.cells (r.cells (.slice A r.d.texts.length cap)) 55) := ⟨_, rfl⟩
  rw [← hW] at hb hf
  have nF : ¬ F w.heap.size := fun g => by have := h.lt _ g; omega
  have H := Lib.hid (And.intro hb (And.intro hf (And.intro (hr.fr0 hf) (And.intro (h.fr hf (fun _ _ => id)) (And.intro hfit (And.intro hbg (And.intro hfar (And.intro nF h.lt))))))))
  have HT := Lib.hid (And.intro hr.t (And.intro hr.cl hr.ttl))
  unfold Rcd.cells at hW
  have HW := Lib.hid hW
  obtain ⟨c0, c1, c2, c3, c4, c5, c6, c7, c8, c9, c10, c11, c12, c13, c14, c15⟩ := rcells hb
  clear hb hf hW h hfit hbg hr hfar nF
  by_cases h0 : rcheckB r = 0
  rotate_left
  · have hne : (rcheckB r != 0) = true := by simp [h0]
    have hz : rputR y r = (y, rcheckB r) := by unfold rputR; rw [if_pos h0]
    have HZ := Lib.hid (And.intro h0 hz)
    clear h0 hz
    go_enter Tryz.func36, Tryz.ntmps36
    go_upto_region 1 with fail
    rw [← HW.out]
    clear HW
    go_wp2_with (first
      | (go_at_call 31
         (with_reducible refine (reccheck_any r A cap _ H.out.2.2.1).mono ?_)
         rintro e w1 ⟨rfl, f1⟩
         have H1 := Lib.hid f1
         clear f1))
    go_ret
    exact ⟨ret_int (by rw [HZ.out.2]), F, bg, by rw [HZ.out.2]; exact H.out.2.2.2.1.fr H1.out (fun _ _ => id), fun _ => rfl, (H.out.2.1.then H1.out).mono (fun _ _ h => h.elim), fun k hk => .inl hk⟩
  have hck : r.check = 0 := by rw [← rcheckB_eq]; exact h0
  obtain ⟨hq, hdc⟩ := Rcd.check_ok hck
  have hqo := qcheck_ok hq
  have hdb : dcheckB r.t r.d = 0 := by rw [dcheckB_eq]; exact hdc
  obtain ⟨y1, hy1⟩ : ∃ y1, y1 = headP y r.name r.t r.cl := ⟨_, rfl⟩
  obtain ⟨y2, hy2⟩ : ∃ y2, y2 = y1.numP (r.ttl : Nat) 4 := ⟨_, rfl⟩
  obtain ⟨y3, hy3⟩ : ∃ y3, y3 = y2.numP 0 2 := ⟨_, rfl⟩
  obtain ⟨y4, hy4⟩ : ∃ y4, y4 = dputP y3 (whatN r.t) r.d := ⟨_, rfl⟩
  have hrc : rc0P y r = y4 := by rw [hy4, hy3, hy2, hy1]; rfl
  have hfy1 : y1.fit := by rw [hy1]; exact headP_fit H.out.2.2.2.2.1 _ _ _
  have hfy2 : y2.fit := by rw [hy2]; exact hfy1.num _ _
  have hfy3 : y3.fit := by rw [hy3]; exact hfy2.num _ _
  have hfy4 : y4.fit := by rw [hy4]; exact fit_dput hfy3 _ _
  have hge := ge_dput y3 (whatN r.t) r.d
  rw [← hy4] at hge
  have hdr : dputR y3 r.t r.d = (y4, y4.x.e) := by unfold dputR; rw [if_neg (by simp [hdb]), hy4]
  have hz : rputR y r = if y4.x.e ≠ 0 then (y4, y4.x.e) else (⟨(y4.x.patch (y2.x.b.length : Nat) ((y4.x.b.length - y2.x.b.length - 2 : Nat) : Int) 2).1, y4.get⟩, (y4.x.patch (y2.x.b.length : Nat) ((y4.x.b.length - y2.x.b.length - 2 : Nat) : Int) 2).2) := by
    unfold rputR
    rw [if_neg (by simp [h0]), hrc, ← hy1, ← hy2]
  have hst : y4.x.e = 0 → (y2.x.number 0 2).2 = 0 := fun h => by
    rw [hy4] at h
    have h3 := stay_dput h
    rw [hy3] at h3
    rw [number_e0]
    exact h3
  have hy3' : (⟨(y2.x.number 0 2).1, y2.get⟩ : Pk) = y3 := hy3.symm
  have l3 : (y2.x.number 0 2).2 = 0 → y3.x.b.length = y2.x.b.length + 2 := fun h => by rw [hy3]; exact number_len0 _ h
  have HZ := Lib.hid (And.intro hz (And.intro hrc (And.intro hst (And.intro hy3' (And.intro l3 (And.intro hge hdr))))))
  have HY := Lib.hid (And.intro hy1 hy2)
  have HQ := Lib.hid (And.intro h0 hqo)
  have HFT := Lib.hid (And.intro hfy1 (And.intro hfy2 (And.intro hfy3 hfy4)))
  clear hck hq hdc hqo hdb hrc hfy1 hfy2 hfy3 hfy4 hge hdr hz hst hy3' l3 hy1 hy2 hy3 hy4 h0
  have hlt : r.ttl < 4294967296 := HT.out.2.2
  go_enter Tryz.func36, Tryz.ntmps36
  go_upto_region 1 with fail
  rw [← HW.out]
  clear HW
  go_upto_region 8 with (first
    | (go_at_call 31
       (with_reducible refine (reccheck_any r A cap _ H.out.2.2.1).mono ?_)
       rintro e w1 ⟨rfl, f1⟩
       rw [HQ.out.1]
       have H1 := Lib.hid (And.intro (H.out.1.fr f1 id) (And.intro (H.out.2.1.then f1) (And.intro (H.out.2.2.1.fr0 f1) (H.out.2.2.2.1.fr f1 (fun _ _ => id)))))
       clear f1 c0 c1 c2 c3 c4 c5 c6 c7 c8 c9 c10 c11 c12 c13 c14 c15
       obtain ⟨c0, c1, c2, c3, c4, c5, c6, c7, c8, c9, c10, c11, c12, c13, c14, c15⟩ := rcells H1.out.1)
    | (go_at_call 66
       (with_reducible refine (head_any q F y bg r.name r.t r.cl _ H1.out.2.2.2 H.out.2.2.2.2.1 HQ.out.2.2.1 HQ.out.2.2.2).mono ?_)
       rintro e w2 ⟨rfl, F2, g1, g2, g3⟩
       rw [← HY.out.1] at g1
       have n2 : ¬ F2 w.heap.size := fun g => (g3 _ g).elim H.out.2.2.2.2.2.2.2.1 (fun g => by have := H1.out.1.lt; omega)
       have ft : ∀ k, rowT A r.d.texts k → ¬ F2 k := fun k hk g => (g3 _ g).elim (H.out.2.2.2.2.2.2.1 k hk) (fun g => by have := H1.out.2.2.1.d.txt.ltT hk; omega)
       have H2 := Lib.hid (And.intro (H1.out.1.fr g2 H.out.2.2.2.2.2.2.2.1) (And.intro (H1.out.2.2.1.frT g2 H.out.2.2.2.2.2.2.1) (And.intro g1 (And.intro (chain2 (H1.out.2.1.mono (T := F) fun _ _ h => h.elim) (fun k hk => .inl hk) g2 g3) (And.intro n2 ft)))))
       clear g1 g2 g3 n2 ft c0 c1 c2 c3 c4 c5 c6 c7 c8 c9 c10 c11 c12 c13 c14 c15
       obtain ⟨c0, c1, c2, c3, c4, c5, c6, c7, c8, c9, c10, c11, c12, c13, c14, c15⟩ := rcells H2.out.1)
    | (go_at_call 67
       (with_reducible refine (pnumber_any q F2 y1 bg (r.ttl : Nat) 4 _ H2.out.2.2.1 (by omega) (by omega) (by have := HFT.out.1.len; omega)).mono ?_)
       rintro e w3 ⟨rfl, F3, g1, g2, g3⟩
       rw [show (⟨(y1.x.number (r.ttl : Nat) 4).1, y1.get⟩ : Pk) = y2 from HY.out.2.symm] at g1
       have n2 : ¬ F3 w.heap.size := fun g => (g3 _ g).elim H2.out.2.2.2.2.1 (fun g => by have := H2.out.1.lt; omega)
       have ft : ∀ k, rowT A r.d.texts k → ¬ F3 k := fun k hk g => (g3 _ g).elim (H2.out.2.2.2.2.2 k hk) (fun g => by have := H2.out.2.1.d.txt.ltT hk; omega)
       have H3 := Lib.hid (And.intro (H2.out.1.fr g2 H2.out.2.2.2.2.1) (And.intro (H2.out.2.1.frT g2 H2.out.2.2.2.2.2) (And.intro g1 (And.intro (chain2 H2.out.2.2.2.1.1 H2.out.2.2.2.1.2 g2 g3) (And.intro n2 ft)))))
       clear g1 g2 g3 n2 ft c0 c1 c2 c3 c4 c5 c6 c7 c8 c9 c10 c11 c12 c13 c14 c15
       obtain ⟨c0, c1, c2, c3, c4, c5, c6, c7, c8, c9, c10, c11, c12, c13, c14, c15⟩ := rcells H3.out.1))
  by_cases hb0 : (y2.x.number 0 2).2 = 0
  · by_cases he4 : y4.x.e = 0
    · have HE := Lib.hid (And.intro hb0 he4)
      clear hb0 he4
      go_wp2_with (first
        | (go_at_call 68
           (with_reducible refine (pbegin_ok q F3 y2 bg _ H3.out.2.2.1 (by have := HFT.out.2.1.len; omega) H.out.2.2.2.2.2.1 HE.out.1).mono ?_)
           rintro e w4 ⟨rfl, F4, g1, g2, g3⟩
           rw [HZ.out.2.2.2.1] at g1
           have n2 : ¬ F4 w.heap.size := fun g => (g3 _ g).elim H3.out.2.2.2.2.1 (fun g => by have := H3.out.1.lt; omega)
           have ft : ∀ k, rowT A r.d.texts k → ¬ F4 k := fun k hk g => (g3 _ g).elim (H3.out.2.2.2.2.2 k hk) (fun g => by have := H3.out.2.1.d.txt.ltT hk; omega)
           have H4 := Lib.hid (And.intro (H3.out.1.fr g2 H3.out.2.2.2.2.1) (And.intro (H3.out.2.1.frT g2 H3.out.2.2.2.2.2) (And.intro g1 (And.intro (chain2 H3.out.2.2.2.1.1 H3.out.2.2.2.1.2 g2 g3) ft))))
           clear g1 g2 g3 n2 ft c0 c1 c2 c3 c4 c5 c6 c7 c8 c9 c10 c11 c12 c13 c14 c15
           obtain ⟨c0, c1, c2, c3, c4, c5, c6, c7, c8, c9, c10, c11, c12, c13, c14, c15⟩ := rcells H4.out.1)
        | (refine wpList_load_part rfl 53 _ rfl w.heap.size 4 (by rfl) 55 _ 12 _ H4.out.1 Tryz.underlying53 rfl (by kernel_rfl) (by simp [Rcd.cells]) #[.bool r.d.six, .int .u64 r.d.hi, .int .u64 r.d.lo, .string r.d.name, .string r.d.mail, .int .u32 r.d.n0, .int .u32 r.d.n1, .int .u32 r.d.n2, .int .u32 r.d.n3, .int .u32 r.d.n4, .slice A r.d.texts.length cap, .string r.d.raw] (by rfl) ?_)
        | (go_at_call 69
           (with_reducible refine (dput_any q F4 y3 (bg ++ [(y2.x.b.length : Int)]) r.t r.d A cap _ H4.out.2.2.1 HFT.out.2.2.1 H4.out.2.1.d H4.out.2.2.2.2 HT.out.1).mono ?_)
           rintro e w5 ⟨rfl, F5, g1, g2, g3⟩
           rw [HZ.out.2.2.2.2.2.2] at g1 ⊢
           dsimp only at g1; rw [HE.out.2]
           have H5 := Lib.hid (And.intro g1 (chain2 H4.out.2.2.2.1.1 H4.out.2.2.2.1.2 g2 g3))
           clear g1 g2 g3)
        | (go_at_call 70
           (with_reducible refine (pend_ok q F5 y4 bg y2.x.b.length _ H5.out.1 HE.out.2 H.out.2.2.2.2.2.1 (by have := HZ.out.2.2.2.2.1 HE.out.1; have := HZ.out.2.2.2.2.2.1; omega) (by have := HFT.out.2.2.2.len; omega)).mono ?_)
           rintro e w6 ⟨rfl, F6, g1, g2, g3⟩
           have H6 := Lib.hid (And.intro g1 (chain2 H5.out.2.1 H5.out.2.2 g2 g3))
           clear g1 g2 g3))
      go_ret
      have hz := HZ.out.1
      rw [if_neg (by simp [HE.out.2])] at hz
      exact ⟨ret_int (by rw [hz]), F6, bg, by rw [hz]; exact H6.out.1, fun _ => rfl, H6.out.2⟩
    · have hne : (y4.x.e != 0) = true := by simp [he4]
      have HE := Lib.hid (And.intro hb0 he4)
      clear hb0 he4
      go_wp2_with (first
        | (go_at_call 68
           (with_reducible refine (pbegin_ok q F3 y2 bg _ H3.out.2.2.1 (by have := HFT.out.2.1.len; omega) H.out.2.2.2.2.2.1 HE.out.1).mono ?_)
           rintro e w4 ⟨rfl, F4, g1, g2, g3⟩
           rw [HZ.out.2.2.2.1] at g1
           have n2 : ¬ F4 w.heap.size := fun g => (g3 _ g).elim H3.out.2.2.2.2.1 (fun g => by have := H3.out.1.lt; omega)
           have ft : ∀ k, rowT A r.d.texts k → ¬ F4 k := fun k hk g => (g3 _ g).elim (H3.out.2.2.2.2.2 k hk) (fun g => by have := H3.out.2.1.d.txt.ltT hk; omega)
           have H4 := Lib.hid (And.intro (H3.out.1.fr g2 H3.out.2.2.2.2.1) (And.intro (H3.out.2.1.frT g2 H3.out.2.2.2.2.2) (And.intro g1 (And.intro (chain2 H3.out.2.2.2.1.1 H3.out.2.2.2.1.2 g2 g3) ft))))
           clear g1 g2 g3 n2 ft c0 c1 c2 c3 c4 c5 c6 c7 c8 c9 c10 c11 c12 c13 c14 c15
           obtain ⟨c0, c1, c2, c3, c4, c5, c6, c7, c8, c9, c10, c11, c12, c13, c14, c15⟩ := rcells H4.out.1)
        | (refine wpList_load_part rfl 53 _ rfl w.heap.size 4 (by rfl) 55 _ 12 _ H4.out.1 Tryz.underlying53 rfl (by kernel_rfl) (by simp [Rcd.cells]) #[.bool r.d.six, .int .u64 r.d.hi, .int .u64 r.d.lo, .string r.d.name, .string r.d.mail, .int .u32 r.d.n0, .int .u32 r.d.n1, .int .u32 r.d.n2, .int .u32 r.d.n3, .int .u32 r.d.n4, .slice A r.d.texts.length cap, .string r.d.raw] (by rfl) ?_)
        | (go_at_call 69
           (with_reducible refine (dput_any q F4 y3 (bg ++ [(y2.x.b.length : Int)]) r.t r.d A cap _ H4.out.2.2.1 HFT.out.2.2.1 H4.out.2.1.d H4.out.2.2.2.2 HT.out.1).mono ?_)
           rintro e w5 ⟨rfl, F5, g1, g2, g3⟩
           rw [HZ.out.2.2.2.2.2.2] at g1 ⊢
           skip
           have H5 := Lib.hid (And.intro g1 (chain2 H4.out.2.2.2.1.1 H4.out.2.2.2.1.2 g2 g3))
           clear g1 g2 g3))
      go_ret
      have hz := HZ.out.1
      rw [if_pos HE.out.2] at hz
      exact ⟨ret_int (by rw [hz]), F5, _, by rw [hz]; exact H5.out.1, (fun h => h.elim (fun h => absurd HQ.out.1 h) (fun h => by rw [HZ.out.2.1] at h; exact absurd h HE.out.2)), H5.out.2⟩
  · have he4 : y4.x.e ≠ 0 := fun h => hb0 (HZ.out.2.2.1 h)
    have hne : (y4.x.e != 0) = true := by simp [he4]
    have HE := Lib.hid (And.intro hb0 he4)
    clear hb0 he4
    go_wp2_with (first
      | (go_at_call 68
         (with_reducible refine (pbegin_err q F3 y2 bg _ H3.out.2.2.1 (by have := HFT.out.2.1.len; omega) HE.out.1).mono ?_)
         rintro e w4 ⟨rfl, F4, g1, g2, g3⟩
         rw [HZ.out.2.2.2.1] at g1
         have n2 : ¬ F4 w.heap.size := fun g => (g3 _ g).elim H3.out.2.2.2.2.1 (fun g => by have := H3.out.1.lt; omega)
         have ft : ∀ k, rowT A r.d.texts k → ¬ F4 k := fun k hk g => (g3 _ g).elim (H3.out.2.2.2.2.2 k hk) (fun g => by have := H3.out.2.1.d.txt.ltT hk; omega)
         have H4 := Lib.hid (And.intro (H3.out.1.fr g2 H3.out.2.2.2.2.1) (And.intro (H3.out.2.1.frT g2 H3.out.2.2.2.2.2) (And.intro g1 (And.intro (chain2 H3.out.2.2.2.1.1 H3.out.2.2.2.1.2 g2 g3) ft))))
         clear g1 g2 g3 n2 ft c0 c1 c2 c3 c4 c5 c6 c7 c8 c9 c10 c11 c12 c13 c14 c15
         obtain ⟨c0, c1, c2, c3, c4, c5, c6, c7, c8, c9, c10, c11, c12, c13, c14, c15⟩ := rcells H4.out.1)
      | (refine wpList_load_part rfl 53 _ rfl w.heap.size 4 (by rfl) 55 _ 12 _ H4.out.1 Tryz.underlying53 rfl (by kernel_rfl) (by simp [Rcd.cells]) #[.bool r.d.six, .int .u64 r.d.hi, .int .u64 r.d.lo, .string r.d.name, .string r.d.mail, .int .u32 r.d.n0, .int .u32 r.d.n1, .int .u32 r.d.n2, .int .u32 r.d.n3, .int .u32 r.d.n4, .slice A r.d.texts.length cap, .string r.d.raw] (by rfl) ?_)
      | (go_at_call 69
         (with_reducible refine (dput_any q F4 y3 bg r.t r.d A cap _ H4.out.2.2.1 HFT.out.2.2.1 H4.out.2.1.d H4.out.2.2.2.2 HT.out.1).mono ?_)
         rintro e w5 ⟨rfl, F5, g1, g2, g3⟩
         rw [HZ.out.2.2.2.2.2.2] at g1 ⊢
         skip
         have H5 := Lib.hid (And.intro g1 (chain2 H4.out.2.2.2.1.1 H4.out.2.2.2.1.2 g2 g3))
         clear g1 g2 g3))
    go_ret
    have hz := HZ.out.1
    rw [if_pos HE.out.2] at hz
    exact ⟨ret_int (by rw [hz]), F5, bg, by rw [hz]; exact H5.out.1, fun _ => rfl, H5.out.2⟩
end Go.Proofs.YtmbgejiahmhffaaGreat

/-
  RECORDS, QUESTIONS THAT CAME IN, OPENED.
-/
namespace Go.Proofs.YtmbgejiahmhffaaGreat
set_option linter.unusedVariables false
set_option linter.unusedSimpArgs false
set_option linter.constructorNameAsVariable false
open Go.ChangeShapes Go.WideShapes Go.ChangeAt Go.RowKit Go.Deep

def i64k (n : Int) : Prop := -9223372036854775808 ≤ n ∧ n ≤ 9223372036854775807
def QOk (q : Qn) : Prop := q.1.size ≤ 1048576 ∧ i64k q.2.1 ∧ i64k q.2.2
theorem three_c {α : Type} : ∀ l : List α, l.length = 3 → ∃ e0 e1 e2, l = [e0, e1, e2]
  | [e0, e1, e2], _ => ⟨e0, e1, e2, rfl⟩
theorem sixteen_c {α : Type} : ∀ l : List α, l.length = 16 → ∃ e0 e1 e2 e3 e4 e5 e6 e7 e8 e9 e10 e11 e12 e13 e14 e15, l = [e0, e1, e2, e3, e4, e5, e6, e7, e8, e9, e10, e11, e12, e13, e14, e15]
  | [e0, e1, e2, e3, e4, e5, e6, e7, e8, e9, e10, e11, e12, e13, e14, e15], _ => ⟨e0, e1, e2, e3, e4, e5, e6, e7, e8, e9, e10, e11, e12, e13, e14, e15, rfl⟩
section
variable {W : World} {H : Type} {enc : TypeId × Value → H} {fuel : Nat} {cs : List Value} {x : DataW H × List MemPlace}
set_option maxRecDepth 100000 in
theorem open_question_c (hf : DataW.trod enc Tryz.prog W 0 (fun _ => true) true fuel 40 cs = some x) :
    ∃ q : Qn, cs = [.string q.1, .int .i64 q.2.1, .int .i64 q.2.2] ∧ q.1.size < Rows.uptoBulk x.1 ∧ i64k q.2.1 ∧ i64k q.2.2 := by
  obtain ⟨ys, n, _, hxx, hl, hyl, hff⟩ := DataW.trod_struct Tryz.underlying40 hf
  have hc : Tryz.prog.cellsOf 40 = 3 := by kernel_rfl
  have cN : Tryz.prog.cellsOf 36 = 1 := by kernel_rfl
  have cI : Tryz.prog.cellsOf 3 = 1 := by kernel_rfl
  rw [hc] at hl
  change ys.length = 3 at hyl
  obtain ⟨e0, e1, e2, hcs⟩ := three_c _ hl
  rw [hcs] at hff
  have t0 : DataW.trod enc Tryz.prog W 0 (fun _ => true) true n 36 (([e0, e1, e2].drop 0).take (Tryz.prog.cellsOf 36)) = ys[0]? := hff 0 _ rfl
  rw [cN, List.getElem?_eq_getElem (by omega : 0 < ys.length)] at t0
  obtain ⟨s, q0, r0⟩ := open_str_c Tryz.underlying36 t0
  have t1 : DataW.trod enc Tryz.prog W 0 (fun _ => true) true n 3 (([e0, e1, e2].drop 1).take (Tryz.prog.cellsOf 3)) = ys[1]? := hff 1 _ rfl
  rw [cI, List.getElem?_eq_getElem (by omega : 1 < ys.length)] at t1
  obtain ⟨n1, q1, _, w1⟩ := DataW.trod_int Tryz.underlying3 t1
  have t2 : DataW.trod enc Tryz.prog W 0 (fun _ => true) true n 3 (([e0, e1, e2].drop 2).take (Tryz.prog.cellsOf 3)) = ys[2]? := hff 2 _ rfl
  rw [cI, List.getElem?_eq_getElem (by omega : 2 < ys.length)] at t2
  obtain ⟨n2, q2, _, w2⟩ := DataW.trod_int Tryz.underlying3 t2
  simp only [List.drop_succ_cons, List.drop_zero, List.take_succ_cons, List.take_zero, List.cons.injEq, and_true] at q0 q1 q2
  try simp at q0
  try simp at q1
  try simp at q2
  subst q0 q1 q2
  refine ⟨(s, n1, n2), hcs, ?_, bounds_i64 w1, bounds_i64 w2⟩
  subst hxx
  obtain ⟨a0, a1, a2, rfl⟩ := three_c _ hyl
  simp only [List.getElem_cons_zero] at r0
  simp only [List.map_cons, List.map_nil, Rows.uptoBulk, Rows.uptoBulkAll]
  omega
set_option maxRecDepth 100000 in
theorem open_record_c (hf : DataW.trod enc Tryz.prog W 0 (fun _ => true) true fuel 55 cs = some x) :
    ∃ (r : Rcd) (A : Option Addr) (cap : Nat), cs = (r.cells (.slice A r.d.texts.length cap)).toList ∧ r.ok ∧ i64k r.t ∧ i64k r.cl ∧ Strs W A r.d.texts ∧ r.name.size + r.d.light < Rows.uptoBulk x.1 := by
  obtain ⟨ys, n, _, hxx, hl, hyl, hff⟩ := DataW.trod_struct Tryz.underlying55 hf
  have hc : Tryz.prog.cellsOf 55 = 16 := by kernel_rfl
  have cN : Tryz.prog.cellsOf 36 = 1 := by kernel_rfl
  have cI : Tryz.prog.cellsOf 3 = 1 := by kernel_rfl
  have cU : Tryz.prog.cellsOf 46 = 1 := by kernel_rfl
  have cD : Tryz.prog.cellsOf 53 = 12 := by kernel_rfl
  rw [hc] at hl
  change ys.length = 5 at hyl
  obtain ⟨e0, e1, e2, e3, e4, e5, e6, e7, e8, e9, e10, e11, e12, e13, e14, e15, hcs⟩ := sixteen_c _ hl
  rw [hcs] at hff
  have t0 : DataW.trod enc Tryz.prog W 0 (fun _ => true) true n 36 (([e0, e1, e2, e3, e4, e5, e6, e7, e8, e9, e10, e11, e12, e13, e14, e15].drop 0).take (Tryz.prog.cellsOf 36)) = ys[0]? := hff 0 _ rfl
  rw [cN, List.getElem?_eq_getElem (by omega : 0 < ys.length)] at t0
  obtain ⟨s, q0, r0⟩ := open_str_c Tryz.underlying36 t0
  have t1 : DataW.trod enc Tryz.prog W 0 (fun _ => true) true n 3 (([e0, e1, e2, e3, e4, e5, e6, e7, e8, e9, e10, e11, e12, e13, e14, e15].drop 1).take (Tryz.prog.cellsOf 3)) = ys[1]? := hff 1 _ rfl
  rw [cI, List.getElem?_eq_getElem (by omega : 1 < ys.length)] at t1
  obtain ⟨n1, q1, _, w1⟩ := DataW.trod_int Tryz.underlying3 t1
  have t2 : DataW.trod enc Tryz.prog W 0 (fun _ => true) true n 3 (([e0, e1, e2, e3, e4, e5, e6, e7, e8, e9, e10, e11, e12, e13, e14, e15].drop 2).take (Tryz.prog.cellsOf 3)) = ys[2]? := hff 2 _ rfl
  rw [cI, List.getElem?_eq_getElem (by omega : 2 < ys.length)] at t2
  obtain ⟨n2, q2, _, w2⟩ := DataW.trod_int Tryz.underlying3 t2
  have t3 : DataW.trod enc Tryz.prog W 0 (fun _ => true) true n 46 (([e0, e1, e2, e3, e4, e5, e6, e7, e8, e9, e10, e11, e12, e13, e14, e15].drop 3).take (Tryz.prog.cellsOf 46)) = ys[3]? := hff 3 _ rfl
  rw [cU, List.getElem?_eq_getElem (by omega : 3 < ys.length)] at t3
  obtain ⟨n3, q3, _, w3⟩ := DataW.trod_int Tryz.underlying46 t3
  have b3 := bounds_u32 w3
  have t4 : DataW.trod enc Tryz.prog W 0 (fun _ => true) true n 53 (([e0, e1, e2, e3, e4, e5, e6, e7, e8, e9, e10, e11, e12, e13, e14, e15].drop 4).take (Tryz.prog.cellsOf 53)) = ys[4]? := hff 4 _ rfl
  rw [cD, List.getElem?_eq_getElem (by omega : 4 < ys.length)] at t4
  obtain ⟨d, A, cap, q4, o4, s4, l4⟩ := open_data_c t4
  unfold Dt.cells at q4
  simp only [List.drop_succ_cons, List.drop_zero, List.take_succ_cons, List.take_zero, List.cons.injEq, and_true] at q0 q1 q2 q3 q4
  try simp at q0
  try simp at q1
  try simp at q2
  try simp at q3
  obtain ⟨rfl, rfl, rfl, rfl, rfl, rfl, rfl, rfl, rfl, rfl, rfl, rfl⟩ := q4
  subst q0 q1 q2 q3
  obtain ⟨n3, rfl⟩ : ∃ k : Nat, n3 = k := ⟨n3.toNat, by omega⟩
  refine ⟨⟨s, n1, n2, n3, d⟩, A, cap, hcs, ⟨by show n3 < _; omega, o4⟩, bounds_i64 w1, bounds_i64 w2, s4, ?_⟩
  subst hxx
  obtain ⟨a0, a1, a2, a3, a4, rfl⟩ : ∃ a0 a1 a2 a3 a4, ys = [a0, a1, a2, a3, a4] := by
    match ys, hyl with
    | [a0, a1, a2, a3, a4], _ => exact ⟨a0, a1, a2, a3, a4, rfl⟩
  simp only [List.getElem_cons_succ, List.getElem_cons_zero] at r0 l4
  simp only [List.map_cons, List.map_nil, Rows.uptoBulk, Rows.uptoBulkAll]
  show s.size + d.light < _
  omega
end
theorem rec_in {W : World} {A : Option Addr} {r : Rcd} (h1 : r.ok) (h2 : i64k r.t) (h3 : i64k r.cl) (h4 : Strs W A r.d.texts) (h5 : r.d.light ≤ 1048576) : RcIn W A r := ⟨light_in h1.2 h4 h5, h2, h3, h1.1⟩
end Go.Proofs.YtmbgejiahmhffaaGreat

/-
  LAYER 10: Size; the chapter's example; is a record light.
-/
namespace Go.Proofs.YtmbgejiahmhffaaGreat
set_option linter.unusedVariables false
set_option linter.unusedSimpArgs false
open Go.RowKit

/-! ### The chapter's example -/
/-- Is a record gone through? -/
def rlight (r : Rcd) : Bool := decide (r.name.size ≤ 400) && decide (r.d.light ≤ 2000)
end Go.Proofs.YtmbgejiahmhffaaGreat
