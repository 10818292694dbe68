/-
  TEXTS OF THIS CLAIM, TOGETHER: Msp, Rch, Rpt, Rsm, Openr, Lv10.
-/
import Derived.Test.YtmbgejiahmhffaaGreatUunC
import Derived.Test.YtmbgejiahmhffaaGreatUunH
import Derived.Test.YtmbgejiahmhffaaGreatUunG
import Derived.Deep.RegionHeld3
/-
  LAYERS 10, 11, PLAIN: questions and records one behind the other. No program.
-/
namespace Go.Proofs.YtmbgejiahmhffaaGreat
open Go.RowKit
variable {K : Nat}

theorem UGK.exact {y : Pk} {B : Nat} (h : UGK K y B) : UGK K y y.x.b.length := ⟨h.e, h.most, h.good, Nat.le_refl _⟩
def Rcd.size (r : Rcd) : Nat := r.name.size + 11 + r.d.size (whatN r.t)
def rsum : List Rcd → Nat
  | [] => 0
  | r :: l => r.size + rsum l
def rputsB (y : Pk) : List Rcd → Pk
  | [] => y
  | r :: l => rputsB (rputB y r) l
/-- Records are read one behind the other. -/
def RReads (S : List UInt8) : Nat → List Rcd → Nat → Prop
  | a, [], e => a = e
  | a, r :: l, e => ∃ m : Nat, rreadN S (a : Nat) = (r, ((m : Nat) : Int), 0) ∧ RReads S m l e
theorem rput_tail {y : Pk} {B : Nat} (h : UGK K y B) {r : Rcd} (hr : r.ok) (hc : r.check = 0) (hB : B + 1000 + r.d.size (whatN r.t) ≤ K) : ∃ T, (rputB y r).x.b = y.x.b ++ T := by
  obtain ⟨hq, _⟩ := Rcd.check_ok hc
  obtain ⟨hn, _⟩ := qcheck_ok hq
  obtain ⟨_, _, ⟨T, t1, t2, t3⟩, _, _, hb2, _⟩ := rput_facts h hr hc hB
  obtain ⟨_, ⟨X, x1⟩, _, _⟩ := nameB_reads h false r.name hn (by omega)
  exact ⟨_, by rw [t2, hb2, x1, List.append_assoc, List.append_assoc]⟩
theorem rputs_reads : ∀ (l : List Rcd) (y : Pk), UGK K y y.x.b.length → (∀ r ∈ l, r.ok ∧ r.check = 0) → y.x.b.length + rsum l + 2000 ≤ K →
    UGK K (rputsB y l) (rputsB y l).x.b.length ∧ (∃ T, (rputsB y l).x.b = y.x.b ++ T) ∧ (rputsB y l).x.b.length ≤ y.x.b.length + rsum l ∧ ∀ Z, RReads ((rputsB y l).x.b ++ Z) y.x.b.length l (rputsB y l).x.b.length
  | [], y, h, _, _ => ⟨h, ⟨[], by simp [rputsB]⟩, Nat.le_refl _, fun _ => rfl⟩
  | r :: l, y, h, hl, hB => by
    obtain ⟨hr, hc⟩ := hl r (by simp)
    have hs : rsum (r :: l) = r.name.size + 11 + r.d.size (whatN r.t) + rsum l := rfl
    rw [hs] at hB ⊢
    have hB1 : y.x.b.length + 1000 + r.d.size (whatN r.t) ≤ K := by omega
    obtain ⟨_, u1, _, _, _, _, hle, _⟩ := rput_facts h hr hc hB1
    obtain ⟨T, hT⟩ := rput_tail h hr hc hB1
    obtain ⟨v1, ⟨U, v2⟩, v3, v4⟩ := rputs_reads l (rputB y r) u1.exact (fun x hx => hl x (by simp [hx])) (by omega)
    refine ⟨v1, ⟨T ++ U, by show (rputsB (rputB y r) l).x.b = _; rw [v2, hT, List.append_assoc]⟩, by show (rputsB (rputB y r) l).x.b.length ≤ _; omega, fun Z => ?_⟩
    have hrd := rread_rput h hr hc hB1 (U ++ Z)
    rw [← List.append_assoc, ← v2] at hrd
    exact ⟨_, hrd, v4 Z⟩
/-- A question: name, type, class. -/
abbrev Qn := ByteArray × Int × Int
def qsum : List Qn → Nat
  | [] => 0
  | q :: l => q.1.size + 5 + qsum l
def qputsB (y : Pk) : List Qn → Pk
  | [] => y
  | q :: l => qputsB (headB y q.1 q.2.1 q.2.2) l
def QReads (S : List UInt8) : Nat → List Qn → Nat → Prop
  | a, [], e => a = e
  | a, q :: l, e => ∃ m : Nat, qreadN S (a : Nat) = (q, ((m : Nat) : Int), 0) ∧ QReads S m l e
theorem qputs_reads : ∀ (l : List Qn) (y : Pk), UGK K y y.x.b.length → (∀ q ∈ l, qcheck q.1 q.2.1 q.2.2 = 0) → y.x.b.length + qsum l + 2000 ≤ K →
    UGK K (qputsB y l) (qputsB y l).x.b.length ∧ (∃ T, (qputsB y l).x.b = y.x.b ++ T) ∧ (qputsB y l).x.b.length ≤ y.x.b.length + qsum l ∧ ∀ Z, QReads ((qputsB y l).x.b ++ Z) y.x.b.length l (qputsB y l).x.b.length
  | [], y, h, _, _ => ⟨h, ⟨[], by simp [qputsB]⟩, Nat.le_refl _, fun _ => rfl⟩
  | (n, t, cl) :: l, y, h, hl, hB => by
    have hc : qcheck n t cl = 0 := hl (n, t, cl) (by simp)
    obtain ⟨hn, _⟩ := qcheck_ok hc
    have hs : qsum ((n, t, cl) :: l) = n.size + 5 + qsum l := rfl
    rw [hs] at hB ⊢
    have hB1 : y.x.b.length + 300 ≤ K := by omega
    obtain ⟨u1, hb, hle⟩ := headB_good h t cl hn hB1
    obtain ⟨_, ⟨X, x1⟩, _, _⟩ := nameB_reads h false n hn (by omega)
    have hT : (headB y n t cl).x.b = y.x.b ++ (X ++ (octs t.toNat 2 ++ octs cl.toNat 2)) := by rw [hb, x1, List.append_assoc]
    have hl2 : (headB y n t cl).x.b.length = (y.nameB false n).x.b.length + 4 := by rw [hb]; simp [octs_length]
    obtain ⟨v1, ⟨U, v2⟩, v3, v4⟩ := qputs_reads l (headB y n t cl) u1.exact (fun x hx => hl x (by simp [hx])) (by omega)
    refine ⟨v1, ⟨(X ++ (octs t.toNat 2 ++ octs cl.toNat 2)) ++ U, by show (qputsB (headB y n t cl) l).x.b = _; rw [v2, hT, List.append_assoc]⟩, by show (qputsB (headB y n t cl) l).x.b.length ≤ _; omega, fun Z => ?_⟩
    have hrd := qread_qput h hc hB1 (U ++ Z)
    rw [← List.append_assoc, ← v2] at hrd
    exact ⟨_, hrd, v4 Z⟩
end Go.Proofs.YtmbgejiahmhffaaGreat

/-
  LAYER 10: a record, a question: whether it may be; put.
-/
namespace Go.Proofs.YtmbgejiahmhffaaGreat
set_option linter.unusedVariables false
set_option linter.unusedSimpArgs false
open Go.RowKit

/-- A record in memory, cell by cell; t: the texts' slice. -/
def Rcd.cells (r : Rcd) (t : Value) : Array Value := #[.string r.name, .int .i64 r.t, .int .i64 r.cl, .int .u32 r.ttl, .bool r.d.six, .int .u64 r.d.hi, .int .u64 r.d.lo, .string r.d.name, .string r.d.mail, .int .u32 r.d.n0, .int .u32 r.d.n1, .int .u32 r.d.n2, .int .u32 r.d.n3, .int .u32 r.d.n4, t, .string r.d.raw]
def Rcd.val (r : Rcd) (t : Value) : Value := .agg (r.cells t)
/-- A record as it lies, with what is asked of it. -/
structure RcIn (w : World) (A : Option Addr) (r : Rcd) : Prop where
  d : DtIn w A r.d
  t : -9223372036854775808 ≤ r.t ∧ r.t ≤ 9223372036854775807
  cl : -9223372036854775808 ≤ r.cl ∧ r.cl ≤ 9223372036854775807
  ttl : r.ttl < 4294967296
theorem RcIn.fr0 {w w' : World} {A : Option Addr} {r : Rcd} (h : RcIn w A r) (hf : Fr (fun _ => False) w w') : RcIn w' A r := ⟨h.d.fr0 hf, h.t, h.cl, h.ttl⟩
theorem RcIn.frT {w w' : World} {A : Option Addr} {r : Rcd} {S : Nat → Prop} (h : RcIn w A r) (hf : Fr S w w') (hs : ∀ k, rowT A r.d.texts k → ¬ S k) : RcIn w' A r := ⟨h.d.frT hf hs, h.t, h.cl, h.ttl⟩
theorem RcIn.ok {w : World} {A : Option Addr} {r : Rcd} (h : RcIn w A r) : r.ok := ⟨h.ttl, h.d.ok⟩
def rcheckB (r : Rcd) : Int := if qcheck r.name r.t r.cl ≠ 0 then qcheck r.name r.t r.cl else dcheckB r.t r.d
theorem rcheckB_eq (r : Rcd) : rcheckB r = r.check := by unfold rcheckB Rcd.check; rw [dcheckB_eq]
theorem rcells {w : World} {q : Nat} {r : Rcd} {A : Option Addr} {cap : Nat} (h : Blk w q 55 (r.cells (.slice A r.d.texts.length cap))) : w.cell? ⟨q, 0, none⟩ = some (.string r.name) ∧ w.cell? ⟨q, 1, none⟩ = some (.int .i64 r.t) ∧ w.cell? ⟨q, 2, none⟩ = some (.int .i64 r.cl) ∧ w.cell? ⟨q, 3, none⟩ = some (.int .u32 r.ttl) ∧ w.cell? ⟨q, 4, none⟩ = some (.bool r.d.six) ∧ w.cell? ⟨q, 5, none⟩ = some (.int .u64 r.d.hi) ∧ w.cell? ⟨q, 6, none⟩ = some (.int .u64 r.d.lo) ∧ w.cell? ⟨q, 7, none⟩ = some (.string r.d.name) ∧ w.cell? ⟨q, 8, none⟩ = some (.string r.d.mail) ∧ w.cell? ⟨q, 9, none⟩ = some (.int .u32 r.d.n0) ∧ w.cell? ⟨q, 10, none⟩ = some (.int .u32 r.d.n1) ∧ w.cell? ⟨q, 11, none⟩ = some (.int .u32 r.d.n2) ∧ w.cell? ⟨q, 12, none⟩ = some (.int .u32 r.d.n3) ∧ w.cell? ⟨q, 13, none⟩ = some (.int .u32 r.d.n4) ∧ w.cell? ⟨q, 14, none⟩ = some (.slice A r.d.texts.length cap) ∧ w.cell? ⟨q, 15, none⟩ = some (.string r.d.raw) :=
  ⟨h.cell 0, h.cell 1, h.cell 2, h.cell 3, h.cell 4, h.cell 5, h.cell 6, h.cell 7, h.cell 8, h.cell 9, h.cell 10, h.cell 11, h.cell 12, h.cell 13, h.cell 14, h.cell 15⟩
set_option maxRecDepth 100000 in
set_option maxHeartbeats 2000000 in
theorem may_10 (n : ByteArray) (t cl : Int) (w : World) :
    Calls Tryz.prog 59 #[.string n, .int .i64 t, .int .i64 cl] w (IntPost w (qcheck n t cl)) := by
  obtain ⟨k, hk⟩ : ∃ k, k = ckN n := ⟨_, rfl⟩
  obtain ⟨R, hR⟩ : ∃ R, R = qcheck n t cl := ⟨_, rfl⟩
  rw [← hR]
  have HR := Lib.hid (And.intro hk hR)
  clear hR
  by_cases h0 : k = 0
  · have hc : R = if 0 ≤ t ∧ t ≤ 65535 ∧ 0 ≤ cl ∧ cl ≤ 65535 then 0 else 2 := by
      rw [HR.out.2]
      unfold qcheck
      rw [if_neg (by simp [← hk, h0])]
    have HC := Lib.hid hc
    have HK := Lib.hid (hk.symm.trans h0)
    clear hc h0 hk
    go_enter Tryz.func59, Tryz.ntmps59
    go_wp2_with fail
    refine (ncheck_any n _).mono ?_
    rintro e w1 ⟨rfl, m, rfl⟩
    rw [HK.out]
    go_wp2_with fail
    all_goals
      go_ret
      refine ⟨ret_int ?_, (Fr.refl _ _).drewN _⟩
      rw [HC.out]
      split <;> first | rfl | (exfalso; omega) | (exfalso; split at * <;> omega) | (exfalso; simp only [decide_eq_true_eq, decide_eq_false_iff_not] at *; split at * <;> omega)
  · have hne : (k != 0) = true := by simp [h0]
    have hr : R = k := by
      rw [HR.out.2]
      unfold qcheck
      rw [if_pos (by rw [← hk]; exact h0), hk]
    have HRK := Lib.hid hr
    have HK := Lib.hid hk
    clear hk h0 hr
    go_enter Tryz.func59, Tryz.ntmps59
    go_wp2_with fail
    refine (ncheck_any n _).mono ?_
    rintro e w1 ⟨rfl, m, rfl⟩
    rw [← HK.out]
    go_wp2_with fail
    go_ret
    exact ⟨ret_int HRK.out.symm, (Fr.refl _ _).drewN _⟩
set_option maxRecDepth 100000 in
set_option maxHeartbeats 2000000 in
theorem qcheck_any (n : ByteArray) (t cl : Int) (w : World) :
    Calls Tryz.prog 29 #[.agg #[.string n, .int .i64 t, .int .i64 cl]] w (IntPost w (qcheck n t cl)) := by
  have hf : Fr (fun _ => False) w (w.alloc (.cells #[.string n, .int .i64 t, .int .i64 cl] 40)) := (Fr.refl _ _).alloc _
  have H := Lib.hid hf
  clear hf
  obtain ⟨R, hR⟩ : ∃ R, R = qcheck n t cl := ⟨_, rfl⟩
  rw [← hR]
  have HR := Lib.hid hR
  clear hR
  go_enter Tryz.func29, Tryz.ntmps29
  go_wp2_with fail
  refine (may_10 n t cl _).mono ?_
  rintro e w1 ⟨rfl, f1⟩
  rw [← HR.out]
  have HF := Lib.hid (H.out.then f1)
  clear f1
  go_wp2_with fail
  go_ret
  exact ⟨rfl, HF.out⟩
set_option maxRecDepth 100000 in
set_option maxHeartbeats 4000000 in
theorem reccheck_any (r : Rcd) (A : Option Addr) (cap : Nat) (w : World) (h : RcIn w A r) :
    Calls Tryz.prog 31 #[.agg #[.string r.name, .int .i64 r.t, .int .i64 r.cl, .int .u32 r.ttl, .bool r.d.six, .int .u64 r.d.hi, .int .u64 r.d.lo, .string r.d.name, .string r.d.mail, .int .u32 r.d.n0, .int .u32 r.d.n1, .int .u32 r.d.n2, .int .u32 r.d.n3, .int .u32 r.d.n4, .slice A r.d.texts.length cap, .string r.d.raw]] w (IntPost w (rcheckB r)) := by
  have hb := Blk.new w 55 (r.cells (.slice A r.d.texts.length cap))
  have hf : Fr (fun _ => False) w (w.alloc (.cells (r.cells (.slice A r.d.texts.length cap)) 55)) := (Fr.refl _ _).alloc _
  obtain ⟨W, hW⟩ : ∃ W, W = w.alloc (.cells (r.cells (.slice A r.d.texts.length cap)) 55) := ⟨_, rfl⟩
  rw [← hW] at hb hf
  have H := Lib.hid (And.intro hb (And.intro hf (And.intro (h.d.fr0 hf) h.t)))
  unfold Rcd.cells at hW
  have HW := Lib.hid hW
  obtain ⟨c0, c1, c2, c3, c4, c5, c6, c7, c8, c9, c10, c11, c12, c13, c14, c15⟩ := rcells hb
  clear hb hf hW h
  obtain ⟨R, hR⟩ : ∃ R, R = rcheckB r := ⟨_, rfl⟩
  rw [← hR]
  have HR := Lib.hid hR
  clear hR
  by_cases h0 : qcheck r.name r.t r.cl = 0
  · have hr : R = dcheckB r.t r.d := by rw [HR.out]; unfold rcheckB; rw [if_neg (by simp [h0])]
    have HZ := Lib.hid (And.intro h0 hr)
    clear h0 hr
    go_enter Tryz.func31, Tryz.ntmps31
    go_upto_region 1 with fail
    rw [← HW.out]
    clear HW
    go_wp2_with (first
      | (go_at_call 59
         (with_reducible refine (may_10 r.name r.t r.cl _).mono ?_)
         rintro e w1 ⟨rfl, f1⟩
         rw [HZ.out.1]
         have H1 := Lib.hid (And.intro (H.out.1.fr f1 id) (And.intro (H.out.2.1.then f1) (H.out.2.2.1.fr0 f1)))
         clear f1 c0 c1 c2 c3 c4 c5 c6 c7 c8 c9 c10 c11 c12 c13 c14 c15
         obtain ⟨c0, c1, c2, c3, c4, c5, c6, c7, c8, c9, c10, c11, c12, c13, c14, c15⟩ := rcells H1.out.1)
      | (refine wpList_load_part rfl 53 _ rfl w.heap.size 4 (by rfl) 55 _ 12 _ H1.out.1 Tryz.underlying53 rfl (by kernel_rfl) (by simp [Rcd.cells]) #[.bool r.d.six, .int .u64 r.d.hi, .int .u64 r.d.lo, .string r.d.name, .string r.d.mail, .int .u32 r.d.n0, .int .u32 r.d.n1, .int .u32 r.d.n2, .int .u32 r.d.n3, .int .u32 r.d.n4, .slice A r.d.texts.length cap, .string r.d.raw] (by rfl) ?_)
      | (go_at_call 60
         (with_reducible refine (dCheck_any r.t r.d A cap _ H1.out.2.2 H.out.2.2.2).mono ?_)
         rintro e w2 ⟨rfl, f2⟩
         rw [← HZ.out.2]
         have H2 := Lib.hid (H1.out.2.1.then f2)
         clear f2))
    go_ret
    exact ⟨rfl, H2.out⟩
  · have hne : (qcheck r.name r.t r.cl != 0) = true := by simp [h0]
    have hr : R = qcheck r.name r.t r.cl := by rw [HR.out]; unfold rcheckB; rw [if_pos h0]
    have HZ := Lib.hid hr
    clear h0 hr
    go_enter Tryz.func31, Tryz.ntmps31
    go_upto_region 1 with fail
    rw [← HW.out]
    clear HW
    go_wp2_with (first
      | (go_at_call 59
         (with_reducible refine (may_10 r.name r.t r.cl _).mono ?_)
         rintro e w1 ⟨rfl, f1⟩
         have H1 := Lib.hid (H.out.2.1.then f1)
         clear f1))
    go_ret
    exact ⟨ret_int HZ.out.symm, H1.out⟩
end Go.Proofs.YtmbgejiahmhffaaGreat

/-
  LAYER 10: Put, PutQuestion.
-/
namespace Go.Proofs.YtmbgejiahmhffaaGreat
set_option linter.unusedVariables false
set_option linter.unusedSimpArgs false
open Go.RowKit

def HeadPost (w : World) (q : Nat) (F : Nat → Prop) (bg : List Int) (y : Pk) (e : Ending) (w' : World) : Prop :=
  e = .returned (.tuple #[]) ∧ ∃ F', PPk w' q F' y bg ∧ Fr F w w' ∧ ∀ k, F' k → F k ∨ w.heap.size ≤ k
theorem headP_fit {y : Pk} (h : y.fit) (n : ByteArray) (t cl : Int) : (headP y n t cl).fit := ((h.nameB false n).num _ _).num _ _
theorem chain2 {F F1 F2 : Nat → Prop} {a b c : World} (h1 : Fr F a b) (g1 : ∀ k, F1 k → F k ∨ a.heap.size ≤ k) (h2 : Fr F1 b c) (g2 : ∀ k, F2 k → F1 k ∨ b.heap.size ≤ k) : Fr F a c ∧ ∀ k, F2 k → F k ∨ a.heap.size ≤ k :=
  ⟨h1.trans h2 fun i hi h => (g1 i h).resolve_right (by omega), fun k hk => (g2 k hk).elim (g1 k) fun h => .inr (Nat.le_trans h1.size h)⟩
set_option maxRecDepth 100000 in
set_option maxHeartbeats 4000000 in
theorem head_any (q : Nat) (F : Nat → Prop) (y : Pk) (bg : List Int) (n : ByteArray) (t cl : Int) (w : World) (h : PPk w q F y bg) (hfit : y.fit) (ht : 0 ≤ t ∧ t ≤ 65535) (hc : 0 ≤ cl ∧ cl ≤ 65535) :
    Calls Tryz.prog 66 #[.pointer (some ⟨q, 0, none⟩), .string n, .int .i64 t, .int .i64 cl] w (HeadPost w q F bg (headP y n t cl)) := by
  have H := Lib.hid h
  have l0 := hfit.len
  have l1 := (hfit.nameB false n).len
  have l2 := ((hfit.nameB false n).num t 2).len
  have HB := Lib.hid (And.intro l0 (And.intro l1 l2))
  have hw1 : IntKind.u32.wrap t = t := IntWalk.u32_in _ (by omega)
  have hw2 : IntKind.u32.wrap cl = cl := IntWalk.u32_in _ (by omega)
  clear h l0 l1 l2
  go_enter Tryz.func66, Tryz.ntmps66
  go_wp2_with (first
    | (go_at_call 95
       (with_reducible refine (pname_any q F y bg n _ H.out (by have := HB.out.1; omega)).mono ?_)
       rintro e w1 ⟨rfl, F1, g1, g2, g3⟩
       have H1 := Lib.hid (And.intro (show PPk w1 q F1 (y.nameB false n) bg from g1) (And.intro g2 g3))
       clear g1 g2 g3)
    | (go_at_call 67
       (with_reducible refine (pnumber_any q F1 (y.nameB false n) bg t 2 w1 H1.out.1 ht.1 (by omega) (by have := HB.out.2.1; omega)).mono ?_)
       rintro e w2 ⟨rfl, F2, g1, g2, g3⟩
       have hc := chain2 H1.out.2.1 H1.out.2.2 g2 g3
       have H2 := Lib.hid (And.intro (show PPk w2 q F2 ((y.nameB false n).numP t 2) bg from g1) hc)
       clear g1 g2 g3 hc)
    | (go_at_call 67
       (with_reducible refine (pnumber_any q F2 ((y.nameB false n).numP t 2) bg cl 2 w2 H2.out.1 hc.1 (by omega) (by have := HB.out.2.2; omega)).mono ?_)
       rintro e w3 ⟨rfl, F3, g1, g2, g3⟩
       have hc := chain2 H2.out.2.1 H2.out.2.2 g2 g3
       have H3 := Lib.hid (And.intro (show PPk w3 q F3 (headP y n t cl) bg from g1) hc)
       clear g1 g2 g3 hc))
  go_end0
  exact ⟨rfl, F3, H3.out⟩
/-- What PutQuestion leaves and tells. -/
def qputR (y : Pk) (n : ByteArray) (t cl : Int) : Pk × Int := if qcheck n t cl ≠ 0 then (y, qcheck n t cl) else (headP y n t cl, (headP y n t cl).x.e)
set_option maxRecDepth 100000 in
set_option maxHeartbeats 4000000 in
theorem qput_any (q : Nat) (F : Nat → Prop) (y : Pk) (bg : List Int) (n : ByteArray) (t cl : Int) (w : World) (h : PPk w q F y bg) (hfit : y.fit) :
    Calls Tryz.prog 35 #[.pointer (some ⟨q, 0, none⟩), .agg #[.string n, .int .i64 t, .int .i64 cl]] w (PPkPost w q F bg (qputR y n t cl)) := by
  have hb := Blk.new w 40 #[.string n, .int .i64 t, .int .i64 cl]
  have hf : Fr (fun _ => False) w (w.alloc (.cells #[.string n, .int .i64 t, .int .i64 cl] 40)) := (Fr.refl _ _).alloc _
  obtain ⟨W, hW⟩ : ∃ W, W = w.alloc (.cells #[.string n, .int .i64 t, .int .i64 cl] 40) := ⟨_, rfl⟩
  rw [← hW] at hb hf
  have c0 := hb.cell 0
  have c1 := hb.cell 1
  have c2 := hb.cell 2
  simp only [List.getElem?_toArray, List.getElem?_cons_zero, List.getElem?_cons_succ] at c0 c1 c2
  have H := Lib.hid (And.intro hb (And.intro hf (And.intro h hfit)))
  have HW := Lib.hid hW
  clear hb hf hW h hfit
  obtain ⟨R, hR⟩ : ∃ R, R = qputR y n t cl := ⟨_, rfl⟩
  rw [← hR]
  have HR := Lib.hid hR
  clear hR
  by_cases h0 : qcheck n t cl = 0
  · have hr : R = (headP y n t cl, (headP y n t cl).x.e) := by rw [HR.out]; unfold qputR; rw [if_neg (by simp [h0])]
    have HZ := Lib.hid (And.intro h0 (And.intro hr (qcheck_ok h0)))
    clear h0 hr
    go_enter Tryz.func35, Tryz.ntmps35
    go_upto_region 1 with fail
    rw [← HW.out]
    clear HW
    go_wp2_with (first
      | (go_at_call 29
         (with_reducible refine (qcheck_any n t cl _).mono ?_)
         rintro e w1 ⟨rfl, f1⟩
         rw [HZ.out.1]
         have H1 := Lib.hid (And.intro (H.out.1.fr f1 id) (And.intro (H.out.2.1.then f1) (H.out.2.2.1.fr (H.out.2.1.then f1) (fun _ _ => id))))
         clear f1 c0 c1 c2
         have c0 := H1.out.1.cell 0
         have c1 := H1.out.1.cell 1
         have c2 := H1.out.1.cell 2
         simp only [List.getElem?_toArray, List.getElem?_cons_zero, List.getElem?_cons_succ] at c0 c1 c2)
      | (go_at_call 66
         (with_reducible refine (head_any q F y bg n t cl _ H1.out.2.2 H.out.2.2.2 HZ.out.2.2.2.1 HZ.out.2.2.2.2).mono ?_)
         rintro e w2 ⟨rfl, F2, g1, g2, g3⟩
         have H2 := Lib.hid (And.intro g1 (chain2 (H1.out.2.1.mono (T := F) fun _ _ h => h.elim) (fun k hk => .inl hk) g2 g3))
         clear g1 g2 g3)
      | (go_at_call 37
         (with_reducible refine (perr_any q F2 _ bg _ H2.out.1).mono ?_)
         rintro e w' ⟨rfl, rfl⟩))
    go_ret
    exact ⟨ret_int (by rw [HZ.out.2.1]), F2, by rw [HZ.out.2.1]; exact H2.out.1, H2.out.2⟩
  · have hne : (qcheck n t cl != 0) = true := by simp [h0]
    have hr : R = (y, qcheck n t cl) := by rw [HR.out]; unfold qputR; rw [if_pos h0]
    have HZ := Lib.hid hr
    clear h0 hr
    go_enter Tryz.func35, Tryz.ntmps35
    go_upto_region 1 with fail
    rw [← HW.out]
    clear HW
    go_wp2_with (first
      | (go_at_call 29
         (with_reducible refine (qcheck_any n t cl _).mono ?_)
         rintro e w1 ⟨rfl, f1⟩
         have H1 := Lib.hid (H.out.2.1.then f1)
         clear f1))
    go_ret
    exact ⟨ret_int (by rw [HZ.out]), F, by rw [HZ.out]; exact H.out.2.2.1.fr H1.out (fun _ _ => id), H1.out.mono (fun _ _ h => h.elim), fun k hk => .inl hk⟩
/-- What Put leaves and tells. -/
def rputR (y : Pk) (r : Rcd) : Pk × Int :=
  if rcheckB r ≠ 0 then (y, rcheckB r)
  else if (rc0P y r).x.e ≠ 0 then (rc0P y r, (rc0P y r).x.e)
  else (⟨((rc0P y r).x.patch (((headP y r.name r.t r.cl).numP (r.ttl : Nat) 4).x.b.length : Nat) (((rc0P y r).x.b.length - ((headP y r.name r.t r.cl).numP (r.ttl : Nat) 4).x.b.length - 2 : Nat) : Int) 2).1, (rc0P y r).get⟩, ((rc0P y r).x.patch (((headP y r.name r.t r.cl).numP (r.ttl : Nat) 4).x.b.length : Nat) (((rc0P y r).x.b.length - ((headP y r.name r.t r.cl).numP (r.ttl : Nat) 4).x.b.length - 2 : Nat) : Int) 2).2)
def RputPost (w : World) (q : Nat) (F : Nat → Prop) (bg : List Int) (y : Pk) (r : Rcd) (e : Ending) (w' : World) : Prop :=
  e = .returned (.int .i64 (rputR y r).2) ∧ ∃ F' bg', PPk w' q F' (rputR y r).1 bg' ∧ ((rcheckB r ≠ 0 ∨ (rc0P y r).x.e = 0) → bg' = bg) ∧ Fr F w w' ∧ ∀ k, F' k → F k ∨ w.heap.size ≤ k
theorem numP_err {y : Pk} {v n : Int} (h : y.x.e ≠ 0) : y.numP v n = y := by
  unfold Pk.numP
  rw [Wst.number_err h]
theorem putP_err {y : Pk} {l : List UInt8} (h : y.x.e ≠ 0) : y.putP l = y := by
  unfold Pk.putP
  rw [Wst.put_err h]
theorem numsP_err {d : Dt} {wide : Nat} : ∀ (k j : Nat) {y : Pk}, y.x.e ≠ 0 → y.numsP d wide j k = y
  | 0, _, _, _ => rfl
  | k + 1, j, y, h => by
    show (y.numP _ _).numsP d wide (j + 1) k = y
    rw [numP_err h]
    exact numsP_err k (j + 1) h
theorem textsP_err : ∀ (l : List ByteArray) {y : Pk}, y.x.e ≠ 0 → y.textsP l = y
  | [], _, _ => rfl
  | x :: r, y, h => by
    show ((y.numP _ _).putP _).textsP r = y
    rw [numP_err h, putP_err h]
    exact textsP_err r h
theorem nameB_err {y : Pk} {p : Bool} {n : ByteArray} (h0 : y.x.e ≠ 0) : y.nameB p n = y := by
  cases p
  · show (y.name n).1 = y
    unfold Pk.name
    rw [if_pos h0]
  · show (y.plain n).1 = y
    unfold Pk.plain
    rw [if_pos h0]
/-- An error stays. -/
theorem dput_err {y : Pk} {w : Wh} {d : Dt} (h : y.x.e ≠ 0) : dputP y w d = y := by
  unfold dputP
  simp only [putP_err h, numsP_err _ _ h, nameB_err h, textsP_err _ h, ite_self]
theorem stay_dput {y : Pk} {w : Wh} {d : Dt} (h : (dputP y w d).x.e = 0) : y.x.e = 0 := by
  apply Classical.byContradiction
  intro h0
  rw [dput_err h0] at h
  exact h0 h
/-- What stands never shrinks. -/
theorem ge_put (y : Pk) (l : List UInt8) : y.x.b.length ≤ (y.putP l).x.b.length := put_ge _ _
theorem ge_num (y : Pk) (v n : Int) : y.x.b.length ≤ (y.numP v n).x.b.length := number_ge _ _ _
theorem ge_rest : ∀ (n : List UInt8) (y : Pk), y.x.b.length ≤ (y.rest n).1.x.b.length := by
  intro n
  generalize hk : n.length = k
  induction k using Nat.strongRecOn generalizing n with
  | _ k ih =>
    intro y
    by_cases hn : n = []
    · subst hn
      rw [Pk.rest_nil]
      exact put_ge _ _
    · have hp : 0 < n.length := List.length_pos_iff.2 hn
      cases hg : y.get n with
      | some a =>
        rw [Pk.rest_some hn hg]
        exact number_ge _ _ _
      | none =>
        by_cases h0 : (y.x.put (n.take (1 + oc n 0))).2 = 0
        · rw [Pk.rest_go hn hg h0]
          refine Nat.le_trans (put_ge y.x (n.take (1 + oc n 0))) ?_
          have := ih (n.drop (1 + oc n 0)).length (by rw [List.length_drop]; omega) (n.drop (1 + oc n 0)) rfl ⟨(y.x.put (n.take (1 + oc n 0))).1, updAt y.get n y.x.b.length⟩
          exact this
        · rw [Pk.rest_stop hn hg h0]
          exact put_ge _ _
theorem ge_nameB (y : Pk) (p : Bool) (n : ByteArray) : y.x.b.length ≤ (y.nameB p n).x.b.length := by
  cases p
  · show _ ≤ (y.name n).1.x.b.length
    unfold Pk.name
    split
    · exact Nat.le_refl _
    · split
      · exact Nat.le_refl _
      · exact ge_rest _ _
  · show _ ≤ (y.plain n).1.x.b.length
    unfold Pk.plain
    split
    · exact Nat.le_refl _
    · split
      · exact Nat.le_refl _
      · exact put_ge _ _
theorem ge_nums (d : Dt) (wide : Nat) : ∀ (k j : Nat) (y : Pk), y.x.b.length ≤ (y.numsP d wide j k).x.b.length
  | 0, _, _ => Nat.le_refl _
  | k + 1, j, y => Nat.le_trans (ge_num y _ _) (ge_nums d wide k (j + 1) _)
theorem ge_texts : ∀ (l : List ByteArray) (y : Pk), y.x.b.length ≤ (y.textsP l).x.b.length
  | [], _ => Nat.le_refl _
  | _ :: r, y => Nat.le_trans (ge_num y _ _) (Nat.le_trans (ge_put _ _) (ge_texts r _))
theorem ge_dput (y : Pk) (w : Wh) (d : Dt) : y.x.b.length ≤ (dputP y w d).x.b.length := by
  unfold dputP
  dsimp only
  refine Nat.le_trans ?_ (Nat.le_trans (ge_texts _ _) (ge_put _ _))
  have h4 : y.x.b.length ≤ (if 0 < w.addr then y.putP (addrL d w) else y).x.b.length := by
    split
    · exact ge_put _ _
    · exact Nat.le_refl _
  generalize (if 0 < w.addr then y.putP (addrL d w) else y) = y1 at *
  have h3 : y1.x.b.length ≤ (if w.first = true then y1.numsP d w.wide 0 w.nums else y1).x.b.length := by
    split
    · exact ge_nums _ _ _ _ _
    · exact Nat.le_refl _
  generalize (if w.first = true then y1.numsP d w.wide 0 w.nums else y1) = y2 at *
  have h2 : y2.x.b.length ≤ (if 1 ≤ w.names then y2.nameB w.plain d.name else y2).x.b.length := by
    split
    · exact ge_nameB _ _ _
    · exact Nat.le_refl _
  generalize (if 1 ≤ w.names then y2.nameB w.plain d.name else y2) = y3 at *
  have h1 : y3.x.b.length ≤ (if 2 ≤ w.names then y3.nameB w.plain d.mail else y3).x.b.length := by
    split
    · exact ge_nameB _ _ _
    · exact Nat.le_refl _
  generalize (if 2 ≤ w.names then y3.nameB w.plain d.mail else y3) = y4 at *
  have h0 : y4.x.b.length ≤ (if w.first = true then y4 else y4.numsP d w.wide 0 w.nums).x.b.length := by
    split
    · exact Nat.le_refl _
    · exact ge_nums _ _ _ _ _
  omega
theorem fit_dput {y : Pk} (h : y.fit) (w : Wh) (d : Dt) : (dputP y w d).fit := by
  unfold dputP
  dsimp only
  refine Pk.fit.put (Pk.fit.texts _ ?_) _
  have h4 : (if 0 < w.addr then y.putP (addrL d w) else y).fit := by
    split
    · exact h.put _
    · exact h
  generalize (if 0 < w.addr then y.putP (addrL d w) else y) = y1 at *
  have h3 : (if w.first = true then y1.numsP d w.wide 0 w.nums else y1).fit := by
    split
    · exact Pk.fit.nums _ _ _ _ h4
    · exact h4
  generalize (if w.first = true then y1.numsP d w.wide 0 w.nums else y1) = y2 at *
  have h2 : (if 1 ≤ w.names then y2.nameB w.plain d.name else y2).fit := by
    split
    · exact h3.nameB _ _
    · exact h3
  generalize (if 1 ≤ w.names then y2.nameB w.plain d.name else y2) = y3 at *
  have h1 : (if 2 ≤ w.names then y3.nameB w.plain d.mail else y3).fit := by
    split
    · exact h2.nameB _ _
    · exact h2
  generalize (if 2 ≤ w.names then y3.nameB w.plain d.mail else y3) = y4 at *
  split
  · exact h1
  · exact Pk.fit.nums _ _ _ _ h1
theorem number_e0 (x : Wst) : (x.number 0 2).2 = (x.number 0 2).1.e := by
  unfold Wst.number
  split
  · rfl
  · rename_i h
    rw [if_pos (by decide)]
    unfold Wst.put
    split
    · rfl
    · split
      · rfl
      · exact (Classical.not_not.1 h).symm
theorem number_len0 (x : Wst) (h : (x.number 0 2).2 = 0) : (x.number 0 2).1.b.length = x.b.length + 2 := by
  unfold Wst.number at h ⊢
  split at h
  · exact absurd h (by assumption)
  · rename_i h0
    rw [if_neg h0, if_pos (by decide)]
    rw [if_pos (by decide)] at h
    unfold Wst.put at h ⊢
    rw [if_neg h0] at h ⊢
    split at h
    · cases h
    · rename_i h1
      rw [if_neg h1]
      dsimp only
      rw [List.length_append, octs_length]
      rfl
set_option maxRecDepth 100000 in
set_option maxHeartbeats 8000000 in
theorem recput_any (q : Nat) (F : Nat → Prop) (y : Pk) (bg : List Int) (r : Rcd) (A : Option Addr) (cap : Nat) (w : World) (h : PPk w q F y bg) (hfit : y.fit) (hbg : bg.length ≤ 1000000) (hr : RcIn w A r) (hfar : ∀ k, rowT A r.d.texts k → ¬ F k) :
    Calls Tryz.prog 36 #[.pointer (some ⟨q, 0, none⟩), .agg #[.string r.name, .int .i64 r.t, .int .i64 r.cl, .int .u32 r.ttl, .bool r.d.six, .int .u64 r.d.hi, .int .u64 r.d.lo, .string r.d.name, .string r.d.mail, .int .u32 r.d.n0, .int .u32 r.d.n1, .int .u32 r.d.n2, .int .u32 r.d.n3, .int .u32 r.d.n4, .slice A r.d.texts.length cap, .string r.d.raw]] w (RputPost w q F bg y r) := by
  have hb := Blk.new w 55 (r.cells (.slice A r.d.texts.length cap))
  have hf : Fr (fun _ => False) w (w.alloc (.cells (r.cells (.slice A r.d.texts.length cap)) 55)) := (Fr.refl _ _).alloc _
  obtain ⟨W, hW⟩ : ∃ W, W = w.alloc (.cells (r.cells (.slice A r.d.texts.length cap)) 55) := ⟨_, rfl⟩
  rw [← hW] at hb hf
  have nF : ¬ F w.heap.size := fun g => by have := h.lt _ g; omega
  have H := Lib.hid (And.intro hb (And.intro hf (And.intro (hr.fr0 hf) (And.intro (h.fr hf (fun _ _ => id)) (And.intro hfit (And.intro hbg (And.intro hfar (And.intro nF h.lt))))))))
  have HT := Lib.hid (And.intro hr.t (And.intro hr.cl hr.ttl))
  unfold Rcd.cells at hW
  have HW := Lib.hid hW
  obtain ⟨c0, c1, c2, c3, c4, c5, c6, c7, c8, c9, c10, c11, c12, c13, c14, c15⟩ := rcells hb
  clear hb hf hW h hfit hbg hr hfar nF
  by_cases h0 : rcheckB r = 0
  rotate_left
  · have hne : (rcheckB r != 0) = true := by simp [h0]
    have hz : rputR y r = (y, rcheckB r) := by unfold rputR; rw [if_pos h0]
    have HZ := Lib.hid (And.intro h0 hz)
    clear h0 hz
    go_enter Tryz.func36, Tryz.ntmps36
    go_upto_region 1 with fail
    rw [← HW.out]
    clear HW
    go_wp2_with (first
      | (go_at_call 31
         (with_reducible refine (reccheck_any r A cap _ H.out.2.2.1).mono ?_)
         rintro e w1 ⟨rfl, f1⟩
         have H1 := Lib.hid f1
         clear f1))
    go_ret
    exact ⟨ret_int (by rw [HZ.out.2]), F, bg, by rw [HZ.out.2]; exact H.out.2.2.2.1.fr H1.out (fun _ _ => id), fun _ => rfl, (H.out.2.1.then H1.out).mono (fun _ _ h => h.elim), fun k hk => .inl hk⟩
  have hck : r.check = 0 := by rw [← rcheckB_eq]; exact h0
  obtain ⟨hq, hdc⟩ := Rcd.check_ok hck
  have hqo := qcheck_ok hq
  have hdb : dcheckB r.t r.d = 0 := by rw [dcheckB_eq]; exact hdc
  obtain ⟨y1, hy1⟩ : ∃ y1, y1 = headP y r.name r.t r.cl := ⟨_, rfl⟩
  obtain ⟨y2, hy2⟩ : ∃ y2, y2 = y1.numP (r.ttl : Nat) 4 := ⟨_, rfl⟩
  obtain ⟨y3, hy3⟩ : ∃ y3, y3 = y2.numP 0 2 := ⟨_, rfl⟩
  obtain ⟨y4, hy4⟩ : ∃ y4, y4 = dputP y3 (whatN r.t) r.d := ⟨_, rfl⟩
  have hrc : rc0P y r = y4 := by rw [hy4, hy3, hy2, hy1]; rfl
  have hfy1 : y1.fit := by rw [hy1]; exact headP_fit H.out.2.2.2.2.1 _ _ _
  have hfy2 : y2.fit := by rw [hy2]; exact hfy1.num _ _
  have hfy3 : y3.fit := by rw [hy3]; exact hfy2.num _ _
  have hfy4 : y4.fit := by rw [hy4]; exact fit_dput hfy3 _ _
  have hge := ge_dput y3 (whatN r.t) r.d
  rw [← hy4] at hge
  have hdr : dputR y3 r.t r.d = (y4, y4.x.e) := by unfold dputR; rw [if_neg (by simp [hdb]), hy4]
  have hz : rputR y r = if y4.x.e ≠ 0 then (y4, y4.x.e) else (⟨(y4.x.patch (y2.x.b.length : Nat) ((y4.x.b.length - y2.x.b.length - 2 : Nat) : Int) 2).1, y4.get⟩, (y4.x.patch (y2.x.b.length : Nat) ((y4.x.b.length - y2.x.b.length - 2 : Nat) : Int) 2).2) := by
    unfold rputR
    rw [if_neg (by simp [h0]), hrc, ← hy1, ← hy2]
  have hst : y4.x.e = 0 → (y2.x.number 0 2).2 = 0 := fun h => by
    rw [hy4] at h
    have h3 := stay_dput h
    rw [hy3] at h3
    rw [number_e0]
    exact h3
  have hy3' : (⟨(y2.x.number 0 2).1, y2.get⟩ : Pk) = y3 := hy3.symm
  have l3 : (y2.x.number 0 2).2 = 0 → y3.x.b.length = y2.x.b.length + 2 := fun h => by rw [hy3]; exact number_len0 _ h
  have HZ := Lib.hid (And.intro hz (And.intro hrc (And.intro hst (And.intro hy3' (And.intro l3 (And.intro hge hdr))))))
  have HY := Lib.hid (And.intro hy1 hy2)
  have HQ := Lib.hid (And.intro h0 hqo)
  have HFT := Lib.hid (And.intro hfy1 (And.intro hfy2 (And.intro hfy3 hfy4)))
  clear hck hq hdc hqo hdb hrc hfy1 hfy2 hfy3 hfy4 hge hdr hz hst hy3' l3 hy1 hy2 hy3 hy4 h0
  have hlt : r.ttl < 4294967296 := HT.out.2.2
  go_enter Tryz.func36, Tryz.ntmps36
  go_upto_region 1 with fail
  rw [← HW.out]
  clear HW
  go_upto_region 8 with (first
    | (go_at_call 31
       (with_reducible refine (reccheck_any r A cap _ H.out.2.2.1).mono ?_)
       rintro e w1 ⟨rfl, f1⟩
       rw [HQ.out.1]
       have H1 := Lib.hid (And.intro (H.out.1.fr f1 id) (And.intro (H.out.2.1.then f1) (And.intro (H.out.2.2.1.fr0 f1) (H.out.2.2.2.1.fr f1 (fun _ _ => id)))))
       clear f1 c0 c1 c2 c3 c4 c5 c6 c7 c8 c9 c10 c11 c12 c13 c14 c15
       obtain ⟨c0, c1, c2, c3, c4, c5, c6, c7, c8, c9, c10, c11, c12, c13, c14, c15⟩ := rcells H1.out.1)
    | (go_at_call 66
       (with_reducible refine (head_any q F y bg r.name r.t r.cl _ H1.out.2.2.2 H.out.2.2.2.2.1 HQ.out.2.2.1 HQ.out.2.2.2).mono ?_)
       rintro e w2 ⟨rfl, F2, g1, g2, g3⟩
       rw [← HY.out.1] at g1
       have n2 : ¬ F2 w.heap.size := fun g => (g3 _ g).elim H.out.2.2.2.2.2.2.2.1 (fun g => by have := H1.out.1.lt; omega)
       have ft : ∀ k, rowT A r.d.texts k → ¬ F2 k := fun k hk g => (g3 _ g).elim (H.out.2.2.2.2.2.2.1 k hk) (fun g => by have := H1.out.2.2.1.d.txt.ltT hk; omega)
       have H2 := Lib.hid (And.intro (H1.out.1.fr g2 H.out.2.2.2.2.2.2.2.1) (And.intro (H1.out.2.2.1.frT g2 H.out.2.2.2.2.2.2.1) (And.intro g1 (And.intro (chain2 (H1.out.2.1.mono (T := F) fun _ _ h => h.elim) (fun k hk => .inl hk) g2 g3) (And.intro n2 ft)))))
       clear g1 g2 g3 n2 ft c0 c1 c2 c3 c4 c5 c6 c7 c8 c9 c10 c11 c12 c13 c14 c15
       obtain ⟨c0, c1, c2, c3, c4, c5, c6, c7, c8, c9, c10, c11, c12, c13, c14, c15⟩ := rcells H2.out.1)
    | (go_at_call 67
       (with_reducible refine (pnumber_any q F2 y1 bg (r.ttl : Nat) 4 _ H2.out.2.2.1 (by omega) (by omega) (by have := HFT.out.1.len; omega)).mono ?_)
       rintro e w3 ⟨rfl, F3, g1, g2, g3⟩
       rw [show (⟨(y1.x.number (r.ttl : Nat) 4).1, y1.get⟩ : Pk) = y2 from HY.out.2.symm] at g1
       have n2 : ¬ F3 w.heap.size := fun g => (g3 _ g).elim H2.out.2.2.2.2.1 (fun g => by have := H2.out.1.lt; omega)
       have ft : ∀ k, rowT A r.d.texts k → ¬ F3 k := fun k hk g => (g3 _ g).elim (H2.out.2.2.2.2.2 k hk) (fun g => by have := H2.out.2.1.d.txt.ltT hk; omega)
       have H3 := Lib.hid (And.intro (H2.out.1.fr g2 H2.out.2.2.2.2.1) (And.intro (H2.out.2.1.frT g2 H2.out.2.2.2.2.2) (And.intro g1 (And.intro (chain2 H2.out.2.2.2.1.1 H2.out.2.2.2.1.2 g2 g3) (And.intro n2 ft)))))
       clear g1 g2 g3 n2 ft c0 c1 c2 c3 c4 c5 c6 c7 c8 c9 c10 c11 c12 c13 c14 c15
       obtain ⟨c0, c1, c2, c3, c4, c5, c6, c7, c8, c9, c10, c11, c12, c13, c14, c15⟩ := rcells H3.out.1))
  by_cases hb0 : (y2.x.number 0 2).2 = 0
  · by_cases he4 : y4.x.e = 0
    · have HE := Lib.hid (And.intro hb0 he4)
      clear hb0 he4
      go_wp2_with (first
        | (go_at_call 68
           (with_reducible refine (pbegin_ok q F3 y2 bg _ H3.out.2.2.1 (by have := HFT.out.2.1.len; omega) H.out.2.2.2.2.2.1 HE.out.1).mono ?_)
           rintro e w4 ⟨rfl, F4, g1, g2, g3⟩
           rw [HZ.out.2.2.2.1] at g1
           have n2 : ¬ F4 w.heap.size := fun g => (g3 _ g).elim H3.out.2.2.2.2.1 (fun g => by have := H3.out.1.lt; omega)
           have ft : ∀ k, rowT A r.d.texts k → ¬ F4 k := fun k hk g => (g3 _ g).elim (H3.out.2.2.2.2.2 k hk) (fun g => by have := H3.out.2.1.d.txt.ltT hk; omega)
           have H4 := Lib.hid (And.intro (H3.out.1.fr g2 H3.out.2.2.2.2.1) (And.intro (H3.out.2.1.frT g2 H3.out.2.2.2.2.2) (And.intro g1 (And.intro (chain2 H3.out.2.2.2.1.1 H3.out.2.2.2.1.2 g2 g3) ft))))
           clear g1 g2 g3 n2 ft c0 c1 c2 c3 c4 c5 c6 c7 c8 c9 c10 c11 c12 c13 c14 c15
           obtain ⟨c0, c1, c2, c3, c4, c5, c6, c7, c8, c9, c10, c11, c12, c13, c14, c15⟩ := rcells H4.out.1)
        | (refine wpList_load_part rfl 53 _ rfl w.heap.size 4 (by rfl) 55 _ 12 _ H4.out.1 Tryz.underlying53 rfl (by kernel_rfl) (by simp [Rcd.cells]) #[.bool r.d.six, .int .u64 r.d.hi, .int .u64 r.d.lo, .string r.d.name, .string r.d.mail, .int .u32 r.d.n0, .int .u32 r.d.n1, .int .u32 r.d.n2, .int .u32 r.d.n3, .int .u32 r.d.n4, .slice A r.d.texts.length cap, .string r.d.raw] (by rfl) ?_)
        | (go_at_call 69
           (with_reducible refine (dput_any q F4 y3 (bg ++ [(y2.x.b.length : Int)]) r.t r.d A cap _ H4.out.2.2.1 HFT.out.2.2.1 H4.out.2.1.d H4.out.2.2.2.2 HT.out.1).mono ?_)
           rintro e w5 ⟨rfl, F5, g1, g2, g3⟩
           rw [HZ.out.2.2.2.2.2.2] at g1 ⊢
           dsimp only at g1; rw [HE.out.2]
           have H5 := Lib.hid (And.intro g1 (chain2 H4.out.2.2.2.1.1 H4.out.2.2.2.1.2 g2 g3))
           clear g1 g2 g3)
        | (go_at_call 70
           (with_reducible refine (pend_ok q F5 y4 bg y2.x.b.length _ H5.out.1 HE.out.2 H.out.2.2.2.2.2.1 (by have := HZ.out.2.2.2.2.1 HE.out.1; have := HZ.out.2.2.2.2.2.1; omega) (by have := HFT.out.2.2.2.len; omega)).mono ?_)
           rintro e w6 ⟨rfl, F6, g1, g2, g3⟩
           have H6 := Lib.hid (And.intro g1 (chain2 H5.out.2.1 H5.out.2.2 g2 g3))
           clear g1 g2 g3))
      go_ret
      have hz := HZ.out.1
      rw [if_neg (by simp [HE.out.2])] at hz
      exact ⟨ret_int (by rw [hz]), F6, bg, by rw [hz]; exact H6.out.1, fun _ => rfl, H6.out.2⟩
    · have hne : (y4.x.e != 0) = true := by simp [he4]
      have HE := Lib.hid (And.intro hb0 he4)
      clear hb0 he4
      go_wp2_with (first
        | (go_at_call 68
           (with_reducible refine (pbegin_ok q F3 y2 bg _ H3.out.2.2.1 (by have := HFT.out.2.1.len; omega) H.out.2.2.2.2.2.1 HE.out.1).mono ?_)
           rintro e w4 ⟨rfl, F4, g1, g2, g3⟩
           rw [HZ.out.2.2.2.1] at g1
           have n2 : ¬ F4 w.heap.size := fun g => (g3 _ g).elim H3.out.2.2.2.2.1 (fun g => by have := H3.out.1.lt; omega)
           have ft : ∀ k, rowT A r.d.texts k → ¬ F4 k := fun k hk g => (g3 _ g).elim (H3.out.2.2.2.2.2 k hk) (fun g => by have := H3.out.2.1.d.txt.ltT hk; omega)
           have H4 := Lib.hid (And.intro (H3.out.1.fr g2 H3.out.2.2.2.2.1) (And.intro (H3.out.2.1.frT g2 H3.out.2.2.2.2.2) (And.intro g1 (And.intro (chain2 H3.out.2.2.2.1.1 H3.out.2.2.2.1.2 g2 g3) ft))))
           clear g1 g2 g3 n2 ft c0 c1 c2 c3 c4 c5 c6 c7 c8 c9 c10 c11 c12 c13 c14 c15
           obtain ⟨c0, c1, c2, c3, c4, c5, c6, c7, c8, c9, c10, c11, c12, c13, c14, c15⟩ := rcells H4.out.1)
        | (refine wpList_load_part rfl 53 _ rfl w.heap.size 4 (by rfl) 55 _ 12 _ H4.out.1 Tryz.underlying53 rfl (by kernel_rfl) (by simp [Rcd.cells]) #[.bool r.d.six, .int .u64 r.d.hi, .int .u64 r.d.lo, .string r.d.name, .string r.d.mail, .int .u32 r.d.n0, .int .u32 r.d.n1, .int .u32 r.d.n2, .int .u32 r.d.n3, .int .u32 r.d.n4, .slice A r.d.texts.length cap, .string r.d.raw] (by rfl) ?_)
        | (go_at_call 69
           (with_reducible refine (dput_any q F4 y3 (bg ++ [(y2.x.b.length : Int)]) r.t r.d A cap _ H4.out.2.2.1 HFT.out.2.2.1 H4.out.2.1.d H4.out.2.2.2.2 HT.out.1).mono ?_)
           rintro e w5 ⟨rfl, F5, g1, g2, g3⟩
           rw [HZ.out.2.2.2.2.2.2] at g1 ⊢
           skip
           have H5 := Lib.hid (And.intro g1 (chain2 H4.out.2.2.2.1.1 H4.out.2.2.2.1.2 g2 g3))
           clear g1 g2 g3))
      go_ret
      have hz := HZ.out.1
      rw [if_pos HE.out.2] at hz
      exact ⟨ret_int (by rw [hz]), F5, _, by rw [hz]; exact H5.out.1, (fun h => h.elim (fun h => absurd HQ.out.1 h) (fun h => by rw [HZ.out.2.1] at h; exact absurd h HE.out.2)), H5.out.2⟩
  · have he4 : y4.x.e ≠ 0 := fun h => hb0 (HZ.out.2.2.1 h)
    have hne : (y4.x.e != 0) = true := by simp [he4]
    have HE := Lib.hid (And.intro hb0 he4)
    clear hb0 he4
    go_wp2_with (first
      | (go_at_call 68
         (with_reducible refine (pbegin_err q F3 y2 bg _ H3.out.2.2.1 (by have := HFT.out.2.1.len; omega) HE.out.1).mono ?_)
         rintro e w4 ⟨rfl, F4, g1, g2, g3⟩
         rw [HZ.out.2.2.2.1] at g1
         have n2 : ¬ F4 w.heap.size := fun g => (g3 _ g).elim H3.out.2.2.2.2.1 (fun g => by have := H3.out.1.lt; omega)
         have ft : ∀ k, rowT A r.d.texts k → ¬ F4 k := fun k hk g => (g3 _ g).elim (H3.out.2.2.2.2.2 k hk) (fun g => by have := H3.out.2.1.d.txt.ltT hk; omega)
         have H4 := Lib.hid (And.intro (H3.out.1.fr g2 H3.out.2.2.2.2.1) (And.intro (H3.out.2.1.frT g2 H3.out.2.2.2.2.2) (And.intro g1 (And.intro (chain2 H3.out.2.2.2.1.1 H3.out.2.2.2.1.2 g2 g3) ft))))
         clear g1 g2 g3 n2 ft c0 c1 c2 c3 c4 c5 c6 c7 c8 c9 c10 c11 c12 c13 c14 c15
         obtain ⟨c0, c1, c2, c3, c4, c5, c6, c7, c8, c9, c10, c11, c12, c13, c14, c15⟩ := rcells H4.out.1)
      | (refine wpList_load_part rfl 53 _ rfl w.heap.size 4 (by rfl) 55 _ 12 _ H4.out.1 Tryz.underlying53 rfl (by kernel_rfl) (by simp [Rcd.cells]) #[.bool r.d.six, .int .u64 r.d.hi, .int .u64 r.d.lo, .string r.d.name, .string r.d.mail, .int .u32 r.d.n0, .int .u32 r.d.n1, .int .u32 r.d.n2, .int .u32 r.d.n3, .int .u32 r.d.n4, .slice A r.d.texts.length cap, .string r.d.raw] (by rfl) ?_)
      | (go_at_call 69
         (with_reducible refine (dput_any q F4 y3 bg r.t r.d A cap _ H4.out.2.2.1 HFT.out.2.2.1 H4.out.2.1.d H4.out.2.2.2.2 HT.out.1).mono ?_)
         rintro e w5 ⟨rfl, F5, g1, g2, g3⟩
         rw [HZ.out.2.2.2.2.2.2] at g1 ⊢
         skip
         have H5 := Lib.hid (And.intro g1 (chain2 H4.out.2.2.2.1.1 H4.out.2.2.2.1.2 g2 g3))
         clear g1 g2 g3))
    go_ret
    have hz := HZ.out.1
    rw [if_pos HE.out.2] at hz
    exact ⟨ret_int (by rw [hz]), F5, bg, by rw [hz]; exact H5.out.1, fun _ => rfl, H5.out.2⟩
end Go.Proofs.YtmbgejiahmhffaaGreat

/-
  LAYER 10: Same, SameQuestion, Size.
-/
namespace Go.Proofs.YtmbgejiahmhffaaGreat
set_option linter.unusedVariables false
set_option linter.unusedSimpArgs false
open Go.RowKit

/-! ### cmp.Compare, cmp.Or -/
set_option maxHeartbeats 1000000 in
theorem cmpI_any (x y : Int) (w : World) : Calls Tryz.prog 89 #[.int .i64 x, .int .i64 y] w fun e w' => e = .returned (.int .i64 (if x < y then -1 else if y < x then 1 else 0)) ∧ w = w' := by
  have hn : ∀ (v : Int) (w : World), Calls Tryz.prog 115 #[.int .i64 v] w fun e w' => e = .returned (.bool false) ∧ w = w' := fun v w => by
    go_enter Tryz.func115, Tryz.ntmps115
    go_wp2
    go_ret
    exact ⟨rfl, rfl⟩
  by_cases h1 : x < y
  · rw [if_pos h1]
    go_enter Tryz.func89, Tryz.ntmps89
    go_wp2_with (first
      | (go_at_call 115
         (with_reducible refine (hn _ _).mono ?_)
         rintro e w' ⟨rfl, rfl⟩))
    go_ret
    exact ⟨rfl, rfl⟩
  · rw [if_neg h1]
    by_cases h2 : y < x
    · rw [if_pos h2]
      go_enter Tryz.func89, Tryz.ntmps89
      go_wp2_with (first
        | (go_at_call 115
           (with_reducible refine (hn _ _).mono ?_)
           rintro e w' ⟨rfl, rfl⟩))
      go_ret
      exact ⟨rfl, rfl⟩
    · rw [if_neg h2]
      go_enter Tryz.func89, Tryz.ntmps89
      go_wp2_with (first
        | (go_at_call 115
           (with_reducible refine (hn _ _).mono ?_)
           rintro e w' ⟨rfl, rfl⟩))
      go_ret
      exact ⟨rfl, rfl⟩
set_option maxHeartbeats 1000000 in
theorem cmpU_any (x y : Int) (w : World) : Calls Tryz.prog 90 #[.int .u32 x, .int .u32 y] w fun e w' => e = .returned (.int .i64 (if x < y then -1 else if y < x then 1 else 0)) ∧ w = w' := by
  have hn : ∀ (v : Int) (w : World), Calls Tryz.prog 116 #[.int .u32 v] w fun e w' => e = .returned (.bool false) ∧ w = w' := fun v w => by
    go_enter Tryz.func116, Tryz.ntmps116
    go_wp2
    go_ret
    exact ⟨rfl, rfl⟩
  by_cases h1 : x < y
  · rw [if_pos h1]
    go_enter Tryz.func90, Tryz.ntmps90
    go_wp2_with (first
      | (go_at_call 116
         (with_reducible refine (hn _ _).mono ?_)
         rintro e w' ⟨rfl, rfl⟩))
    go_ret
    exact ⟨rfl, rfl⟩
  · rw [if_neg h1]
    by_cases h2 : y < x
    · rw [if_pos h2]
      go_enter Tryz.func90, Tryz.ntmps90
      go_wp2_with (first
        | (go_at_call 116
           (with_reducible refine (hn _ _).mono ?_)
           rintro e w' ⟨rfl, rfl⟩))
      go_ret
      exact ⟨rfl, rfl⟩
    · rw [if_neg h2]
      go_enter Tryz.func90, Tryz.ntmps90
      go_wp2_with (first
        | (go_at_call 116
           (with_reducible refine (hn _ _).mono ?_)
           rintro e w' ⟨rfl, rfl⟩))
      go_ret
      exact ⟨rfl, rfl⟩
def cmpS (x y : ByteArray) : Int := if Op.bytesLess x.toList y.toList = true then -1 else if (!x.toList == y.toList) = true then 1 else 0
theorem bytesLess_self : ∀ l : List UInt8, Op.bytesLess l l = false
  | [] => rfl
  | a :: l => by
    have := bytesLess_self l
    simp [Op.bytesLess, this]
theorem cmpS_eq (x y : ByteArray) : cmpS x y = 0 ↔ x = y := by
  unfold cmpS
  constructor
  · intro h
    split at h
    · cases h
    · split at h
      · cases h
      · rename_i h2
        have h3 : (x.toList == y.toList) = true := by simpa using h2
        rw [beq_iff_eq, ByteArray.toList_eq, ByteArray.toList_eq] at h3
        exact ByteArray.ext (Array.ext' h3)
  · rintro rfl
    rw [if_neg (by rw [bytesLess_self]; decide), if_neg (by simp)]
theorem cmp0 (x y : Int) : (if x < y then (-1 : Int) else if y < x then 1 else 0) = 0 ↔ x = y := by
  split
  · omega
  · split <;> omega
set_option maxHeartbeats 1000000 in
theorem cmpN_any (x y : ByteArray) (w : World) : Calls Tryz.prog 88 #[.string x, .string y] w fun e w' => e = .returned (.int .i64 (cmpS x y)) ∧ w = w' := by
  have hn : ∀ (v : ByteArray) (w : World), Calls Tryz.prog 114 #[.string v] w fun e w' => e = .returned (.bool false) ∧ w = w' := fun v w => by
    go_enter Tryz.func114, Tryz.ntmps114
    go_wp2
    go_ret
    exact ⟨rfl, rfl⟩
  go_enter Tryz.func88, Tryz.ntmps88
  go_wp2_with (first
    | (go_at_call 114
       (with_reducible refine (hn _ _).mono ?_)
       rintro e w' ⟨rfl, rfl⟩))
  all_goals
    go_ret
    refine ⟨ret_int ?_, rfl⟩
    unfold cmpS
    simp [*]
set_option maxHeartbeats 2000000 in
theorem cmpOr_any (g : Nat) (vs : Nat → Int) (w : World) (h : ∀ j, j < 4 → w.cell? ⟨g, j, none⟩ = some (.int .i64 (vs j))) :
    Calls Tryz.prog 87 #[.slice (some ⟨g, 0, none⟩) 4 4] w fun e w' => (∃ v, e = .returned (.int .i64 v) ∧ (v = 0 ↔ ∀ j, j < 4 → vs j = 0)) ∧ w = w' := by
  have H := Lib.hid h
  clear h
  go_enter Tryz.func87, Tryz.ntmps87
  go_wp2_with fail
  go_loop [8] (fun i => ∃ k : Nat, k ≤ 4 ∧ i = .int .i64 k ∧ (∀ j, j < k → vs j = 0)) (fun i => 4 - (intOf i).toNat)
  case atStart => exact ⟨0, Nat.zero_le _, rfl, fun j hj => by omega⟩
  case round =>
    obtain ⟨k, hk, rfl, hall⟩ := hrel
    have HA := Lib.hid hall
    clear hall
    by_cases hlt : k < 4
    · have hc := H.out k hlt
      obtain ⟨v, hv⟩ : ∃ v, v = vs k := ⟨_, rfl⟩
      rw [← hv] at hc
      have HV := Lib.hid hv
      clear hv
      by_cases h0 : v = 0
      · have h0' : (v != 0) = false := by simp [h0]
        have HZ := Lib.hid h0
        clear h0
        go_wp2_with fail
        go_round
        case rel =>
          refine ⟨k + 1, by omega, by go_num, fun j hj => ?_⟩
          by_cases e : j = k
          · rw [e, ← HV.out]; exact HZ.out
          · exact HA.out j (by omega)
        case measure => simp [intOf]; omega
      · have h0' : (v != 0) = true := by simp [h0]
        have HZ := Lib.hid h0
        clear h0
        go_wp2_with fail
        go_ret
        exact ⟨⟨_, rfl, fun e => absurd e HZ.out, fun e => by rw [HV.out]; exact e k hlt⟩, rfl⟩
    · have hk4 : k = 4 := by omega
      subst hk4
      go_wp2_with fail
      go_ret
      exact ⟨⟨_, rfl, fun _ => HA.out, fun _ => rfl⟩, rfl⟩
/-! ### Questions compared -/
def qLits (n : ByteArray) (t c : Int) : List Lit := [.string n.data.toList, .int .i64 t, .int .i64 c]
theorem wf_i64' {n : Int} (h : -9223372036854775808 ≤ n ∧ n ≤ 9223372036854775807) : (Lit.int .i64 n).wf = true := by
  simp [Lit.wf, IntKind.min, IntKind.max, IntKind.signed, IntKind.bits]
  omega
def i64ok (n : Int) : Prop := -9223372036854775808 ≤ n ∧ n ≤ 9223372036854775807
theorem q_keyLits (n : ByteArray) (t c : Int) (h0 : n.size ≤ maxLen) (h1 : i64ok t) (h2 : i64ok c) : Tryz.prog.keyLits 3 40 (Value.agg #[.string n, .int .i64 t, .int .i64 c]).cells.toList = some (qLits n t c) := by
  have w1 := wf_i64' h1
  have w2 := wf_i64' h2
  have hc : Tryz.prog.cellsOf 40 = 3 := by kernel_rfl
  have c1 : Tryz.prog.cellsOf 36 = 1 := by kernel_rfl
  have c64 : Tryz.prog.cellsOf 3 = 1 := by kernel_rfl
  simp [h0, Program.keyLits, Tryz.underlying40, Tryz.underlying36, Tryz.underlying3, hc, c1, c64, w1, w2, Value.cells, qLits, List.range_succ]
theorem q_formed (n : ByteArray) (t c : Int) : (Value.agg #[.string n, .int .i64 t, .int .i64 c]).formed Tryz.prog 40 = true := by kernel_rfl
def qsameB (n m : ByteArray) (t u c d : Int) : Bool := decide (n.data.toList = m.data.toList ∧ t = u ∧ c = d)
theorem qsameB_iff {n m : ByteArray} {t u c d : Int} : qsameB n m t u c d = true ↔ n = m ∧ t = u ∧ c = d := by
  unfold qsameB
  rw [decide_eq_true_eq]
  exact and_congr_left fun _ => ⟨fun h => ByteArray.ext (Array.ext' h), fun h => by rw [h]⟩
theorem q_eql (n m : ByteArray) (t u c d : Int) (g1 : n.size ≤ maxLen) (g2 : m.size ≤ maxLen) (h1 : i64ok t) (h2 : i64ok u) (h3 : i64ok c) (h4 : i64ok d) (w : World) :
    (Go.binOp .eql 40 (.agg #[.string n, .int .i64 t, .int .i64 c]) (.agg #[.string m, .int .i64 u, .int .i64 d])).run Tryz.prog w = .ok (.bool (qsameB n m t u c d)) w := by
  obtain ⟨r, hr, hiff⟩ := run_equalIn_deep (P := Tryz.prog) 9997 3 40 (by kernel_rfl) w 3 3 _ _ _ _ (q_formed n t c) (q_formed m u d) (q_keyLits n t c g1 h1 h3) (q_keyLits m u d g2 h2 h4)
  have e : r = qsameB n m t u c d := by
    rw [Bool.eq_iff_iff, hiff]
    unfold qsameB
    rw [decide_eq_true_eq]
    simp [qLits]
  rw [run_eql_struct, hr, ← e]
  rfl
set_option maxHeartbeats 2000000 in
theorem qsame_any (n m : ByteArray) (t u c d : Int) (g1 : n.size ≤ maxLen) (g2 : m.size ≤ maxLen) (h1 : i64ok t) (h2 : i64ok u) (h3 : i64ok c) (h4 : i64ok d) (w : World) :
    Calls Tryz.prog 55 #[.agg #[.string n, .int .i64 t, .int .i64 c], .agg #[.string m, .int .i64 u, .int .i64 d]] w (EqPost w (qsameB n m t u c d)) := by
  have hq := q_eql n m t u c d g1 g2 h1 h2 h3 h4
  go_enter Tryz.func55, Tryz.ntmps55
  go_wp2_with fail
  go_ret
  exact ⟨rfl, ((Fr.refl _ _).alloc _).alloc _⟩
/-! ### Records compared -/
def rsameB (a b : Rcd) : Bool := decide (cmpS a.name b.name = 0 ∧ a.t = b.t ∧ a.cl = b.cl ∧ a.ttl = b.ttl) && sameB a.d b.d
theorem rsameB_iff (a b : Rcd) : rsameB a b = true ↔ a = b := by
  unfold rsameB
  rw [Bool.and_eq_true, decide_eq_true_eq, sameB_iff, cmpS_eq]
  cases a
  cases b
  simp [and_assoc]
set_option maxRecDepth 100000 in
set_option maxHeartbeats 8000000 in
theorem rsame_any (a b : Rcd) (A B : Option Addr) (c1 c2 : Nat) (w : World) (ha : RcIn w A a) (hb : RcIn w B b) :
    Calls Tryz.prog 57 #[.agg #[.string a.name, .int .i64 a.t, .int .i64 a.cl, .int .u32 a.ttl, .bool a.d.six, .int .u64 a.d.hi, .int .u64 a.d.lo, .string a.d.name, .string a.d.mail, .int .u32 a.d.n0, .int .u32 a.d.n1, .int .u32 a.d.n2, .int .u32 a.d.n3, .int .u32 a.d.n4, .slice A a.d.texts.length c1, .string a.d.raw], .agg #[.string b.name, .int .i64 b.t, .int .i64 b.cl, .int .u32 b.ttl, .bool b.d.six, .int .u64 b.d.hi, .int .u64 b.d.lo, .string b.d.name, .string b.d.mail, .int .u32 b.d.n0, .int .u32 b.d.n1, .int .u32 b.d.n2, .int .u32 b.d.n3, .int .u32 b.d.n4, .slice B b.d.texts.length c2, .string b.d.raw]] w (EqPost w (rsameB a b)) := by
  have b1 := (Blk.new w 55 (a.cells (.slice A a.d.texts.length c1))).alloc (.cells (b.cells (.slice B b.d.texts.length c2)) 55)
  have b2 := Blk.new (w.alloc (.cells (a.cells (.slice A a.d.texts.length c1)) 55)) 55 (b.cells (.slice B b.d.texts.length c2))
  rw [World.size_alloc] at b2
  have hf : Fr (fun _ => False) w ((w.alloc (.cells (a.cells (.slice A a.d.texts.length c1)) 55)).alloc (.cells (b.cells (.slice B b.d.texts.length c2)) 55)) := ((Fr.refl _ _).alloc _).alloc _
  obtain ⟨W, hW⟩ : ∃ W, W = (w.alloc (.cells (a.cells (.slice A a.d.texts.length c1)) 55)).alloc (.cells (b.cells (.slice B b.d.texts.length c2)) 55) := ⟨_, rfl⟩
  rw [← hW] at b1 b2 hf
  have H := Lib.hid (And.intro b1 (And.intro b2 (And.intro hf (And.intro (ha.fr0 hf) (hb.fr0 hf)))))
  unfold Rcd.cells at hW
  have HW := Lib.hid hW
  obtain ⟨m0, m1, m2, m3, m4, m5, m6, m7, m8, m9, m10, m11, m12, m13, m14, m15⟩ := rcells b1
  obtain ⟨n0, n1, n2, n3, n4, n5, n6, n7, n8, n9, n10, n11, n12, n13, n14, n15⟩ := rcells b2
  clear b1 b2 hf hW ha hb
  obtain ⟨R, hR⟩ : ∃ R, R = rsameB a b := ⟨_, rfl⟩
  rw [← hR]
  have HR := Lib.hid hR
  clear hR
  go_enter Tryz.func57, Tryz.ntmps57
  go_upto_region 1 with fail
  rw [← HW.out]
  clear HW
  have HD : Hid (Fr (fun _ => False) W W.drew) := (Fr.refl _ _).drew
  obtain ⟨k1, hk1⟩ : ∃ k, k = cmpS a.name b.name := ⟨_, rfl⟩
  obtain ⟨k2, hk2⟩ : ∃ k : Int, k = if a.t < b.t then -1 else if b.t < a.t then 1 else 0 := ⟨_, rfl⟩
  obtain ⟨k3, hk3⟩ : ∃ k : Int, k = if a.cl < b.cl then -1 else if b.cl < a.cl then 1 else 0 := ⟨_, rfl⟩
  obtain ⟨k4, hk4⟩ : ∃ k : Int, k = if (a.ttl : Int) < b.ttl then -1 else if (b.ttl : Int) < a.ttl then 1 else 0 := ⟨_, rfl⟩
  have q1 : ∀ w, Calls Tryz.prog 88 #[.string a.name, .string b.name] w fun e w' => e = .returned (.int .i64 k1) ∧ w' = w := fun w => by rw [hk1]; exact (cmpN_any _ _ w).mono fun _ _ h => ⟨h.1, h.2.symm⟩
  have q2 : ∀ w, Calls Tryz.prog 89 #[.int .i64 a.t, .int .i64 b.t] w fun e w' => e = .returned (.int .i64 k2) ∧ w' = w := fun w => by rw [hk2]; exact (cmpI_any _ _ w).mono fun _ _ h => ⟨h.1, h.2.symm⟩
  have q3 : ∀ w, Calls Tryz.prog 89 #[.int .i64 a.cl, .int .i64 b.cl] w fun e w' => e = .returned (.int .i64 k3) ∧ w' = w := fun w => by rw [hk3]; exact (cmpI_any _ _ w).mono fun _ _ h => ⟨h.1, h.2.symm⟩
  have q4 : ∀ w, Calls Tryz.prog 90 #[.int .u32 (a.ttl : Nat), .int .u32 (b.ttl : Nat)] w fun e w' => e = .returned (.int .i64 k4) ∧ w' = w := fun w => by rw [hk4]; exact (cmpU_any _ _ w).mono fun _ _ h => ⟨h.1, h.2.symm⟩
  have HQ := Lib.hid (And.intro q1 (And.intro q2 (And.intro q3 q4)))
  have hz1 : k1 = 0 ↔ a.name = b.name := by rw [hk1]; exact cmpS_eq _ _
  have hz2 : k2 = 0 ↔ a.t = b.t := by rw [hk2]; exact cmp0 _ _
  have hz3 : k3 = 0 ↔ a.cl = b.cl := by rw [hk3]; exact cmp0 _ _
  have hz4 : k4 = 0 ↔ a.ttl = b.ttl := by rw [hk4, cmp0]; omega
  have HZ := Lib.hid (And.intro hz1 (And.intro hz2 (And.intro hz3 hz4)))
  clear hk1 hk2 hk3 hk4 q1 q2 q3 q4 hz1 hz2 hz3 hz4
  clear m0 m1 m2 m3 m4 m5 m6 m7 m8 m9 m10 m11 m12 m13 m14 m15 n0 n1 n2 n3 n4 n5 n6 n7 n8 n9 n10 n11 n12 n13 n14 n15
  obtain ⟨m0, m1, m2, m3, m4, m5, m6, m7, m8, m9, m10, m11, m12, m13, m14, m15⟩ := rcells (H.out.1.drew)
  obtain ⟨n0, n1, n2, n3, n4, n5, n6, n7, n8, n9, n10, n11, n12, n13, n14, n15⟩ := rcells (H.out.2.1.drew)
  go_still_tail 20, (by kernel_rfl)
  still_call (HQ.out.1 W.drew)
  repeat still_step
  still_call (HQ.out.2.1 W.drew)
  repeat still_step
  still_call (HQ.out.2.2.1 W.drew)
  repeat still_step
  still_call (HQ.out.2.2.2 W.drew)
  repeat still_step
  refine wpStill_nil ?_
  change wpList _ _ _ _ _ W.drew
  have H2 := Lib.hid (And.intro H.out.1.drew (And.intro H.out.2.1.drew (And.intro H.out.2.2.1.drew (And.intro (H.out.2.2.2.1.fr0 ((Fr.refl _ _).drew)) (H.out.2.2.2.2.fr0 ((Fr.refl _ _).drew))))))
  clear m0 m1 m2 m3 m4 m5 m6 m7 m8 m9 m10 m11 m12 m13 m14 m15 n0 n1 n2 n3 n4 n5 n6 n7 n8 n9 n10 n11 n12 n13 n14 n15
  generalize W.drew = W2 at *
  have hbl := Blk.new W2 3 #[.int .i64 k1, .int .i64 k2, .int .i64 k3, .int .i64 k4]
  have hf2 : Fr (fun _ => False) W2 (W2.alloc (.cells #[.int .i64 k1, .int .i64 k2, .int .i64 k3, .int .i64 k4] 3)) := (Fr.refl _ _).alloc _
  have H3 := Lib.hid (And.intro hbl (And.intro (H2.out.1.fr hf2 id) (And.intro (H2.out.2.1.fr hf2 id) (And.intro (H2.out.2.2.1.then hf2) (And.intro (H2.out.2.2.2.1.fr0 hf2) (H2.out.2.2.2.2.fr0 hf2))))))
  clear hbl hf2
  obtain ⟨m0, m1, m2, m3, m4, m5, m6, m7, m8, m9, m10, m11, m12, m13, m14, m15⟩ := rcells (H3.out.2.1)
  obtain ⟨n0, n1, n2, n3, n4, n5, n6, n7, n8, n9, n10, n11, n12, n13, n14, n15⟩ := rcells (H3.out.2.2.1)
  have hcs : ∀ j, j < 4 → (W2.alloc (.cells #[.int .i64 k1, .int .i64 k2, .int .i64 k3, .int .i64 k4] 3)).cell? ⟨W2.heap.size, j, none⟩ = some (.int .i64 ((fun j => match j with | 0 => k1 | 1 => k2 | 2 => k3 | _ => k4) j)) := fun j hj => by
    rcases (show j = 0 ∨ j = 1 ∨ j = 2 ∨ j = 3 by omega) with rfl | rfl | rfl | rfl
    · exact H3.out.1.cell 0
    · exact H3.out.1.cell 1
    · exact H3.out.1.cell 2
    · exact H3.out.1.cell 3
  have HCS := Lib.hid hcs
  clear hcs
  by_cases hp : k1 = 0 ∧ k2 = 0 ∧ k3 = 0 ∧ k4 = 0
  all_goals
    have HP := Lib.hid hp
    clear hp
    go_wp2_with (first
      | (go_at_call 87
         (with_reducible refine (cmpOr_any W2.heap.size (fun j => match j with | 0 => k1 | 1 => k2 | 2 => k3 | _ => k4) (W2.alloc (.cells #[.int .i64 k1, .int .i64 k2, .int .i64 k3, .int .i64 k4] 3)) HCS.out).mono ?_)
         rintro e w' ⟨⟨v, rfl, hv⟩, rfl⟩
         have hv' : v = 0 ↔ k1 = 0 ∧ k2 = 0 ∧ k3 = 0 ∧ k4 = 0 := hv.trans ⟨fun h => ⟨h 0 (by decide), h 1 (by decide), h 2 (by decide), h 3 (by decide)⟩, fun h j hj => by
           rcases (show j = 0 ∨ j = 1 ∨ j = 2 ∨ j = 3 by omega) with rfl | rfl | rfl | rfl
           · exact h.1
           · exact h.2.1
           · exact h.2.2.1
           · exact h.2.2.2⟩
         clear hv
         first
           | (have hb : (v == 0) = true := by simp [hv'.2 HP.out])
           | (have hb : (v == 0) = false := by rw [beq_eq_false_iff_ne]; exact fun h => HP.out (hv'.1 h))
         clear hv')
      | (refine wpList_load_partg (by rfl) 53 _ rfl w.heap.size 4 (by rfl) 55 _ 12 _ H3.out.2.1 Tryz.underlying53 rfl (by kernel_rfl) (by simp [Rcd.cells]) #[.bool a.d.six, .int .u64 a.d.hi, .int .u64 a.d.lo, .string a.d.name, .string a.d.mail, .int .u32 a.d.n0, .int .u32 a.d.n1, .int .u32 a.d.n2, .int .u32 a.d.n3, .int .u32 a.d.n4, .slice A a.d.texts.length c1, .string a.d.raw] (by rfl) ?_)
      | (refine wpList_load_partg (by rfl) 53 _ rfl (w.heap.size + 1) 4 (by rfl) 55 _ 12 _ H3.out.2.2.1 Tryz.underlying53 rfl (by kernel_rfl) (by simp [Rcd.cells]) #[.bool b.d.six, .int .u64 b.d.hi, .int .u64 b.d.lo, .string b.d.name, .string b.d.mail, .int .u32 b.d.n0, .int .u32 b.d.n1, .int .u32 b.d.n2, .int .u32 b.d.n3, .int .u32 b.d.n4, .slice B b.d.texts.length c2, .string b.d.raw] (by rfl) ?_)
      | (go_at_call 91
         (with_reducible refine (dsame_any a.d b.d A B c1 c2 _ H3.out.2.2.2.2.1.d H3.out.2.2.2.2.2.d).mono ?_)
         rintro e w9 ⟨rfl, f9⟩
         have H4 := Lib.hid f9
         clear f9))
    go_ret
    rw [HR.out]
    have hz := HZ.out
    have hd : decide (cmpS a.name b.name = 0 ∧ a.t = b.t ∧ a.cl = b.cl ∧ a.ttl = b.ttl) = decide (k1 = 0 ∧ k2 = 0 ∧ k3 = 0 ∧ k4 = 0) := by
      rw [Bool.eq_iff_iff, decide_eq_true_eq, decide_eq_true_eq, cmpS_eq, hz.1, hz.2.1, hz.2.2.1, hz.2.2.2]
    unfold rsameB
    rw [hd]
    first
      | (rw [decide_eq_true HP.out, Bool.true_and]; exact ⟨rfl, H3.out.2.2.2.1.then H4.out⟩)
      | (rw [decide_eq_false HP.out, Bool.false_and]; exact ⟨rfl, H3.out.2.2.2.1⟩)
def rsizeB (r : Rcd) : Int := if rcheckB r = 0 then (r.name.size : Int) + 11 + r.d.size (whatN r.t) else 0
end Go.Proofs.YtmbgejiahmhffaaGreat

/-
  RECORDS, QUESTIONS THAT CAME IN, OPENED.
-/
namespace Go.Proofs.YtmbgejiahmhffaaGreat
set_option linter.unusedVariables false
set_option linter.unusedSimpArgs false
set_option linter.constructorNameAsVariable false
open Go.ChangeShapes Go.WideShapes Go.ChangeAt Go.RowKit Go.Deep

def i64k (n : Int) : Prop := -9223372036854775808 ≤ n ∧ n ≤ 9223372036854775807
def QOk (q : Qn) : Prop := q.1.size ≤ 1048576 ∧ i64k q.2.1 ∧ i64k q.2.2
section
variable {W : World} {H : Type} {enc : TypeId × Value → H} {fuel : Nat} {cs : List Value} {x : DataW H × List MemPlace}
end
end Go.Proofs.YtmbgejiahmhffaaGreat

/-
  LAYER 10: Size; the chapter's example; is a record light.
-/
namespace Go.Proofs.YtmbgejiahmhffaaGreat
set_option linter.unusedVariables false
set_option linter.unusedSimpArgs false
open Go.RowKit

set_option maxRecDepth 100000 in
set_option maxHeartbeats 8000000 in
theorem rsize_any (r : Rcd) (A : Option Addr) (cap : Nat) (w : World) (h : RcIn w A r) (hl : r.d.light ≤ 1048576) :
    Calls Tryz.prog 52 #[.agg #[.string r.name, .int .i64 r.t, .int .i64 r.cl, .int .u32 r.ttl, .bool r.d.six, .int .u64 r.d.hi, .int .u64 r.d.lo, .string r.d.name, .string r.d.mail, .int .u32 r.d.n0, .int .u32 r.d.n1, .int .u32 r.d.n2, .int .u32 r.d.n3, .int .u32 r.d.n4, .slice A r.d.texts.length cap, .string r.d.raw]] w (IntPost w (rsizeB r)) := by
  have hb := Blk.new w 55 (r.cells (.slice A r.d.texts.length cap))
  have hf : Fr (fun _ => False) w (w.alloc (.cells (r.cells (.slice A r.d.texts.length cap)) 55)) := (Fr.refl _ _).alloc _
  obtain ⟨W, hW⟩ : ∃ W, W = w.alloc (.cells (r.cells (.slice A r.d.texts.length cap)) 55) := ⟨_, rfl⟩
  rw [← hW] at hb hf
  have H := Lib.hid (And.intro hb (And.intro hf (And.intro (h.fr0 hf) h.t)))
  unfold Rcd.cells at hW
  have HW := Lib.hid hW
  obtain ⟨c0, c1, c2, c3, c4, c5, c6, c7, c8, c9, c10, c11, c12, c13, c14, c15⟩ := rcells hb
  clear hb hf hW h
  obtain ⟨R, hR⟩ : ∃ R, R = rsizeB r := ⟨_, rfl⟩
  rw [← hR]
  have HR := Lib.hid hR
  clear hR
  by_cases h0 : rcheckB r = 0
  · have hck : r.check = 0 := by rw [← rcheckB_eq]; exact h0
    obtain ⟨hq, hdc⟩ := Rcd.check_ok hck
    have hds : dsizeB r.t r.d = (r.d.size (whatN r.t) : Nat) := by
      have h1 : dcheckB0 r.t r.d = 0 := by
        rw [dcheckB0_eq]
        unfold dcheck at hdc
        split at hdc
        · exact absurd hdc (by assumption)
        · exact Classical.not_not.1 (by assumption)
      unfold dsizeB
      rw [if_pos h1]
    have hn := (qcheck_ok hq).1
    have hns := (ckN_ok hn).1
    have hsl := size_light r.t r.d
    obtain ⟨sz, hsz⟩ : ∃ sz, sz = r.d.size (whatN r.t) := ⟨_, rfl⟩
    rw [← hsz] at hds hsl
    have hr : R = (r.name.size : Int) + 11 + sz := by rw [HR.out]; unfold rsizeB; rw [if_pos h0, hsz]
    have HZ := Lib.hid (And.intro h0 (And.intro hds (And.intro hn hr)))
    have hszb : sz ≤ 1048616 := by omega
    clear h0 hck hq hdc hds hn hsl hsz hr
    have hw1 : IntKind.i64.wrap ((r.name.size : Int) + 1 + 10) = (r.name.size : Int) + 1 + 10 := IntWalk.i64_in _ (by omega)
    have hw2 : IntKind.i64.wrap ((r.name.size : Int) + 1 + 10 + (sz : Int)) = (r.name.size : Int) + 1 + 10 + (sz : Int) := IntWalk.i64_in _ (by omega)
    have HWW := Lib.hid (And.intro hw1 hw2)
    clear hw1 hw2
    go_enter Tryz.func52, Tryz.ntmps52
    go_upto_region 1 with fail
    rw [← HW.out]
    clear HW
    go_upto_region 3 with (first
      | (go_at_call 31
         (with_reducible refine (reccheck_any r A cap _ H.out.2.2.1).mono ?_)
         rintro e w1 ⟨rfl, f1⟩
         rw [HZ.out.1]
         have H1 := Lib.hid (And.intro (H.out.1.fr f1 id) (And.intro (H.out.2.1.then f1) (H.out.2.2.1.fr0 f1)))
         clear f1 c0 c1 c2 c3 c4 c5 c6 c7 c8 c9 c10 c11 c12 c13 c14 c15))
    obtain ⟨c0, c1, c2, c3, c4, c5, c6, c7, c8, c9, c10, c11, c12, c13, c14, c15⟩ := rcells H1.out.1
    obtain ⟨m0, m1, m2, m3, m4, m5, m6, m7, m8, m9, m10, m11, m12, m13, m14, m15⟩ := rcells (H1.out.1.drew)
    have hw1 := HWW.out.1
    have hw2 := HWW.out.2
    go_region_held3 (fun w' => w'.cell? ⟨w.heap.size, 0, none⟩ = some (.string r.name) ∧ w'.cell? ⟨w.heap.size, 1, none⟩ = some (.int .i64 r.t) ∧ w'.cell? ⟨w.heap.size, 2, none⟩ = some (.int .i64 r.cl) ∧ w'.cell? ⟨w.heap.size, 3, none⟩ = some (.int .u32 r.ttl) ∧ w'.cell? ⟨w.heap.size, 4, none⟩ = some (.bool r.d.six) ∧ w'.cell? ⟨w.heap.size, 5, none⟩ = some (.int .u64 r.d.hi) ∧ w'.cell? ⟨w.heap.size, 6, none⟩ = some (.int .u64 r.d.lo) ∧ w'.cell? ⟨w.heap.size, 7, none⟩ = some (.string r.d.name) ∧ w'.cell? ⟨w.heap.size, 8, none⟩ = some (.string r.d.mail) ∧ w'.cell? ⟨w.heap.size, 9, none⟩ = some (.int .u32 r.d.n0) ∧ w'.cell? ⟨w.heap.size, 10, none⟩ = some (.int .u32 r.d.n1) ∧ w'.cell? ⟨w.heap.size, 11, none⟩ = some (.int .u32 r.d.n2) ∧ w'.cell? ⟨w.heap.size, 12, none⟩ = some (.int .u32 r.d.n3) ∧ w'.cell? ⟨w.heap.size, 13, none⟩ = some (.int .u32 r.d.n4) ∧ w'.cell? ⟨w.heap.size, 14, none⟩ = some (.slice A r.d.texts.length cap) ∧ w'.cell? ⟨w.heap.size, 15, none⟩ = some (.string r.d.raw))
      (first | exact ⟨c0, c1, c2, c3, c4, c5, c6, c7, c8, c9, c10, c11, c12, c13, c14, c15⟩ | exact ⟨m0, m1, m2, m3, m4, m5, m6, m7, m8, m9, m10, m11, m12, m13, m14, m15⟩ | exact ⟨n0, n1, n2, n3, n4, n5, n6, n7, n8, n9, n10, n11, n12, n13, n14, n15⟩ | exact ⟨k0, k1, k2, k3, k4, k5, k6, k7, k8, k9, k10, k11, k12, k13, k14, k15⟩ | exact ⟨z0, z1, z2, z3, z4, z5, z6, z7, z8, z9, z10, z11, z12, z13, z14, z15⟩)
      (first
        | (go_at_call 51
           (first
             | (with_reducible refine (psize_any r.name w1.drew).mono ?_)
               rintro e w2 ⟨rfl, nq, rfl⟩
               rw [if_pos HZ.out.2.2.1]
               obtain ⟨n0, n1, n2, n3, n4, n5, n6, n7, n8, n9, n10, n11, n12, n13, n14, n15⟩ := rcells (H1.out.1.drew.drewN nq)
               have H2 := Lib.hid (show Fr (fun _ => False) w1 (w1.drewN (1 + nq)) from (Fr.refl _ _).drewN _)
             | (with_reducible refine (psize_any r.name w3).mono ?_)
               rintro e w2 ⟨rfl, nq, rfl⟩
               rw [if_pos HZ.out.2.2.1]
               obtain ⟨z0, z1, z2, z3, z4, z5, z6, z7, z8, z9, z10, z11, z12, z13, z14, z15⟩ := rcells ((H1.out.1.fr H3.out id).drewN nq)
               have H4 := Lib.hid (show Fr (fun _ => False) w1 (w3.drewN nq) from H3.out.drewN _)))
        | (go_at_call 86
           (first
             | (with_reducible refine (dSize_any r.t r.d A cap w1.drew (H1.out.2.2.d.fr0 ((Fr.refl _ _).drew)) H.out.2.2.2).mono ?_)
               rintro e w3 ⟨rfl, f3⟩
               rw [HZ.out.2.1]
               have H3 := Lib.hid (show Fr (fun _ => False) w1 w3 from f3.fromD)
               obtain ⟨k0, k1, k2, k3, k4, k5, k6, k7, k8, k9, k10, k11, k12, k13, k14, k15⟩ := rcells (H1.out.1.fr H3.out id)
               clear f3
             | (with_reducible refine (dSize_any r.t r.d A cap (w1.drewN (1 + nq)) (H1.out.2.2.d.fr0 H2.out) H.out.2.2.2).mono ?_)
               rintro e w3 ⟨rfl, f3⟩
               rw [HZ.out.2.1]
               have H4 := Lib.hid (H2.out.then f3)
               obtain ⟨k0, k1, k2, k3, k4, k5, k6, k7, k8, k9, k10, k11, k12, k13, k14, k15⟩ := rcells (H1.out.1.fr H4.out id)
               clear f3))
        | fail "no arm")
    all_goals
      go_wp2_with fail
      go_ret
      exact ⟨ret_int (by rw [HZ.out.2.2.2]; omega), H1.out.2.1.then H4.out⟩
  · have hne : (rcheckB r != 0) = true := by simp [h0]
    have hr : R = 0 := by rw [HR.out]; unfold rsizeB; rw [if_neg h0]
    have HZ := Lib.hid hr
    clear h0 hr
    go_enter Tryz.func52, Tryz.ntmps52
    go_upto_region 1 with fail
    rw [← HW.out]
    clear HW
    go_wp2_with (first
      | (go_at_call 31
         (with_reducible refine (reccheck_any r A cap _ H.out.2.2.1).mono ?_)
         rintro e w1 ⟨rfl, f1⟩
         have H1 := Lib.hid (H.out.2.1.then f1)
         clear f1))
    go_ret
    exact ⟨ret_int HZ.out.symm, H1.out⟩
/-! ### The chapter's example -/
end Go.Proofs.YtmbgejiahmhffaaGreat
