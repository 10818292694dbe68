/-
  TEXTS OF THIS CLAIM, TOGETHER: Msp, Rch, Rpt, Rsm, Rw10, Openr, Lv10.
-/
import Derived.Test.YtncfdfgcnblicaaBunC
import Derived.Test.YtncfdfgcnblicaaBunH
import Derived.Test.YtncfdfgcnblicaaBunG
import Derived.Deep.RegionHeld3
/-
  LAYERS 10, 11, PLAIN: questions and records one behind the other. No program.
-/
namespace Go.Proofs.Ytncfdfgcnblicaa
open Go.RowKit

theorem UG.exact {y : Pk} {B : Nat} (h : UG y B) : UG y y.x.b.length := ⟨h.e, h.most, h.good, Nat.le_refl _⟩

def Rcd.size (r : Rcd) : Nat := r.name.size + 11 + r.d.size (whatN r.t)
def rsum : List Rcd → Nat
  | [] => 0
  | r :: l => r.size + rsum l
def rputsB (y : Pk) : List Rcd → Pk
  | [] => y
  | r :: l => rputsB (rputB y r) l
/-- Records are read one behind the other. -/
def RReads (S : List UInt8) : Nat → List Rcd → Nat → Prop
  | a, [], e => a = e
  | a, r :: l, e => ∃ m : Nat, rreadN S (a : Nat) = (r, ((m : Nat) : Int), 0) ∧ RReads S m l e
theorem rput_tail {y : Pk} {B : Nat} (h : UG y B) {r : Rcd} (hr : r.ok) (hc : r.check = 0) (hB : B + 1000 + r.d.size (whatN r.t) ≤ 65535) : ∃ T, (rputB y r).x.b = y.x.b ++ T := by
  obtain ⟨hq, _⟩ := Rcd.check_ok hc
  obtain ⟨hn, _⟩ := qcheck_ok hq
  obtain ⟨_, _, ⟨T, t1, t2, t3⟩, _, _, hb2, _⟩ := rput_facts h hr hc hB
  obtain ⟨_, ⟨X, x1⟩, _, _⟩ := nameB_reads h false r.name hn (by omega)
  exact ⟨_, by rw [t2, hb2, x1, List.append_assoc, List.append_assoc]⟩
theorem rputs_reads : ∀ (l : List Rcd) (y : Pk), UG y y.x.b.length → (∀ r ∈ l, r.ok ∧ r.check = 0) → y.x.b.length + rsum l + 2000 ≤ 65535 →
    UG (rputsB y l) (rputsB y l).x.b.length ∧ (∃ T, (rputsB y l).x.b = y.x.b ++ T) ∧ (rputsB y l).x.b.length ≤ y.x.b.length + rsum l ∧ ∀ Z, RReads ((rputsB y l).x.b ++ Z) y.x.b.length l (rputsB y l).x.b.length
  | [], y, h, _, _ => ⟨h, ⟨[], by simp [rputsB]⟩, Nat.le_refl _, fun _ => rfl⟩
  | r :: l, y, h, hl, hB => by
    obtain ⟨hr, hc⟩ := hl r (by simp)
    have hs : rsum (r :: l) = r.name.size + 11 + r.d.size (whatN r.t) + rsum l := rfl
    rw [hs] at hB ⊢
    have hB1 : y.x.b.length + 1000 + r.d.size (whatN r.t) ≤ 65535 := by omega
    obtain ⟨_, u1, _, _, _, _, hle, _⟩ := rput_facts h hr hc hB1
    obtain ⟨T, hT⟩ := rput_tail h hr hc hB1
    obtain ⟨v1, ⟨U, v2⟩, v3, v4⟩ := rputs_reads l (rputB y r) u1.exact (fun x hx => hl x (by simp [hx])) (by omega)
    refine ⟨v1, ⟨T ++ U, by show (rputsB (rputB y r) l).x.b = _; rw [v2, hT, List.append_assoc]⟩, by show (rputsB (rputB y r) l).x.b.length ≤ _; omega, fun Z => ?_⟩
    have hrd := rread_rput h hr hc hB1 (U ++ Z)
    rw [← List.append_assoc, ← v2] at hrd
    exact ⟨_, hrd, v4 Z⟩

/-- A question: name, type, class. -/
abbrev Qn := ByteArray × Int × Int
def qsum : List Qn → Nat
  | [] => 0
  | q :: l => q.1.size + 5 + qsum l
def qputsB (y : Pk) : List Qn → Pk
  | [] => y
  | q :: l => qputsB (headB y q.1 q.2.1 q.2.2) l
def QReads (S : List UInt8) : Nat → List Qn → Nat → Prop
  | a, [], e => a = e
  | a, q :: l, e => ∃ m : Nat, qreadN S (a : Nat) = (q, ((m : Nat) : Int), 0) ∧ QReads S m l e
theorem qputs_reads : ∀ (l : List Qn) (y : Pk), UG y y.x.b.length → (∀ q ∈ l, qcheck q.1 q.2.1 q.2.2 = 0) → y.x.b.length + qsum l + 2000 ≤ 65535 →
    UG (qputsB y l) (qputsB y l).x.b.length ∧ (∃ T, (qputsB y l).x.b = y.x.b ++ T) ∧ (qputsB y l).x.b.length ≤ y.x.b.length + qsum l ∧ ∀ Z, QReads ((qputsB y l).x.b ++ Z) y.x.b.length l (qputsB y l).x.b.length
  | [], y, h, _, _ => ⟨h, ⟨[], by simp [qputsB]⟩, Nat.le_refl _, fun _ => rfl⟩
  | (n, t, cl) :: l, y, h, hl, hB => by
    have hc : qcheck n t cl = 0 := hl (n, t, cl) (by simp)
    obtain ⟨hn, _⟩ := qcheck_ok hc
    have hs : qsum ((n, t, cl) :: l) = n.size + 5 + qsum l := rfl
    rw [hs] at hB ⊢
    have hB1 : y.x.b.length + 300 ≤ 65535 := by omega
    obtain ⟨u1, hb, hle⟩ := headB_good h t cl hn hB1
    obtain ⟨_, ⟨X, x1⟩, _, _⟩ := nameB_reads h false n hn (by omega)
    have hT : (headB y n t cl).x.b = y.x.b ++ (X ++ (octs t.toNat 2 ++ octs cl.toNat 2)) := by rw [hb, x1, List.append_assoc]
    have hl2 : (headB y n t cl).x.b.length = (y.nameB false n).x.b.length + 4 := by rw [hb]; simp [octs_length]
    obtain ⟨v1, ⟨U, v2⟩, v3, v4⟩ := qputs_reads l (headB y n t cl) u1.exact (fun x hx => hl x (by simp [hx])) (by omega)
    refine ⟨v1, ⟨(X ++ (octs t.toNat 2 ++ octs cl.toNat 2)) ++ U, by show (qputsB (headB y n t cl) l).x.b = _; rw [v2, hT, List.append_assoc]⟩, by show (qputsB (headB y n t cl) l).x.b.length ≤ _; omega, fun Z => ?_⟩
    have hrd := qread_qput h hc hB1 (U ++ Z)
    rw [← List.append_assoc, ← v2] at hrd
    exact ⟨_, hrd, v4 Z⟩
end Go.Proofs.Ytncfdfgcnblicaa

/-
  LAYER 10: a record, a question: whether it may be; put.
-/
namespace Go.Proofs.Ytncfdfgcnblicaa
set_option linter.unusedVariables false
set_option linter.unusedSimpArgs false
open Go.RowKit

/-- A record in memory, cell by cell; t: the texts' slice. -/
def Rcd.cells (r : Rcd) (t : Value) : Array Value := #[.string r.name, .int .i64 r.t, .int .i64 r.cl, .int .u32 r.ttl, .bool r.d.six, .int .u64 r.d.hi, .int .u64 r.d.lo, .string r.d.name, .string r.d.mail, .int .u32 r.d.n0, .int .u32 r.d.n1, .int .u32 r.d.n2, .int .u32 r.d.n3, .int .u32 r.d.n4, t, .string r.d.raw]
def Rcd.val (r : Rcd) (t : Value) : Value := .agg (r.cells t)
/-- A record as it lies, with what is asked of it. -/
structure RcIn (w : World) (A : Option Addr) (r : Rcd) : Prop where
  d : DtIn w A r.d
  t : -9223372036854775808 ≤ r.t ∧ r.t ≤ 9223372036854775807
  cl : -9223372036854775808 ≤ r.cl ∧ r.cl ≤ 9223372036854775807
  ttl : r.ttl < 4294967296
theorem RcIn.fr0 {w w' : World} {A : Option Addr} {r : Rcd} (h : RcIn w A r) (hf : Fr (fun _ => False) w w') : RcIn w' A r := ⟨h.d.fr0 hf, h.t, h.cl, h.ttl⟩
theorem RcIn.frT {w w' : World} {A : Option Addr} {r : Rcd} {S : Nat → Prop} (h : RcIn w A r) (hf : Fr S w w') (hs : ∀ k, rowT A r.d.texts k → ¬ S k) : RcIn w' A r := ⟨h.d.frT hf hs, h.t, h.cl, h.ttl⟩
theorem RcIn.ok {w : World} {A : Option Addr} {r : Rcd} (h : RcIn w A r) : r.ok := ⟨h.ttl, h.d.ok⟩
def rcheckB (r : Rcd) : Int := if qcheck r.name r.t r.cl ≠ 0 then qcheck r.name r.t r.cl else dcheckB r.t r.d
theorem rcheckB_eq (r : Rcd) : rcheckB r = r.check := by unfold rcheckB Rcd.check; rw [dcheckB_eq]
theorem rcells {w : World} {q : Nat} {r : Rcd} {A : Option Addr} {cap : Nat} (h : Blk w q 63 (r.cells (.slice A r.d.texts.length cap))) : w.cell? ⟨q, 0, none⟩ = some (.string r.name) ∧ w.cell? ⟨q, 1, none⟩ = some (.int .i64 r.t) ∧ w.cell? ⟨q, 2, none⟩ = some (.int .i64 r.cl) ∧ w.cell? ⟨q, 3, none⟩ = some (.int .u32 r.ttl) ∧ w.cell? ⟨q, 4, none⟩ = some (.bool r.d.six) ∧ w.cell? ⟨q, 5, none⟩ = some (.int .u64 r.d.hi) ∧ w.cell? ⟨q, 6, none⟩ = some (.int .u64 r.d.lo) ∧ w.cell? ⟨q, 7, none⟩ = some (.string r.d.name) ∧ w.cell? ⟨q, 8, none⟩ = some (.string r.d.mail) ∧ w.cell? ⟨q, 9, none⟩ = some (.int .u32 r.d.n0) ∧ w.cell? ⟨q, 10, none⟩ = some (.int .u32 r.d.n1) ∧ w.cell? ⟨q, 11, none⟩ = some (.int .u32 r.d.n2) ∧ w.cell? ⟨q, 12, none⟩ = some (.int .u32 r.d.n3) ∧ w.cell? ⟨q, 13, none⟩ = some (.int .u32 r.d.n4) ∧ w.cell? ⟨q, 14, none⟩ = some (.slice A r.d.texts.length cap) ∧ w.cell? ⟨q, 15, none⟩ = some (.string r.d.raw) :=
  ⟨h.cell 0, h.cell 1, h.cell 2, h.cell 3, h.cell 4, h.cell 5, h.cell 6, h.cell 7, h.cell 8, h.cell 9, h.cell 10, h.cell 11, h.cell 12, h.cell 13, h.cell 14, h.cell 15⟩

set_option maxRecDepth 100000 in
set_option maxHeartbeats 2000000 in
theorem may_10 (n : ByteArray) (t cl : Int) (w : World) :
    Calls Try.prog 64 #[.string n, .int .i64 t, .int .i64 cl] w (IntPost w (qcheck n t cl)) := by
  obtain ⟨k, hk⟩ : ∃ k, k = ckN n := ⟨_, rfl⟩
  obtain ⟨R, hR⟩ : ∃ R, R = qcheck n t cl := ⟨_, rfl⟩
  rw [← hR]
  have HR := Lib.hid (And.intro hk hR)
  clear hR
  by_cases h0 : k = 0
  · have hc : R = if 0 ≤ t ∧ t ≤ 65535 ∧ 0 ≤ cl ∧ cl ≤ 65535 then 0 else 2 := by
      rw [HR.out.2]
      unfold qcheck
      rw [if_neg (by simp [← hk, h0])]
    have HC := Lib.hid hc
    have HK := Lib.hid (hk.symm.trans h0)
    clear hc h0 hk
    go_enter Try.func64, Try.ntmps64
    go_wp2_with fail
    refine (ncheck_any n _).mono ?_
    rintro e w1 ⟨rfl, m, rfl⟩
    rw [HK.out]
    go_wp2_with fail
    all_goals
      go_ret
      refine ⟨ret_int ?_, (Fr.refl _ _).drewN _⟩
      rw [HC.out]
      split <;> first | rfl | (exfalso; omega) | (exfalso; split at * <;> omega) | (exfalso; simp only [decide_eq_true_eq, decide_eq_false_iff_not] at *; split at * <;> omega)
  · have hne : (k != 0) = true := by simp [h0]
    have hr : R = k := by
      rw [HR.out.2]
      unfold qcheck
      rw [if_pos (by rw [← hk]; exact h0), hk]
    have HRK := Lib.hid hr
    have HK := Lib.hid hk
    clear hk h0 hr
    go_enter Try.func64, Try.ntmps64
    go_wp2_with fail
    refine (ncheck_any n _).mono ?_
    rintro e w1 ⟨rfl, m, rfl⟩
    rw [← HK.out]
    go_wp2_with fail
    go_ret
    exact ⟨ret_int HRK.out.symm, (Fr.refl _ _).drewN _⟩

set_option maxRecDepth 100000 in
set_option maxHeartbeats 2000000 in
theorem qcheck_any (n : ByteArray) (t cl : Int) (w : World) :
    Calls Try.prog 45 #[.agg #[.string n, .int .i64 t, .int .i64 cl]] w (IntPost w (qcheck n t cl)) := by
  have hf : Fr (fun _ => False) w (w.alloc (.cells #[.string n, .int .i64 t, .int .i64 cl] 25)) := (Fr.refl _ _).alloc _
  have H := Lib.hid hf
  clear hf
  obtain ⟨R, hR⟩ : ∃ R, R = qcheck n t cl := ⟨_, rfl⟩
  rw [← hR]
  have HR := Lib.hid hR
  clear hR
  go_enter Try.func45, Try.ntmps45
  go_wp2_with fail
  refine (may_10 n t cl _).mono ?_
  rintro e w1 ⟨rfl, f1⟩
  rw [← HR.out]
  have HF := Lib.hid (H.out.then f1)
  clear f1
  go_wp2_with fail
  go_ret
  exact ⟨rfl, HF.out⟩

end Go.Proofs.Ytncfdfgcnblicaa

/-
  LAYER 10: Put, PutQuestion.
-/
namespace Go.Proofs.Ytncfdfgcnblicaa
set_option linter.unusedVariables false
set_option linter.unusedSimpArgs false
open Go.RowKit

theorem headP_fit {y : Pk} (h : y.fit) (n : ByteArray) (t cl : Int) : (headP y n t cl).fit := ((h.nameB false n).num _ _).num _ _
theorem chain2 {F F1 F2 : Nat → Prop} {a b c : World} (h1 : Fr F a b) (g1 : ∀ k, F1 k → F k ∨ a.heap.size ≤ k) (h2 : Fr F1 b c) (g2 : ∀ k, F2 k → F1 k ∨ b.heap.size ≤ k) : Fr F a c ∧ ∀ k, F2 k → F k ∨ a.heap.size ≤ k :=
  ⟨h1.trans h2 fun i hi h => (g1 i h).resolve_right (by omega), fun k hk => (g2 k hk).elim (g1 k) fun h => .inr (Nat.le_trans h1.size h)⟩

/-- What PutQuestion leaves and tells. -/
def qputR (y : Pk) (n : ByteArray) (t cl : Int) : Pk × Int := if qcheck n t cl ≠ 0 then (y, qcheck n t cl) else (headP y n t cl, (headP y n t cl).x.e)
/-- What Put leaves and tells. -/
def rputR (y : Pk) (r : Rcd) : Pk × Int :=
  if rcheckB r ≠ 0 then (y, rcheckB r)
  else if (rc0P y r).x.e ≠ 0 then (rc0P y r, (rc0P y r).x.e)
  else (⟨((rc0P y r).x.patch (((headP y r.name r.t r.cl).numP (r.ttl : Nat) 4).x.b.length : Nat) (((rc0P y r).x.b.length - ((headP y r.name r.t r.cl).numP (r.ttl : Nat) 4).x.b.length - 2 : Nat) : Int) 2).1, (rc0P y r).get⟩, ((rc0P y r).x.patch (((headP y r.name r.t r.cl).numP (r.ttl : Nat) 4).x.b.length : Nat) (((rc0P y r).x.b.length - ((headP y r.name r.t r.cl).numP (r.ttl : Nat) 4).x.b.length - 2 : Nat) : Int) 2).2)
theorem numP_err {y : Pk} {v n : Int} (h : y.x.e ≠ 0) : y.numP v n = y := by
  unfold Pk.numP
  rw [Wst.number_err h]
theorem putP_err {y : Pk} {l : List UInt8} (h : y.x.e ≠ 0) : y.putP l = y := by
  unfold Pk.putP
  rw [Wst.put_err h]
theorem numsP_err {d : Dt} {wide : Nat} : ∀ (k j : Nat) {y : Pk}, y.x.e ≠ 0 → y.numsP d wide j k = y
  | 0, _, _, _ => rfl
  | k + 1, j, y, h => by
    show (y.numP _ _).numsP d wide (j + 1) k = y
    rw [numP_err h]
    exact numsP_err k (j + 1) h
theorem textsP_err : ∀ (l : List ByteArray) {y : Pk}, y.x.e ≠ 0 → y.textsP l = y
  | [], _, _ => rfl
  | x :: r, y, h => by
    show ((y.numP _ _).putP _).textsP r = y
    rw [numP_err h, putP_err h]
    exact textsP_err r h
theorem nameB_err {y : Pk} {p : Bool} {n : ByteArray} (h0 : y.x.e ≠ 0) : y.nameB p n = y := by
  cases p
  · show (y.name n).1 = y
    unfold Pk.name
    rw [if_pos h0]
  · show (y.plain n).1 = y
    unfold Pk.plain
    rw [if_pos h0]
/-- An error stays. -/
theorem dput_err {y : Pk} {w : Wh} {d : Dt} (h : y.x.e ≠ 0) : dputP y w d = y := by
  unfold dputP
  simp only [putP_err h, numsP_err _ _ h, nameB_err h, textsP_err _ h, ite_self]
theorem stay_num {y : Pk} {v n : Int} (h : (y.numP v n).x.e = 0) : y.x.e = 0 := by
  apply Classical.byContradiction
  intro h0
  rw [numP_err h0] at h
  exact h0 h
theorem stay_dput {y : Pk} {w : Wh} {d : Dt} (h : (dputP y w d).x.e = 0) : y.x.e = 0 := by
  apply Classical.byContradiction
  intro h0
  rw [dput_err h0] at h
  exact h0 h

/-- What stands never shrinks. -/
theorem ge_put (y : Pk) (l : List UInt8) : y.x.b.length ≤ (y.putP l).x.b.length := put_ge _ _
theorem ge_num (y : Pk) (v n : Int) : y.x.b.length ≤ (y.numP v n).x.b.length := number_ge _ _ _
theorem ge_rest : ∀ (n : List UInt8) (y : Pk), y.x.b.length ≤ (y.rest n).1.x.b.length := by
  intro n
  generalize hk : n.length = k
  induction k using Nat.strongRecOn generalizing n with
  | _ k ih =>
    intro y
    by_cases hn : n = []
    · subst hn
      rw [Pk.rest_nil]
      exact put_ge _ _
    · have hp : 0 < n.length := List.length_pos_iff.2 hn
      cases hg : y.get n with
      | some a =>
        rw [Pk.rest_some hn hg]
        exact number_ge _ _ _
      | none =>
        by_cases h0 : (y.x.put (n.take (1 + oc n 0))).2 = 0
        · rw [Pk.rest_go hn hg h0]
          refine Nat.le_trans (put_ge y.x (n.take (1 + oc n 0))) ?_
          have := ih (n.drop (1 + oc n 0)).length (by rw [List.length_drop]; omega) (n.drop (1 + oc n 0)) rfl ⟨(y.x.put (n.take (1 + oc n 0))).1, updAt y.get n y.x.b.length⟩
          exact this
        · rw [Pk.rest_stop hn hg h0]
          exact put_ge _ _
theorem ge_nameB (y : Pk) (p : Bool) (n : ByteArray) : y.x.b.length ≤ (y.nameB p n).x.b.length := by
  cases p
  · show _ ≤ (y.name n).1.x.b.length
    unfold Pk.name
    split
    · exact Nat.le_refl _
    · split
      · exact Nat.le_refl _
      · exact ge_rest _ _
  · show _ ≤ (y.plain n).1.x.b.length
    unfold Pk.plain
    split
    · exact Nat.le_refl _
    · split
      · exact Nat.le_refl _
      · exact put_ge _ _
theorem ge_nums (d : Dt) (wide : Nat) : ∀ (k j : Nat) (y : Pk), y.x.b.length ≤ (y.numsP d wide j k).x.b.length
  | 0, _, _ => Nat.le_refl _
  | k + 1, j, y => Nat.le_trans (ge_num y _ _) (ge_nums d wide k (j + 1) _)
theorem ge_texts : ∀ (l : List ByteArray) (y : Pk), y.x.b.length ≤ (y.textsP l).x.b.length
  | [], _ => Nat.le_refl _
  | _ :: r, y => Nat.le_trans (ge_num y _ _) (Nat.le_trans (ge_put _ _) (ge_texts r _))
theorem ge_dput (y : Pk) (w : Wh) (d : Dt) : y.x.b.length ≤ (dputP y w d).x.b.length := by
  unfold dputP
  dsimp only
  refine Nat.le_trans ?_ (Nat.le_trans (ge_texts _ _) (ge_put _ _))
  have h4 : y.x.b.length ≤ (if 0 < w.addr then y.putP (addrL d w) else y).x.b.length := by
    split
    · exact ge_put _ _
    · exact Nat.le_refl _
  generalize (if 0 < w.addr then y.putP (addrL d w) else y) = y1 at *
  have h3 : y1.x.b.length ≤ (if w.first = true then y1.numsP d w.wide 0 w.nums else y1).x.b.length := by
    split
    · exact ge_nums _ _ _ _ _
    · exact Nat.le_refl _
  generalize (if w.first = true then y1.numsP d w.wide 0 w.nums else y1) = y2 at *
  have h2 : y2.x.b.length ≤ (if 1 ≤ w.names then y2.nameB w.plain d.name else y2).x.b.length := by
    split
    · exact ge_nameB _ _ _
    · exact Nat.le_refl _
  generalize (if 1 ≤ w.names then y2.nameB w.plain d.name else y2) = y3 at *
  have h1 : y3.x.b.length ≤ (if 2 ≤ w.names then y3.nameB w.plain d.mail else y3).x.b.length := by
    split
    · exact ge_nameB _ _ _
    · exact Nat.le_refl _
  generalize (if 2 ≤ w.names then y3.nameB w.plain d.mail else y3) = y4 at *
  have h0 : y4.x.b.length ≤ (if w.first = true then y4 else y4.numsP d w.wide 0 w.nums).x.b.length := by
    split
    · exact Nat.le_refl _
    · exact ge_nums _ _ _ _ _
  omega
theorem fit_dput {y : Pk} (h : y.fit) (w : Wh) (d : Dt) : (dputP y w d).fit := by
  unfold dputP
  dsimp only
  refine Pk.fit.put (Pk.fit.texts _ ?_) _
  have h4 : (if 0 < w.addr then y.putP (addrL d w) else y).fit := by
    split
    · exact h.put _
    · exact h
  generalize (if 0 < w.addr then y.putP (addrL d w) else y) = y1 at *
  have h3 : (if w.first = true then y1.numsP d w.wide 0 w.nums else y1).fit := by
    split
    · exact Pk.fit.nums _ _ _ _ h4
    · exact h4
  generalize (if w.first = true then y1.numsP d w.wide 0 w.nums else y1) = y2 at *
  have h2 : (if 1 ≤ w.names then y2.nameB w.plain d.name else y2).fit := by
    split
    · exact h3.nameB _ _
    · exact h3
  generalize (if 1 ≤ w.names then y2.nameB w.plain d.name else y2) = y3 at *
  have h1 : (if 2 ≤ w.names then y3.nameB w.plain d.mail else y3).fit := by
    split
    · exact h2.nameB _ _
    · exact h2
  generalize (if 2 ≤ w.names then y3.nameB w.plain d.mail else y3) = y4 at *
  split
  · exact h1
  · exact Pk.fit.nums _ _ _ _ h1
theorem number_e0 (x : Wst) : (x.number 0 2).2 = (x.number 0 2).1.e := by
  unfold Wst.number
  split
  · rfl
  · rename_i h
    rw [if_pos (by decide)]
    unfold Wst.put
    split
    · rfl
    · split
      · rfl
      · exact (Classical.not_not.1 h).symm
theorem number_len0 (x : Wst) (h : (x.number 0 2).2 = 0) : (x.number 0 2).1.b.length = x.b.length + 2 := by
  unfold Wst.number at h ⊢
  split at h
  · exact absurd h (by assumption)
  · rename_i h0
    rw [if_neg h0, if_pos (by decide)]
    rw [if_pos (by decide)] at h
    unfold Wst.put at h ⊢
    rw [if_neg h0] at h ⊢
    split at h
    · cases h
    · rename_i h1
      rw [if_neg h1]
      dsimp only
      rw [List.length_append, octs_length]
      rfl

end Go.Proofs.Ytncfdfgcnblicaa

/-
  LAYER 10: Same, SameQuestion, Size.
-/
namespace Go.Proofs.Ytncfdfgcnblicaa
set_option linter.unusedVariables false
set_option linter.unusedSimpArgs false
open Go.RowKit

/-! ### cmp.Compare, cmp.Or -/
def cmpS (x y : ByteArray) : Int := if Op.bytesLess x.toList y.toList = true then -1 else if (!x.toList == y.toList) = true then 1 else 0
theorem bytesLess_self : ∀ l : List UInt8, Op.bytesLess l l = false
  | [] => rfl
  | a :: l => by
    have := bytesLess_self l
    simp [Op.bytesLess, this]
theorem cmpS_eq (x y : ByteArray) : cmpS x y = 0 ↔ x = y := by
  unfold cmpS
  constructor
  · intro h
    split at h
    · cases h
    · split at h
      · cases h
      · rename_i h2
        have h3 : (x.toList == y.toList) = true := by simpa using h2
        rw [beq_iff_eq, ByteArray.toList_eq, ByteArray.toList_eq] at h3
        exact ByteArray.ext (Array.ext' h3)
  · rintro rfl
    rw [if_neg (by rw [bytesLess_self]; decide), if_neg (by simp)]
theorem cmp0 (x y : Int) : (if x < y then (-1 : Int) else if y < x then 1 else 0) = 0 ↔ x = y := by
  split
  · omega
  · split <;> omega
/-! ### Questions compared -/
def qLits (n : ByteArray) (t c : Int) : List Lit := [.string n.data.toList, .int .i64 t, .int .i64 c]
theorem wf_i64' {n : Int} (h : -9223372036854775808 ≤ n ∧ n ≤ 9223372036854775807) : (Lit.int .i64 n).wf = true := by
  simp [Lit.wf, IntKind.min, IntKind.max, IntKind.signed, IntKind.bits]
  omega
def i64ok (n : Int) : Prop := -9223372036854775808 ≤ n ∧ n ≤ 9223372036854775807
theorem q_keyLits (n : ByteArray) (t c : Int) (h0 : n.size ≤ maxLen) (h1 : i64ok t) (h2 : i64ok c) : Try.prog.keyLits 3 25 (Value.agg #[.string n, .int .i64 t, .int .i64 c]).cells.toList = some (qLits n t c) := by
  have w1 := wf_i64' h1
  have w2 := wf_i64' h2
  have hc : Try.prog.cellsOf 25 = 3 := by kernel_rfl
  have c1 : Try.prog.cellsOf 23 = 1 := by kernel_rfl
  have c64 : Try.prog.cellsOf 3 = 1 := by kernel_rfl
  simp [h0, Program.keyLits, Try.underlying25, Try.underlying23, Try.underlying3, hc, c1, c64, w1, w2, Value.cells, qLits, List.range_succ]
theorem q_formed (n : ByteArray) (t c : Int) : (Value.agg #[.string n, .int .i64 t, .int .i64 c]).formed Try.prog 25 = true := by kernel_rfl
def qsameB (n m : ByteArray) (t u c d : Int) : Bool := decide (n.data.toList = m.data.toList ∧ t = u ∧ c = d)
theorem qsameB_iff {n m : ByteArray} {t u c d : Int} : qsameB n m t u c d = true ↔ n = m ∧ t = u ∧ c = d := by
  unfold qsameB
  rw [decide_eq_true_eq]
  exact and_congr_left fun _ => ⟨fun h => ByteArray.ext (Array.ext' h), fun h => by rw [h]⟩
theorem q_eql (n m : ByteArray) (t u c d : Int) (g1 : n.size ≤ maxLen) (g2 : m.size ≤ maxLen) (h1 : i64ok t) (h2 : i64ok u) (h3 : i64ok c) (h4 : i64ok d) (w : World) :
    (Go.binOp .eql 25 (.agg #[.string n, .int .i64 t, .int .i64 c]) (.agg #[.string m, .int .i64 u, .int .i64 d])).run Try.prog w = .ok (.bool (qsameB n m t u c d)) w := by
  obtain ⟨r, hr, hiff⟩ := run_equalIn_deep (P := Try.prog) 9997 3 25 (by kernel_rfl) w 3 3 _ _ _ _ (q_formed n t c) (q_formed m u d) (q_keyLits n t c g1 h1 h3) (q_keyLits m u d g2 h2 h4)
  have e : r = qsameB n m t u c d := by
    rw [Bool.eq_iff_iff, hiff]
    unfold qsameB
    rw [decide_eq_true_eq]
    simp [qLits]
  rw [run_eql_struct, hr, ← e]
  rfl
/-! ### Records compared -/
def rsameB (a b : Rcd) : Bool := decide (cmpS a.name b.name = 0 ∧ a.t = b.t ∧ a.cl = b.cl ∧ a.ttl = b.ttl) && sameB a.d b.d
theorem rsameB_iff (a b : Rcd) : rsameB a b = true ↔ a = b := by
  unfold rsameB
  rw [Bool.and_eq_true, decide_eq_true_eq, sameB_iff, cmpS_eq]
  cases a
  cases b
  simp [and_assoc]

def rsizeB (r : Rcd) : Int := if rcheckB r = 0 then (r.name.size : Int) + 11 + r.d.size (whatN r.t) else 0
end Go.Proofs.Ytncfdfgcnblicaa

/-
  LAYER 10, PLAIN: what Put and PutQuestion leave in a packer of 65,535 octets of room. No program.
-/
namespace Go.Proofs.Ytncfdfgcnblicaa
set_option linter.unusedVariables false
set_option linter.unusedSimpArgs false
open Go.RowKit

theorem qputR_good {y : Pk} {B : Nat} {n : ByteArray} {t cl : Int} (hu : UG y B) (hB : B + 300 ≤ 65535) :
    qputR y n t cl = if qcheck n t cl ≠ 0 then (y, qcheck n t cl) else (headB y n t cl, 0) := by
  unfold qputR
  by_cases hc : qcheck n t cl = 0
  · rw [if_neg (by simp [hc]), if_neg (by simp [hc])]
    have hr := Rm.head (Rm.self hu (by omega)) hu hc (by omega)
    have g := (headB_good hu t cl (qcheck_ok hc).1 (by omega)).1
    rw [hr.out g (by omega), g.e]
  · rw [if_pos hc, if_pos hc]
theorem rputR_good {y : Pk} {B : Nat} {r : Rcd} (hu : UG y B) (hr : r.ok) (hB : B + 1040 + r.d.light ≤ 65535) :
    rputR y r = (if r.check ≠ 0 then (y, r.check) else (rputB y r, 0)) ∧ (r.check = 0 → (rc0P y r).x.e = 0) := by
  have hsl := size_light r.t r.d
  unfold rputR
  rw [rcheckB_eq]
  by_cases hc : r.check = 0
  · obtain ⟨hq, hd⟩ := Rcd.check_ok hc
    obtain ⟨hn, ht, hcl⟩ := qcheck_ok hq
    have f4 : fitsB ((r.ttl : Nat) : Int) 4 = true := by
      simp only [fitsB, decide_eq_true_eq]
      refine ⟨by decide, by decide, ?_⟩
      show ((r.ttl : Nat) : Int) < 256 ^ 4
      have := hr.1
      omega
    have a1 := (headB_good hu r.t r.cl hn (by omega)).1
    have u2 := a1.put (octs r.ttl 4)
    rw [octs_length] at u2
    have hy2 : (headP y r.name r.t r.cl).numP (r.ttl : Nat) 4 = rc2 y r := ((Rm.head (Rm.self hu (by omega)) hu hq (by omega)).num a1.e f4).out u2 (by omega)
    rcases Rm.ended (Rm.self hu (by omega)) hu hr hc (by omega) with ⟨h1, _⟩ | ⟨h1, h2, h3, h4, h5, h6⟩
    · have := (rput_facts hu hr hc (by omega)).2.1.len
      omega
    · refine ⟨?_, fun _ => h2⟩
      have hg := (rput_facts hu hr hc (by omega)).2.1
      rw [if_neg (by simp [hc]), if_neg (by simp [h2]), if_neg (by simp [hc]), hy2, h3, h5, h6]
      dsimp only
      rw [show Pk.mk { (rputB y r).x with most := ((65535 : Nat) : Int) } (rputB y r).get = rputB y r from hg.self]
  · exact ⟨by rw [if_pos hc, if_pos hc], fun h => absurd h hc⟩
theorem rputB_good {y : Pk} {B : Nat} {r : Rcd} (hu : UG y B) (hr : r.ok) (hB : B + 1040 + r.d.light ≤ 65535) (hc : r.check = 0) : UG (rputB y r) (rputB y r).x.b.length ∧ (rputB y r).x.b.length ≤ y.x.b.length + r.name.size + 11 + r.d.size (whatN r.t) := by
  have hsl := size_light r.t r.d
  obtain ⟨_, h2, _, _, _, _, h7, _⟩ := rput_facts hu hr hc (by omega)
  exact ⟨h2.exact, h7⟩
end Go.Proofs.Ytncfdfgcnblicaa

/-
  RECORDS, QUESTIONS THAT CAME IN, OPENED.
-/
namespace Go.Proofs.Ytncfdfgcnblicaa
set_option linter.unusedVariables false
set_option linter.unusedSimpArgs false
set_option linter.constructorNameAsVariable false
open Go.ChangeShapes Go.WideShapes Go.ChangeAt Go.RowKit Go.Deep

/-- A question as a value. -/
def qval (q : Qn) : Value := .agg #[.string q.1, .int .i64 q.2.1, .int .i64 q.2.2]
def i64k (n : Int) : Prop := -9223372036854775808 ≤ n ∧ n ≤ 9223372036854775807
def QOk (q : Qn) : Prop := q.1.size ≤ 1048576 ∧ i64k q.2.1 ∧ i64k q.2.2
theorem three_c {α : Type} : ∀ l : List α, l.length = 3 → ∃ e0 e1 e2, l = [e0, e1, e2]
  | [e0, e1, e2], _ => ⟨e0, e1, e2, rfl⟩
theorem sixteen_c {α : Type} : ∀ l : List α, l.length = 16 → ∃ e0 e1 e2 e3 e4 e5 e6 e7 e8 e9 e10 e11 e12 e13 e14 e15, l = [e0, e1, e2, e3, e4, e5, e6, e7, e8, e9, e10, e11, e12, e13, e14, e15]
  | [e0, e1, e2, e3, e4, e5, e6, e7, e8, e9, e10, e11, e12, e13, e14, e15], _ => ⟨e0, e1, e2, e3, e4, e5, e6, e7, e8, e9, e10, e11, e12, e13, e14, e15, rfl⟩
section
variable {W : World} {H : Type} {enc : TypeId × Value → H} {fuel : Nat} {cs : List Value} {x : DataW H × List MemPlace}
set_option maxRecDepth 100000 in
theorem open_question_c (hf : DataW.trod enc Try.prog W 0 (fun _ => true) true fuel 25 cs = some x) :
    ∃ q : Qn, cs = [.string q.1, .int .i64 q.2.1, .int .i64 q.2.2] ∧ q.1.size < Rows.uptoBulk x.1 ∧ i64k q.2.1 ∧ i64k q.2.2 := by
  obtain ⟨ys, n, _, hxx, hl, hyl, hff⟩ := DataW.trod_struct Try.underlying25 hf
  have hc : Try.prog.cellsOf 25 = 3 := by kernel_rfl
  have cN : Try.prog.cellsOf 23 = 1 := by kernel_rfl
  have cI : Try.prog.cellsOf 3 = 1 := by kernel_rfl
  rw [hc] at hl
  change ys.length = 3 at hyl
  obtain ⟨e0, e1, e2, hcs⟩ := three_c _ hl
  rw [hcs] at hff
  have t0 : DataW.trod enc Try.prog W 0 (fun _ => true) true n 23 (([e0, e1, e2].drop 0).take (Try.prog.cellsOf 23)) = ys[0]? := hff 0 _ rfl
  rw [cN, List.getElem?_eq_getElem (by omega : 0 < ys.length)] at t0
  obtain ⟨s, q0, r0⟩ := open_str_c Try.underlying23 t0
  have t1 : DataW.trod enc Try.prog W 0 (fun _ => true) true n 3 (([e0, e1, e2].drop 1).take (Try.prog.cellsOf 3)) = ys[1]? := hff 1 _ rfl
  rw [cI, List.getElem?_eq_getElem (by omega : 1 < ys.length)] at t1
  obtain ⟨n1, q1, _, w1⟩ := DataW.trod_int Try.underlying3 t1
  have t2 : DataW.trod enc Try.prog W 0 (fun _ => true) true n 3 (([e0, e1, e2].drop 2).take (Try.prog.cellsOf 3)) = ys[2]? := hff 2 _ rfl
  rw [cI, List.getElem?_eq_getElem (by omega : 2 < ys.length)] at t2
  obtain ⟨n2, q2, _, w2⟩ := DataW.trod_int Try.underlying3 t2
  simp only [List.drop_succ_cons, List.drop_zero, List.take_succ_cons, List.take_zero, List.cons.injEq, and_true] at q0 q1 q2
  try simp at q0
  try simp at q1
  try simp at q2
  subst q0 q1 q2
  refine ⟨(s, n1, n2), hcs, ?_, bounds_i64 w1, bounds_i64 w2⟩
  subst hxx
  obtain ⟨a0, a1, a2, rfl⟩ := three_c _ hyl
  simp only [List.getElem_cons_zero] at r0
  simp only [List.map_cons, List.map_nil, Rows.uptoBulk, Rows.uptoBulkAll]
  omega
set_option maxRecDepth 100000 in
theorem open_record_c (hf : DataW.trod enc Try.prog W 0 (fun _ => true) true fuel 63 cs = some x) :
    ∃ (r : Rcd) (A : Option Addr) (cap : Nat), cs = (r.cells (.slice A r.d.texts.length cap)).toList ∧ r.ok ∧ i64k r.t ∧ i64k r.cl ∧ Strs W A r.d.texts ∧ r.name.size + r.d.light < Rows.uptoBulk x.1 := by
  obtain ⟨ys, n, _, hxx, hl, hyl, hff⟩ := DataW.trod_struct Try.underlying63 hf
  have hc : Try.prog.cellsOf 63 = 16 := by kernel_rfl
  have cN : Try.prog.cellsOf 23 = 1 := by kernel_rfl
  have cI : Try.prog.cellsOf 3 = 1 := by kernel_rfl
  have cU : Try.prog.cellsOf 54 = 1 := by kernel_rfl
  have cD : Try.prog.cellsOf 61 = 12 := by kernel_rfl
  rw [hc] at hl
  change ys.length = 5 at hyl
  obtain ⟨e0, e1, e2, e3, e4, e5, e6, e7, e8, e9, e10, e11, e12, e13, e14, e15, hcs⟩ := sixteen_c _ hl
  rw [hcs] at hff
  have t0 : DataW.trod enc Try.prog W 0 (fun _ => true) true n 23 (([e0, e1, e2, e3, e4, e5, e6, e7, e8, e9, e10, e11, e12, e13, e14, e15].drop 0).take (Try.prog.cellsOf 23)) = ys[0]? := hff 0 _ rfl
  rw [cN, List.getElem?_eq_getElem (by omega : 0 < ys.length)] at t0
  obtain ⟨s, q0, r0⟩ := open_str_c Try.underlying23 t0
  have t1 : DataW.trod enc Try.prog W 0 (fun _ => true) true n 3 (([e0, e1, e2, e3, e4, e5, e6, e7, e8, e9, e10, e11, e12, e13, e14, e15].drop 1).take (Try.prog.cellsOf 3)) = ys[1]? := hff 1 _ rfl
  rw [cI, List.getElem?_eq_getElem (by omega : 1 < ys.length)] at t1
  obtain ⟨n1, q1, _, w1⟩ := DataW.trod_int Try.underlying3 t1
  have t2 : DataW.trod enc Try.prog W 0 (fun _ => true) true n 3 (([e0, e1, e2, e3, e4, e5, e6, e7, e8, e9, e10, e11, e12, e13, e14, e15].drop 2).take (Try.prog.cellsOf 3)) = ys[2]? := hff 2 _ rfl
  rw [cI, List.getElem?_eq_getElem (by omega : 2 < ys.length)] at t2
  obtain ⟨n2, q2, _, w2⟩ := DataW.trod_int Try.underlying3 t2
  have t3 : DataW.trod enc Try.prog W 0 (fun _ => true) true n 54 (([e0, e1, e2, e3, e4, e5, e6, e7, e8, e9, e10, e11, e12, e13, e14, e15].drop 3).take (Try.prog.cellsOf 54)) = ys[3]? := hff 3 _ rfl
  rw [cU, List.getElem?_eq_getElem (by omega : 3 < ys.length)] at t3
  obtain ⟨n3, q3, _, w3⟩ := DataW.trod_int Try.underlying54 t3
  have b3 := bounds_u32 w3
  have t4 : DataW.trod enc Try.prog W 0 (fun _ => true) true n 61 (([e0, e1, e2, e3, e4, e5, e6, e7, e8, e9, e10, e11, e12, e13, e14, e15].drop 4).take (Try.prog.cellsOf 61)) = ys[4]? := hff 4 _ rfl
  rw [cD, List.getElem?_eq_getElem (by omega : 4 < ys.length)] at t4
  obtain ⟨d, A, cap, q4, o4, s4, l4⟩ := open_data_c t4
  unfold Dt.cells at q4
  simp only [List.drop_succ_cons, List.drop_zero, List.take_succ_cons, List.take_zero, List.cons.injEq, and_true] at q0 q1 q2 q3 q4
  try simp at q0
  try simp at q1
  try simp at q2
  try simp at q3
  obtain ⟨rfl, rfl, rfl, rfl, rfl, rfl, rfl, rfl, rfl, rfl, rfl, rfl⟩ := q4
  subst q0 q1 q2 q3
  obtain ⟨n3, rfl⟩ : ∃ k : Nat, n3 = k := ⟨n3.toNat, by omega⟩
  refine ⟨⟨s, n1, n2, n3, d⟩, A, cap, hcs, ⟨by show n3 < _; omega, o4⟩, bounds_i64 w1, bounds_i64 w2, s4, ?_⟩
  subst hxx
  obtain ⟨a0, a1, a2, a3, a4, rfl⟩ : ∃ a0 a1 a2 a3 a4, ys = [a0, a1, a2, a3, a4] := by
    match ys, hyl with
    | [a0, a1, a2, a3, a4], _ => exact ⟨a0, a1, a2, a3, a4, rfl⟩
  simp only [List.getElem_cons_succ, List.getElem_cons_zero] at r0 l4
  simp only [List.map_cons, List.map_nil, Rows.uptoBulk, Rows.uptoBulkAll]
  show s.size + d.light < _
  omega
end
theorem rec_in {W : World} {A : Option Addr} {r : Rcd} (h1 : r.ok) (h2 : i64k r.t) (h3 : i64k r.cl) (h4 : Strs W A r.d.texts) (h5 : r.d.light ≤ 1048576) : RcIn W A r := ⟨light_in h1.2 h4 h5, h2, h3, h1.1⟩
set_option maxRecDepth 100000 in
theorem open_question {W : World} {H : Type} {enc : TypeId × Value → H} {v : Value} {base : Nat} {d : DataW H} {p : List MemPlace}
    (hv : Value.okWide Try.prog W .any base 25 v) (h : DataW.Trod enc Try.prog W 0 (fun _ => true) true 25 v d p) (hb : Rows.uptoBulk d ≤ 1048576) : ∃ q : Qn, v = qval q ∧ QOk q := by
  obtain ⟨cs, rfl, _⟩ := okWide_struct Try.underlying25 hv
  obtain ⟨fuel, hf⟩ := h
  obtain ⟨q, h1, h2, h3, h4⟩ := open_question_c hf
  dsimp only at h2
  refine ⟨q, ?_, by omega, h3, h4⟩
  have : cs.toList = _ := h1
  unfold qval
  exact congrArg Value.agg (Array.toList_inj.1 this)
set_option maxRecDepth 100000 in
theorem open_record {W : World} {H : Type} {enc : TypeId × Value → H} {v : Value} {base : Nat} {d : DataW H} {p : List MemPlace}
    (hv : Value.okWide Try.prog W .any base 63 v) (h : DataW.Trod enc Try.prog W 0 (fun _ => true) true 63 v d p) (hb : Rows.uptoBulk d ≤ 1048576) : ∃ (r : Rcd) (A : Option Addr) (cap : Nat), v = r.val (.slice A r.d.texts.length cap) ∧ RcIn W A r ∧ r.name.size + r.d.light ≤ 1048576 := by
  obtain ⟨cs, rfl, _⟩ := okWide_struct Try.underlying63 hv
  obtain ⟨fuel, hf⟩ := h
  obtain ⟨r, A, cap, h1, h2, h3, h4, h5, h6⟩ := open_record_c hf
  dsimp only at h6
  refine ⟨r, A, cap, ?_, rec_in h2 h3 h4 h5 (by omega), by omega⟩
  have : cs.toList = _ := h1
  unfold Rcd.val
  exact congrArg Value.agg (Array.toList_inj.1 this)
end Go.Proofs.Ytncfdfgcnblicaa

/-
  LAYER 10: Size; the chapter's example; is a record light.
-/
namespace Go.Proofs.Ytncfdfgcnblicaa
set_option linter.unusedVariables false
set_option linter.unusedSimpArgs false
open Go.RowKit

/-! ### The chapter's example -/
def live10 : Rcd := ⟨⟨#[1, 97, 1, 98]⟩, 1, 1, 5, live9D⟩
def l10a : Pk := ⟨⟨[], 99, 0⟩, fun _ => none⟩
theorem live10_in (w : World) : RcIn w none live10 := ⟨⟨(by decide : (0 : Nat) < 18446744073709551616), (by decide : (16909060 : Nat) < 18446744073709551616), fun i => by (match i with | 0 => decide | 1 => decide | 2 => decide | 3 => decide | n + 4 => exact (by decide : (0 : Nat) < 4294967296)), Strs.nil _ _, (by decide : (0 : Nat) ≤ 1000000000), (by decide : (0 : Nat) ≤ 1000000000000)⟩, (by decide : -9223372036854775808 ≤ (1 : Int) ∧ (1 : Int) ≤ 9223372036854775807), (by decide : -9223372036854775808 ≤ (1 : Int) ∧ (1 : Int) ≤ 9223372036854775807), (by decide : (5 : Nat) < 4294967296)⟩
theorem live9_check : dcheck 1 live9D = 0 := by
  refine dcheck_intro (by decide) ?_ ckE9 ckE9 (fun x hx => by cases hx) (by decide)
  refine ⟨fun _ => rfl, fun _ => rfl, fun _ => rfl, ⟨(fun h => by cases h), (fun h => absurd rfl h)⟩, (fun h => by cases h), fun _ => ⟨fun _ => ⟨rfl, by decide⟩, ⟨(fun h => by cases h), (fun h => by cases h)⟩⟩, fun i _ _ => ?_, (fun h => by cases h)⟩
  unfold Dt.num
  split <;> rfl
theorem live10_check : rcheckB live10 = 0 := by
  unfold rcheckB
  have hq : qcheck live10.name live10.t live10.cl = 0 := by
    unfold qcheck
    rw [if_neg (by rw [show ckN live10.name = 0 from ckAB9]; decide), if_pos (by decide)]
  rw [if_neg (by rw [hq]; decide), dcheckB_eq]
  exact live9_check
theorem live10_size : rsizeB live10 = 19 := by
  unfold rsizeB
  rw [if_pos live10_check]
  rfl
theorem live10_put : ∃ y, rputR l10a live10 = (y, 0) ∧ y.x.b = [1, 97, 1, 98, 0, 0, 1, 0, 1, 0, 0, 0, 5, 0, 4, 1, 2, 3, 4] ∧ (rc0P l10a live10).x.e = 0 := by
  have hn : l10a.name ⟨#[1, 97, 1, 98]⟩ = (live1, 0) := live1_eq
  have hnb : l10a.nameB false ⟨#[1, 97, 1, 98]⟩ = live1 := by
    show (l10a.name ⟨#[1, 97, 1, 98]⟩).1 = live1
    rw [hn]
  have hh : headP l10a live10.name live10.t live10.cl = (live1.numP 1 2).numP 1 2 := by
    show ((l10a.nameB false ⟨#[1, 97, 1, 98]⟩).numP 1 2).numP 1 2 = _
    rw [hnb]
  have h0 : rc0P l10a live10 = dputP ((((live1.numP 1 2).numP 1 2).numP 5 4).numP 0 2) (whatN 1) live9D := by
    unfold rc0P
    rw [hh]
    rfl
  have he : (rc0P l10a live10).x.e = 0 := by rw [h0]; kernel_rfl
  refine ⟨(rputR l10a live10).1, ?_, ?_, he⟩
  · have h2 : (rputR l10a live10).2 = 0 := by
      unfold rputR
      rw [if_neg (by rw [live10_check]; decide), if_neg (by rw [he]; decide), hh, h0]
      kernel_rfl
    rw [← h2]
  · unfold rputR
    rw [if_neg (by rw [live10_check]; decide), if_neg (by rw [he]; decide), hh, h0]
    kernel_rfl
/-- Is a record gone through? -/
def rlight (r : Rcd) : Bool := decide (r.name.size ≤ 400) && decide (r.d.light ≤ 2000)
end Go.Proofs.Ytncfdfgcnblicaa
