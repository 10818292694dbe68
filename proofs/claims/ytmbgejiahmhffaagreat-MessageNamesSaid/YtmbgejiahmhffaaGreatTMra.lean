/-
  LAYER 11, PLAIN: what Read of a message tells. No program.
-/
import Derived.Test.YtmbgejiahmhffaaGreatTMsd
import Derived.Test.YtmbgejiahmhffaaGreatTunJ
import Derived.Test.YtmbgejiahmhffaaGreatTHdb
namespace Go.Proofs.YtmbgejiahmhffaaGreat
open Go.RowKit
set_option linter.unusedVariables false

/-- n questions read, from a place on: what was read, where it ended, the first error. -/
def qaccN (s : ByteArray) (a : Int) : Nat → List Qn × Int × Int
  | 0 => ([], a, 0)
  | n + 1 =>
    if (qaccN s a n).2.2 ≠ 0 then qaccN s a n
    else if (qreadC s (qaccN s a n).2.1).2.2 ≠ 0 then ((qaccN s a n).1, (qreadC s (qaccN s a n).2.1).2.1, (qreadC s (qaccN s a n).2.1).2.2)
    else ((qaccN s a n).1 ++ [(qreadC s (qaccN s a n).2.1).1], (qreadC s (qaccN s a n).2.1).2.1, 0)
def raccN (s : ByteArray) (a : Int) : Nat → List Rcd × Int × Int
  | 0 => ([], a, 0)
  | n + 1 =>
    if (raccN s a n).2.2 ≠ 0 then raccN s a n
    else if (rreadC s (raccN s a n).2.1).2.2 ≠ 0 then ((raccN s a n).1, (rreadC s (raccN s a n).2.1).2.1, (rreadC s (raccN s a n).2.1).2.2)
    else ((raccN s a n).1 ++ [(rreadC s (raccN s a n).2.1).1], (rreadC s (raccN s a n).2.1).2.1, 0)
theorem qaccN_ok {s : ByteArray} {a : Int} {n : Nat} (h : (qaccN s a n).2.2 = 0) (h1 : (qreadC s (qaccN s a n).2.1).2.2 = 0) : qaccN s a (n + 1) = ((qaccN s a n).1 ++ [(qreadC s (qaccN s a n).2.1).1], (qreadC s (qaccN s a n).2.1).2.1, 0) := by
  show (if _ then _ else if _ then _ else _) = _
  rw [if_neg (by simp [h]), if_neg (by simp [h1])]
theorem qaccN_no {s : ByteArray} {a : Int} {n : Nat} (h : (qaccN s a n).2.2 = 0) (h1 : (qreadC s (qaccN s a n).2.1).2.2 ≠ 0) : (qaccN s a (n + 1)).2.2 = (qreadC s (qaccN s a n).2.1).2.2 := by
  show (if _ then _ else if _ then _ else _ : List Qn × Int × Int).2.2 = _
  rw [if_neg (by simp [h]), if_pos h1]
theorem qaccN_stay {s : ByteArray} {a : Int} {n : Nat} (h : (qaccN s a n).2.2 ≠ 0) : ∀ m, n ≤ m → qaccN s a m = qaccN s a n := fun m hm => by
  induction m with
  | zero => rw [show n = 0 by omega]
  | succ m ih =>
    rcases Nat.lt_or_ge m n with hlt | hge
    · rw [show n = m + 1 by omega]
    · have e := ih hge
      show (if _ then _ else if _ then _ else _) = _
      rw [if_pos (by rw [e]; exact h), e]
theorem raccN_ok {s : ByteArray} {a : Int} {n : Nat} (h : (raccN s a n).2.2 = 0) (h1 : (rreadC s (raccN s a n).2.1).2.2 = 0) : raccN s a (n + 1) = ((raccN s a n).1 ++ [(rreadC s (raccN s a n).2.1).1], (rreadC s (raccN s a n).2.1).2.1, 0) := by
  show (if _ then _ else if _ then _ else _) = _
  rw [if_neg (by simp [h]), if_neg (by simp [h1])]
theorem raccN_no {s : ByteArray} {a : Int} {n : Nat} (h : (raccN s a n).2.2 = 0) (h1 : (rreadC s (raccN s a n).2.1).2.2 ≠ 0) : (raccN s a (n + 1)).2.2 = (rreadC s (raccN s a n).2.1).2.2 := by
  show (if _ then _ else if _ then _ else _ : List Rcd × Int × Int).2.2 = _
  rw [if_neg (by simp [h]), if_pos h1]
theorem raccN_stay {s : ByteArray} {a : Int} {n : Nat} (h : (raccN s a n).2.2 ≠ 0) : ∀ m, n ≤ m → raccN s a m = raccN s a n := fun m hm => by
  induction m with
  | zero => rw [show n = 0 by omega]
  | succ m ih =>
    rcases Nat.lt_or_ge m n with hlt | hge
    · rw [show n = m + 1 by omega]
    · have e := ih hge
      show (if _ then _ else if _ then _ else _) = _
      rw [if_pos (by rw [e]; exact h), e]
/-- The four rows of what is read. -/
def mq (s : ByteArray) : List Qn × Int × Int := qaccN s 12 (readHd s).1.c0.toNat
def ma (s : ByteArray) : List Rcd × Int × Int := raccN s (mq s).2.1 (readHd s).1.c1.toNat
def mb (s : ByteArray) : List Rcd × Int × Int := raccN s (ma s).2.1 (readHd s).1.c2.toNat
def mc (s : ByteArray) : List Rcd × Int × Int := raccN s (mb s).2.1 (readHd s).1.c3.toNat
/-- The error that Read tells. -/
def mreadE (s : ByteArray) : Int :=
  if 65535 < s.size then 3 else if (readHd s).2 ≠ 0 then (readHd s).2 else if (mq s).2.2 ≠ 0 then (mq s).2.2 else if (ma s).2.2 ≠ 0 then (ma s).2.2
  else if (mb s).2.2 ≠ 0 then (mb s).2.2 else if (mc s).2.2 ≠ 0 then (mc s).2.2 else if (mc s).2.1 ≠ (s.size : Nat) then 4 else 0
def mreadM (s : ByteArray) : Ms := ⟨(readHd s).1, (mq s).1, (ma s).1, (mb s).1, (mc s).1⟩
theorem qaccN_len {s : ByteArray} {a : Int} : ∀ {n : Nat}, (qaccN s a n).2.2 = 0 → (qaccN s a n).1.length = n
  | 0, _ => rfl
  | n + 1, h => by
    by_cases h0 : (qaccN s a n).2.2 = 0
    · by_cases h1 : (qreadC s (qaccN s a n).2.1).2.2 = 0
      · rw [qaccN_ok h0 h1]
        simp [qaccN_len h0]
      · rw [qaccN_no h0 h1] at h
        exact absurd h h1
    · rw [qaccN_stay h0 (n + 1) (by omega)] at h
      exact absurd h h0
theorem raccN_len {s : ByteArray} {a : Int} : ∀ {n : Nat}, (raccN s a n).2.2 = 0 → (raccN s a n).1.length = n
  | 0, _ => rfl
  | n + 1, h => by
    by_cases h0 : (raccN s a n).2.2 = 0
    · by_cases h1 : (rreadC s (raccN s a n).2.1).2.2 = 0
      · rw [raccN_ok h0 h1]
        simp [raccN_len h0]
      · rw [raccN_no h0 h1] at h
        exact absurd h h1
    · rw [raccN_stay h0 (n + 1) (by omega)] at h
      exact absurd h h0
end Go.Proofs.YtmbgejiahmhffaaGreat
