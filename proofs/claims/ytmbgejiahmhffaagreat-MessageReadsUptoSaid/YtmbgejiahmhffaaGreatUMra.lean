/-
  LAYER 11, PLAIN: what Read of a message tells. No program.
-/
import Derived.Test.YtmbgejiahmhffaaGreatUMsd
import Derived.Test.YtmbgejiahmhffaaGreatUunK
import Derived.Test.YtmbgejiahmhffaaGreatUHdb
namespace Go.Proofs.YtmbgejiahmhffaaGreat
open Go.RowKit
set_option linter.unusedVariables false

/-- n questions read, from a place on: what was read, where it ended, the first error. -/
def qaccN (s : ByteArray) (a : Int) : Nat → List Qn × Int × Int
  | 0 => ([], a, 0)
  | n + 1 =>
    if (qaccN s a n).2.2 ≠ 0 then qaccN s a n
    else if (qreadC s (qaccN s a n).2.1).2.2 ≠ 0 then ((qaccN s a n).1, (qreadC s (qaccN s a n).2.1).2.1, (qreadC s (qaccN s a n).2.1).2.2)
    else ((qaccN s a n).1 ++ [(qreadC s (qaccN s a n).2.1).1], (qreadC s (qaccN s a n).2.1).2.1, 0)
def raccN (s : ByteArray) (a : Int) : Nat → List Rcd × Int × Int
  | 0 => ([], a, 0)
  | n + 1 =>
    if (raccN s a n).2.2 ≠ 0 then raccN s a n
    else if (rreadC s (raccN s a n).2.1).2.2 ≠ 0 then ((raccN s a n).1, (rreadC s (raccN s a n).2.1).2.1, (rreadC s (raccN s a n).2.1).2.2)
    else ((raccN s a n).1 ++ [(rreadC s (raccN s a n).2.1).1], (rreadC s (raccN s a n).2.1).2.1, 0)
theorem qaccN_ok {s : ByteArray} {a : Int} {n : Nat} (h : (qaccN s a n).2.2 = 0) (h1 : (qreadC s (qaccN s a n).2.1).2.2 = 0) : qaccN s a (n + 1) = ((qaccN s a n).1 ++ [(qreadC s (qaccN s a n).2.1).1], (qreadC s (qaccN s a n).2.1).2.1, 0) := by
  show (if _ then _ else if _ then _ else _) = _
  rw [if_neg (by simp [h]), if_neg (by simp [h1])]
theorem qaccN_no {s : ByteArray} {a : Int} {n : Nat} (h : (qaccN s a n).2.2 = 0) (h1 : (qreadC s (qaccN s a n).2.1).2.2 ≠ 0) : (qaccN s a (n + 1)).2.2 = (qreadC s (qaccN s a n).2.1).2.2 := by
  show (if _ then _ else if _ then _ else _ : List Qn × Int × Int).2.2 = _
  rw [if_neg (by simp [h]), if_pos h1]
theorem qaccN_stay {s : ByteArray} {a : Int} {n : Nat} (h : (qaccN s a n).2.2 ≠ 0) : ∀ m, n ≤ m → qaccN s a m = qaccN s a n := fun m hm => by
  induction m with
  | zero => rw [show n = 0 by omega]
  | succ m ih =>
    rcases Nat.lt_or_ge m n with hlt | hge
    · rw [show n = m + 1 by omega]
    · have e := ih hge
      show (if _ then _ else if _ then _ else _) = _
      rw [if_pos (by rw [e]; exact h), e]
theorem raccN_ok {s : ByteArray} {a : Int} {n : Nat} (h : (raccN s a n).2.2 = 0) (h1 : (rreadC s (raccN s a n).2.1).2.2 = 0) : raccN s a (n + 1) = ((raccN s a n).1 ++ [(rreadC s (raccN s a n).2.1).1], (rreadC s (raccN s a n).2.1).2.1, 0) := by
  show (if _ then _ else if _ then _ else _) = _
  rw [if_neg (by simp [h]), if_neg (by simp [h1])]
theorem raccN_no {s : ByteArray} {a : Int} {n : Nat} (h : (raccN s a n).2.2 = 0) (h1 : (rreadC s (raccN s a n).2.1).2.2 ≠ 0) : (raccN s a (n + 1)).2.2 = (rreadC s (raccN s a n).2.1).2.2 := by
  show (if _ then _ else if _ then _ else _ : List Rcd × Int × Int).2.2 = _
  rw [if_neg (by simp [h]), if_pos h1]
theorem raccN_stay {s : ByteArray} {a : Int} {n : Nat} (h : (raccN s a n).2.2 ≠ 0) : ∀ m, n ≤ m → raccN s a m = raccN s a n := fun m hm => by
  induction m with
  | zero => rw [show n = 0 by omega]
  | succ m ih =>
    rcases Nat.lt_or_ge m n with hlt | hge
    · rw [show n = m + 1 by omega]
    · have e := ih hge
      show (if _ then _ else if _ then _ else _) = _
      rw [if_pos (by rw [e]; exact h), e]
/-- The four rows of what is read. -/
def mq (s : ByteArray) : List Qn × Int × Int := qaccN s 12 (readHd s).1.c0.toNat
def ma (s : ByteArray) : List Rcd × Int × Int := raccN s (mq s).2.1 (readHd s).1.c1.toNat
def mb (s : ByteArray) : List Rcd × Int × Int := raccN s (ma s).2.1 (readHd s).1.c2.toNat
def mc (s : ByteArray) : List Rcd × Int × Int := raccN s (mb s).2.1 (readHd s).1.c3.toNat
/-- The error that Read tells. -/
def mreadE (s : ByteArray) : Int :=
  if 65535 < s.size then 3 else if (readHd s).2 ≠ 0 then (readHd s).2 else if (mq s).2.2 ≠ 0 then (mq s).2.2 else if (ma s).2.2 ≠ 0 then (ma s).2.2
  else if (mb s).2.2 ≠ 0 then (mb s).2.2 else if (mc s).2.2 ≠ 0 then (mc s).2.2 else if (mc s).2.1 ≠ (s.size : Nat) then 4 else 0
def mreadM (s : ByteArray) : Ms := ⟨(readHd s).1, (mq s).1, (ma s).1, (mb s).1, (mc s).1⟩
theorem qaccN_len {s : ByteArray} {a : Int} : ∀ {n : Nat}, (qaccN s a n).2.2 = 0 → (qaccN s a n).1.length = n
  | 0, _ => rfl
  | n + 1, h => by
    by_cases h0 : (qaccN s a n).2.2 = 0
    · by_cases h1 : (qreadC s (qaccN s a n).2.1).2.2 = 0
      · rw [qaccN_ok h0 h1]
        simp [qaccN_len h0]
      · rw [qaccN_no h0 h1] at h
        exact absurd h h1
    · rw [qaccN_stay h0 (n + 1) (by omega)] at h
      exact absurd h h0
theorem raccN_len {s : ByteArray} {a : Int} : ∀ {n : Nat}, (raccN s a n).2.2 = 0 → (raccN s a n).1.length = n
  | 0, _ => rfl
  | n + 1, h => by
    by_cases h0 : (raccN s a n).2.2 = 0
    · by_cases h1 : (rreadC s (raccN s a n).2.1).2.2 = 0
      · rw [raccN_ok h0 h1]
        simp [raccN_len h0]
      · rw [raccN_no h0 h1] at h
        exact absurd h h1
    · rw [raccN_stay h0 (n + 1) (by omega)] at h
      exact absurd h h0
/-- What was put is read: the rows. -/
theorem qaccN_reads {s : ByteArray} : ∀ (l : List Qn) (p : List Qn) (a0 : Int) (a e : Nat), qaccN s a0 p.length = (p, ((a : Nat) : Int), 0) → QReads s.data.toList a l e → qaccN s a0 (p ++ l).length = (p ++ l, ((e : Nat) : Int), 0)
  | [], p, a0, a, e, h, hr => by
    have : a = e := hr
    subst this
    simpa using h
  | q :: l, p, a0, a, e, h, ⟨m, hr1, hr2⟩ => by
    have hq := qreadC_eq s (a : Nat)
    rw [hr1] at hq
    have h1 : qaccN s a0 (p ++ [q]).length = (p ++ [q], ((m : Nat) : Int), 0) := by
      rw [List.length_append, List.length_singleton, qaccN_ok (by rw [h]) (by rw [h, hq]), h, hq]
    have := qaccN_reads l (p ++ [q]) a0 m e h1 hr2
    simpa using this
theorem raccN_reads {s : ByteArray} : ∀ (l : List Rcd) (p : List Rcd) (a0 : Int) (a e : Nat), raccN s a0 p.length = (p, ((a : Nat) : Int), 0) → RReads s.data.toList a l e → raccN s a0 (p ++ l).length = (p ++ l, ((e : Nat) : Int), 0)
  | [], p, a0, a, e, h, hr => by
    have : a = e := hr
    subst this
    simpa using h
  | q :: l, p, a0, a, e, h, ⟨m, hr1, hr2⟩ => by
    have hq := rreadC_eq s (a : Nat)
    rw [hr1] at hq
    have h1 : raccN s a0 (p ++ [q]).length = (p ++ [q], ((m : Nat) : Int), 0) := by
      rw [List.length_append, List.length_singleton, raccN_ok (by rw [h]) (by rw [h, hq]), h, hq]
    have := raccN_reads l (p ++ [q]) a0 m e h1 hr2
    simpa using this
/-- Octets that are a message's are read as it. -/
theorem mread_reads {s : ByteArray} {m : Ms} (h : MReads s.data.toList m) (hc : m.cnt) (hs : s.size ≤ 65535) : mreadE s = 0 ∧ mreadM s = m := by
  obtain ⟨h1, a, b, c, hq, ha, hb, hcc⟩ := h
  have h1' : readHd s = (m.h, 0) := h1
  obtain ⟨c0, c1, c2, c3⟩ := hc
  have e0 : mq s = (m.qs, ((a : Nat) : Int), 0) := by
    unfold mq
    rw [h1', show (m.h, (0 : Int)).1.c0.toNat = m.qs.length by show m.h.c0.toNat = _; rw [c0]; rfl]
    have := qaccN_reads (s := s) m.qs [] 12 12 a rfl hq
    simpa using this
  have e1 : ma s = (m.an, ((b : Nat) : Int), 0) := by
    unfold ma
    rw [h1', e0, show (m.h, (0 : Int)).1.c1.toNat = m.an.length by show m.h.c1.toNat = _; rw [c1]; rfl]
    have := raccN_reads (s := s) m.an [] (a : Nat) a b rfl ha
    simpa using this
  have e2 : mb s = (m.au, ((c : Nat) : Int), 0) := by
    unfold mb
    rw [h1', e1, show (m.h, (0 : Int)).1.c2.toNat = m.au.length by show m.h.c2.toNat = _; rw [c2]; rfl]
    have := raccN_reads (s := s) m.au [] (b : Nat) b c rfl hb
    simpa using this
  have e3 : mc s = (m.mo, ((s.data.toList.length : Nat) : Int), 0) := by
    unfold mc
    rw [h1', e2, show (m.h, (0 : Int)).1.c3.toNat = m.mo.length by show m.h.c3.toNat = _; rw [c3]; rfl]
    have := raccN_reads (s := s) m.mo [] (c : Nat) c s.data.toList.length rfl hcc
    simpa using this
  constructor
  · unfold mreadE
    rw [if_neg (by omega), h1', e0, e1, e2, e3]
    have hl : s.data.toList.length = s.size := by rw [Array.length_toList]; rfl
    simp [hl]
  · unfold mreadM
    rw [h1', e0, e1, e2, e3]
end Go.Proofs.YtmbgejiahmhffaaGreat
