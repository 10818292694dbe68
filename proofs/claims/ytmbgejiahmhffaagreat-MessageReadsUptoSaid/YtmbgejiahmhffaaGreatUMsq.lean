/-
  LAYER 11, PLAIN: a message that is put is read. No program.
-/
import Derived.Test.YtmbgejiahmhffaaGreatUunI
import Derived.Test.YtmbgejiahmhffaaGreatUHdrlaw
namespace Go.Proofs.YtmbgejiahmhffaaGreat
open Go.RowKit

structure Ms where
  h : Hd
  qs : List Qn
  an : List Rcd
  au : List Rcd
  mo : List Rcd
/-- May it be? -/
def Ms.fine (m : Ms) : Prop :=
  m.h.ok ∧ m.h.may = true ∧ (m.h.c0 = m.qs.length ∧ m.h.c1 = m.an.length ∧ m.h.c2 = m.au.length ∧ m.h.c3 = m.mo.length) ∧
  (∀ q ∈ m.qs, qcheck q.1 q.2.1 q.2.2 = 0) ∧ (∀ r ∈ m.an, r.ok ∧ r.check = 0) ∧ (∀ r ∈ m.au, r.ok ∧ r.check = 0) ∧ ∀ r ∈ m.mo, r.ok ∧ r.check = 0
def Ms.size (m : Ms) : Nat := 12 + qsum m.qs + rsum m.an + rsum m.au + rsum m.mo
def mhead (m : Ms) : Pk := ⟨⟨m.h.upto 4, 1000000, 0⟩, fun _ => none⟩
def mputB (m : Ms) : Pk := rputsB (rputsB (rputsB (qputsB (mhead m) m.qs) m.an) m.au) m.mo
/-- S is a message's octets. -/
def MReads (S : List UInt8) (m : Ms) : Prop :=
  readHd ⟨S.toArray⟩ = (m.h, 0) ∧ ∃ a b c : Nat, QReads S 12 m.qs a ∧ RReads S a m.an b ∧ RReads S b m.au c ∧ RReads S c m.mo S.length
theorem mput_reads {m : Ms} (hm : m.fine) (hs : m.size + 2000 ≤ 1000000) : MReads (mputB m).x.b m ∧ (mputB m).x.b.length ≤ m.size ∧ UGK 1000000 (mputB m) (mputB m).x.b.length := by
  obtain ⟨h1, h2, _, h4, h5, h6, h7⟩ := hm
  unfold Ms.size at hs ⊢
  have u0 : UGK 1000000 (mhead m) (mhead m).x.b.length := ⟨rfl, rfl, (fun _ _ h => by cases h), Nat.le_refl _⟩
  have l0 : (mhead m).x.b.length = 12 := m.h.upto_length 4
  obtain ⟨u1, ⟨T1, t1⟩, l1, r1⟩ := qputs_reads m.qs (mhead m) u0 h4 (by omega)
  obtain ⟨u2, ⟨T2, t2⟩, l2, r2⟩ := rputs_reads m.an _ u1 h5 (by omega)
  obtain ⟨u3, ⟨T3, t3⟩, l3, r3⟩ := rputs_reads m.au _ u2 h6 (by omega)
  obtain ⟨u4, ⟨T4, t4⟩, l4, r4⟩ := rputs_reads m.mo _ u3 h7 (by omega)
  have r1' := r1 (T2 ++ (T3 ++ T4))
  have r2' := r2 (T3 ++ T4)
  have r3' := r3 T4
  have r4' := r4 []
  rw [List.append_nil] at r4'
  rw [← t4] at r3'
  rw [← List.append_assoc, ← t3, ← t4] at r2'
  rw [← List.append_assoc, ← t2, ← List.append_assoc, ← t3, ← t4] at r1'
  rw [l0] at r1'
  refine ⟨⟨?_, _, _, _, r1', r2', r3', r4'⟩, by show (rputsB _ m.mo).x.b.length ≤ _; omega, u4⟩
  have hb : (mputB m).x.b = m.h.upto 4 ++ (T1 ++ (T2 ++ (T3 ++ T4))) := by
    show (rputsB _ m.mo).x.b = _
    rw [t4, t3, t2, t1]
    simp only [List.append_assoc]
    rfl
  have hp : m.h.put = ⟨(m.h.upto 4).toArray⟩ := by unfold Hd.put; rw [if_pos h2]
  have := read_put m.h h1 h2 ⟨(T1 ++ (T2 ++ (T3 ++ T4))).toArray⟩
  rw [hp] at this
  rw [hb]
  have e : (⟨(m.h.upto 4 ++ (T1 ++ (T2 ++ (T3 ++ T4)))).toArray⟩ : ByteArray) = (⟨(m.h.upto 4).toArray⟩ : ByteArray) ++ (⟨(T1 ++ (T2 ++ (T3 ++ T4))).toArray⟩ : ByteArray) := by
    apply arr_eq
    simp
  rw [e]
  exact this
end Go.Proofs.YtmbgejiahmhffaaGreat
