/-
  LAYER 11, PLAIN: what Check, Size, Put of a message tell. No program.
-/
import Derived.Test.YtmbgejiahmhffaaGreatUMsr
import Derived.Test.YtmbgejiahmhffaaGreatUunI
namespace Go.Proofs.YtmbgejiahmhffaaGreat
open Go.RowKit
set_option linter.unusedVariables false

/-- The first that is no nought. -/
def firstE : List Int → Int
  | [] => 0
  | x :: l => if x ≠ 0 then x else firstE l
theorem firstE_zero : ∀ {l : List Int}, firstE l = 0 ↔ ∀ x ∈ l, x = 0
  | [] => by simp [firstE]
  | x :: l => by
    unfold firstE
    by_cases h : x = 0
    · rw [if_neg (by simp [h]), firstE_zero]
      simp [h]
    · rw [if_pos h]
      exact ⟨fun e => absurd e h, fun e => absurd (e x (by simp)) h⟩
theorem firstE_app (a b : List Int) : firstE (a ++ b) = if firstE a ≠ 0 then firstE a else firstE b := by
  induction a with
  | nil => simp [firstE]
  | cons x a ih =>
    have e : ∀ l, firstE (x :: l) = if x ≠ 0 then x else firstE l := fun _ => rfl
    rw [List.cons_append]
    by_cases h : x = 0
    · have e1 : firstE (x :: (a ++ b)) = firstE (a ++ b) := by rw [e, if_neg (by simp [h])]
      have e2 : firstE (x :: a) = firstE a := by rw [e, if_neg (by simp [h])]
      rw [e1, e2, ih]
    · have e1 : firstE (x :: (a ++ b)) = x := by rw [e, if_pos h]
      have e2 : firstE (x :: a) = x := by rw [e, if_pos h]
      rw [e1, e2, if_pos h]
def qchk (q : Qn) : Int := qcheck q.1 q.2.1 q.2.2
def Ms.cnt (m : Ms) : Prop := m.h.c0 = m.qs.length ∧ m.h.c1 = m.an.length ∧ m.h.c2 = m.au.length ∧ m.h.c3 = m.mo.length
instance (m : Ms) : Decidable m.cnt := by unfold Ms.cnt; exact inferInstance
def mcheckB (m : Ms) : Int :=
  if m.h.check ≠ 0 then m.h.check else if ¬ m.cnt then 2 else firstE (m.qs.map qchk ++ (m.an.map rcheckB ++ (m.au.map rcheckB ++ m.mo.map rcheckB)))
theorem may_check (h : Hd) : h.check = 0 ↔ h.may = true := by
  unfold Hd.check
  by_cases hm : h.may = true
  · simp [hm]
  · have : h.may = false := by simpa using hm
    simp [this]
/-- What is known of a message that came in. -/
def Ms.light (m : Ms) : Prop := m.h.ok ∧ (∀ r ∈ m.an, r.ok) ∧ (∀ r ∈ m.au, r.ok) ∧ ∀ r ∈ m.mo, r.ok
theorem mcheck_fine {m : Ms} (hl : m.light) : mcheckB m = 0 ↔ m.fine := by
  obtain ⟨l1, l2, l3, l4⟩ := hl
  unfold mcheckB Ms.fine
  by_cases h1 : m.h.check = 0
  · rw [if_neg (by simp [h1])]
    by_cases h2 : m.cnt
    · rw [if_neg (by simp [h2]), firstE_zero]
      constructor
      · intro h
        refine ⟨l1, (may_check _).1 h1, h2, fun q hq => h _ ?_, fun r hr => ⟨l2 r hr, ?_⟩, fun r hr => ⟨l3 r hr, ?_⟩, fun r hr => ⟨l4 r hr, ?_⟩⟩
        · exact List.mem_append.2 (.inl (List.mem_map.2 ⟨q, hq, rfl⟩))
        · rw [← rcheckB_eq]; exact h _ (List.mem_append.2 (.inr (List.mem_append.2 (.inl (List.mem_map.2 ⟨r, hr, rfl⟩)))))
        · rw [← rcheckB_eq]; exact h _ (List.mem_append.2 (.inr (List.mem_append.2 (.inr (List.mem_append.2 (.inl (List.mem_map.2 ⟨r, hr, rfl⟩)))))))
        · rw [← rcheckB_eq]; exact h _ (List.mem_append.2 (.inr (List.mem_append.2 (.inr (List.mem_append.2 (.inr (List.mem_map.2 ⟨r, hr, rfl⟩)))))))
      · rintro ⟨_, _, _, h4, h5, h6, h7⟩ x hx
        simp only [List.mem_append, List.mem_map] at hx
        rcases hx with ⟨q, hq, rfl⟩ | ⟨r, hr, rfl⟩ | ⟨r, hr, rfl⟩ | ⟨r, hr, rfl⟩
        · exact h4 q hq
        · rw [rcheckB_eq]; exact (h5 r hr).2
        · rw [rcheckB_eq]; exact (h6 r hr).2
        · rw [rcheckB_eq]; exact (h7 r hr).2
    · rw [if_pos h2]
      exact ⟨fun h => absurd h (by decide), fun h => absurd h.2.2.1 h2⟩
  · rw [if_pos h1]
    exact ⟨fun h => absurd h h1, fun h => absurd ((may_check _).2 h.2.1) h1⟩
/-- How much room there is. -/
def roomN (M : Int) : Nat := (max 0 (min M 65535)).toNat
/-- What Put tells. -/
def mputR (M : Int) (m : Ms) : List UInt8 × Int :=
  if mcheckB m ≠ 0 then ([], mcheckB m) else if roomN M < (mputB m).x.b.length then ([], 3) else ((mputB m).x.b, 0)
def msizeB (m : Ms) : Int := if mcheckB m ≠ 0 then 0 else (m.size : Nat)
end Go.Proofs.YtmbgejiahmhffaaGreat
