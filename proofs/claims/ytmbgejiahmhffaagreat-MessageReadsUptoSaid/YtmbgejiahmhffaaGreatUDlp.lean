/-
  ROWS OF STRUCTS: the place of the first that a condition strikes; what is kept; a row's part laid anew.
-/
import Derived.Test.YtmbgejiahmhffaaGreatUunM
import Derived.Test.YtmbgejiahmhffaaGreatUunK
namespace Go.Proofs.YtmbgejiahmhffaaGreat
open Go.RowKit
set_option linter.unusedVariables false
set_option linter.unusedSimpArgs false

theorem rowIn_mk {α : Type} {w : World} {A : Option Addr} {l : List α} (mk : α → List Value) (K : Nat) (hk : ∀ x, (mk x).length = K) (h : RowIn w A (l.flatMap mk)) {i : Nat} {x : α} (hq : l[i]? = some x) (hK : 0 < K := by decide) :
    ∃ b off, A = some ⟨b, off, none⟩ ∧ b < w.heap.size ∧ w.rangeAt b (off + i * K) (mk x) := by
  have hl := (List.getElem?_eq_some_iff.1 hq).1
  obtain ⟨b, off, h1, h2, h3⟩ := h (by rw [flat_len mk K hk]; exact Nat.mul_pos (by omega) hK)
  exact ⟨b, off, h1, h2, fun j v hj => by rw [Nat.add_assoc]; exact h3 _ _ (flat_put mk K hk l i j x v hq hj)⟩
end Go.Proofs.YtmbgejiahmhffaaGreat
