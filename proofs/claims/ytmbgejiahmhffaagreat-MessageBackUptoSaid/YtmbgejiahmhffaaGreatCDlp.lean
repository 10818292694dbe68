/-
  ROWS OF STRUCTS: the place of the first that a condition strikes; what is kept; a row's part laid anew.
-/
import Derived.Test.YtmbgejiahmhffaaGreatBunM
import Derived.Test.YtmbgejiahmhffaaGreatBunK
namespace Go.Proofs.YtmbgejiahmhffaaGreat
open Go.RowKit
set_option linter.unusedVariables false
set_option linter.unusedSimpArgs false

/-- The first place that is struck, or -1. -/
def idxI {α : Type} (p : α → Bool) : List α → Int
  | [] => -1
  | x :: l => if p x = true then 0 else if idxI p l < 0 then -1 else idxI p l + 1
theorem idxI_none {α : Type} {p : α → Bool} : ∀ {l : List α}, (∀ x ∈ l, p x = false) → idxI p l = -1
  | [], _ => rfl
  | x :: l, h => by
    unfold idxI
    rw [idxI_none (fun y hy => h y (List.mem_cons_of_mem _ hy)), h x List.mem_cons_self]
    rfl
theorem idxI_hit {α : Type} {p : α → Bool} : ∀ {l : List α} {k : Nat} {x : α}, l[k]? = some x → p x = true → (∀ y ∈ l.take k, p y = false) → idxI p l = (k : Nat)
  | [], k, x, h, _, _ => by simp at h
  | y :: l, 0, x, h, hp, _ => by
    obtain rfl : y = x := by simpa using h
    unfold idxI
    rw [if_pos hp]
    rfl
  | y :: l, k + 1, x, h, hp, ht => by
    have hy : p y = false := ht y (by simp)
    have ih := idxI_hit (l := l) (k := k) (x := x) (by simpa using h) hp (fun z hz => ht z (by simp [hz]))
    unfold idxI
    rw [ih, hy, if_neg (by decide), if_neg (by omega)]
    omega
theorem idxI_cases {α : Type} (p : α → Bool) : ∀ l : List α, (idxI p l = -1 ∧ ∀ x ∈ l, p x = false) ∨ ∃ k x, k < l.length ∧ idxI p l = (k : Nat) ∧ l[k]? = some x ∧ p x = true ∧ ∀ y ∈ l.take k, p y = false
  | [] => .inl ⟨rfl, fun x hx => by simp at hx⟩
  | y :: l => by
    rcases hb : p y with _ | _
    · rcases idxI_cases p l with ⟨h1, h2⟩ | ⟨k, x, h0, h1, h2, h3, h4⟩
      · refine .inl ⟨?_, fun x hx => ?_⟩
        · unfold idxI; rw [h1, hb]; rfl
        · rcases List.mem_cons.1 hx with rfl | hx
          · exact hb
          · exact h2 x hx
      · refine .inr ⟨k + 1, x, by simp; omega, ?_, by simpa using h2, h3, fun z hz => ?_⟩
        · unfold idxI; rw [h1, hb, if_neg (by decide), if_neg (by omega)]; omega
        · rw [List.take_succ_cons, List.mem_cons] at hz
          rcases hz with rfl | hz
          · exact hb
          · exact h4 z hz
    · exact .inr ⟨0, y, by simp, by unfold idxI; rw [hb]; rfl, rfl, hb, by simp⟩
theorem rowIn_mk {α : Type} {w : World} {A : Option Addr} {l : List α} (mk : α → List Value) (K : Nat) (hk : ∀ x, (mk x).length = K) (h : RowIn w A (l.flatMap mk)) {i : Nat} {x : α} (hq : l[i]? = some x) (hK : 0 < K := by decide) :
    ∃ b off, A = some ⟨b, off, none⟩ ∧ b < w.heap.size ∧ w.rangeAt b (off + i * K) (mk x) := by
  have hl := (List.getElem?_eq_some_iff.1 hq).1
  obtain ⟨b, off, h1, h2, h3⟩ := h (by rw [flat_len mk K hk]; exact Nat.mul_pos (by omega) hK)
  exact ⟨b, off, h1, h2, fun j v hj => by rw [Nat.add_assoc]; exact h3 _ _ (flat_put mk K hk l i j x v hq hj)⟩
/-- A row's element laid anew. -/
theorem lay_flat {α : Type} (mk : α → List Value) (K : Nat) (hk : ∀ x, (mk x).length = K) (R : List α) (i : Nat) (x : α) (sp : List Value) (hi : i < R.length) :
    lay (R.flatMap mk ++ sp).toArray (i * K) (mk x) = ((R.set i x).flatMap mk ++ sp).toArray := by
  unfold lay
  congr 1
  have e : R = R.take i ++ R[i] :: R.drop (i + 1) := by rw [List.getElem_cons_drop, List.take_append_drop]
  have hl : ((R.take i).flatMap mk).length = i * K := by rw [flat_len mk K hk, List.length_take, Nat.min_eq_left (by omega)]
  have e1 : (R.flatMap mk ++ sp) = (R.take i).flatMap mk ++ (mk R[i] ++ ((R.drop (i + 1)).flatMap mk ++ sp)) := by
    calc R.flatMap mk ++ sp = (R.take i ++ R[i] :: R.drop (i + 1)).flatMap mk ++ sp := by rw [← e]
      _ = _ := by rw [List.flatMap_append, List.flatMap_cons, List.append_assoc, List.append_assoc]
  have e2 : ((R.set i x).flatMap mk ++ sp) = (R.take i).flatMap mk ++ (mk x ++ ((R.drop (i + 1)).flatMap mk ++ sp)) := by
    rw [List.set_eq_take_append_cons_drop, if_pos hi]
    simp [List.flatMap_append]
  rw [e1, e2]
  dsimp only
  rw [List.take_left' hl, ← List.drop_drop, List.drop_left' hl, List.drop_left' (by rw [hk, hk])]
theorem flat_take {α : Type} (mk : α → List Value) (K : Nat) (hk : ∀ x, (mk x).length = K) (R : List α) (sp : List Value) (i : Nat) (hi : i ≤ R.length) :
    ((R.flatMap mk ++ sp).toArray.toList).take (i * K) = (R.take i).flatMap mk := by
  have hl : ((R.take i).flatMap mk).length = i * K := by rw [flat_len mk K hk, List.length_take, Nat.min_eq_left hi]
  show (R.flatMap mk ++ sp).take (i * K) = _
  have e : R.flatMap mk ++ sp = (R.take i).flatMap mk ++ ((R.drop i).flatMap mk ++ sp) := by
    calc R.flatMap mk ++ sp = (R.take i ++ R.drop i).flatMap mk ++ sp := by rw [List.take_append_drop]
      _ = _ := by rw [List.flatMap_append, List.append_assoc]
  rw [e, List.take_left' hl]
theorem blk_range {α : Type} {w : World} {g : Nat} {T : TypeId} (mk : α → List Value) (K : Nat) (hk : ∀ x, (mk x).length = K) {R : List α} {sp : List Value} (h : Blk w g T (R.flatMap mk ++ sp).toArray) {i : Nat} {x : α} (hx : R[i]? = some x) : w.rangeAt g (i * K) (mk x) := fun j v hv => by
  rw [h.cell, List.getElem?_toArray]
  have := flat_put mk K hk R i j x v hx hv
  rw [List.getElem?_append_left (List.getElem?_eq_some_iff.1 this).1]
  exact this
theorem zero_one {z : Array Value} {n : Nat} (h : ∀ v ∈ z, v.oneCell' = true) (h0 : 0 < z.size) : ∀ v ∈ (Builtin.zeroCells z n).toList, v.oneCell' = true := fun v hv => by
  unfold Builtin.zeroCells at hv
  simp only [Array.toList_map, List.mem_map] at hv
  obtain ⟨i, _, rfl⟩ := hv
  rw [getElem!_pos z (i % z.size) (Nat.mod_lt _ h0)]
  exact h _ (Array.getElem_mem _)
/-- clear of a row's end. -/
theorem run_clear_own {P : Program} (w : World) (t e : TypeId) (z : Value) (ht : P.underlying t = some (.slice e)) (hv : ∀ w, (zeroValue e).run P w = .ok z w) (hz : ∀ v ∈ z.cells, v.oneCell' = true) (h0 : 0 < z.cells.size) (g o n c : Nat) (hn : 0 < n)
    {T : TypeId} {cur : Array Value} (hg : Blk w g T cur) (hfit : o + n * z.cells.size ≤ cur.size) :
    ∃ w' cur', (∀ ty, (Builtin.clear_ #[t] ty #[.slice (some ⟨g, o, none⟩) n c]).run P w = .ok (.tuple #[]) w') ∧ Blk w' g T cur' ∧ cur'.size = cur.size ∧ cur'.toList.take o = cur.toList.take o ∧ Fr (· = g) w w' := by
  have hst := run_storeCells_at (P := P) g o T (Builtin.zeroCells z.cells n).toList 0 cur w hg (by simp [size_zeroCells]; omega) (zero_one hz h0)
  simp only [Nat.add_zero] at hst
  obtain ⟨m, rfl⟩ : ∃ m, n = m + 1 := ⟨n - 1, by omega⟩
  refine ⟨_, _, fun ty => by simp [Builtin.clear_, run_underlying ht, hv, hst]; rfl, blk_setRow hg _, ?_, ?_, (Fr.refl (· = g) _).setRow (fun _ => rfl) _⟩
  · simp only [List.size_toArray, List.length_append, List.length_take, List.length_drop, Array.length_toList, size_zeroCells]
    generalize (m + 1) * z.cells.size = q at hfit ⊢
    omega
  · have hl : (cur.toList.take o).length = o := by rw [List.length_take, Array.length_toList]; exact Nat.min_eq_left (Nat.le_trans (Nat.le_add_right _ _) hfit)
    simp only [List.append_assoc]
    rw [List.take_left' hl]
end Go.Proofs.YtmbgejiahmhffaaGreat
