/-
  LAYER 9: the cursor's data: the walk.
-/
import Derived.Test.YtncfdfgcnblicaaBunE
namespace Go.Proofs.Ytncfdfgcnblicaa
set_option linter.unusedVariables false
set_option linter.unusedSimpArgs false
open Go.RowKit

theorem cu_take_err {S : List UInt8} {en n : Nat} {c : Cu} (h : c.e ≠ 0) : c.take S en n = ([], c) := by unfold Cu.take; rw [if_pos h]
theorem texts_err (S : List UInt8) (en : Nat) : ∀ (f : Nat) {c : Cu}, c.e ≠ 0 → Cu.texts S en f c = ([], c)
  | 0, _, _ => rfl
  | f + 1, c, h => by unfold Cu.texts; rw [if_pos h]
theorem texts_step (S : List UInt8) (en g : Nat) (x : Cu) (l : List (List UInt8)) (hx : x.e = 0) (hg : 0 < g) :
    (l ++ (Cu.texts S en g x).1, (Cu.texts S en g x).2) =
      if decide (((x.number S en 1).2.take S en (x.number S en 1).1).2.at_ < en) = true ∧ ((x.number S en 1).2.take S en (x.number S en 1).1).2.e = 0 then
        (l ++ [((x.number S en 1).2.take S en (x.number S en 1).1).1] ++ (Cu.texts S en (g - 1) ((x.number S en 1).2.take S en (x.number S en 1).1).2).1, (Cu.texts S en (g - 1) ((x.number S en 1).2.take S en (x.number S en 1).1).2).2)
      else (l ++ [((x.number S en 1).2.take S en (x.number S en 1).1).1], ((x.number S en 1).2.take S en (x.number S en 1).1).2) := by
  obtain ⟨f, rfl⟩ : ∃ f, g = f + 1 := ⟨g - 1, by omega⟩
  rw [Nat.add_sub_cancel]
  conv => lhs; unfold Cu.texts
  rw [if_neg (by simp [hx])]
  dsimp only
  by_cases h1 : ((x.number S en 1).2.take S en (x.number S en 1).1).2.at_ < en
  · rw [if_pos h1]
    by_cases h2 : ((x.number S en 1).2.take S en (x.number S en 1).1).2.e = 0
    · rw [if_pos ⟨decide_eq_true h1, h2⟩]
      simp
    · rw [if_neg (fun h => h2 h.2), texts_err S en f h2]
  · rw [if_neg h1, if_neg (fun h => h1 (of_decide_eq_true h.1))]
theorem texts_at (S : List UInt8) (en : Nat) (x : Cu) (hx : x.e = 0) (h : ((x.number S en 1).2.take S en (x.number S en 1).1).2.e = 0) : x.at_ < ((x.number S en 1).2.take S en (x.number S en 1).1).2.at_ := by
  generalize hn : (x.number S en 1).1 = n at *
  unfold Cu.number at h ⊢
  dsimp only at h ⊢
  have h1 : (x.take S en 1).2.e = 0 := by
    refine Classical.byContradiction fun hne => ?_
    have : (x.take S en 1).2.take S en n = ([], (x.take S en 1).2) := cu_take_err hne
    rw [this] at h
    exact hne h
  have h2 : (x.take S en 1).2.at_ = x.at_ + 1 := by
    unfold Cu.take at h1 ⊢
    rw [if_neg (by simp [hx])] at h1 ⊢
    split at h1
    · cases h1
    · rw [if_neg (by assumption)]
  have h3 : (x.take S en 1).2.at_ ≤ ((x.take S en 1).2.take S en n).2.at_ := by
    generalize (x.take S en 1).2 = z
    unfold Cu.take
    split
    · exact Nat.le_refl _
    · split
      · exact Nat.le_refl _
      · exact Nat.le_add_right _ _
  omega

theorem strs_own {w : World} {A : Option Addr} {n cap : Nat} {l : List (List UInt8)} (h : w.ownsRow 0 9 1 (.slice A n cap) n (l.map fun y => Value.string ⟨y.toArray⟩)) : Strs w A (l.map fun y => ⟨y.toArray⟩) := by
  intro h0
  have hm : (l.map fun y => (⟨y.toArray⟩ : ByteArray)).map Value.string = l.map fun y => Value.string ⟨y.toArray⟩ := by simp
  rw [hm] at h0 ⊢
  obtain ⟨v, hv⟩ : ∃ v, (l.map fun y => Value.string ⟨y.toArray⟩)[0]? = some v := ⟨_, List.getElem?_eq_getElem h0⟩
  obtain ⟨g, hA, hc⟩ := own_cell h hv
  refine ⟨g, 0, hA, World.block_lt_of_cell? w _ hc, fun i x hx => ?_⟩
  obtain ⟨g', hA', hc'⟩ := own_cell h hx
  rw [hA] at hA'
  injection hA' with hA'
  injection hA' with hA'
  subst hA'
  rw [Nat.zero_add]
  exact hc'

theorem bcells {w : World} {q : Nat} {t : TypeId} {a0 a1 a2 a3 a4 a5 a6 a7 a8 a9 a10 a11 : Value} (h : Blk w q t #[a0, a1, a2, a3, a4, a5, a6, a7, a8, a9, a10, a11]) : w.cell? ⟨q, 0, none⟩ = some a0 ∧ w.cell? ⟨q, 1, none⟩ = some a1 ∧ w.cell? ⟨q, 2, none⟩ = some a2 ∧ w.cell? ⟨q, 3, none⟩ = some a3 ∧ w.cell? ⟨q, 4, none⟩ = some a4 ∧ w.cell? ⟨q, 5, none⟩ = some a5 ∧ w.cell? ⟨q, 6, none⟩ = some a6 ∧ w.cell? ⟨q, 7, none⟩ = some a7 ∧ w.cell? ⟨q, 8, none⟩ = some a8 ∧ w.cell? ⟨q, 9, none⟩ = some a9 ∧ w.cell? ⟨q, 10, none⟩ = some a10 ∧ w.cell? ⟨q, 11, none⟩ = some a11 := ⟨h.cell 0, h.cell 1, h.cell 2, h.cell 3, h.cell 4, h.cell 5, h.cell 6, h.cell 7, h.cell 8, h.cell 9, h.cell 10, h.cell 11⟩

theorem Try.infoStr : (Try.prog.info? 9).map (fun i => (i.zero, i.size, i.bytes)) = some (some (.string ⟨#[]⟩), 1, 16) := by kernel_rfl

theorem strv_new (w : World) (v : ByteArray) (t : TypeId) : ∀ j u, ([Value.string v] : List Value)[j]? = some u → (w.alloc (.cells #[.string v] t)).cell? ((⟨w.heap.size, 0, none⟩ : Addr).add j) = some u := by
  intro j u hu
  have hj : j = 0 := by have := (List.getElem?_eq_some_iff.1 hu).1; simpa using this
  subst hj
  rw [add_off, (Blk.new w t #[.string v]).cell]
  simpa using hu
theorem strv_one (v : ByteArray) : ∀ u ∈ ([Value.string v] : List Value), u.oneCell' = true := by
  intro u hu
  rw [List.mem_singleton.1 hu]
  rfl

end Go.Proofs.Ytncfdfgcnblicaa
