/-
  PackGrows: what stands is never changed by what is put behind it; an error of one name changes nothing. No condition.
-/
import Derived.Test.YtbemackcdccpaaaRows
import Derived.Test.YtbemackcdccpaaaOpen
import Derived.Test.YtbemackcdccpaaaInit
import Derived.Test.YtbemackcdccpaaaOpens
import Derived.Test.YtbemackcdccpaaaPgr
namespace Go.Proofs.Ytbemackcdccpaaa.packGrowsR
open Go.ChangeShapes Go.WideShapes Go.ChangeAt Go.RowKit Go.Deep
open Go.ChangeMaps (open_string shut_string)
set_option linter.unusedVariables false

theorem own : ownKnob Try.prog.godebug = none := by kernel_rfl
theorem laidOut : laidOutB Try.prog = true := by kernel_rfl

set_option maxRecDepth 100000 in
theorem lifted (os : Os) (started : os.Started) (H : Type) (enc : TypeId × Value → H) :
    ReturnsInHanded {} Try.checked os 15 .any (Rows.packGrowsSpec.pre6 enc Try.prog Try.f15 Rows.packGrowsRow.domain false) (Rows.packGrowsSpec.post enc Try.prog Try.f15 false true false false) := by
  refine returnsInHanded_of_change (C := Try.checked) own started (by kernel_rfl) Try.func15
    (ChangeSpec.witness6 (enc := enc) (C := Try.checked) false ⟨#[], #[.slice none 0 0, .slice none 0 0], []⟩ 8 (by kernel_rfl) (by kernel_rfl) (by kernel_rfl) (by kernel_rfl)) ?_
  intro W base args ds gs before hval0 hW hcnd _
  have hval : ∀ (j : Nat) t v, Try.f15.params[j]? = some t → args[j]? = some v → Value.okWide Try.prog W .any base t v := hval0
  have hW' := hW
  obtain ⟨p, q, hA0, hV, rfl, hfz, hnd⟩ := hW
  have hA : DataW.TrodAll enc Try.prog W 0 (fun _ => true) true Try.f15.params.toList args.toList ds p := hA0
  rw [Try.params15] at hA hval
  obtain ⟨v0, vs0, d0, ds0, p0, q0, hargs, rfl, rfl, h0, r0⟩ := trodAll_cons hA
  obtain ⟨v1, vs1, d1, ds1, p1, q1, rfl, rfl, rfl, h1, r1⟩ := trodAll_cons r0
  obtain ⟨rfl, rfl, rfl⟩ := trodAll_nil r1
  obtain rfl : args = #[v0, v1] := by cases args; simp_all
  obtain ⟨rfl, rfl⟩ := trodVars_none hV
  have k0 := h0
  have lt0 : ∀ x ∈ p0, x.block < W.heap.size := by obtain ⟨m, hm⟩ := k0; exact DataW.trod_lt m _ _ _ hm
  have k1 := h1
  have lt1 : ∀ x ∈ p1, x.block < W.heap.size := by obtain ⟨m, hm⟩ := k1; exact DataW.trod_lt m _ _ _ hm
  obtain ⟨A0, len0, cap0, rfl⟩ := okWide_slice Try.underlying61 (hval 0 61 v0 rfl rfl)
  obtain ⟨l0, hl0, b0⟩ : ∃ l : List ByteArray, l.length = len0 ∧ Strs W A0 l ∧ (∀ x ∈ l, x.size ≤ maxLen) ∧ len0 ≤ maxLen := open_strs' Try.underlying61 Try.underlying64 (by kernel_rfl) h0
  subst hl0
  obtain ⟨A1, len1, cap1, rfl⟩ := okWide_slice Try.underlying48 (hval 1 48 v1 rfl rfl)
  obtain ⟨l1, hl1, b1⟩ : ∃ l : List Bool, l.length = len1 ∧ Bools W A1 l ∧ len1 ≤ maxLen := open_bools Try.underlying48 Try.underlying4 (by kernel_rfl) h1
  subst hl1
  clear hA0 hval0
  have fin : ∀ (e : Ending) (W' : World), (e = .returned (.bool true) ∧ Below W.heap.size W W') → ∃ v, e = .returned v ∧ Rows.packGrowsSpec.post enc Try.checked.prog Try.f15 false true false false W #[.slice A0 l0.length cap0, .slice A1 l1.length cap1] v W' := by
    rintro e W' ⟨he, bel⟩
    subst he
    exact ⟨_, rfl, _, _, _, [], _, [], hW', trodAll_mk1 (shut_bool Try.underlying4 _), (trodAll_cons_mk (Below.trod laidOut (by kernel_rfl) (of_decide_eq_true (by kernel_rfl)) k0 bel lt0) (trodAll_cons_mk (Below.trod laidOut (by kernel_rfl) (of_decide_eq_true (by kernel_rfl)) k1 bel lt1) trodAll_mk0)), rfl, bel.frame _, fun h => by cases h⟩
  exact (packGrows_walk A0 cap0 l0 A1 cap1 l1 W b0 b1).mono fun e W' h => fin e W' h

theorem facts : joinedFacts Try.pinned.checked.prog 15 Try.f15 Rows.packGrowsSpec Rows.packGrowsRow = true := by
  unfold joinedFacts
  rw [may_enter, lifts_final, make_cut]
  kernel_rfl
theorem over : Rows.packGrowsRow.holds Try.pinned (OpenSpec.ofChange Rows.packGrowsSpec) :=
  OpenClaim.holds_of_wide 15 Try.f15 rfl rfl rfl rfl rfl rfl rfl ⟨rfl, rfl, rfl, rfl, rfl⟩ rfl rfl rfl rfl rfl (by kernel_rfl) Try.func15 facts
    (of_decide_eq_true (by kernel_rfl)) (by unfold Func.isWrapper; rw [if_neg (of_decide_eq_false (by kernel_rfl))]; exact ⟨rfl, rfl⟩)
    (fun os started H enc _ => lifted os started H enc)
end Go.Proofs.Ytbemackcdccpaaa.packGrowsR
namespace Go.Proofs.Ytbemackcdccpaaa
theorem packGrows_holds : Rows.PackGrowsSaid := packGrowsR.over
#print axioms packGrows_holds
end Go.Proofs.Ytbemackcdccpaaa
