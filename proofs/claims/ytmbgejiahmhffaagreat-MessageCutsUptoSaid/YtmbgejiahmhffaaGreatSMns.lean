/-
  LAYER 11: MessageNamesStand, the walk.
-/
import Derived.Test.YtmbgejiahmhffaaGreatSMlv11
import Derived.Test.YtmbgejiahmhffaaGreatSunB
import Derived.WalkMore
import Derived.Deep.LoopGhost
import Derived.OwnWalk
import Derived.Test.YtmbgejiahmhffaaGreatSunK
namespace Go.Proofs.YtmbgejiahmhffaaGreat
open Go.RowKit
set_option linter.unusedVariables false
set_option linter.unusedSimpArgs false

theorem rsum_le24 : ∀ (l : List Rcd), (∀ r ∈ l, r.name.size ≤ 400 ∧ r.d.light ≤ 2000) → rsum l ≤ l.length * 2451
  | [], _ => Nat.le_refl _
  | r :: l, h => by
    have h1 := (rlight_size (r := r) (by have := h r (by simp); simp [rlight, this.1, this.2])).1
    have h2 := rsum_le24 l fun x hx => h x (by simp [hx])
    rw [rsum, List.length_cons]
    omega
theorem qsum_le24 : ∀ (l : List Qn), (∀ q ∈ l, q.1.size ≤ 400) → qsum l ≤ l.length * 2451
  | [], _ => Nat.le_refl _
  | q :: l, h => by
    have h1 := h q (by simp)
    have h2 := qsum_le24 l fun x hx => h x (by simp [hx])
    rw [qsum, List.length_cons]
    omega
theorem light_size {h : Hd} {lq : List Qn} {la lb lc : RLm} (hl : lq.length + (la ++ lb ++ lc).length ≤ 24) (hq : ∀ q ∈ lq, q.1.size ≤ 400) (hr : ∀ x ∈ la ++ lb ++ lc, x.1.name.size ≤ 400 ∧ x.1.d.light ≤ 2000) : (msOf h lq la lb lc).size + 2000 ≤ 65535 := by
  have key : ∀ l : RLm, (∀ x ∈ l, x ∈ la ++ lb ++ lc) → rsum (l.map Prod.fst) ≤ l.length * 2451 := fun l hs => by
    have := rsum_le24 (l.map Prod.fst) fun r hx => by
      obtain ⟨x, hx', rfl⟩ := List.mem_map.1 hx
      exact hr x (hs x hx')
    rwa [List.length_map] at this
  have h1 := qsum_le24 lq hq
  have h2 := key la fun x hx => by simp [hx]
  have h3 := key lb fun x hx => by simp [hx]
  have h4 := key lc fun x hx => by simp [hx]
  rw [List.length_append, List.length_append] at hl
  show 12 + qsum lq + rsum (la.map Prod.fst) + rsum (lb.map Prod.fst) + rsum (lc.map Prod.fst) + 2000 ≤ 65535
  omega
end Go.Proofs.YtmbgejiahmhffaaGreat
