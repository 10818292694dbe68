/-
  LAYER 11, PLAIN: while a message is put, row by row. No program.
-/
import Derived.Test.YtmbgejiahmhffaaGreatUMsc
import Derived.Test.YtmbgejiahmhffaaGreatUunI
namespace Go.Proofs.YtmbgejiahmhffaaGreat
open Go.RowKit
variable {K : Nat}
set_option linter.unusedVariables false

theorem rputsB_ap : ∀ (a b : List Rcd) (y : Pk), rputsB y (a ++ b) = rputsB (rputsB y a) b
  | [], b, y => rfl
  | r :: a, b, y => by
    show rputsB (rputB y r) (a ++ b) = rputsB (rputsB (rputB y r) a) b
    exact rputsB_ap a b _
theorem qputsB_ap : ∀ (a b : List Qn) (y : Pk), qputsB y (a ++ b) = qputsB (qputsB y a) b
  | [], b, y => rfl
  | q :: a, b, y => by
    show qputsB (headB y q.1 q.2.1 q.2.2) (a ++ b) = qputsB (qputsB (headB y q.1 q.2.1 q.2.2) a) b
    exact qputsB_ap a b _
theorem rsum_ap : ∀ (a b : List Rcd), rsum (a ++ b) = rsum a + rsum b
  | [], b => by simp [rsum]
  | r :: a, b => by
    show r.size + rsum (a ++ b) = r.size + rsum a + rsum b
    rw [rsum_ap a b]; omega
theorem qsum_ap : ∀ (a b : List Qn), qsum (a ++ b) = qsum a + qsum b
  | [], b => by simp [qsum]
  | q :: a, b => by
    show q.1.size + 5 + qsum (a ++ b) = q.1.size + 5 + qsum a + qsum b
    rw [qsum_ap a b]; omega
theorem split_at {α : Type} {l : List α} {k : Nat} {x : α} (hx : l[k]? = some x) : l = l.take k ++ ([x] ++ l.drop (k + 1)) := by
  obtain ⟨hk, hx⟩ := List.getElem?_eq_some_iff.1 hx
  rw [← hx]
  simp
theorem row_step {Z : Pk} (hu : UGK K Z Z.x.b.length) {l : List Rcd} (hl : ∀ r ∈ l, r.ok ∧ r.check = 0) (hB : Z.x.b.length + rsum l + 2000 ≤ K) {k : Nat} {x : Rcd} (hx : l[k]? = some x) :
    UGK K (rputsB Z (l.take k)) (rputsB Z (l.take k)).x.b.length ∧ (rputsB Z (l.take k)).x.b.length + 1000 + x.d.size (whatN x.t) ≤ K ∧ rputsB Z (l.take (k + 1)) = rputB (rputsB Z (l.take k)) x ∧
      (rputB (rputsB Z (l.take k)) x).x.b.length ≤ (rputsB Z l).x.b.length := by
  have e := split_at hx
  have hs := congrArg rsum e
  rw [rsum_ap, rsum_ap] at hs
  have hx1 : rsum [x] = x.name.size + 11 + x.d.size (whatN x.t) := by show x.size + 0 = _; rw [Nat.add_zero]; rfl
  rw [hx1] at hs
  have hl1 : ∀ r ∈ l.take k, r.ok ∧ r.check = 0 := fun r hr => hl r (List.mem_of_mem_take hr)
  obtain ⟨u1, _, n1, _⟩ := rputs_reads (l.take k) Z hu hl1 (by omega)
  have hsn : rputsB Z (l.take (k + 1)) = rputB (rputsB Z (l.take k)) x := by
    rw [List.take_add_one, hx]
    show rputsB Z (l.take k ++ [x]) = _
    rw [rputsB_ap]
    rfl
  have hl2 : ∀ r ∈ l.take (k + 1), r.ok ∧ r.check = 0 := fun r hr => hl r (List.mem_of_mem_take hr)
  have hs2 : rsum (l.take (k + 1)) = rsum (l.take k) + (x.name.size + 11 + x.d.size (whatN x.t)) := by
    rw [List.take_add_one, hx]
    show rsum (l.take k ++ [x]) = _
    rw [rsum_ap, hx1]
  obtain ⟨u2, _, n2, _⟩ := rputs_reads (l.take (k + 1)) Z hu hl2 (by omega)
  rw [hsn] at u2 n2
  refine ⟨u1, by omega, hsn, ?_⟩
  have hd := rputs_len (l.drop (k + 1)) (rputB (rputsB Z (l.take k)) x) u2 (fun r hr => hl r (List.mem_of_mem_drop hr)) (by omega)
  have e2 : rputsB Z l = rputsB (rputB (rputsB Z (l.take k)) x) (l.drop (k + 1)) := by
    conv => lhs; rw [e]
    rw [rputsB_ap, rputsB_ap]
    rfl
  rw [e2]
  exact hd
theorem ques_step {Z : Pk} (hu : UGK K Z Z.x.b.length) {l : List Qn} (hl : ∀ q ∈ l, qchk q = 0) (hB : Z.x.b.length + qsum l + 2000 ≤ K) {k : Nat} {x : Qn} (hx : l[k]? = some x) :
    UGK K (qputsB Z (l.take k)) (qputsB Z (l.take k)).x.b.length ∧ (qputsB Z (l.take k)).x.b.length + 300 ≤ K ∧ qputsB Z (l.take (k + 1)) = headB (qputsB Z (l.take k)) x.1 x.2.1 x.2.2 := by
  have e := split_at hx
  have hs := congrArg qsum e
  rw [qsum_ap, qsum_ap] at hs
  obtain ⟨u1, _, n1, _⟩ := qputs_reads (l.take k) Z hu (fun q hq => hl q (List.mem_of_mem_take hq)) (by omega)
  refine ⟨u1, by omega, ?_⟩
  rw [List.take_add_one, hx]
  show qputsB Z (l.take k ++ [x]) = _
  rw [qputsB_ap]
  rfl
/-- The rows, one behind the other: what stands, and that there is room. -/
structure Stages (m : Ms) : Prop where
  u0 : UGK 1000000 (mhead m) (mhead m).x.b.length
  u1 : UGK 1000000 (qputsB (mhead m) m.qs) (qputsB (mhead m) m.qs).x.b.length
  u2 : UGK 1000000 (rputsB (qputsB (mhead m) m.qs) m.an) (rputsB (qputsB (mhead m) m.qs) m.an).x.b.length
  u3 : UGK 1000000 (rputsB (rputsB (qputsB (mhead m) m.qs) m.an) m.au) (rputsB (rputsB (qputsB (mhead m) m.qs) m.an) m.au).x.b.length
  b0 : (mhead m).x.b.length + qsum m.qs + 2000 ≤ 1000000
  b1 : (qputsB (mhead m) m.qs).x.b.length + rsum m.an + 2000 ≤ 1000000
  b2 : (rputsB (qputsB (mhead m) m.qs) m.an).x.b.length + rsum m.au + 2000 ≤ 1000000
  b3 : (rputsB (rputsB (qputsB (mhead m) m.qs) m.an) m.au).x.b.length + rsum m.mo + 2000 ≤ 1000000
  l1 : (rputsB (qputsB (mhead m) m.qs) m.an).x.b.length ≤ (mputB m).x.b.length
  l2 : (rputsB (rputsB (qputsB (mhead m) m.qs) m.an) m.au).x.b.length ≤ (mputB m).x.b.length
theorem stages {m : Ms} (hm : m.fine) (hs : m.size + 2000 ≤ 1000000) : Stages m := by
  obtain ⟨h1, h2, _, h4, h5, h6, h7⟩ := hm
  unfold Ms.size at hs
  have u0 : UGK 1000000 (mhead m) (mhead m).x.b.length := ⟨rfl, rfl, (fun _ _ h => by cases h), Nat.le_refl _⟩
  have l0 : (mhead m).x.b.length = 12 := m.h.upto_length 4
  obtain ⟨u1, _, l1, _⟩ := qputs_reads m.qs (mhead m) u0 h4 (by omega)
  obtain ⟨u2, _, l2, _⟩ := rputs_reads m.an _ u1 h5 (by omega)
  obtain ⟨u3, _, l3, _⟩ := rputs_reads m.au _ u2 h6 (by omega)
  have n3 := rputs_len m.au _ u2 h6 (by omega)
  have n4 := rputs_len m.mo _ u3 h7 (by omega)
  exact ⟨u0, u1, u2, u3, by omega, by omega, by omega, by omega, Nat.le_trans n3 n4, n4⟩
end Go.Proofs.YtmbgejiahmhffaaGreat
