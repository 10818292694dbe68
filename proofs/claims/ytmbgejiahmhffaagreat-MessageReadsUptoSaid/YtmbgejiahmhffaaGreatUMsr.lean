/-
  LAYER 11, PLAIN: records, questions, a message in any room. No program.
-/
import Derived.Test.YtmbgejiahmhffaaGreatUMsq
namespace Go.Proofs.YtmbgejiahmhffaaGreat
open Go.RowKit
variable {K : Nat}

/-- A record up to where its data's length is begun. -/
def rc2P (y : Pk) (r : Rcd) : Pk := (headP y r.name r.t r.cl).numP (r.ttl : Nat) 4
theorem rputs_len : ∀ (l : List Rcd) (z : Pk), UGK K z z.x.b.length → (∀ r ∈ l, r.ok ∧ r.check = 0) → z.x.b.length + rsum l + 2000 ≤ K → z.x.b.length ≤ (rputsB z l).x.b.length := fun l z h hl hB => by
  obtain ⟨_, ⟨T, hT⟩, _⟩ := rputs_reads l z h hl hB
  rw [hT, List.length_append]
  omega
end Go.Proofs.YtmbgejiahmhffaaGreat
