/-
  LAYER 6: Reply, and the chapter's own example.
-/
import Derived.Test.YtmbgejiahmhffaaGreatCHdrput
import Derived.Test.YtmbgejiahmhffaaGreatBunB
namespace Go.Proofs.YtmbgejiahmhffaaGreat
open Go.RowKit

theorem i64_and15 (n : Int) : bits .and .i64 n 15 = n % 16 := by
  show IntKind.i64.wrap ((BitVec.ofInt 64 n &&& BitVec.ofInt 64 15).toNat : Int) = _
  have e : (BitVec.ofInt 64 15).toNat = 2 ^ 4 - 1 := rfl
  rw [BitVec.toNat_and, e, Nat.and_two_pow_sub_one_eq_mod, BitVec.toNat_ofInt, IntKind.wrap_i64]
  omega
theorem pick16 (n : Int) : pick n 16 = n % 16 := by
  have h1 : n.tmod 16 < 16 := Int.tmod_lt_of_pos _ (by decide)
  have h2 := Int.mul_tdiv_add_tmod n 16
  have h3 : -16 < n.tmod 16 := by have := Int.lt_tmod_of_pos n (show (0 : Int) < 16 by decide); omega
  unfold pick
  split <;> omega

def Hd.reply (h : Hd) (rc : Int) : Hd := ⟨h.id, true, h.op, false, false, h.rd, true, false, h.cd, rc % 16, 0, 0, 0, 0⟩

end Go.Proofs.YtmbgejiahmhffaaGreat
