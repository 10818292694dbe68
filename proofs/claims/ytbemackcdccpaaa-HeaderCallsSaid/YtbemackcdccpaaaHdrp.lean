/-
  LAYER 6, PLAIN: a header, its check, the sixteen bits of its flags, its octets. No program.
-/
import Derived.Test.YtbemackcdccpaaaBase
namespace Go.Proofs.Ytbemackcdccpaaa
open Go.RowKit

theorem or_bit (a j : Nat) (h : a / 2 ^ j % 2 = 0) : a ||| 2 ^ j = a + 2 ^ j := by
  have hr : a % 2 ^ j < 2 ^ j := Nat.mod_lt _ (Nat.two_pow_pos j)
  have e : a = 2 ^ (j + 1) * (a / 2 ^ (j + 1)) + a % 2 ^ j := by
    have h1 := Nat.div_add_mod a (2 ^ j)
    have h2 := Nat.div_add_mod (a / 2 ^ j) 2
    rw [h, Nat.add_zero, Nat.div_div_eq_div_mul, ← Nat.pow_succ] at h2
    rw [Nat.pow_succ 2 j, Nat.mul_assoc, ← Nat.pow_succ, h2]
    exact h1.symm
  generalize a / 2 ^ (j + 1) = q at e
  generalize a % 2 ^ j = r at e hr
  subst e
  have hp : 2 ^ (j + 1) = 2 ^ j * 2 := Nat.pow_succ 2 j
  have e1 : r ||| 2 ^ j = 2 ^ j * 1 + r := by rw [Nat.or_comm, Nat.two_pow_add_eq_or_of_lt hr, Nat.mul_one]
  rw [Nat.two_pow_add_eq_or_of_lt (show r < 2 ^ (j + 1) by omega), Nat.or_assoc, e1, ← Nat.two_pow_add_eq_or_of_lt (by omega), ← Nat.two_pow_add_eq_or_of_lt (by omega)]
  omega
theorem and_bit (a j : Nat) : a &&& 2 ^ j = (a / 2 ^ j % 2) * 2 ^ j := by
  apply Nat.eq_of_testBit_eq
  intro i
  rw [Nat.testBit_and, Nat.testBit_two_pow]
  have h2 : a / 2 ^ j % 2 = 0 ∨ a / 2 ^ j % 2 = 1 := by omega
  by_cases hji : j = i
  · subst hji
    rcases h2 with h | h <;> simp [h, Nat.testBit_eq_decide_div_mod_eq, Nat.div_self (Nat.two_pow_pos j)]
  · rcases h2 with h | h <;> simp [h, hji]

theorem u32_or (a b : Nat) (ha : a < 4294967296) (hb : b < 4294967296) : bits .or .u32 (a : Int) (b : Int) = ((a ||| b : Nat) : Int) := by
  have hx : a ||| b < 2 ^ 32 := Nat.or_lt_two_pow (by omega) (by omega)
  show IntKind.u32.wrap ((BitVec.ofInt 32 (a : Int) ||| BitVec.ofInt 32 (b : Int)).toNat : Int) = _
  rw [BitVec.toNat_or, BitVec.ofInt_natCast, BitVec.ofInt_natCast, BitVec.toNat_ofNat, BitVec.toNat_ofNat, Nat.mod_eq_of_lt (by omega), Nat.mod_eq_of_lt (by omega), IntKind.wrap_u32]
  omega
theorem u32_and (a b : Nat) (ha : a < 4294967296) (hb : b < 4294967296) : bits .and .u32 (a : Int) (b : Int) = ((a &&& b : Nat) : Int) := by
  have hx : a &&& b < 2 ^ 32 := Nat.and_lt_two_pow _ (by omega)
  show IntKind.u32.wrap ((BitVec.ofInt 32 (a : Int) &&& BitVec.ofInt 32 (b : Int)).toNat : Int) = _
  rw [BitVec.toNat_and, BitVec.ofInt_natCast, BitVec.ofInt_natCast, BitVec.toNat_ofNat, BitVec.toNat_ofNat, Nat.mod_eq_of_lt (by omega), Nat.mod_eq_of_lt (by omega), IntKind.wrap_u32]
  omega

/-- A header. -/
structure Hd where
  id : Int
  resp : Bool
  op : Int
  aa : Bool
  tc : Bool
  rd : Bool
  ra : Bool
  ad : Bool
  cd : Bool
  rc : Int
  c0 : Int
  c1 : Int
  c2 : Int
  c3 : Int
deriving DecidableEq

def Hd.cells (h : Hd) : List Value :=
  [.int .u16 h.id, .bool h.resp, .int .i64 h.op, .bool h.aa, .bool h.tc, .bool h.rd, .bool h.ra, .bool h.ad, .bool h.cd, .int .i64 h.rc, .int .i64 h.c0, .int .i64 h.c1, .int .i64 h.c2, .int .i64 h.c3]
abbrev Hd.val (h : Hd) : Value :=
  .agg #[.int .u16 h.id, .bool h.resp, .int .i64 h.op, .bool h.aa, .bool h.tc, .bool h.rd, .bool h.ra, .bool h.ad, .bool h.cd, .int .i64 h.rc, .int .i64 h.c0, .int .i64 h.c1, .int .i64 h.c2, .int .i64 h.c3]
def Hd.zero : Hd := ⟨0, false, 0, false, false, false, false, false, false, 0, 0, 0, 0, 0⟩

/-- What a header that came in may be. -/
def Hd.ok (h : Hd) : Prop :=
  (0 ≤ h.id ∧ h.id ≤ 65535) ∧ (-9223372036854775808 ≤ h.op ∧ h.op ≤ 9223372036854775807) ∧ (-9223372036854775808 ≤ h.rc ∧ h.rc ≤ 9223372036854775807) ∧
  (-9223372036854775808 ≤ h.c0 ∧ h.c0 ≤ 9223372036854775807) ∧ (-9223372036854775808 ≤ h.c1 ∧ h.c1 ≤ 9223372036854775807) ∧ (-9223372036854775808 ≤ h.c2 ∧ h.c2 ≤ 9223372036854775807) ∧ (-9223372036854775808 ≤ h.c3 ∧ h.c3 ≤ 9223372036854775807)

def four (n : Int) : Bool := decide (0 ≤ n ∧ n ≤ 15)
def sixteen (n : Int) : Bool := decide (0 ≤ n ∧ n ≤ 65535)
def Hd.may (h : Hd) : Bool := four h.op && four h.rc && sixteen h.c0 && sixteen h.c1 && sixteen h.c2 && sixteen h.c3
def Hd.check (h : Hd) : Int := if h.may = true then 0 else 2

/-- The sixteen bits of the flags, of the first k flags. -/
def b01 (b : Bool) : Nat := if b then 1 else 0
theorem b01_le (b : Bool) : b01 b ≤ 1 := by cases b <;> decide
def Hd.bitsTo (h : Hd) (k : Nat) : Nat :=
  h.op.toNat * 2048 + h.rc.toNat + (if 0 < k then 32768 * b01 h.resp else 0) + (if 1 < k then 1024 * b01 h.aa else 0) + (if 2 < k then 512 * b01 h.tc else 0) + (if 3 < k then 256 * b01 h.rd else 0) +
    (if 4 < k then 128 * b01 h.ra else 0) + (if 5 < k then 32 * b01 h.ad else 0) + (if 6 < k then 16 * b01 h.cd else 0)
def Hd.bits (h : Hd) : Nat := h.bitsTo 7
theorem or_base (op rc : Nat) (hr : rc ≤ 15) : (op * 2048) ||| rc = op * 2048 + rc := by
  rw [Nat.mul_comm, show 2048 = 2 ^ 11 from rfl, ← Nat.two_pow_add_eq_or_of_lt (by omega)]
theorem Hd.bits_lt (h : Hd) (ho : h.op.toNat ≤ 15) (hr : h.rc.toNat ≤ 15) (k : Nat) : h.bitsTo k < 65536 := by
  have := b01_le h.resp; have := b01_le h.aa; have := b01_le h.tc; have := b01_le h.rd; have := b01_le h.ra; have := b01_le h.ad; have := b01_le h.cd
  unfold Hd.bitsTo
  split <;> split <;> split <;> split <;> split <;> split <;> split <;> omega

def flagBit : Nat → Nat
  | 0 => 15 | 1 => 10 | 2 => 9 | 3 => 8 | 4 => 7 | 5 => 5 | _ => 4
def Hd.flag (h : Hd) : Nat → Bool
  | 0 => h.resp | 1 => h.aa | 2 => h.tc | 3 => h.rd | 4 => h.ra | 5 => h.ad | _ => h.cd
theorem Hd.bits_step (h : Hd) (ho : h.op.toNat ≤ 15) (hr : h.rc.toNat ≤ 15) (k : Nat) (hk : k < 7) (hf : h.flag k = true) : h.bitsTo k ||| 2 ^ flagBit k = h.bitsTo (k + 1) := by
  have := b01_le h.resp; have := b01_le h.aa; have := b01_le h.tc; have := b01_le h.rd; have := b01_le h.ra; have := b01_le h.ad; have := b01_le h.cd
  rcases (show k = 0 ∨ k = 1 ∨ k = 2 ∨ k = 3 ∨ k = 4 ∨ k = 5 ∨ k = 6 by omega) with rfl | rfl | rfl | rfl | rfl | rfl | rfl
  all_goals
    simp only [Hd.flag] at hf
    rw [or_bit]
    · simp [Hd.bitsTo, flagBit, hf, b01]
      try omega
    · simp [Hd.bitsTo, flagBit]
      omega
theorem Hd.bits_stay (h : Hd) (k : Nat) (hk : k < 7) (hf : h.flag k = false) : h.bitsTo k = h.bitsTo (k + 1) := by
  rcases (show k = 0 ∨ k = 1 ∨ k = 2 ∨ k = 3 ∨ k = 4 ∨ k = 5 ∨ k = 6 by omega) with rfl | rfl | rfl | rfl | rfl | rfl | rfl
  all_goals
    simp only [Hd.flag] at hf
    simp [Hd.bitsTo, hf, b01]
theorem hd_or_step (h : Hd) (ho : h.op.toNat ≤ 15) (hr : h.rc.toNat ≤ 15) (k : Nat) (hk : k < 7) (hf : h.flag k = true) (B : Int) (hB : B = ((2 ^ flagBit k : Nat) : Int)) : bits .or .u32 (h.bitsTo k : Int) B = (h.bitsTo (k + 1) : Int) := by
  have h1 := h.bits_lt ho hr k
  have h2 : 2 ^ flagBit k < 65536 := by
    unfold flagBit
    split <;> decide
  rw [← h.bits_step ho hr k hk hf, hB]
  exact u32_or _ _ (by omega) (by omega)
end Go.Proofs.Ytbemackcdccpaaa
