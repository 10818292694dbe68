/-
  TEXTS OF THIS CLAIM, TOGETHER: Hdrp, Hdr, Hdreq.
-/
import Derived.Test.YtmbgejiahmhffaaGreatUunA
import Derived.Test.YtmbgejiahmhffaaGreatUunC
import Derived.Test.YtmbgejiahmhffaaGreatProg
import Derived.DeepKeys
import Derived.Laws.StructEq
/-
  LAYER 6, PLAIN: a header, its check, the sixteen bits of its flags, its octets. No program.
-/
namespace Go.Proofs.YtmbgejiahmhffaaGreat
open Go.RowKit

theorem or_bit (a j : Nat) (h : a / 2 ^ j % 2 = 0) : a ||| 2 ^ j = a + 2 ^ j := by
  have hr : a % 2 ^ j < 2 ^ j := Nat.mod_lt _ (Nat.two_pow_pos j)
  have e : a = 2 ^ (j + 1) * (a / 2 ^ (j + 1)) + a % 2 ^ j := by
    have h1 := Nat.div_add_mod a (2 ^ j)
    have h2 := Nat.div_add_mod (a / 2 ^ j) 2
    rw [h, Nat.add_zero, Nat.div_div_eq_div_mul, ← Nat.pow_succ] at h2
    rw [Nat.pow_succ 2 j, Nat.mul_assoc, ← Nat.pow_succ, h2]
    exact h1.symm
  generalize a / 2 ^ (j + 1) = q at e
  generalize a % 2 ^ j = r at e hr
  subst e
  have hp : 2 ^ (j + 1) = 2 ^ j * 2 := Nat.pow_succ 2 j
  have e1 : r ||| 2 ^ j = 2 ^ j * 1 + r := by rw [Nat.or_comm, Nat.two_pow_add_eq_or_of_lt hr, Nat.mul_one]
  rw [Nat.two_pow_add_eq_or_of_lt (show r < 2 ^ (j + 1) by omega), Nat.or_assoc, e1, ← Nat.two_pow_add_eq_or_of_lt (by omega), ← Nat.two_pow_add_eq_or_of_lt (by omega)]
  omega
theorem and_bit (a j : Nat) : a &&& 2 ^ j = (a / 2 ^ j % 2) * 2 ^ j := by
  apply Nat.eq_of_testBit_eq
  intro i
  rw [Nat.testBit_and, Nat.testBit_two_pow]
  have h2 : a / 2 ^ j % 2 = 0 ∨ a / 2 ^ j % 2 = 1 := by omega
  by_cases hji : j = i
  · subst hji
    rcases h2 with h | h <;> simp [h, Nat.testBit_eq_decide_div_mod_eq, Nat.div_self (Nat.two_pow_pos j)]
  · rcases h2 with h | h <;> simp [h, hji]
theorem u32_or (a b : Nat) (ha : a < 4294967296) (hb : b < 4294967296) : bits .or .u32 (a : Int) (b : Int) = ((a ||| b : Nat) : Int) := by
  have hx : a ||| b < 2 ^ 32 := Nat.or_lt_two_pow (by omega) (by omega)
  show IntKind.u32.wrap ((BitVec.ofInt 32 (a : Int) ||| BitVec.ofInt 32 (b : Int)).toNat : Int) = _
  rw [BitVec.toNat_or, BitVec.ofInt_natCast, BitVec.ofInt_natCast, BitVec.toNat_ofNat, BitVec.toNat_ofNat, Nat.mod_eq_of_lt (by omega), Nat.mod_eq_of_lt (by omega), IntKind.wrap_u32]
  omega
theorem u32_and (a b : Nat) (ha : a < 4294967296) (hb : b < 4294967296) : bits .and .u32 (a : Int) (b : Int) = ((a &&& b : Nat) : Int) := by
  have hx : a &&& b < 2 ^ 32 := Nat.and_lt_two_pow _ (by omega)
  show IntKind.u32.wrap ((BitVec.ofInt 32 (a : Int) &&& BitVec.ofInt 32 (b : Int)).toNat : Int) = _
  rw [BitVec.toNat_and, BitVec.ofInt_natCast, BitVec.ofInt_natCast, BitVec.toNat_ofNat, BitVec.toNat_ofNat, Nat.mod_eq_of_lt (by omega), Nat.mod_eq_of_lt (by omega), IntKind.wrap_u32]
  omega
/-- A header. -/
structure Hd where
  id : Int
  resp : Bool
  op : Int
  aa : Bool
  tc : Bool
  rd : Bool
  ra : Bool
  ad : Bool
  cd : Bool
  rc : Int
  c0 : Int
  c1 : Int
  c2 : Int
  c3 : Int
deriving DecidableEq
def Hd.cells (h : Hd) : List Value :=
  [.int .u16 h.id, .bool h.resp, .int .i64 h.op, .bool h.aa, .bool h.tc, .bool h.rd, .bool h.ra, .bool h.ad, .bool h.cd, .int .i64 h.rc, .int .i64 h.c0, .int .i64 h.c1, .int .i64 h.c2, .int .i64 h.c3]
abbrev Hd.val (h : Hd) : Value :=
  .agg #[.int .u16 h.id, .bool h.resp, .int .i64 h.op, .bool h.aa, .bool h.tc, .bool h.rd, .bool h.ra, .bool h.ad, .bool h.cd, .int .i64 h.rc, .int .i64 h.c0, .int .i64 h.c1, .int .i64 h.c2, .int .i64 h.c3]
def Hd.zero : Hd := ⟨0, false, 0, false, false, false, false, false, false, 0, 0, 0, 0, 0⟩
/-- What a header that came in may be. -/
def Hd.ok (h : Hd) : Prop :=
  (0 ≤ h.id ∧ h.id ≤ 65535) ∧ (-9223372036854775808 ≤ h.op ∧ h.op ≤ 9223372036854775807) ∧ (-9223372036854775808 ≤ h.rc ∧ h.rc ≤ 9223372036854775807) ∧
  (-9223372036854775808 ≤ h.c0 ∧ h.c0 ≤ 9223372036854775807) ∧ (-9223372036854775808 ≤ h.c1 ∧ h.c1 ≤ 9223372036854775807) ∧ (-9223372036854775808 ≤ h.c2 ∧ h.c2 ≤ 9223372036854775807) ∧ (-9223372036854775808 ≤ h.c3 ∧ h.c3 ≤ 9223372036854775807)
def four (n : Int) : Bool := decide (0 ≤ n ∧ n ≤ 15)
def sixteen (n : Int) : Bool := decide (0 ≤ n ∧ n ≤ 65535)
def Hd.may (h : Hd) : Bool := four h.op && four h.rc && sixteen h.c0 && sixteen h.c1 && sixteen h.c2 && sixteen h.c3
def Hd.check (h : Hd) : Int := if h.may = true then 0 else 2
/-- The sixteen bits of the flags, of the first k flags. -/
def b01 (b : Bool) : Nat := if b then 1 else 0
theorem b01_le (b : Bool) : b01 b ≤ 1 := by cases b <;> decide
def Hd.bitsTo (h : Hd) (k : Nat) : Nat :=
  h.op.toNat * 2048 + h.rc.toNat + (if 0 < k then 32768 * b01 h.resp else 0) + (if 1 < k then 1024 * b01 h.aa else 0) + (if 2 < k then 512 * b01 h.tc else 0) + (if 3 < k then 256 * b01 h.rd else 0) +
    (if 4 < k then 128 * b01 h.ra else 0) + (if 5 < k then 32 * b01 h.ad else 0) + (if 6 < k then 16 * b01 h.cd else 0)
def Hd.bits (h : Hd) : Nat := h.bitsTo 7
theorem or_base (op rc : Nat) (hr : rc ≤ 15) : (op * 2048) ||| rc = op * 2048 + rc := by
  rw [Nat.mul_comm, show 2048 = 2 ^ 11 from rfl, ← Nat.two_pow_add_eq_or_of_lt (by omega)]
theorem Hd.bits_lt (h : Hd) (ho : h.op.toNat ≤ 15) (hr : h.rc.toNat ≤ 15) (k : Nat) : h.bitsTo k < 65536 := by
  have := b01_le h.resp; have := b01_le h.aa; have := b01_le h.tc; have := b01_le h.rd; have := b01_le h.ra; have := b01_le h.ad; have := b01_le h.cd
  unfold Hd.bitsTo
  split <;> split <;> split <;> split <;> split <;> split <;> split <;> omega
def flagBit : Nat → Nat
  | 0 => 15 | 1 => 10 | 2 => 9 | 3 => 8 | 4 => 7 | 5 => 5 | _ => 4
def Hd.flag (h : Hd) : Nat → Bool
  | 0 => h.resp | 1 => h.aa | 2 => h.tc | 3 => h.rd | 4 => h.ra | 5 => h.ad | _ => h.cd
theorem Hd.bits_step (h : Hd) (ho : h.op.toNat ≤ 15) (hr : h.rc.toNat ≤ 15) (k : Nat) (hk : k < 7) (hf : h.flag k = true) : h.bitsTo k ||| 2 ^ flagBit k = h.bitsTo (k + 1) := by
  have := b01_le h.resp; have := b01_le h.aa; have := b01_le h.tc; have := b01_le h.rd; have := b01_le h.ra; have := b01_le h.ad; have := b01_le h.cd
  rcases (show k = 0 ∨ k = 1 ∨ k = 2 ∨ k = 3 ∨ k = 4 ∨ k = 5 ∨ k = 6 by omega) with rfl | rfl | rfl | rfl | rfl | rfl | rfl
  all_goals
    simp only [Hd.flag] at hf
    rw [or_bit]
    · simp [Hd.bitsTo, flagBit, hf, b01]
      try omega
    · simp [Hd.bitsTo, flagBit]
      omega
theorem Hd.bits_stay (h : Hd) (k : Nat) (hk : k < 7) (hf : h.flag k = false) : h.bitsTo k = h.bitsTo (k + 1) := by
  rcases (show k = 0 ∨ k = 1 ∨ k = 2 ∨ k = 3 ∨ k = 4 ∨ k = 5 ∨ k = 6 by omega) with rfl | rfl | rfl | rfl | rfl | rfl | rfl
  all_goals
    simp only [Hd.flag] at hf
    simp [Hd.bitsTo, hf, b01]
theorem hd_or_step (h : Hd) (ho : h.op.toNat ≤ 15) (hr : h.rc.toNat ≤ 15) (k : Nat) (hk : k < 7) (hf : h.flag k = true) (B : Int) (hB : B = ((2 ^ flagBit k : Nat) : Int)) : bits .or .u32 (h.bitsTo k : Int) B = (h.bitsTo (k + 1) : Int) := by
  have h1 := h.bits_lt ho hr k
  have h2 : 2 ^ flagBit k < 65536 := by
    unfold flagBit
    split <;> decide
  rw [← h.bits_step ho hr k hk hf, hB]
  exact u32_or _ _ (by omega) (by omega)
end Go.Proofs.YtmbgejiahmhffaaGreat

/-
  THE CONTRACTS OF LAYER 6 (header).
-/
namespace Go.Proofs.YtmbgejiahmhffaaGreat
open Go.RowKit

def Hd.count (h : Hd) : Nat → Int
  | 0 => h.c0 | 1 => h.c1 | 2 => h.c2 | _ => h.c3
def Hd.okTo (h : Hd) : Nat → Bool
  | 0 => four h.op && four h.rc
  | k + 1 => h.okTo k && sixteen (h.count k)
theorem Hd.okTo4 (h : Hd) : h.okTo 4 = h.may := by simp [Hd.okTo, Hd.may, Hd.count, Bool.and_assoc]
set_option maxRecDepth 100000 in
set_option maxHeartbeats 4000000 in
theorem check_any (h : Hd) (w : World) :
    Calls Tryz.prog 27 #[h.val] w fun e w' => e = .returned (.int .i64 h.check) ∧ Fr (fun _ => False) w w' := by
  have hs : h.okTo 0 = (four h.op && four h.rc) := rfl
  have hend : (if h.okTo 4 = true then (0 : Int) else 2) = h.check := by rw [h.okTo4]; rfl
  have HE := Lib.hid hend
  have i0 : ∀ w, (Instr.index 23 (.agg #[.int .i64 h.c0, .int .i64 h.c1, .int .i64 h.c2, .int .i64 h.c3]) (.int .i64 0)).run Tryz.prog w = .ok (.int .i64 h.c0) w := fun _ => by kernel_rfl
  have i1 : ∀ w, (Instr.index 23 (.agg #[.int .i64 h.c0, .int .i64 h.c1, .int .i64 h.c2, .int .i64 h.c3]) (.int .i64 1)).run Tryz.prog w = .ok (.int .i64 h.c1) w := fun _ => by kernel_rfl
  have i2 : ∀ w, (Instr.index 23 (.agg #[.int .i64 h.c0, .int .i64 h.c1, .int .i64 h.c2, .int .i64 h.c3]) (.int .i64 2)).run Tryz.prog w = .ok (.int .i64 h.c2) w := fun _ => by kernel_rfl
  have i3 : ∀ w, (Instr.index 23 (.agg #[.int .i64 h.c0, .int .i64 h.c1, .int .i64 h.c2, .int .i64 h.c3]) (.int .i64 3)).run Tryz.prog w = .ok (.int .i64 h.c3) w := fun _ => by kernel_rfl
  have hst : ∀ k, h.okTo (k + 1) = (h.okTo k && sixteen (h.count k)) := fun _ => rfl
  have HS := Lib.hid (And.intro hs hst)
  clear hs hst hend
  go_enter Tryz.func27, Tryz.ntmps27
  rcases (show (0 ≤ h.op ∧ h.op ≤ 15 ∧ 0 ≤ h.rc ∧ h.rc ≤ 15) ∨ ¬ 0 ≤ h.op ∨ (0 ≤ h.op ∧ ¬ h.op ≤ 15) ∨ (0 ≤ h.op ∧ h.op ≤ 15 ∧ ¬ 0 ≤ h.rc) ∨ (0 ≤ h.op ∧ h.op ≤ 15 ∧ 0 ≤ h.rc ∧ ¬ h.rc ≤ 15) by omega)
    with ⟨a1, a2, a3, a4⟩ | a1 | ⟨a1, a2⟩ | ⟨a1, a2, a3⟩ | ⟨a1, a2, a3, a4⟩
  all_goals
    go_wp2_with fail
    go_loop [3, 26] (fun v i => ∃ k : Nat, k ≤ 4 ∧ i = .int .i64 k ∧ v = .bool (h.okTo k)) (fun _ i => 4 - (intOf i).toNat)
    case atStart => exact ⟨0, Nat.zero_le _, rfl, by rw [HS.out.1]; first | (simp [four, *]; done) | (simp [four]; omega)⟩
    case round =>
      obtain ⟨k, hk, rfl, rfl⟩ := hrel
      clear a1
      rcases (show k = 0 ∨ k = 1 ∨ k = 2 ∨ k = 3 ∨ k = 4 by omega) with rfl | rfl | rfl | rfl | rfl
      · rcases (show h.okTo 0 = false ∨ (h.okTo 0 = true ∧ ¬ 0 ≤ h.c0) ∨ (h.okTo 0 = true ∧ 0 ≤ h.c0 ∧ ¬ h.c0 ≤ 65535) ∨ (h.okTo 0 = true ∧ 0 ≤ h.c0 ∧ h.c0 ≤ 65535) by cases h.okTo 0 <;> simp <;> omega)
          with hb | ⟨hb, b1⟩ | ⟨hb, b1, b2⟩ | ⟨hb, b1, b2⟩
        all_goals
          have H1 := Lib.hid (HS.out.2 0)
          rw [hb]
          rw [hb] at H1
          clear hb
          go_wp2_with fail
          go_round
          case rel => exact ⟨1, by decide, rfl, by rw [H1.out]; simp [sixteen, Hd.count, *]⟩
          case measure => simp [intOf]
      · rcases (show h.okTo 1 = false ∨ (h.okTo 1 = true ∧ ¬ 0 ≤ h.c1) ∨ (h.okTo 1 = true ∧ 0 ≤ h.c1 ∧ ¬ h.c1 ≤ 65535) ∨ (h.okTo 1 = true ∧ 0 ≤ h.c1 ∧ h.c1 ≤ 65535) by cases h.okTo 1 <;> simp <;> omega)
          with hb | ⟨hb, b1⟩ | ⟨hb, b1, b2⟩ | ⟨hb, b1, b2⟩
        all_goals
          have H1 := Lib.hid (HS.out.2 1)
          rw [hb]
          rw [hb] at H1
          clear hb
          go_wp2_with fail
          go_round
          case rel => exact ⟨2, by decide, rfl, by rw [H1.out]; simp [sixteen, Hd.count, *]⟩
          case measure => simp [intOf]
      · rcases (show h.okTo 2 = false ∨ (h.okTo 2 = true ∧ ¬ 0 ≤ h.c2) ∨ (h.okTo 2 = true ∧ 0 ≤ h.c2 ∧ ¬ h.c2 ≤ 65535) ∨ (h.okTo 2 = true ∧ 0 ≤ h.c2 ∧ h.c2 ≤ 65535) by cases h.okTo 2 <;> simp <;> omega)
          with hb | ⟨hb, b1⟩ | ⟨hb, b1, b2⟩ | ⟨hb, b1, b2⟩
        all_goals
          have H1 := Lib.hid (HS.out.2 2)
          rw [hb]
          rw [hb] at H1
          clear hb
          go_wp2_with fail
          go_round
          case rel => exact ⟨3, by decide, rfl, by rw [H1.out]; simp [sixteen, Hd.count, *]⟩
          case measure => simp [intOf]
      · rcases (show h.okTo 3 = false ∨ (h.okTo 3 = true ∧ ¬ 0 ≤ h.c3) ∨ (h.okTo 3 = true ∧ 0 ≤ h.c3 ∧ ¬ h.c3 ≤ 65535) ∨ (h.okTo 3 = true ∧ 0 ≤ h.c3 ∧ h.c3 ≤ 65535) by cases h.okTo 3 <;> simp <;> omega)
          with hb | ⟨hb, b1⟩ | ⟨hb, b1, b2⟩ | ⟨hb, b1, b2⟩
        all_goals
          have H1 := Lib.hid (HS.out.2 3)
          rw [hb]
          rw [hb] at H1
          clear hb
          go_wp2_with fail
          go_round
          case rel => exact ⟨4, by decide, rfl, by rw [H1.out]; simp [sixteen, Hd.count, *]⟩
          case measure => simp [intOf]
      · cases hb : h.okTo 4
        all_goals
          rw [hb] at HE
          clear hb
          go_wp2_with fail
          go_ret
          exact ⟨ret_int HE.out, (Fr.refl _ _).alloc _⟩
end Go.Proofs.YtmbgejiahmhffaaGreat

/-
  LAYER 6: two headers compared.
-/
namespace Go.Proofs.YtmbgejiahmhffaaGreat
open Go.RowKit

def Hd.lits (h : Hd) : List Lit :=
  [.int .u16 h.id, .bool h.resp, .int .i64 h.op, .bool h.aa, .bool h.tc, .bool h.rd, .bool h.ra, .bool h.ad, .bool h.cd, .int .i64 h.rc, .int .i64 h.c0, .int .i64 h.c1, .int .i64 h.c2, .int .i64 h.c3]
theorem Hd.lits_inj {h g : Hd} : h.lits = g.lits ↔ h = g := by
  obtain ⟨a0, a1, a2, a3, a4, a5, a6, a7, a8, a9, a10, a11, a12, a13⟩ := h
  obtain ⟨b0, b1, b2, b3, b4, b5, b6, b7, b8, b9, b10, b11, b12, b13⟩ := g
  simp [Hd.lits]
theorem wf_i64 {n : Int} (h : -9223372036854775808 ≤ n ∧ n ≤ 9223372036854775807) : (Lit.int .i64 n).wf = true := by
  simp [Lit.wf, IntKind.min, IntKind.max, IntKind.signed, IntKind.bits]
  omega
theorem wf_u16 {n : Int} (h : 0 ≤ n ∧ n ≤ 65535) : (Lit.int .u16 n).wf = true := by
  simp [Lit.wf, IntKind.min, IntKind.max, IntKind.signed, IntKind.bits]
  omega
theorem hd_keyLits (h : Hd) (hok : h.ok) : Tryz.prog.keyLits 3 25 h.val.cells.toList = some h.lits := by
  obtain ⟨h1, h2, h3, h4, h5, h6, h7⟩ := hok
  have w1 := wf_u16 h1
  have w2 := wf_i64 h2
  have w3 := wf_i64 h3
  have w4 := wf_i64 h4
  have w5 := wf_i64 h5
  have w6 := wf_i64 h6
  have w7 := wf_i64 h7
  have hc : Tryz.prog.cellsOf 25 = 14 := by kernel_rfl
  have c16 : Tryz.prog.cellsOf 22 = 1 := by kernel_rfl
  have c1 : Tryz.prog.cellsOf 4 = 1 := by kernel_rfl
  have c64 : Tryz.prog.cellsOf 3 = 1 := by kernel_rfl
  have c4 : Tryz.prog.cellsOf 23 = 4 := by kernel_rfl
  simp [Program.keyLits, Tryz.underlying25, Tryz.underlying22, Tryz.underlying4, Tryz.underlying3, Tryz.underlying23, hc, c16, c1, c64, c4, w1, w2, w3, w4, w5, w6, w7, Value.cells, Hd.lits, List.range_succ]
theorem hd_formed (h : Hd) : h.val.formed Tryz.prog 25 = true := by kernel_rfl
theorem hd_equalIn (h g : Hd) (hh : h.ok) (hg : g.ok) (w : World) : (Op.equalIn 10000 25 h.val g.val).run Tryz.prog w = .ok (decide (h = g)) w := by
  obtain ⟨r, hr, hiff⟩ := run_equalIn_deep (P := Tryz.prog) 9997 3 25 (by kernel_rfl) w 3 3 h.val g.val h.lits g.lits (hd_formed h) (hd_formed g) (hd_keyLits h hh) (hd_keyLits g hg)
  rw [Hd.lits_inj] at hiff
  have e : r = decide (h = g) := by rw [Bool.eq_iff_iff, decide_eq_true_eq]; exact hiff
  rw [← e]
  exact hr
theorem hd_neq (h g : Hd) (hh : h.ok) (hg : g.ok) (w : World) : (Go.binOp .neq 25 h.val g.val).run Tryz.prog w = .ok (.bool (!decide (h = g))) w := by
  rw [run_neq_struct, hd_equalIn h g hh hg]
  rfl
end Go.Proofs.YtmbgejiahmhffaaGreat
