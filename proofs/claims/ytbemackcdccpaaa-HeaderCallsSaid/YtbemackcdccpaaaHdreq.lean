/-
  LAYER 6: two headers compared.
-/
import Derived.Test.YtbemackcdccpaaaHdrp
import Derived.Test.YtbemackcdccpaaaProg
import Derived.DeepKeys
import Derived.Laws.StructEq
namespace Go.Proofs.Ytbemackcdccpaaa
open Go.RowKit

def Hd.lits (h : Hd) : List Lit :=
  [.int .u16 h.id, .bool h.resp, .int .i64 h.op, .bool h.aa, .bool h.tc, .bool h.rd, .bool h.ra, .bool h.ad, .bool h.cd, .int .i64 h.rc, .int .i64 h.c0, .int .i64 h.c1, .int .i64 h.c2, .int .i64 h.c3]
theorem Hd.lits_inj {h g : Hd} : h.lits = g.lits ↔ h = g := by
  obtain ⟨a0, a1, a2, a3, a4, a5, a6, a7, a8, a9, a10, a11, a12, a13⟩ := h
  obtain ⟨b0, b1, b2, b3, b4, b5, b6, b7, b8, b9, b10, b11, b12, b13⟩ := g
  simp [Hd.lits]
theorem wf_i64 {n : Int} (h : -9223372036854775808 ≤ n ∧ n ≤ 9223372036854775807) : (Lit.int .i64 n).wf = true := by
  simp [Lit.wf, IntKind.min, IntKind.max, IntKind.signed, IntKind.bits]
  omega
theorem wf_u16 {n : Int} (h : 0 ≤ n ∧ n ≤ 65535) : (Lit.int .u16 n).wf = true := by
  simp [Lit.wf, IntKind.min, IntKind.max, IntKind.signed, IntKind.bits]
  omega
theorem hd_keyLits (h : Hd) (hok : h.ok) : Try.prog.keyLits 3 45 h.val.cells.toList = some h.lits := by
  obtain ⟨h1, h2, h3, h4, h5, h6, h7⟩ := hok
  have w1 := wf_u16 h1
  have w2 := wf_i64 h2
  have w3 := wf_i64 h3
  have w4 := wf_i64 h4
  have w5 := wf_i64 h5
  have w6 := wf_i64 h6
  have w7 := wf_i64 h7
  have hc : Try.prog.cellsOf 45 = 14 := by kernel_rfl
  have c16 : Try.prog.cellsOf 42 = 1 := by kernel_rfl
  have c1 : Try.prog.cellsOf 4 = 1 := by kernel_rfl
  have c64 : Try.prog.cellsOf 3 = 1 := by kernel_rfl
  have c4 : Try.prog.cellsOf 43 = 4 := by kernel_rfl
  simp [Program.keyLits, Try.underlying45, Try.underlying42, Try.underlying4, Try.underlying3, Try.underlying43, hc, c16, c1, c64, c4, w1, w2, w3, w4, w5, w6, w7, Value.cells, Hd.lits, List.range_succ]
theorem hd_formed (h : Hd) : h.val.formed Try.prog 45 = true := by kernel_rfl
theorem hd_equalIn (h g : Hd) (hh : h.ok) (hg : g.ok) (w : World) : (Op.equalIn 10000 45 h.val g.val).run Try.prog w = .ok (decide (h = g)) w := by
  obtain ⟨r, hr, hiff⟩ := run_equalIn_deep (P := Try.prog) 9997 3 45 (by kernel_rfl) w 3 3 h.val g.val h.lits g.lits (hd_formed h) (hd_formed g) (hd_keyLits h hh) (hd_keyLits g hg)
  rw [Hd.lits_inj] at hiff
  have e : r = decide (h = g) := by rw [Bool.eq_iff_iff, decide_eq_true_eq]; exact hiff
  rw [← e]
  exact hr
theorem hd_eql (h g : Hd) (hh : h.ok) (hg : g.ok) (w : World) : (Go.binOp .eql 45 h.val g.val).run Try.prog w = .ok (.bool (decide (h = g))) w := by
  rw [run_eql_struct, hd_equalIn h g hh hg]
  rfl
theorem hd_neq (h g : Hd) (hh : h.ok) (hg : g.ok) (w : World) : (Go.binOp .neq 45 h.val g.val).run Try.prog w = .ok (.bool (!decide (h = g))) w := by
  rw [run_neq_struct, hd_equalIn h g hh hg]
  rfl
end Go.Proofs.Ytbemackcdccpaaa
