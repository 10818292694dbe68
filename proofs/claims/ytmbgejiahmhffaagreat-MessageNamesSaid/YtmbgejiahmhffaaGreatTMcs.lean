/-
  A single cell stored in a known block; a row's first ones by a slice expression; what Cut leaves, of any message.
-/
import Derived.Test.YtmbgejiahmhffaaGreatTMcx
import Derived.Test.YtmbgejiahmhffaaGreatTMct
import Derived.Test.YtmbgejiahmhffaaGreatTMlb
namespace Go.Proofs.YtmbgejiahmhffaaGreat
open Go.RowKit
set_option linter.unusedVariables false
set_option linter.unusedSimpArgs false

theorem wp_store_one {P : Program} {w : World} {o : Oper} {a : Act} {K : Act → World → Prop} {Q : Exit → Act → World → Prop} (ty : TypeId) (x y : Operand) (ho : o.op = .store ty x y)
    (g off : Nat) (hx : a.eval x = .pointer (some ⟨g, off, none⟩)) (v : Value) (hy : a.eval y = v) (hvc : v.cells = #[v]) (t : TypeId) (cs : Array Value) (hg : Blk w g t cs)
    (hi : (P.info? ty).map (·.size) = some 1) (h1 : v.oneCell' = true) (hn : off + 1 ≤ cs.size)
    (cs' : Array Value) (hc : lay cs off [v] = cs')
    (h : ∀ w', Blk w' g t cs' → Fr (· = g) w w' → K (a.put o.dst undef) w') : o.wp P a w K Q := by
    cases hq : P.info? ty with
    | none => simp [hq] at hi
    | some i =>
      have hs : i.size = 1 := by simpa [hq] using hi
      have hst := run_storeCells_at (P := P) g off t [v] 0 cs w hg (by simpa using hn) (fun u hu => by simp at hu; rw [hu]; exact h1)
      simp only [Nat.add_zero] at hst
      unfold Oper.wp execOp
      simp [ho, hx, hy, Instr.storeAt, Instr.sureAddr, storeVar, hvc, sizeOf, typeInfo, hq, hs, hst, Sem.run_bind]
      subst hc
      exact h _ (blk_setRow hg _) ((Fr.refl (· = g) _).setRow (fun _ => rfl) _)
theorem wpList_store_one {P : Program} {w : World} {ops : Array Oper} {rest : List Oper} {o : Oper} {a : Act} {Q : Exit → Act → World → Prop} (hgd : o.guard = none) (ty : TypeId) (x y : Operand) (ho : o.op = .store ty x y)
    (g off : Nat) (hx : a.eval x = .pointer (some ⟨g, off, none⟩)) (v : Value) (hy : a.eval y = v) (hvc : v.cells = #[v]) (t : TypeId) (cs : Array Value) (hg : Blk w g t cs)
    (hi : (P.info? ty).map (·.size) = some 1) (h1 : v.oneCell' = true) (hn : off + 1 ≤ cs.size)
    (cs' : Array Value) (hc : lay cs off [v] = cs')
    (h : ∀ w', Blk w' g t cs' → Fr (· = g) w w' → wpList P ops Q rest (a.put o.dst undef) w') : wpList P ops Q (o :: rest) a w :=
  wpList_plain hgd fun _ hK => wp_store_one ty x y ho g off hx v hy hvc t cs hg hi h1 hn cs' hc fun w' b f => hK _ _ (h w' b f)
end Go.Proofs.YtmbgejiahmhffaaGreat
