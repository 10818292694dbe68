/-
  TEXTS OF THIS CLAIM, TOGETHER: Rowl, Dcu, Wht, Adr, Eqs, Nam, Ppk, Ppn.
-/
import Derived.Test.YtncfdfgcnblicaaBunA
import Derived.Test.YtncfdfgcnblicaaBunB
import Derived.Test.YtncfdfgcnblicaaBunC
import Derived.Test.YtncfdfgcnblicaaProg
import Derived.Maps.OwnSet
import Derived.DeepKeys
import Derived.Laws.StructEq
import Derived.BigQuiet
/-
  WORDS FOR MEMORY, OF NO PROGRAM: a struct within a known block is loaded, stored, handed back whole, whatever its place there.
-/
namespace Go.Proofs.Ytncfdfgcnblicaa
set_option linter.unusedVariables false
set_option linter.unusedSimpArgs false
open Go.RowKit

theorem Fr.step {S T : Nat → Prop} {w a b : World} (h : Fr S w a) (k : Fr T a b) (hs : ∀ i, T i → S i ∨ w.heap.size ≤ i) : Fr S w b := h.trans k fun i hi hT => (hs i hT).resolve_right (by omega)
theorem Fr.new {T : Nat → Prop} {w a b : World} (h : Fr (fun _ => False) w a) (k : Fr T a b) (hs : ∀ i, T i → w.heap.size ≤ i) : Fr (fun _ => False) w b := h.step k fun i hT => .inr (hs i hT)
theorem at_step {S T U : Nat → Prop} {w a : World} (h : w.heap.size ≤ a.heap.size) (hs : ∀ k, T k → S k ∨ w.heap.size ≤ k) (k : ∀ k, U k → T k ∨ a.heap.size ≤ k) : ∀ k, U k → S k ∨ w.heap.size ≤ k := fun i hi => (k i hi).elim (hs i) fun g => .inr (Nat.le_trans h g)

theorem vint {k : IntKind} {a b : Int} (h : a = b) : Value.int k a = Value.int k b := by rw [h]

section
variable {P : Program} {w : World} {g : Nat} {t ty : TypeId} {cs : Array Value} {d : TypeDesc}
theorem add_off (g o j : Nat) : (⟨g, o, none⟩ : Addr).add j = ⟨g, o + j, none⟩ := by unfold Addr.add; split <;> simp_all
theorem run_loadVar_part (n o : Nat) (hg : Blk w g t cs) (hu : P.underlying ty = some d) (hd : (match d with | .struct _ | .array _ _ => true | _ => false) = true) (hi : (P.info? ty).map (·.size) = some n) (hn : o + n ≤ cs.size) :
    (loadVar ty ⟨g, o, none⟩).run P w = .ok (.agg (cs.extract o (o + n))) w := by
  have hlen : (cs.extract o (o + n)).toList.length = n := by simp; omega
  have hl : (loadCells ⟨g, o, none⟩ (cs.extract o (o + n)).toList.length).run P w = .ok (cs.extract o (o + n)).toList.toArray w :=
    run_loadCells_list (P := P) w ⟨g, o, none⟩ (cs.extract o (o + n)).toList (fun j v hv => by
      rw [add_off, hg.cell (o + j)]
      have hj : j < n := by have := (List.getElem?_eq_some_iff.1 hv).1; omega
      rw [Array.getElem?_toList, Array.getElem?_extract] at hv
      split at hv
      · exact hv
      · cases hv)
  rw [hlen] at hl
  cases hq : P.info? ty with
  | none => simp [hq] at hi
  | some i =>
    have hs : i.size = n := by simpa [hq] using hi
    have hagg : (isAgg ty).run P w = .ok true w := by
      unfold isAgg
      rw [Sem.run_bind, run_underlying hu w]
      cases d <;> simp_all
    simp only [Array.toArray_toList] at hl
    simp [loadVar, Sem.run_bind, hagg, sizeOf, typeInfo, hq, hs, hl]

theorem wpList_load_part {ops : Array Oper} {rest : List Oper} {o : Oper} {a : Act} {Q : Exit → Act → World → Prop} (hgd : o.guard = none) (ty : TypeId) (x : Operand) (ho : o.op = .load ty x)
    (g off : Nat) (hx : a.eval x = .pointer (some ⟨g, off, none⟩)) (t : TypeId) (cs : Array Value) (n : Nat) (d : TypeDesc) (hg : Blk w g t cs)
    (hu : P.underlying ty = some d) (hd : (match d with | .struct _ | .array _ _ => true | _ => false) = true) (hi : (P.info? ty).map (·.size) = some n) (hn : off + n ≤ cs.size)
    (v : Array Value) (hv : cs.extract off (off + n) = v)
    (h : wpList P ops Q rest (a.put o.dst (.agg v)) w) : wpList P ops Q (o :: rest) a w :=
  wpList_plain hgd fun _ hK => by
    unfold Oper.wp execOp
    simp only [ho, hx, Instr.loadAt, Instr.sureAddr, Sem.run_bind, Sem.run_pure, Result.andThen_ok, run_loadVar_part n off hg hu hd hi hn, hv]
    exact hK _ _ h

/-- The cells, some of them laid anew. -/
def lay (cs : Array Value) (o : Nat) (vs : List Value) : Array Value := (cs.toList.take o ++ (vs ++ cs.toList.drop (o + vs.length))).toArray

/-- A whole block is loaded. -/
theorem wpList_load_blk {ops : Array Oper} {rest : List Oper} {o : Oper} {a : Act} {Q : Exit → Act → World → Prop} (hgd : o.guard = none) (ty : TypeId) (x : Operand) (ho : o.op = .load ty x)
    (g : Nat) (hx : a.eval x = .pointer (some ⟨g, 0, none⟩)) (t : TypeId) (cs : Array Value) (d : TypeDesc) (hg : Blk w g t cs)
    (hu : P.underlying ty = some d) (hd : (match d with | .struct _ | .array _ _ => true | _ => false) = true) (hi : (P.info? ty).map (·.size) = some cs.size)
    (h : wpList P ops Q rest (a.put o.dst (.agg cs)) w) : wpList P ops Q (o :: rest) a w :=
  wpList_load_row hgd ty x ho g hx t cs (0, 0) d hg hu hd hi h
theorem lay_all {cs : Array Value} {vs : List Value} (h : cs.size = vs.length) : lay cs 0 vs = vs.toArray := by
  unfold lay
  rw [List.take_zero, List.nil_append, List.drop_of_length_le (by simp; omega), List.append_nil]

theorem blk_setRow (h : Blk w g t cs) (cs' : Array Value) : Blk (w.setRow g cs') g t cs' := setRow_heap w g cs cs' t (0, 0) h

theorem wp_store_part {o : Oper} {a : Act} {K : Act → World → Prop} {Q : Exit → Act → World → Prop} (ty : TypeId) (x y : Operand) (ho : o.op = .store ty x y)
    (g off : Nat) (hx : a.eval x = .pointer (some ⟨g, off, none⟩)) (vs : List Value) (hy : a.eval y = .agg vs.toArray) (t : TypeId) (cs : Array Value) (hg : Blk w g t cs)
    (hi : (P.info? ty).map (·.size) = some vs.length) (h1 : ∀ v ∈ vs, v.oneCell' = true) (hn : off + vs.length ≤ cs.size)
    (cs' : Array Value) (hc : lay cs off vs = cs')
    (h : ∀ w', Blk w' g t cs' → Fr (· = g) w w' → K (a.put o.dst undef) w') : o.wp P a w K Q := by
    cases hq : P.info? ty with
    | none => simp [hq] at hi
    | some i =>
      have hs : i.size = vs.length := by simpa [hq] using hi
      have hst := run_storeCells_at (P := P) g off t vs 0 cs w hg (by simpa using hn) h1
      simp only [Nat.add_zero] at hst
      unfold Oper.wp execOp
      simp [ho, hx, hy, Instr.storeAt, Instr.sureAddr, storeVar, Value.cells, sizeOf, typeInfo, hq, hs, hst, Sem.run_bind]
      subst hc
      exact h _ (blk_setRow hg _) ((Fr.refl (· = g) _).setRow (fun _ => rfl) _)

theorem wpList_store_part {ops : Array Oper} {rest : List Oper} {o : Oper} {a : Act} {Q : Exit → Act → World → Prop} (hgd : o.guard = none) (ty : TypeId) (x y : Operand) (ho : o.op = .store ty x y)
    (g off : Nat) (hx : a.eval x = .pointer (some ⟨g, off, none⟩)) (vs : List Value) (hy : a.eval y = .agg vs.toArray) (t : TypeId) (cs : Array Value) (hg : Blk w g t cs)
    (hi : (P.info? ty).map (·.size) = some vs.length) (h1 : ∀ v ∈ vs, v.oneCell' = true) (hn : off + vs.length ≤ cs.size)
    (cs' : Array Value) (hc : lay cs off vs = cs')
    (h : ∀ w', Blk w' g t cs' → Fr (· = g) w w' → wpList P ops Q rest (a.put o.dst undef) w') : wpList P ops Q (o :: rest) a w :=
  wpList_plain hgd fun _ hK => wp_store_part ty x y ho g off hx vs hy t cs hg hi h1 hn cs' hc fun w' b f => hK _ _ (h w' b f)

theorem step_store_part {ops : Array Oper} {o : Oper} {a : Act} {K : Act → World → Prop} {Q : Exit → Act → World → Prop} {E : Prop} (hgd : o.guard = none) (ty : TypeId) (x y : Operand) (ho : o.op = .store ty x y)
    (g off : Nat) (hx : a.eval x = .pointer (some ⟨g, off, none⟩)) (vs : List Value) (hy : a.eval y = .agg vs.toArray) (t : TypeId) (cs : Array Value) (hg : Blk w g t cs)
    (hi : (P.info? ty).map (·.size) = some vs.length) (h1 : ∀ v ∈ vs, v.oneCell' = true) (hn : off + vs.length ≤ cs.size)
    (cs' : Array Value) (hc : lay cs off vs = cs')
    (h : ∀ w', Blk w' g t cs' → Fr (· = g) w w' → K (a.put o.dst undef) w') : if Region.wanted o (yielded ops a.tmps) = true then Oper.wp P o a w K Q else E := by
  have hw : Region.wanted o (yielded ops a.tmps) = true := by simp [Region.wanted, hgd]
  rw [if_pos hw]
  exact wp_store_part ty x y ho g off hx vs hy t cs hg hi h1 hn cs' hc h

/-- A struct of three cells stored cell by cell: other blocks; the block; the frame. -/
theorem cell_set3 {q i j : Nat} {u0 u1 u2 : Value} (h : i ≠ q) : (((w.setCell ⟨q, 0, none⟩ u0).setCell ⟨q, 1, none⟩ u1).setCell ⟨q, 2, none⟩ u2).cell? ⟨i, j, none⟩ = w.cell? ⟨i, j, none⟩ := by
  have e : ∀ (w : World) (o : Nat) (u : Value), (w.setCell ⟨q, o, none⟩ u).cell? ⟨i, j, none⟩ = w.cell? ⟨i, j, none⟩ := fun w o u => World.cell?_of_block (Below.heap_setCell w ⟨q, o, none⟩ u i h)
  rw [e, e, e]
theorem blk_set3 {q : Nat} {a0 a1 a2 u0 u1 u2 : Value} (h : Blk w q t #[a0, a1, a2]) : Blk (((w.setCell ⟨q, 0, none⟩ u0).setCell ⟨q, 1, none⟩ u1).setCell ⟨q, 2, none⟩ u2) q t #[u0, u1, u2] := ((h.set_ 0 u0).set_ 1 u1).set_ 2 u2
theorem fr_set3 {q : Nat} {u0 u1 u2 : Value} : Fr (· = q) w (((w.setCell ⟨q, 0, none⟩ u0).setCell ⟨q, 1, none⟩ u1).setCell ⟨q, 2, none⟩ u2) :=
  (((Fr.refl (· = q) w).setCell (p := ⟨q, 0, none⟩) (fun _ => rfl) u0).setCell (p := ⟨q, 1, none⟩) (fun _ => rfl) u1).setCell (p := ⟨q, 2, none⟩) (fun _ => rfl) u2

theorem results_cell_blk {fn : Func} {p : Tmp} {ty : TypeId} (h : fn.results = #[.cell p ty]) {tmps : Array Value} {w : World} {g : Nat} {t : TypeId} {cs : Array Value} {d : TypeDesc}
    (hg : Blk w g t cs) (hp : tmps.getD p undef = .pointer (some ⟨g, 0, none⟩))
    (hu : P.underlying ty = some d) (hd : (match d with | .struct _ | .array _ _ => true | _ => false) = true) (hi : (P.info? ty).map (·.size) = some cs.size) :
    (results fn tmps).run P w = .ok (.agg cs) w := results_cell_row h tmps w g t cs (0, 0) d hp hg hu hd hi
/-- Two results: a struct, and a plain one. -/
theorem results_cell_tmp {fn : Func} {p q : Tmp} {ty : TypeId} (h : fn.results = #[.cell p ty, .tmp q]) {tmps : Array Value} {w : World} {g : Nat} {t : TypeId} {cs : Array Value} {d : TypeDesc} {v : Value}
    (hg : Blk w g t cs) (hp : tmps.getD p undef = .pointer (some ⟨g, 0, none⟩)) (hq : tmps.getD q undef = v)
    (hu : P.underlying ty = some d) (hd : (match d with | .struct _ | .array _ _ => true | _ => false) = true) (hi : (P.info? ty).map (·.size) = some cs.size) :
    (results fn tmps).run P w = .ok (.tuple #[.agg cs, v]) w := by
  have hp' : tmps[p]?.getD undef = .pointer (some ⟨g, 0, none⟩) := by simpa using hp
  have hq' : tmps[q]?.getD undef = v := by simpa using hq
  have hl := run_loadVar_row (P := P) w g t ty cs (0, 0) d hg hu hd hi
  simp [results, h, hp', hq', asAddr, hl]
/-- Three results: a struct, and two plain ones. -/
theorem results_cell_tmp2 {fn : Func} {p q r : Tmp} {ty : TypeId} (h : fn.results = #[.cell p ty, .tmp q, .tmp r]) {tmps : Array Value} {w : World} {g : Nat} {t : TypeId} {cs : Array Value} {d : TypeDesc} {v u : Value}
    (hg : Blk w g t cs) (hp : tmps.getD p undef = .pointer (some ⟨g, 0, none⟩)) (hq : tmps.getD q undef = v) (hr : tmps.getD r undef = u)
    (hu : P.underlying ty = some d) (hd : (match d with | .struct _ | .array _ _ => true | _ => false) = true) (hi : (P.info? ty).map (·.size) = some cs.size) :
    (results fn tmps).run P w = .ok (.tuple #[.agg cs, v, u]) w := by
  have hp' : tmps[p]?.getD undef = .pointer (some ⟨g, 0, none⟩) := by simpa using hp
  have hq' : tmps[q]?.getD undef = v := by simpa using hq
  have hr' : tmps[r]?.getD undef = u := by simpa using hr
  have hl := run_loadVar_row (P := P) w g t ty cs (0, 0) d hg hu hd hi
  simp [results, h, hp', hq', hr', asAddr, hl]
end
end Go.Proofs.Ytncfdfgcnblicaa

/-
  LAYER 9: the cursor that reads data: octets, numbers, names.
-/
namespace Go.Proofs.Ytncfdfgcnblicaa
set_option linter.unusedVariables false
set_option linter.unusedSimpArgs false
open Go.RowKit

/-! ### Where a name ends, with pointers or without -/
theorem un_fin_step {s : List UInt8} {f : Bool} {x : Un} (h1 : x.begun ≤ s.length) (h2 : x.fin = -1 ∨ 0 ≤ x.fin ∧ x.fin ≤ s.length) :
    (∀ y, x.step s f = .on y → y.begun ≤ s.length ∧ (y.fin = -1 ∨ 0 ≤ y.fin ∧ y.fin ≤ s.length)) ∧ ∀ y, x.step s f = .done y → 0 ≤ y.fin ∧ y.fin ≤ s.length := by
  unfold Un.step
  split
  · exact ⟨fun y h => (by cases h), fun y h => (by cases h)⟩
  · split
    · refine ⟨fun y h => (by cases h), fun y h => ?_⟩
      injection h with h
      subst h
      dsimp only [Un.leave]
      split <;> omega
    · split
      · split
        · exact ⟨fun y h => (by cases h), fun y h => (by cases h)⟩
        · split
          · exact ⟨fun y h => (by cases h), fun y h => (by cases h)⟩
          · refine ⟨fun y h => ?_, fun y h => (by cases h)⟩
            injection h with h
            subst h
            exact ⟨h1, h2⟩
      · split
        · split
          · exact ⟨fun y h => (by cases h), fun y h => (by cases h)⟩
          · split
            · exact ⟨fun y h => (by cases h), fun y h => (by cases h)⟩
            · refine ⟨fun y h => ?_, fun y h => (by cases h)⟩
              injection h with h
              subst h
              refine ⟨?_, ?_⟩
              · show x.to s ≤ s.length
                omega
              · show x.leave 2 = -1 ∨ 0 ≤ x.leave 2 ∧ x.leave 2 ≤ s.length
                unfold Un.leave
                split <;> omega
        · exact ⟨fun y h => (by cases h), fun y h => (by cases h)⟩
theorem un_fin {s : List UInt8} {f : Bool} {x y : Un} (h1 : x.begun ≤ s.length) (h2 : x.fin = -1 ∨ 0 ≤ x.fin ∧ x.fin ≤ s.length) (hs : uread s f x = .done y) : 0 ≤ y.fin ∧ y.fin ≤ s.length := by
  generalize hm : x.mu s = m
  induction m using Nat.strongRecOn generalizing x with
  | _ m ih =>
    obtain ⟨g1, g2⟩ := un_fin_step (f := f) h1 h2
    cases hx : x.step s f with
    | done z =>
      rw [uread_done hx] at hs
      injection hs with hs
      subst hs
      exact g2 _ hx
    | bad e =>
      rw [uread_bad hx] at hs
      cases hs
    | on z =>
      rw [uread_on hx] at hs
      exact ih (z.mu s) (hm ▸ Un.step_mu hx) (g1 z hx).1 (g1 z hx).2 hs rfl
theorem nameAt_fin {s : ByteArray} {a : Nat} {f : Bool} {y : Un} (ha : a ≤ s.size) (h : nameAt s a f = .done y) : 0 ≤ y.fin ∧ y.fin ≤ s.size := by
  unfold nameAt at h
  rw [if_neg (by omega)] at h
  have := un_fin (by rw [size_l]; dsimp only; omega) (.inl rfl) h
  rw [size_l] at this
  exact this

/-! ### The cursor -/
section
variable {w w' : World} {p r : Nat} {s : ByteArray} {en : Nat} {c : Cu}
theorem ext_size (h : en ≤ s.size) : (s.extract 0 en).size = en := by rw [ByteArray.size_extract]; omega
end
theorem ext_list (s : ByteArray) (a b en : Nat) (hb : b ≤ en) (hen : en ≤ s.size) : (s.extract 0 en).extract a b = ⟨((s.data.toList.drop a).take (b - a)).toArray⟩ := by
  apply ByteArray.ext
  apply Array.ext'
  simp only [ByteArray.data_extract, Array.toList_extract, List.extract_eq_take_drop, List.drop_zero, Nat.sub_zero]
  rw [List.drop_take, List.take_take]
  congr 1
  omega
theorem Cu.take_eq {s : ByteArray} {en : Nat} (hen : en ≤ s.size) {c : Cu} (h0 : c.e = 0) (ha : c.at_ ≤ en) (n : Nat) :
    (Rst.take ⟨s.extract 0 en, c.at_⟩ n).2.1 = ⟨(c.take s.data.toList en n).1.toArray⟩ ∧ (Rst.take ⟨s.extract 0 en, c.at_⟩ n).1 = ⟨s.extract 0 en, (c.take s.data.toList en n).2.at_⟩ ∧ (Rst.take ⟨s.extract 0 en, c.at_⟩ n).2.2 = (c.take s.data.toList en n).2.e := by
  have hz := ext_size hen
  unfold Rst.take Cu.take
  dsimp only
  rw [hz, if_neg (show ¬ (n : Int) < 0 by omega), if_neg (show ¬ c.e ≠ 0 by simp [h0])]
  by_cases hl : en - c.at_ < n
  · rw [if_pos (show (en : Int) - c.at_ < n by omega), if_pos hl]
    exact ⟨rfl, rfl, rfl⟩
  · rw [if_neg (show ¬ (en : Int) - c.at_ < n by omega), if_neg hl]
    dsimp only
    rw [Int.toNat_natCast]
    refine ⟨?_, rfl, rfl⟩
    rw [ext_list _ _ _ _ (by omega) hen, Nat.add_sub_cancel_left]

end Go.Proofs.Ytncfdfgcnblicaa

/-
  LAYER 9: what a type has: the program's map of the types.
-/
namespace Go.Proofs.Ytncfdfgcnblicaa
set_option linter.unusedVariables false
set_option linter.unusedSimpArgs false
open Go.RowKit Go.Maps

/-- An element of a map, as it is. -/
def tokE (v : Value) : Option (DataW Value × List MemPlace) := some (.held v, [])

theorem wpList_insert_tok {P : Program} (w : World) {ops : Array Oper} {rest : List Oper} {o : Oper} {a : Act} {Q : Exit → Act → World → Prop}
    (hg : o.guard = none) (m x v : Operand) (t : TypeId) (hop : o.op = Op.insert t m x v)
    (k e : TypeId) (K : Keyed P k) (ht : P.underlying t = some (.map k e)) (b n : Nat) (D : DataW Value)
    (hm : a.eval m = .map (some b)) (hown : w.ownsMap P k tokE b n D) (hn : n < maxLen) (key val : Value) (kl : Lit) (hx : a.eval x = key) (hv : a.eval v = val) (hkey : keyOf P k key = some kl)
    (hK : ∀ w', w'.ownsMap P k tokE b (n + 1) (D.put kl (.held val)) → Fr (· = b) w w' → wpList P ops Q rest (a.put o.dst undef) w') :
    wpList P ops Q (o :: rest) a w := by
  refine wpList_plain hg fun K' hK' => ?_
  obtain ⟨w', hrun, r1, r2⟩ := hown.update K ht hn hkey (d := .held val) (ps := []) rfl
  unfold Oper.wp
  simp [execOp, hop, hm, hx, hv, hrun, Result.andThen]
  exact hK' _ _ (hK w' r1 ((Fr.refl (· = b) w).grown (row := some b) r2 fun j hj _ => (Option.some.inj hj).symm))

/-- What a type has, with its text, as the program has it. -/
def Wh.cells (w : Wh) (tx : ByteArray) : Array Value := #[.string tx, .int .i64 w.addr, .int .i64 w.names, .bool w.plain, .bool w.first, .int .i64 w.nums, .int .i64 w.wide, .bool w.texts, .bool w.raw]
def Wh.val (w : Wh) (tx : ByteArray) : Value := .agg (w.cells tx)
def typesL : List (Int × ByteArray) := [(1, ⟨#[65]⟩), (28, ⟨#[65, 65, 65, 65]⟩), (2, ⟨#[78, 83]⟩), (5, ⟨#[67, 78, 65, 77, 69]⟩), (12, ⟨#[80, 84, 82]⟩), (6, ⟨#[83, 79, 65]⟩), (15, ⟨#[77, 88]⟩), (33, ⟨#[83, 82, 86]⟩), (16, ⟨#[84, 88, 84]⟩), (41, ⟨#[79, 80, 84]⟩)]
def knownN (t : Int) : Bool := typesL.any fun p => p.1 == t
def textN (t : Int) : ByteArray := ((typesL.find? fun p => p.1 == t).map (·.2)).getD ⟨#[]⟩
def whatN0 (t : Int) : Wh := if knownN t = true then whatN t else ⟨0, 0, false, false, 0, 0, false, false⟩
def typesD : DataW Value := typesL.foldl (fun D p => D.put (.int .i64 p.1) (.held ((whatN p.1).val p.2))) (.map [])

theorem look_fold (z : DataW Value) (t : Int) : ∀ (l : List (Int × ByteArray)) (D : DataW Value), IsMap D → (l.map (·.1)).Nodup → (∀ p ∈ l, has D (.int .i64 p.1) = false) →
    (l.foldl (fun D p => D.put (.int .i64 p.1) (.held ((whatN p.1).val p.2))) D).atKey (.int .i64 t) z = ((l.find? fun p => p.1 == t).map fun p => DataW.held ((whatN p.1).val p.2)).getD (D.atKey (.int .i64 t) z) ∧
    has (l.foldl (fun D p => D.put (.int .i64 p.1) (.held ((whatN p.1).val p.2))) D) (.int .i64 t) = (l.any (fun p => p.1 == t) || has D (.int .i64 t))
  | [], D, _, _, _ => by simp
  | p :: r, D, h, hn, hh => by
    have hk : ∀ i, WideAt.IsKeyLit (.int .i64 i) := fun _ => trivial
    obtain ⟨n1, n2⟩ := List.nodup_cons.1 (by simpa using hn : (p.1 :: r.map (·.1)).Nodup)
    obtain ⟨i1, i2⟩ := look_fold z t r _ (h.put (.int .i64 p.1) (.held ((whatN p.1).val p.2))) n2 (fun q hq => by
      have hne : Lit.int .i64 q.1 ≠ .int .i64 p.1 := fun e => n1 (by
        injection e with _ e
        exact List.mem_map.2 ⟨q, hq, e⟩)
      rw [has_put_other hne]
      exact hh q (by simp [hq]))
    rw [List.foldl_cons, i1, i2, List.find?_cons, List.any_cons]
    by_cases e : p.1 = t
    · have hf : r.find? (fun p => p.1 == t) = none := by
        rw [List.find?_eq_none]
        intro q hq hqt
        exact n1 (List.mem_map.2 ⟨q, hq, by rw [e]; simpa using hqt⟩)
      have he : (p.1 == t) = true := by simpa using e
      rw [hf, he]
      rw [← e, has_put_same h (hk _), atKey_put_same h (hk _)]
      simp
    · have he : (p.1 == t) = false := by simpa using e
      have hne : Lit.int .i64 t ≠ .int .i64 p.1 := fun e' => e (by injection e' with _ e'; exact e'.symm)
      rw [he, has_put_other hne, atKey_put_other hne]
      simp
theorem typesD_look (z : Value) (t : Int) : typesD.atKey (.int .i64 t) (.held z) = .held (if knownN t = true then (whatN t).val (textN t) else z) ∧ has typesD (.int .i64 t) = knownN t := by
  obtain ⟨h1, h2⟩ := look_fold (.held z) t typesL (.map []) ⟨_, rfl⟩ (by decide) (fun _ _ => rfl)
  refine ⟨h1.trans ?_, h2.trans (by simp [knownN, has])⟩
  unfold knownN textN
  cases hf : typesL.find? (fun p => p.1 == t) with
  | none =>
    have : typesL.any (fun p => p.1 == t) = false := by
      rw [List.find?_eq_none] at hf
      rw [List.any_eq_false]
      exact hf
    rw [this]
    rfl
  | some p =>
    have hp := List.find?_some hf
    have he : p.1 = t := by simpa using hp
    have : typesL.any (fun p => p.1 == t) = true := List.any_eq_true.2 ⟨p, List.mem_of_find?_eq_some hf, hp⟩
    rw [this]
    simp [he]
/-- Of whatever no row tells the type has raw octets. -/
theorem unknown_raw {t : Int} (h : knownN t = false) : whatN t = ⟨0, 0, false, false, 0, 0, false, true⟩ ∧ textN t = ⟨#[]⟩ := by
  simp only [knownN, typesL, List.any_cons, List.any_nil, Bool.or_false, Bool.or_eq_false_iff, beq_eq_false_iff_ne, ne_eq] at h
  constructor
  · unfold whatN
    rw [if_neg (by omega), if_neg (by omega), if_neg (by omega), if_neg (by omega), if_neg (by omega), if_neg (by omega), if_neg (by omega)]
  · unfold textN
    have : typesL.find? (fun p => p.1 == t) = none := by
      rw [List.find?_eq_none]
      intro p hp
      simp only [typesL, List.mem_cons, List.not_mem_nil, or_false] at hp
      rcases hp with rfl | rfl | rfl | rfl | rfl | rfl | rfl | rfl | rfl | rfl <;> simp <;> omega
    rw [this]
    rfl

theorem typeLaw : Keyed Try.prog 3 := int_keyed Try.underlying3
def TypesPost (w : World) (e : Ending) (w' : World) : Prop := ∃ b n, e = .returned (.map (some b)) ∧ w'.ownsMap Try.prog 3 tokE b n typesD ∧ Fr (fun _ => False) w w'

end Go.Proofs.Ytncfdfgcnblicaa

/-
  LAYER 4, AS FAR AS DATA WANT IT: an address is looked at, put as octets, read of octets.
-/
namespace Go.Proofs.Ytncfdfgcnblicaa
set_option linter.unusedVariables false
set_option linter.unusedSimpArgs false
open Go.RowKit

abbrev adrV (six : Bool) (hi lo : Nat) : Value := .agg #[.bool six, .int .u64 hi, .int .u64 lo]
def adrCk (six : Bool) (hi lo : Nat) : Int := if six = false ∧ ¬ (hi = 0 ∧ lo < 4294967296) then 2 else 0

theorem u64_or_nat (a b : Nat) (ha : a < 18446744073709551616) (hb : b < 18446744073709551616) : bits .or .u64 (a : Int) (b : Int) = ((a ||| b : Nat) : Int) := by
  have hx : a ||| b < 2 ^ 64 := Nat.or_lt_two_pow (by omega) (by omega)
  show IntKind.u64.wrap ((BitVec.ofInt 64 (a : Int) ||| BitVec.ofInt 64 (b : Int)).toNat : Int) = _
  rw [BitVec.toNat_or, BitVec.ofInt_natCast, BitVec.ofInt_natCast, BitVec.toNat_ofNat, BitVec.toNat_ofNat, Nat.mod_eq_of_lt (by omega), Nat.mod_eq_of_lt (by omega), IntKind.wrap_u64]
  omega
theorem orU64 (V c : Nat) (hV : V < 72057594037927936) (hc : c < 256) : bits .or .u64 ((V : Int) * 256) (c : Int) = ((V * 256 + c : Nat) : Int) := by
  have e1 : (V : Int) * 256 = ((V * 256 : Nat) : Int) := by omega
  rw [e1, u64_or_nat _ _ (by omega) (by omega), Nat.mul_comm V 256, show 256 = 2 ^ 8 from rfl, ← Nat.two_pow_add_eq_or_of_lt (by omega)]

/-- The octets of a row are told as a number. -/
def OctsAt (w : World) (a : Addr) (l : List UInt8) : Prop := ∀ j, j < l.length → w.cell? (a.add j) = some (.int .u8 (l.getD j 0).toNat)

theorem octs_take_succ (v : Nat) : ∀ (n j : Nat), j < n → (octs v n).take (j + 1) = (octs v n).take j ++ [UInt8.ofNat (v / 256 ^ (n - 1 - j))]
  | n + 1, 0, _ => by simp [octs]
  | n + 1, j + 1, h => by
    have := octs_take_succ v n j (by omega)
    simp only [octs, List.take_succ_cons, List.cons_append]
    rw [this, show n + 1 - 1 - (j + 1) = n - 1 - j by omega]

theorem u8_new (w : World) (v : Int) (t : TypeId) : ∀ j u, ([Value.int .u8 v] : List Value)[j]? = some u → (w.alloc (.cells #[.int .u8 v] t)).cell? ((⟨w.heap.size, 0, none⟩ : Addr).add j) = some u := by
  intro j u hu
  have hj : j = 0 := by have := (List.getElem?_eq_some_iff.1 hu).1; simpa using this
  subst hj
  rw [add_off, (Blk.new w t #[.int .u8 v]).cell]
  simpa using hu
theorem u8_one (v : Int) : ∀ u ∈ ([Value.int .u8 v] : List Value), u.oneCell' = true := by
  intro u hu
  rw [List.mem_singleton.1 hu]
  rfl
def PartPost (w : World) (A : Option Addr) (l : List UInt8) (e : Ending) (w' : World) : Prop :=
  ∃ A' cap', e = .returned (.slice A' l.length cap') ∧ w'.ownsRow 0 5 1 (.slice A' l.length cap') l.length (u8s l) ∧ Fr (rowOf A) w w' ∧ ∀ k, rowOf A' k → rowOf A k ∨ w.heap.size ≤ k
def PartN (w : World) (A : Option Addr) (l : List UInt8) (n : Nat) (e : Ending) (w' : World) : Prop :=
  ∃ A' cap', e = .returned (.slice A' n cap') ∧ w'.ownsRow 0 5 1 (.slice A' n cap') n (u8s l) ∧ Fr (rowOf A) w w' ∧ ∀ k, rowOf A' k → rowOf A k ∨ w.heap.size ≤ k
theorem PartPost.n {w w' : World} {A : Option Addr} {l : List UInt8} {n : Nat} {e : Ending} (h : PartPost w A l e w') (hn : l.length = n) : PartN w A l n e w' := by subst hn; exact h
/-- An address' octets. -/
def adrL (six : Bool) (hi lo : Nat) : List UInt8 := if six = true then octs hi 8 ++ octs lo 8 else octs lo 4
def StrPost (w : World) (v : Value) (e : Ending) (w' : World) : Prop := e = .returned v ∧ Fr (fun _ => False) w w'
theorem four_list {l : List UInt8} (h : l.length = 4) : ∃ a b c d, l = [a, b, c, d] := by
  match l, h with
  | [a, b, c, d], _ => exact ⟨a, b, c, d, rfl⟩

def AddrOfPost (w : World) (s : ByteArray) (e : Ending) (w' : World) : Prop :=
  ∃ v, e = .returned (.tuple #[adrV (addrOf s.data.toList).1 (addrOf s.data.toList).2.1 (addrOf s.data.toList).2.2, v]) ∧ Fr (fun _ => False) w w'
theorem addrOf_four {s : ByteArray} {a b c d : UInt8} (h : s.data.toList = [a, b, c, d]) {w w' : World} {v : Value} (hf : Fr (fun _ => False) w w') :
    AddrOfPost w s (.returned (.tuple #[.agg #[.bool false, .int .u64 (0 : Nat), .int .u64 (numOf [a, b, c, d])], v])) w' := by
  refine ⟨v, ?_, hf⟩
  rw [h]
  rfl

end Go.Proofs.Ytncfdfgcnblicaa

/-
  Structs compared: addresses, rows of five numbers.
-/
namespace Go.Proofs.Ytncfdfgcnblicaa
set_option linter.unusedVariables false
set_option linter.unusedSimpArgs false
open Go.RowKit

theorem wf_u64 {n : Nat} (h : n < 18446744073709551616) : (Lit.int .u64 n).wf = true := by
  simp [Lit.wf, IntKind.min, IntKind.max, IntKind.signed, IntKind.bits]
  omega
theorem wf_u32 {n : Nat} (h : n < 4294967296) : (Lit.int .u32 n).wf = true := by
  simp [Lit.wf, IntKind.min, IntKind.max, IntKind.signed, IntKind.bits]
  omega
def adrLits (six : Bool) (hi lo : Nat) : List Lit := [.bool six, .int .u64 hi, .int .u64 lo]
theorem adr_keyLits (six : Bool) (hi lo : Nat) (h1 : hi < 18446744073709551616) (h2 : lo < 18446744073709551616) : Try.prog.keyLits 3 57 (adrV six hi lo).cells.toList = some (adrLits six hi lo) := by
  have w1 := wf_u64 h1
  have w2 := wf_u64 h2
  have hc : Try.prog.cellsOf 57 = 3 := by kernel_rfl
  have c1 : Try.prog.cellsOf 4 = 1 := by kernel_rfl
  have c64 : Try.prog.cellsOf 55 = 1 := by kernel_rfl
  simp [Program.keyLits, Try.underlying57, Try.underlying4, Try.underlying55, hc, c1, c64, w1, w2, Value.cells, adrV, adrLits, List.range_succ]
theorem adr_formed (six : Bool) (hi lo : Nat) : (adrV six hi lo).formed Try.prog 57 = true := by kernel_rfl
theorem adr_equalIn (s1 s2 : Bool) (h1 h2 l1 l2 : Nat) (a1 : h1 < 18446744073709551616) (a2 : l1 < 18446744073709551616) (a3 : h2 < 18446744073709551616) (a4 : l2 < 18446744073709551616) (w : World) :
    (Op.equalIn 10000 57 (adrV s1 h1 l1) (adrV s2 h2 l2)).run Try.prog w = .ok (decide (s1 = s2 ∧ h1 = h2 ∧ l1 = l2)) w := by
  obtain ⟨r, hr, hiff⟩ := run_equalIn_deep (P := Try.prog) 9997 3 57 (by kernel_rfl) w 3 3 (adrV s1 h1 l1) (adrV s2 h2 l2) _ _ (adr_formed _ _ _) (adr_formed _ _ _) (adr_keyLits s1 h1 l1 a1 a2) (adr_keyLits s2 h2 l2 a3 a4)
  have e : r = decide (s1 = s2 ∧ h1 = h2 ∧ l1 = l2) := by
    rw [Bool.eq_iff_iff, decide_eq_true_eq, hiff]
    simp [adrLits]
    intro _
    omega
  rw [← e]
  exact hr
theorem adr_eql (s1 s2 : Bool) (h1 h2 l1 l2 : Nat) (a1 : h1 < 18446744073709551616) (a2 : l1 < 18446744073709551616) (a3 : h2 < 18446744073709551616) (a4 : l2 < 18446744073709551616) (w : World) :
    (Go.binOp .eql 57 (.agg #[.bool s1, .int .u64 h1, .int .u64 l1]) (.agg #[.bool s2, .int .u64 h2, .int .u64 l2])).run Try.prog w = .ok (.bool (decide (s1 = s2 ∧ h1 = h2 ∧ l1 = l2))) w := by
  have := adr_equalIn s1 s2 h1 h2 l1 l2 a1 a2 a3 a4 w
  unfold adrV at this
  rw [run_eql_struct, this]
  rfl
theorem adr_neq (s1 s2 : Bool) (h1 h2 l1 l2 : Nat) (a1 : h1 < 18446744073709551616) (a2 : l1 < 18446744073709551616) (a3 : h2 < 18446744073709551616) (a4 : l2 < 18446744073709551616) (w : World) :
    (Go.binOp .neq 57 (.agg #[.bool s1, .int .u64 h1, .int .u64 l1]) (.agg #[.bool s2, .int .u64 h2, .int .u64 l2])).run Try.prog w = .ok (.bool (!decide (s1 = s2 ∧ h1 = h2 ∧ l1 = l2))) w := by
  have := adr_equalIn s1 s2 h1 h2 l1 l2 a1 a2 a3 a4 w
  unfold adrV at this
  rw [run_neq_struct, this]
  rfl

def numsLits (d : Dt) : List Lit := [.int .u32 d.n0, .int .u32 d.n1, .int .u32 d.n2, .int .u32 d.n3, .int .u32 d.n4]
def numsV (d : Dt) : Value := .agg #[.int .u32 d.n0, .int .u32 d.n1, .int .u32 d.n2, .int .u32 d.n3, .int .u32 d.n4]
theorem nums_keyLits (d : Dt) (h : ∀ i, d.num i < 4294967296) : Try.prog.keyLits 3 58 (numsV d).cells.toList = some (numsLits d) := by
  have w0 := wf_u32 (h 0)
  have w1 := wf_u32 (h 1)
  have w2 := wf_u32 (h 2)
  have w3 := wf_u32 (h 3)
  have w4 := wf_u32 (h 4)
  simp only [Dt.num] at w0 w1 w2 w3 w4
  have hc : Try.prog.cellsOf 58 = 5 := by kernel_rfl
  have c1 : Try.prog.cellsOf 54 = 1 := by kernel_rfl
  simp [Program.keyLits, Try.underlying58, Try.underlying54, hc, c1, w0, w1, w2, w3, w4, Value.cells, numsV, numsLits, List.range_succ]
theorem nums_formed (d : Dt) : (numsV d).formed Try.prog 58 = true := by kernel_rfl
theorem nums_eql (d e : Dt) (hd : ∀ i, d.num i < 4294967296) (he : ∀ i, e.num i < 4294967296) (w : World) :
    (Go.binOp .eql 58 (numsV d) (numsV e)).run Try.prog w = .ok (.bool (decide (d.n0 = e.n0 ∧ d.n1 = e.n1 ∧ d.n2 = e.n2 ∧ d.n3 = e.n3 ∧ d.n4 = e.n4))) w := by
  obtain ⟨r, hr, hiff⟩ := run_equalIn_deep (P := Try.prog) 9997 3 58 (by kernel_rfl) w 3 3 (numsV d) (numsV e) _ _ (nums_formed _) (nums_formed _) (nums_keyLits d hd) (nums_keyLits e he)
  have e' : r = decide (d.n0 = e.n0 ∧ d.n1 = e.n1 ∧ d.n2 = e.n2 ∧ d.n3 = e.n3 ∧ d.n4 = e.n4) := by
    rw [Bool.eq_iff_iff, decide_eq_true_eq, hiff]
    simp [numsLits]
    omega
  rw [← e']
  unfold numsV at hr ⊢
  rw [run_eql_struct, hr]
  rfl
end Go.Proofs.Ytncfdfgcnblicaa

/-
  LAYER 2, AS FAR AS LAYER 7 REACHES IT: is a name one that may be?
-/
namespace Go.Proofs.Ytncfdfgcnblicaa
open Go.RowKit

theorem empty_of {m : ByteArray} (h : m.data.toList = []) : m = ⟨#[]⟩ := ByteArray.ext (Array.toList_inj.1 h)
theorem nonempty_facts {m : ByteArray} (hm : m ≠ ⟨#[]⟩) : m.toList.isEmpty = false ∧ m.data.toList ≠ [] ∧ 0 < m.size := by
  have h : m.data.toList ≠ [] := fun h => hm (empty_of h)
  refine ⟨?_, h, ?_⟩
  · rw [ByteArray.toList_eq]
    cases hd : m.data.toList with
    | nil => exact absurd hd h
    | cons a b => rfl
  · rw [← size_l]
    exact List.length_pos_iff.2 h

/-- Is the first label none that may be? -/
def cutBad (m : ByteArray) : Prop := oc m.data.toList 0 < 1 ∨ 63 < oc m.data.toList 0 ∨ m.size ≤ oc m.data.toList 0

set_option maxRecDepth 100000 in
set_option maxHeartbeats 2000000 in
theorem cut_bad (m : ByteArray) (w : World) (hm : m ≠ ⟨#[]⟩) (hb : cutBad m) :
    Calls Try.prog 80 #[.string m] w fun e w' => e = .returned (.tuple #[.string ⟨#[]⟩, .string m, .bool false]) ∧ ∃ n, w' = w.drewN n := by
  obtain ⟨h1, _, h3⟩ := nonempty_facts hm
  have hix := run_index_oc' m (0 : Int) 0 rfl h3
  unfold cutBad at hb
  have hK := oc_lt m.data.toList 0
  generalize oc m.data.toList 0 = K at *
  by_cases b1 : K < 1
  · go_enter Try.func80, Try.ntmps80
    go_wp2_with fail
    go_ret3
    exact ⟨rfl, 0, rfl⟩
  · by_cases b2 : 63 < K
    · go_enter Try.func80, Try.ntmps80
      go_wp2_with fail
      go_ret3
      exact ⟨rfl, 0, rfl⟩
    · have b3 : m.size ≤ K := by omega
      go_enter Try.func80, Try.ntmps80
      go_wp2_with fail
      go_ret3
      exact ⟨rfl, 0, rfl⟩

set_option maxRecDepth 100000 in
set_option maxHeartbeats 2000000 in
theorem cut_ok (m : ByteArray) (w : World) (hm : m ≠ ⟨#[]⟩) (hb : ¬ cutBad m) :
    Calls Try.prog 80 #[.string m] w fun e w' => e = .returned (.tuple #[.string (m.extract 1 (1 + oc m.data.toList 0)), .string (m.extract (1 + oc m.data.toList 0) m.size), .bool true]) ∧ ∃ n, w' = w.drewN n := by
  obtain ⟨h1, _, h3⟩ := nonempty_facts hm
  have hix := run_index_oc' m (0 : Int) 0 rfl h3
  unfold cutBad at hb
  have hK := oc_lt m.data.toList 0
  generalize oc m.data.toList 0 = K at *
  have q1 : IntKind.i64.wrap (1 + (K : Int)) = 1 + (K : Int) := IntWalk.i64_in _ (by omega)
  have q2 : (1 + (K : Int)).toNat = 1 + K := by omega
  have hsl : ∀ w, (Instr.slice 23 (.string m) (some (.int .i64 1)) (some (.int .i64 (1 + (K : Int)))) none).run Try.prog w = .ok (.string (m.extract 1 (1 + K))) w := fun w => by
    rw [run_slice_string (P := Try.prog) w 23 m .i64 .i64 _ _ Try.underlying23 (by omega) (by omega) (by omega), q2]
    rfl
  have hsl2 : ∀ w, (Instr.slice 23 (.string m) (some (.int .i64 (1 + (K : Int)))) none none).run Try.prog w = .ok (.string (m.extract (1 + K) m.size)) w := fun w => by
    rw [run_slice_string_l (P := Try.prog) w 23 m Try.underlying23 .i64 _ (by omega) (by omega), q2]
  go_enter Try.func80, Try.ntmps80
  go_wp2_with fail
  go_quiet (fail)
  go_wp2_with fail
  go_ret3
  exact ⟨rfl, _, rfl⟩

set_option maxRecDepth 100000 in
set_option maxHeartbeats 2000000 in
theorem ncheck_any (s : ByteArray) (w : World) :
    Calls Try.prog 73 #[.string s] w fun e w' => e = .returned (.int .i64 (ckN s)) ∧ ∃ n, w' = w.drewN n := by
  by_cases h0 : 254 < s.size
  · have hr : ckN s = 3 := by unfold ckN; rw [if_pos h0]
    rw [hr]
    clear hr
    go_enter Try.func73, Try.ntmps73
    go_wp2_with fail
    go_ret
    exact ⟨rfl, 0, rfl⟩
  · have hr : ckN s = ckAt s.data.toList 0 := by unfold ckN; rw [if_neg h0]
    rw [hr]
    clear hr
    generalize hz : ckAt s.data.toList 0 = z
    have HZ := Lib.hid hz
    clear hz
    go_enter Try.func73, Try.ntmps73
    go_wp2_with fail
    go_loopg [0] s.size (fun g v wr => ∃ (m : ByteArray) (n : Nat), g = m.size ∧ v = .string m ∧ m.size ≤ s.size ∧ ckAt m.data.toList 0 = z ∧ wr = w.drewN n)
    case atStart => exact ⟨s, 0, rfl, rfl, Nat.le_refl _, HZ.out, rfl⟩
    case round =>
      obtain ⟨m, n, rfl, rfl, hm1, hm2, rfl⟩ := hrel
      by_cases hm : m = ⟨#[]⟩
      · subst hm
        have hz : z = 0 := by rw [← hm2, ckAt]; rfl
        subst hz
        clear HZ hm2
        go_wp2_with fail
        go_ret
        exact ⟨rfl, n, rfl⟩
      · obtain ⟨h1, h2, h3⟩ := nonempty_facts hm
        rw [ckAt, if_neg (by rw [size_l]; omega), size_l, Nat.zero_add] at hm2
        by_cases hb : cutBad m
        · have hz : z = 4 := by
            rw [if_pos (by unfold cutBad at hb; omega)] at hm2
            exact hm2.symm
          subst hz
          clear HZ hm2
          go_wp2_with fail
          refine (cut_bad m _ hm hb).mono ?_
          rintro e w' ⟨rfl, n2, rfl⟩
          go_wp2_with fail
          go_ret
          exact ⟨rfl, n + n2, rfl⟩
        · rw [if_neg (by unfold cutBad at hb; omega), show 1 + oc m.data.toList 0 = 1 + oc m.data.toList 0 + 0 from rfl, ← ckAt_drop, ← drop_list] at hm2
          have HM := Lib.hid hm2
          have hsz : (m.extract (1 + oc m.data.toList 0) m.size).size = m.size - (1 + oc m.data.toList 0) := by rw [ByteArray.size_extract, Nat.min_self]
          clear hm2
          go_wp2_with fail
          refine (cut_ok m _ hm hb).mono ?_
          rintro e w' ⟨rfl, n2, rfl⟩
          go_wp2_with fail
          go_roundg (m.size - (1 + oc m.data.toList 0))
          case measure => omega
          case rel => exact ⟨_, n + n2, hsz.symm, rfl, by omega, HM.out, rfl⟩
end Go.Proofs.Ytncfdfgcnblicaa

/-
  LAYER 7: THE PROGRAM's PACKER: a map from rests of names to places.
-/
namespace Go.Proofs.Ytncfdfgcnblicaa
open Go.RowKit Go.Maps
open Go.WideMaps (keyOf_string_mk)

theorem restLaw : Keyed Try.prog 23 := string_keyed Try.underlying23
theorem restZero (w : World) : (zeroValue 3).run Try.prog w = .ok (.int .i64 0) w := by kernel_rfl

/-- Block b is a map that tells of each rest where it stands. -/
def MapIs (w : World) (b n : Nat) (g : List UInt8 → Option Nat) : Prop :=
  ∃ D : DataW Unit, w.ownsMap Try.prog 23 (plainElem Try.prog 3) b n D ∧
    (∀ l : List UInt8, Maps.has D (.string l) = (g l).isSome ∧ D.atKey (.string l) (.lit (.int .i64 0)) = .lit (.int .i64 ((g l).getD 0 : Nat))) ∧ ∀ l a, g l = some a → a < 16384

theorem MapIs.made (w : World) : MapIs (w.alloc (.map #[] 0)) w.heap.size 0 (fun _ => none) :=
  ⟨.map [], World.ownsMap_made w _ _ _, fun _ => ⟨rfl, rfl⟩, fun _ _ h => by cases h⟩
theorem MapIs.lt {w : World} {b n : Nat} {g : List UInt8 → Option Nat} (h : MapIs w b n g) : b < w.heap.size := by
  obtain ⟨D, h1, _⟩ := h
  exact h1.lt
theorem MapIs.fr {w w' : World} {b n : Nat} {g : List UInt8 → Option Nat} {S : Nat → Prop} (h : MapIs w b n g) (hf : Fr S w w') (hb : ¬ S b) : MapIs w' b n g := by
  obtain ⟨D, ⟨es, clock, h1, h2, h3, h4⟩, hD⟩ := h
  exact ⟨D, ⟨es, clock, (hf.block b (Array.getElem?_eq_some_iff.1 h1).1 hb).trans h1, h2, h3, h4⟩, hD⟩
theorem updAt_far {g : List UInt8 → Option Nat} {n : List UInt8} {p : Nat} (h : ¬ p < 16384) : updAt g n p = g := by unfold updAt; rw [if_neg h]

end Go.Proofs.Ytncfdfgcnblicaa

/-
  LAYER 7: THE PROGRAM's PACKER: names.
-/
namespace Go.Proofs.Ytncfdfgcnblicaa
open Go.RowKit Go.Maps

end Go.Proofs.Ytncfdfgcnblicaa
