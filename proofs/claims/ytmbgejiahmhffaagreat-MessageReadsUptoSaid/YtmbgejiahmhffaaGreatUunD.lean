/-
  TEXTS OF THIS CLAIM, TOGETHER: Rowl, Dcu, Wht, Adr, Eqs, Nam, Ppk, Ppn.
-/
import Derived.Test.YtmbgejiahmhffaaGreatUunA
import Derived.Test.YtmbgejiahmhffaaGreatUunB
import Derived.Test.YtmbgejiahmhffaaGreatUunC
import Derived.Test.YtmbgejiahmhffaaGreatProg
import Derived.Maps.OwnSet
import Derived.DeepKeys
import Derived.Laws.StructEq
import Derived.BigQuiet
/-
  WORDS FOR MEMORY, OF NO PROGRAM: a struct within a known block is loaded, stored, handed back whole, whatever its place there.
-/
namespace Go.Proofs.YtmbgejiahmhffaaGreat
set_option linter.unusedVariables false
set_option linter.unusedSimpArgs false
open Go.RowKit

theorem Fr.step {S T : Nat → Prop} {w a b : World} (h : Fr S w a) (k : Fr T a b) (hs : ∀ i, T i → S i ∨ w.heap.size ≤ i) : Fr S w b := h.trans k fun i hi hT => (hs i hT).resolve_right (by omega)
theorem Fr.new {T : Nat → Prop} {w a b : World} (h : Fr (fun _ => False) w a) (k : Fr T a b) (hs : ∀ i, T i → w.heap.size ≤ i) : Fr (fun _ => False) w b := h.step k fun i hT => .inr (hs i hT)
theorem at_step {S T U : Nat → Prop} {w a : World} (h : w.heap.size ≤ a.heap.size) (hs : ∀ k, T k → S k ∨ w.heap.size ≤ k) (k : ∀ k, U k → T k ∨ a.heap.size ≤ k) : ∀ k, U k → S k ∨ w.heap.size ≤ k := fun i hi => (k i hi).elim (hs i) fun g => .inr (Nat.le_trans h g)
theorem vint {k : IntKind} {a b : Int} (h : a = b) : Value.int k a = Value.int k b := by rw [h]
section
variable {P : Program} {w : World} {g : Nat} {t ty : TypeId} {cs : Array Value} {d : TypeDesc}
theorem add_off (g o j : Nat) : (⟨g, o, none⟩ : Addr).add j = ⟨g, o + j, none⟩ := by unfold Addr.add; split <;> simp_all
theorem run_loadVar_part (n o : Nat) (hg : Blk w g t cs) (hu : P.underlying ty = some d) (hd : (match d with | .struct _ | .array _ _ => true | _ => false) = true) (hi : (P.info? ty).map (·.size) = some n) (hn : o + n ≤ cs.size) :
    (loadVar ty ⟨g, o, none⟩).run P w = .ok (.agg (cs.extract o (o + n))) w := by
  have hlen : (cs.extract o (o + n)).toList.length = n := by simp; omega
  have hl : (loadCells ⟨g, o, none⟩ (cs.extract o (o + n)).toList.length).run P w = .ok (cs.extract o (o + n)).toList.toArray w :=
    run_loadCells_list (P := P) w ⟨g, o, none⟩ (cs.extract o (o + n)).toList (fun j v hv => by
      rw [add_off, hg.cell (o + j)]
      have hj : j < n := by have := (List.getElem?_eq_some_iff.1 hv).1; omega
      rw [Array.getElem?_toList, Array.getElem?_extract] at hv
      split at hv
      · exact hv
      · cases hv)
  rw [hlen] at hl
  cases hq : P.info? ty with
  | none => simp [hq] at hi
  | some i =>
    have hs : i.size = n := by simpa [hq] using hi
    have hagg : (isAgg ty).run P w = .ok true w := by
      unfold isAgg
      rw [Sem.run_bind, run_underlying hu w]
      cases d <;> simp_all
    simp only [Array.toArray_toList] at hl
    simp [loadVar, Sem.run_bind, hagg, sizeOf, typeInfo, hq, hs, hl]
theorem wpList_load_part {ops : Array Oper} {rest : List Oper} {o : Oper} {a : Act} {Q : Exit → Act → World → Prop} (hgd : o.guard = none) (ty : TypeId) (x : Operand) (ho : o.op = .load ty x)
    (g off : Nat) (hx : a.eval x = .pointer (some ⟨g, off, none⟩)) (t : TypeId) (cs : Array Value) (n : Nat) (d : TypeDesc) (hg : Blk w g t cs)
    (hu : P.underlying ty = some d) (hd : (match d with | .struct _ | .array _ _ => true | _ => false) = true) (hi : (P.info? ty).map (·.size) = some n) (hn : off + n ≤ cs.size)
    (v : Array Value) (hv : cs.extract off (off + n) = v)
    (h : wpList P ops Q rest (a.put o.dst (.agg v)) w) : wpList P ops Q (o :: rest) a w :=
  wpList_plain hgd fun _ hK => by
    unfold Oper.wp execOp
    simp only [ho, hx, Instr.loadAt, Instr.sureAddr, Sem.run_bind, Sem.run_pure, Result.andThen_ok, run_loadVar_part n off hg hu hd hi hn, hv]
    exact hK _ _ h
/-- The cells, some of them laid anew. -/
def lay (cs : Array Value) (o : Nat) (vs : List Value) : Array Value := (cs.toList.take o ++ (vs ++ cs.toList.drop (o + vs.length))).toArray
/-- A whole block is loaded. -/
theorem wpList_load_blk {ops : Array Oper} {rest : List Oper} {o : Oper} {a : Act} {Q : Exit → Act → World → Prop} (hgd : o.guard = none) (ty : TypeId) (x : Operand) (ho : o.op = .load ty x)
    (g : Nat) (hx : a.eval x = .pointer (some ⟨g, 0, none⟩)) (t : TypeId) (cs : Array Value) (d : TypeDesc) (hg : Blk w g t cs)
    (hu : P.underlying ty = some d) (hd : (match d with | .struct _ | .array _ _ => true | _ => false) = true) (hi : (P.info? ty).map (·.size) = some cs.size)
    (h : wpList P ops Q rest (a.put o.dst (.agg cs)) w) : wpList P ops Q (o :: rest) a w :=
  wpList_load_row hgd ty x ho g hx t cs (0, 0) d hg hu hd hi h
theorem lay_all {cs : Array Value} {vs : List Value} (h : cs.size = vs.length) : lay cs 0 vs = vs.toArray := by
  unfold lay
  rw [List.take_zero, List.nil_append, List.drop_of_length_le (by simp; omega), List.append_nil]
theorem blk_setRow (h : Blk w g t cs) (cs' : Array Value) : Blk (w.setRow g cs') g t cs' := setRow_heap w g cs cs' t (0, 0) h
theorem wp_store_part {o : Oper} {a : Act} {K : Act → World → Prop} {Q : Exit → Act → World → Prop} (ty : TypeId) (x y : Operand) (ho : o.op = .store ty x y)
    (g off : Nat) (hx : a.eval x = .pointer (some ⟨g, off, none⟩)) (vs : List Value) (hy : a.eval y = .agg vs.toArray) (t : TypeId) (cs : Array Value) (hg : Blk w g t cs)
    (hi : (P.info? ty).map (·.size) = some vs.length) (h1 : ∀ v ∈ vs, v.oneCell' = true) (hn : off + vs.length ≤ cs.size)
    (cs' : Array Value) (hc : lay cs off vs = cs')
    (h : ∀ w', Blk w' g t cs' → Fr (· = g) w w' → K (a.put o.dst undef) w') : o.wp P a w K Q := by
    cases hq : P.info? ty with
    | none => simp [hq] at hi
    | some i =>
      have hs : i.size = vs.length := by simpa [hq] using hi
      have hst := run_storeCells_at (P := P) g off t vs 0 cs w hg (by simpa using hn) h1
      simp only [Nat.add_zero] at hst
      unfold Oper.wp execOp
      simp [ho, hx, hy, Instr.storeAt, Instr.sureAddr, storeVar, Value.cells, sizeOf, typeInfo, hq, hs, hst, Sem.run_bind]
      subst hc
      exact h _ (blk_setRow hg _) ((Fr.refl (· = g) _).setRow (fun _ => rfl) _)
theorem wpList_store_part {ops : Array Oper} {rest : List Oper} {o : Oper} {a : Act} {Q : Exit → Act → World → Prop} (hgd : o.guard = none) (ty : TypeId) (x y : Operand) (ho : o.op = .store ty x y)
    (g off : Nat) (hx : a.eval x = .pointer (some ⟨g, off, none⟩)) (vs : List Value) (hy : a.eval y = .agg vs.toArray) (t : TypeId) (cs : Array Value) (hg : Blk w g t cs)
    (hi : (P.info? ty).map (·.size) = some vs.length) (h1 : ∀ v ∈ vs, v.oneCell' = true) (hn : off + vs.length ≤ cs.size)
    (cs' : Array Value) (hc : lay cs off vs = cs')
    (h : ∀ w', Blk w' g t cs' → Fr (· = g) w w' → wpList P ops Q rest (a.put o.dst undef) w') : wpList P ops Q (o :: rest) a w :=
  wpList_plain hgd fun _ hK => wp_store_part ty x y ho g off hx vs hy t cs hg hi h1 hn cs' hc fun w' b f => hK _ _ (h w' b f)
/-- A struct of three cells stored cell by cell: other blocks; the block; the frame. -/
theorem cell_set3 {q i j : Nat} {u0 u1 u2 : Value} (h : i ≠ q) : (((w.setCell ⟨q, 0, none⟩ u0).setCell ⟨q, 1, none⟩ u1).setCell ⟨q, 2, none⟩ u2).cell? ⟨i, j, none⟩ = w.cell? ⟨i, j, none⟩ := by
  have e : ∀ (w : World) (o : Nat) (u : Value), (w.setCell ⟨q, o, none⟩ u).cell? ⟨i, j, none⟩ = w.cell? ⟨i, j, none⟩ := fun w o u => World.cell?_of_block (Below.heap_setCell w ⟨q, o, none⟩ u i h)
  rw [e, e, e]
theorem blk_set3 {q : Nat} {a0 a1 a2 u0 u1 u2 : Value} (h : Blk w q t #[a0, a1, a2]) : Blk (((w.setCell ⟨q, 0, none⟩ u0).setCell ⟨q, 1, none⟩ u1).setCell ⟨q, 2, none⟩ u2) q t #[u0, u1, u2] := ((h.set_ 0 u0).set_ 1 u1).set_ 2 u2
theorem fr_set3 {q : Nat} {u0 u1 u2 : Value} : Fr (· = q) w (((w.setCell ⟨q, 0, none⟩ u0).setCell ⟨q, 1, none⟩ u1).setCell ⟨q, 2, none⟩ u2) :=
  (((Fr.refl (· = q) w).setCell (p := ⟨q, 0, none⟩) (fun _ => rfl) u0).setCell (p := ⟨q, 1, none⟩) (fun _ => rfl) u1).setCell (p := ⟨q, 2, none⟩) (fun _ => rfl) u2
theorem results_cell_blk {fn : Func} {p : Tmp} {ty : TypeId} (h : fn.results = #[.cell p ty]) {tmps : Array Value} {w : World} {g : Nat} {t : TypeId} {cs : Array Value} {d : TypeDesc}
    (hg : Blk w g t cs) (hp : tmps.getD p undef = .pointer (some ⟨g, 0, none⟩))
    (hu : P.underlying ty = some d) (hd : (match d with | .struct _ | .array _ _ => true | _ => false) = true) (hi : (P.info? ty).map (·.size) = some cs.size) :
    (results fn tmps).run P w = .ok (.agg cs) w := results_cell_row h tmps w g t cs (0, 0) d hp hg hu hd hi
/-- Two results: a struct, and a plain one. -/
theorem results_cell_tmp {fn : Func} {p q : Tmp} {ty : TypeId} (h : fn.results = #[.cell p ty, .tmp q]) {tmps : Array Value} {w : World} {g : Nat} {t : TypeId} {cs : Array Value} {d : TypeDesc} {v : Value}
    (hg : Blk w g t cs) (hp : tmps.getD p undef = .pointer (some ⟨g, 0, none⟩)) (hq : tmps.getD q undef = v)
    (hu : P.underlying ty = some d) (hd : (match d with | .struct _ | .array _ _ => true | _ => false) = true) (hi : (P.info? ty).map (·.size) = some cs.size) :
    (results fn tmps).run P w = .ok (.tuple #[.agg cs, v]) w := by
  have hp' : tmps[p]?.getD undef = .pointer (some ⟨g, 0, none⟩) := by simpa using hp
  have hq' : tmps[q]?.getD undef = v := by simpa using hq
  have hl := run_loadVar_row (P := P) w g t ty cs (0, 0) d hg hu hd hi
  simp [results, h, hp', hq', asAddr, hl]
/-- Three results: a struct, and two plain ones. -/
theorem results_cell_tmp2 {fn : Func} {p q r : Tmp} {ty : TypeId} (h : fn.results = #[.cell p ty, .tmp q, .tmp r]) {tmps : Array Value} {w : World} {g : Nat} {t : TypeId} {cs : Array Value} {d : TypeDesc} {v u : Value}
    (hg : Blk w g t cs) (hp : tmps.getD p undef = .pointer (some ⟨g, 0, none⟩)) (hq : tmps.getD q undef = v) (hr : tmps.getD r undef = u)
    (hu : P.underlying ty = some d) (hd : (match d with | .struct _ | .array _ _ => true | _ => false) = true) (hi : (P.info? ty).map (·.size) = some cs.size) :
    (results fn tmps).run P w = .ok (.tuple #[.agg cs, v, u]) w := by
  have hp' : tmps[p]?.getD undef = .pointer (some ⟨g, 0, none⟩) := by simpa using hp
  have hq' : tmps[q]?.getD undef = v := by simpa using hq
  have hr' : tmps[r]?.getD undef = u := by simpa using hr
  have hl := run_loadVar_row (P := P) w g t ty cs (0, 0) d hg hu hd hi
  simp [results, h, hp', hq', hr', asAddr, hl]
end
end Go.Proofs.YtmbgejiahmhffaaGreat

/-
  LAYER 9: the cursor that reads data: octets, numbers, names.
-/
namespace Go.Proofs.YtmbgejiahmhffaaGreat
set_option linter.unusedVariables false
set_option linter.unusedSimpArgs false
open Go.RowKit

/-! ### Where a name ends, with pointers or without -/
theorem un_fin_step {s : List UInt8} {f : Bool} {x : Un} (h1 : x.begun ≤ s.length) (h2 : x.fin = -1 ∨ 0 ≤ x.fin ∧ x.fin ≤ s.length) :
    (∀ y, x.step s f = .on y → y.begun ≤ s.length ∧ (y.fin = -1 ∨ 0 ≤ y.fin ∧ y.fin ≤ s.length)) ∧ ∀ y, x.step s f = .done y → 0 ≤ y.fin ∧ y.fin ≤ s.length := by
  unfold Un.step
  split
  · exact ⟨fun y h => (by cases h), fun y h => (by cases h)⟩
  · split
    · refine ⟨fun y h => (by cases h), fun y h => ?_⟩
      injection h with h
      subst h
      dsimp only [Un.leave]
      split <;> omega
    · split
      · split
        · exact ⟨fun y h => (by cases h), fun y h => (by cases h)⟩
        · split
          · exact ⟨fun y h => (by cases h), fun y h => (by cases h)⟩
          · refine ⟨fun y h => ?_, fun y h => (by cases h)⟩
            injection h with h
            subst h
            exact ⟨h1, h2⟩
      · split
        · split
          · exact ⟨fun y h => (by cases h), fun y h => (by cases h)⟩
          · split
            · exact ⟨fun y h => (by cases h), fun y h => (by cases h)⟩
            · refine ⟨fun y h => ?_, fun y h => (by cases h)⟩
              injection h with h
              subst h
              refine ⟨?_, ?_⟩
              · show x.to s ≤ s.length
                omega
              · show x.leave 2 = -1 ∨ 0 ≤ x.leave 2 ∧ x.leave 2 ≤ s.length
                unfold Un.leave
                split <;> omega
        · exact ⟨fun y h => (by cases h), fun y h => (by cases h)⟩
theorem un_fin {s : List UInt8} {f : Bool} {x y : Un} (h1 : x.begun ≤ s.length) (h2 : x.fin = -1 ∨ 0 ≤ x.fin ∧ x.fin ≤ s.length) (hs : uread s f x = .done y) : 0 ≤ y.fin ∧ y.fin ≤ s.length := by
  generalize hm : x.mu s = m
  induction m using Nat.strongRecOn generalizing x with
  | _ m ih =>
    obtain ⟨g1, g2⟩ := un_fin_step (f := f) h1 h2
    cases hx : x.step s f with
    | done z =>
      rw [uread_done hx] at hs
      injection hs with hs
      subst hs
      exact g2 _ hx
    | bad e =>
      rw [uread_bad hx] at hs
      cases hs
    | on z =>
      rw [uread_on hx] at hs
      exact ih (z.mu s) (hm ▸ Un.step_mu hx) (g1 z hx).1 (g1 z hx).2 hs rfl
theorem nameAt_fin {s : ByteArray} {a : Nat} {f : Bool} {y : Un} (ha : a ≤ s.size) (h : nameAt s a f = .done y) : 0 ≤ y.fin ∧ y.fin ≤ s.size := by
  unfold nameAt at h
  rw [if_neg (by omega)] at h
  have := un_fin (by rw [size_l]; dsimp only; omega) (.inl rfl) h
  rw [size_l] at this
  exact this
/-! ### The cursor -/
/-- The cursor lies at block p, its reader at block r. -/
structure CuIn (w : World) (p r : Nat) (s : ByteArray) (en : Nat) (c : Cu) : Prop where
  blk : Blk w p 167 #[.pointer (some ⟨r, 0, none⟩), .string (s.extract 0 en), .int .i64 c.e, .string s]
  rd : Rd w r ⟨s.extract 0 en, c.at_⟩
  ne : p ≠ r
  en : en ≤ s.size
  s : s.size ≤ 140737488351232
section
variable {w w' : World} {p r : Nat} {s : ByteArray} {en : Nat} {c : Cu}
theorem CuIn.fr {S : Nat → Prop} (h : CuIn w p r s en c) (hf : Fr S w w') (h1 : ¬ S p) (h2 : ¬ S r) : CuIn w' p r s en c := ⟨h.blk.fr hf h1, h.rd.fr hf h2, h.ne, h.en, h.s⟩
theorem CuIn.fr0 (h : CuIn w p r s en c) (hf : Fr (fun _ => False) w w') : CuIn w' p r s en c := h.fr hf id id
theorem ext_size (h : en ≤ s.size) : (s.extract 0 en).size = en := by rw [ByteArray.size_extract]; omega
theorem CuIn.at_ (h : CuIn w p r s en c) : c.at_ ≤ en := by have := h.rd.2.1; dsimp only at this; rw [ext_size h.en] at this; exact this
/-- The reader has turned, and the error is noted. -/
theorem CuIn.set (h : CuIn w p r s en c) {a : Nat} {e : Int} (hr : Rd w' r ⟨s.extract 0 en, a⟩) (hf : Fr (· = r) w w') :
    CuIn (w'.setCell ⟨p, 2, none⟩ (.int .i64 e)) p r s en ⟨a, e⟩ ∧ Fr (fun k => k = p ∨ k = r) w (w'.setCell ⟨p, 2, none⟩ (.int .i64 e)) := by
  have hb := (h.blk.fr hf h.ne).set_ 2 (.int .i64 e)
  have hs : Fr (· = p) w' (w'.setCell ⟨p, 2, none⟩ (.int .i64 e)) := (Fr.refl (· = p) w').setCell (p := ⟨p, 2, none⟩) (fun _ => rfl) _
  exact ⟨⟨hb, hr.fr hs (fun e => h.ne e.symm), h.ne, h.en, h.s⟩, (hf.mono fun _ _ e => .inr e).then (hs.mono fun _ _ e => .inl e)⟩
end
theorem ext_list (s : ByteArray) (a b en : Nat) (hb : b ≤ en) (hen : en ≤ s.size) : (s.extract 0 en).extract a b = ⟨((s.data.toList.drop a).take (b - a)).toArray⟩ := by
  apply ByteArray.ext
  apply Array.ext'
  simp only [ByteArray.data_extract, Array.toList_extract, List.extract_eq_take_drop, List.drop_zero, Nat.sub_zero]
  rw [List.drop_take, List.take_take]
  congr 1
  omega
theorem Cu.take_eq {s : ByteArray} {en : Nat} (hen : en ≤ s.size) {c : Cu} (h0 : c.e = 0) (ha : c.at_ ≤ en) (n : Nat) :
    (Rst.take ⟨s.extract 0 en, c.at_⟩ n).2.1 = ⟨(c.take s.data.toList en n).1.toArray⟩ ∧ (Rst.take ⟨s.extract 0 en, c.at_⟩ n).1 = ⟨s.extract 0 en, (c.take s.data.toList en n).2.at_⟩ ∧ (Rst.take ⟨s.extract 0 en, c.at_⟩ n).2.2 = (c.take s.data.toList en n).2.e := by
  have hz := ext_size hen
  unfold Rst.take Cu.take
  dsimp only
  rw [hz, if_neg (show ¬ (n : Int) < 0 by omega), if_neg (show ¬ c.e ≠ 0 by simp [h0])]
  by_cases hl : en - c.at_ < n
  · rw [if_pos (show (en : Int) - c.at_ < n by omega), if_pos hl]
    exact ⟨rfl, rfl, rfl⟩
  · rw [if_neg (show ¬ (en : Int) - c.at_ < n by omega), if_neg hl]
    dsimp only
    rw [Int.toNat_natCast]
    refine ⟨?_, rfl, rfl⟩
    rw [ext_list _ _ _ _ (by omega) hen, Nat.add_sub_cancel_left]
def CuPost (w : World) (p r : Nat) (s : ByteArray) (en : Nat) (v : Value) (c : Cu) (e : Ending) (w' : World) : Prop :=
  e = .returned v ∧ CuIn w' p r s en c ∧ Fr (fun k => k = p ∨ k = r) w w'
set_option maxRecDepth 100000 in
set_option maxHeartbeats 4000000 in
theorem cutake_any (p r : Nat) (s : ByteArray) (en : Nat) (c : Cu) (n : Nat) (w : World) (h : CuIn w p r s en c) :
    Calls Tryz.prog 129 #[.pointer (some ⟨p, 0, none⟩), .int .i64 n] w (CuPost w p r s en (.string ⟨(c.take s.data.toList en n).1.toArray⟩) (c.take s.data.toList en n).2) := by
  have H := Lib.hid h
  have c0 := h.blk.cell 0
  have c2 := h.blk.cell 2
  simp only [List.getElem?_toArray, List.getElem?_cons_zero, List.getElem?_cons_succ] at c0 c2
  clear h
  by_cases he : c.e = 0
  · have he' : (c.e != 0) = false := by simp [he]
    have HE := Lib.hid he
    obtain ⟨t1, t2, t3⟩ := Cu.take_eq H.out.en he H.out.at_ n
    generalize c.take s.data.toList en n = z at *
    clear he
    go_enter Tryz.func129, Tryz.ntmps129
    go_wp2_with fail
    refine (take_any r ⟨s.extract 0 en, c.at_⟩ n _ H.out.rd).mono ?_
    rintro e w1 ⟨rfl, h1, f1⟩
    rw [t1, t3]
    rw [t2] at h1
    have hb := H.out.blk.fr f1 H.out.ne
    have f2 := hb.frozen 2
    have c2 := hb.cell 2
    simp only [List.getElem?_toArray, List.getElem?_cons_zero, List.getElem?_cons_succ] at c2
    have H1 := Lib.hid (And.intro h1 f1)
    clear h1 f1 hb t1 t2 t3
    go_wp2_with fail
    go_ret
    obtain ⟨g1, g2⟩ := H.out.set (e := z.2.e) H1.out.1 H1.out.2
    exact ⟨rfl, g1, g2⟩
  · have he' : (c.e != 0) = true := by simp [he]
    have ht : c.take s.data.toList en n = ([], c) := by unfold Cu.take; rw [if_pos he]
    rw [ht]
    go_enter Tryz.func129, Tryz.ntmps129
    go_wp2_with fail
    go_ret
    exact ⟨rfl, H.out, Fr.refl _ _⟩
set_option maxRecDepth 100000 in
set_option maxHeartbeats 4000000 in
theorem cunumber_any (p r : Nat) (s : ByteArray) (en : Nat) (c : Cu) (n : Nat) (w : World) (h : CuIn w p r s en c) (h1 : 1 ≤ n) (h4 : n ≤ 4) :
    Calls Tryz.prog 131 #[.pointer (some ⟨p, 0, none⟩), .int .i64 n] w (CuPost w p r s en (.int .u32 ((c.number s.data.toList en n).1 : Nat)) (c.number s.data.toList en n).2) := by
  have H := Lib.hid h
  have c0 := h.blk.cell 0
  have c2 := h.blk.cell 2
  simp only [List.getElem?_toArray, List.getElem?_cons_zero, List.getElem?_cons_succ] at c0 c2
  clear h
  by_cases he : c.e = 0
  · have he' : (c.e != 0) = false := by simp [he]
    obtain ⟨t1, t2, t3⟩ := Cu.take_eq H.out.en he H.out.at_ n
    have hnum : (Rst.mk (s.extract 0 en) c.at_).number n = (Rst.mk (s.extract 0 en) (c.number s.data.toList en n).2.at_, (((c.number s.data.toList en n).1 : Nat) : Int), (c.number s.data.toList en n).2.e) := by
      unfold Rst.number Cu.number
      rw [if_neg (by omega), t1, t2, t3]
    generalize c.number s.data.toList en n = z at *
    clear he t1 t2 t3
    go_enter Tryz.func131, Tryz.ntmps131
    go_wp2_with fail
    refine (rdnumber_any r ⟨s.extract 0 en, c.at_⟩ n _ H.out.rd).mono ?_
    rintro e w1 ⟨rfl, h1, f1⟩
    rw [hnum] at h1 ⊢
    have hb := H.out.blk.fr f1 H.out.ne
    have f2 := hb.frozen 2
    have c2 := hb.cell 2
    simp only [List.getElem?_toArray, List.getElem?_cons_zero, List.getElem?_cons_succ] at c2
    have H1 := Lib.hid (And.intro h1 f1)
    clear h1 f1 hb hnum
    go_wp2_with fail
    go_ret
    obtain ⟨g1, g2⟩ := H.out.set (e := z.2.e) H1.out.1 H1.out.2
    exact ⟨rfl, g1, g2⟩
  · have he' : (c.e != 0) = true := by simp [he]
    have ht : c.number s.data.toList en n = (0, c) := by unfold Cu.number Cu.take; rw [if_pos he]; rfl
    rw [ht]
    go_enter Tryz.func131, Tryz.ntmps131
    go_wp2_with fail
    go_ret
    exact ⟨rfl, H.out, Fr.refl _ _⟩
/-- A reading function. -/
def readFn (pl : Bool) : Value := .func (.func (if pl = true then 132 else 106)) #[] #[]
set_option maxRecDepth 100000 in
set_option maxHeartbeats 4000000 in
theorem cuname_any (p r : Nat) (s : ByteArray) (en : Nat) (c : Cu) (pl : Bool) (w : World) (h : CuIn w p r s en c) :
    Calls Tryz.prog 133 #[.pointer (some ⟨p, 0, none⟩), readFn pl] w (CuPost w p r s en (.string ⟨(c.name s.data.toList en pl).1.toArray⟩) (c.name s.data.toList en pl).2) := by
  have H := Lib.hid h
  have c0 := h.blk.cell 0
  have c1 := h.blk.cell 1
  have c2 := h.blk.cell 2
  have c3 := h.blk.cell 3
  simp only [List.getElem?_toArray, List.getElem?_cons_zero, List.getElem?_cons_succ] at c0 c1 c2 c3
  clear h
  by_cases he : c.e = 0
  · have he' : (c.e != 0) = false := by simp [he]
    have hat := H.out.at_
    have hen := H.out.en
    have hc := nameAt_cases s c.at_ (!pl)
    have hz : c.name s.data.toList en pl = match nameAt s c.at_ (!pl) with
      | .done z => if (en : Int) < z.fin then ([], { c with e := 8 }) else (z.out, ⟨z.fin.toNat, 0⟩)
      | .bad e => ([], { c with e := e })
      | .on _ => ([], c) := by
      unfold Cu.name nameAt
      rw [if_neg (by simp [he]), if_neg (by omega)]
      simp only [Int.toNat_natCast]
      generalize uread s.data.toList (!pl) ⟨c.at_, c.at_, -1, 0, []⟩ = u
      cases u <;> rfl
    have hfin := fun y => nameAt_fin (s := s) (a := c.at_) (f := !pl) (y := y) (by omega)
    have hs := H.out.s
    have hsz := ext_size hen
    have hcall : ∀ w, Calls Tryz.prog (if pl = true then 132 else 106) #[.string s, .int .i64 c.at_] w fun e w' => e = .returned (.tuple #[.string (nameAt s c.at_ (!pl)).name, .int .i64 (nameAt s c.at_ (!pl)).fin, .int .i64 (nameAt s c.at_ (!pl)).err]) ∧ Fr (fun _ => False) w w' := by
      intro w
      cases pl
      · exact name8_any s c.at_ w hs
      · exact plain8_any s c.at_ w hs
    have HN := Lib.hid hcall
    have HE := Lib.hid (And.intro he (And.intro hat (And.intro hen (And.intro hfin hsz))))
    clear hcall he hat hfin hsz
    obtain ⟨R, hR⟩ : ∃ R, R = c.name s.data.toList en pl := ⟨_, rfl⟩
    rw [← hR] at hz ⊢
    have HZ := Lib.hid (And.intro hz hc)
    clear hz hc hR
    unfold readFn
    generalize nameAt s c.at_ (!pl) = u at *
    cases pl
    all_goals
      have HM := HN.out
      simp only [if_true, if_false, Bool.false_eq_true] at HM
      replace HN := Lib.hid HM
      clear HM
      go_enter Tryz.func133, Tryz.ntmps133
      go_wp2_with fail
      have b0 : w.drew.cell? ⟨p, 0, none⟩ = some (.pointer (some ⟨r, 0, none⟩)) := c0
      have b3 : w.drew.cell? ⟨p, 3, none⟩ = some (.string s) := c3
      go_region_held3 (fun w' => w'.cell? ⟨p, 0, none⟩ = some (.pointer (some ⟨r, 0, none⟩)) ∧ w'.cell? ⟨p, 3, none⟩ = some (.string s))
        (first | with_reducible exact ⟨b0, b3⟩ | with_reducible exact ⟨c0, c3⟩ | with_reducible exact ⟨d0, d3⟩)
        (first
          | (go_at_call 78
             (with_reducible refine (at_any r ⟨s.extract 0 en, c.at_⟩ _ (H.out.rd.fr (S := fun _ => False) (Fr.refl _ w).drew id)).mono ?_)
             rintro e w' ⟨rfl, rfl⟩)
          | ((first | go_at_call 106 | go_at_call 132)
             (with_reducible refine (HN.out _).mono ?_)
             rintro e w1 ⟨rfl, f1⟩
             have g1 : Fr (fun _ => False) w w1 := f1.fromD
             have d0 := (g1.cell (p := ⟨p, 0, none⟩) (World.block_lt_of_cell? w _ c0) id).trans c0
             have d3 := (g1.cell (p := ⟨p, 3, none⟩) (World.block_lt_of_cell? w _ c3) id).trans c3
             have H1 := Lib.hid (And.intro (H.out.fr0 g1) g1)
             clear f1 g1))
      have k0 := H1.out.1.blk.cell 0
      have k1 := H1.out.1.blk.cell 1
      have k2 := H1.out.1.blk.cell 2
      have z2 := H1.out.1.blk.frozen 2
      simp only [List.getElem?_toArray, List.getElem?_cons_zero, List.getElem?_cons_succ] at k0 k1 k2
      clear b0 b3 c0 c1 c2 c3 d0 d3
      have hs2 := HE.out.2.2.2.2
      rcases HZ.out.2 with ⟨y, rfl⟩ | ⟨er, her, rfl⟩
      · obtain ⟨f1, f2⟩ := HE.out.2.2.2.1 y rfl
        by_cases hl : (en : Int) < y.fin
        · have HR : Hid (R = ([], { c with e := 8 })) := by show _ = _; rw [HZ.out.1]; dsimp only; rw [if_pos hl]
          simp only [Ust.name, Ust.fin, Ust.err]
          clear f1 f2 hs2
          go_wp2_with fail
          go_ret
          obtain ⟨g1, g2⟩ := H1.out.1.set (e := 8) H1.out.1.rd (Fr.refl _ _)
          refine ⟨by rw [HR.out]; rfl, by rw [HR.out]; exact g1, ?_⟩
          exact (H1.out.2.mono fun _ _ h => h.elim).then g2
        · have HR : Hid (R = (y.out, ⟨y.fin.toNat, 0⟩)) := by show _ = _; rw [HZ.out.1]; dsimp only; rw [if_neg hl]
          simp only [Ust.name, Ust.fin, Ust.err]
          have HF := Lib.hid (And.intro f1 (And.intro f2 hs2))
          clear f1 f2 hs2
          go_wp2_with fail
          refine (seek_any r ⟨s.extract 0 en, c.at_⟩ y.fin _ H1.out.1.rd).mono ?_
          rintro e w2 ⟨rfl, h2, f2⟩
          have hsk : (Rst.mk (s.extract 0 en) c.at_).seek y.fin = (Rst.mk (s.extract 0 en) y.fin.toNat, 0) := by
            unfold Rst.seek
            rw [if_neg]
            dsimp only
            rw [HF.out.2.2]
            have := HF.out.1
            omega
          rw [hsk] at h2 ⊢
          have H2 := Lib.hid (And.intro h2 f2)
          have hb := H1.out.1.blk.fr f2 H1.out.1.ne
          have k2 := hb.cell 2
          have z2 := hb.frozen 2
          simp only [List.getElem?_toArray, List.getElem?_cons_zero, List.getElem?_cons_succ] at k2
          clear h2 f2 hb k0 k1
          go_wp2_with fail
          go_ret
          obtain ⟨g1, g2⟩ := H1.out.1.set (e := 0) H2.out.1 H2.out.2
          refine ⟨by rw [HR.out]; rfl, by rw [HR.out]; exact g1, ?_⟩
          exact (H1.out.2.mono fun _ _ h => h.elim).then g2
      · have HR : Hid (R = ([], { c with e := er })) := HZ.out.1
        have her' : (er != 0) = true := by simp [her]
        simp only [Ust.name, Ust.fin, Ust.err]
        clear hs2
        go_wp2_with fail
        go_ret
        obtain ⟨g1, g2⟩ := H1.out.1.set (e := er) H1.out.1.rd (Fr.refl _ _)
        refine ⟨by rw [HR.out]; rfl, by rw [HR.out]; exact g1, ?_⟩
        exact (H1.out.2.mono fun _ _ h => h.elim).then g2
  · have he' : (c.e != 0) = true := by simp [he]
    have ht : c.name s.data.toList en pl = ([], c) := by unfold Cu.name; rw [if_pos he]
    rw [ht]
    go_enter Tryz.func133, Tryz.ntmps133
    go_wp2_with fail
    go_ret
    exact ⟨rfl, H.out, Fr.refl _ _⟩
end Go.Proofs.YtmbgejiahmhffaaGreat

/-
  LAYER 9: what a type has: the program's map of the types.
-/
namespace Go.Proofs.YtmbgejiahmhffaaGreat
set_option linter.unusedVariables false
set_option linter.unusedSimpArgs false
open Go.RowKit Go.Maps

/-- An element of a map, as it is. -/
def tokE (v : Value) : Option (DataW Value × List MemPlace) := some (.held v, [])
theorem wpList_insert_tok {P : Program} (w : World) {ops : Array Oper} {rest : List Oper} {o : Oper} {a : Act} {Q : Exit → Act → World → Prop}
    (hg : o.guard = none) (m x v : Operand) (t : TypeId) (hop : o.op = Op.insert t m x v)
    (k e : TypeId) (K : Keyed P k) (ht : P.underlying t = some (.map k e)) (b n : Nat) (D : DataW Value)
    (hm : a.eval m = .map (some b)) (hown : w.ownsMap P k tokE b n D) (hn : n < maxLen) (key val : Value) (kl : Lit) (hx : a.eval x = key) (hv : a.eval v = val) (hkey : keyOf P k key = some kl)
    (hK : ∀ w', w'.ownsMap P k tokE b (n + 1) (D.put kl (.held val)) → Fr (· = b) w w' → wpList P ops Q rest (a.put o.dst undef) w') :
    wpList P ops Q (o :: rest) a w := by
  refine wpList_plain hg fun K' hK' => ?_
  obtain ⟨w', hrun, r1, r2⟩ := hown.update K ht hn hkey (d := .held val) (ps := []) rfl
  unfold Oper.wp
  simp [execOp, hop, hm, hx, hv, hrun, Result.andThen]
  exact hK' _ _ (hK w' r1 ((Fr.refl (· = b) w).grown (row := some b) r2 fun j hj _ => (Option.some.inj hj).symm))
/-- What a type has, with its text, as the program has it. -/
def Wh.cells (w : Wh) (tx : ByteArray) : Array Value := #[.string tx, .int .i64 w.addr, .int .i64 w.names, .bool w.plain, .bool w.first, .int .i64 w.nums, .int .i64 w.wide, .bool w.texts, .bool w.raw]
def Wh.val (w : Wh) (tx : ByteArray) : Value := .agg (w.cells tx)
def typesL : List (Int × ByteArray) := [(1, ⟨#[65]⟩), (28, ⟨#[65, 65, 65, 65]⟩), (2, ⟨#[78, 83]⟩), (5, ⟨#[67, 78, 65, 77, 69]⟩), (12, ⟨#[80, 84, 82]⟩), (6, ⟨#[83, 79, 65]⟩), (15, ⟨#[77, 88]⟩), (33, ⟨#[83, 82, 86]⟩), (16, ⟨#[84, 88, 84]⟩), (41, ⟨#[79, 80, 84]⟩)]
def knownN (t : Int) : Bool := typesL.any fun p => p.1 == t
def textN (t : Int) : ByteArray := ((typesL.find? fun p => p.1 == t).map (·.2)).getD ⟨#[]⟩
def whatN0 (t : Int) : Wh := if knownN t = true then whatN t else ⟨0, 0, false, false, 0, 0, false, false⟩
def typesD : DataW Value := typesL.foldl (fun D p => D.put (.int .i64 p.1) (.held ((whatN p.1).val p.2))) (.map [])
theorem look_fold (z : DataW Value) (t : Int) : ∀ (l : List (Int × ByteArray)) (D : DataW Value), IsMap D → (l.map (·.1)).Nodup → (∀ p ∈ l, has D (.int .i64 p.1) = false) →
    (l.foldl (fun D p => D.put (.int .i64 p.1) (.held ((whatN p.1).val p.2))) D).atKey (.int .i64 t) z = ((l.find? fun p => p.1 == t).map fun p => DataW.held ((whatN p.1).val p.2)).getD (D.atKey (.int .i64 t) z) ∧
    has (l.foldl (fun D p => D.put (.int .i64 p.1) (.held ((whatN p.1).val p.2))) D) (.int .i64 t) = (l.any (fun p => p.1 == t) || has D (.int .i64 t))
  | [], D, _, _, _ => by simp
  | p :: r, D, h, hn, hh => by
    have hk : ∀ i, WideAt.IsKeyLit (.int .i64 i) := fun _ => trivial
    obtain ⟨n1, n2⟩ := List.nodup_cons.1 (by simpa using hn : (p.1 :: r.map (·.1)).Nodup)
    obtain ⟨i1, i2⟩ := look_fold z t r _ (h.put (.int .i64 p.1) (.held ((whatN p.1).val p.2))) n2 (fun q hq => by
      have hne : Lit.int .i64 q.1 ≠ .int .i64 p.1 := fun e => n1 (by
        injection e with _ e
        exact List.mem_map.2 ⟨q, hq, e⟩)
      rw [has_put_other hne]
      exact hh q (by simp [hq]))
    rw [List.foldl_cons, i1, i2, List.find?_cons, List.any_cons]
    by_cases e : p.1 = t
    · have hf : r.find? (fun p => p.1 == t) = none := by
        rw [List.find?_eq_none]
        intro q hq hqt
        exact n1 (List.mem_map.2 ⟨q, hq, by rw [e]; simpa using hqt⟩)
      have he : (p.1 == t) = true := by simpa using e
      rw [hf, he]
      rw [← e, has_put_same h (hk _), atKey_put_same h (hk _)]
      simp
    · have he : (p.1 == t) = false := by simpa using e
      have hne : Lit.int .i64 t ≠ .int .i64 p.1 := fun e' => e (by injection e' with _ e'; exact e'.symm)
      rw [he, has_put_other hne, atKey_put_other hne]
      simp
theorem typesD_look (z : Value) (t : Int) : typesD.atKey (.int .i64 t) (.held z) = .held (if knownN t = true then (whatN t).val (textN t) else z) ∧ has typesD (.int .i64 t) = knownN t := by
  obtain ⟨h1, h2⟩ := look_fold (.held z) t typesL (.map []) ⟨_, rfl⟩ (by decide) (fun _ _ => rfl)
  refine ⟨h1.trans ?_, h2.trans (by simp [knownN, has])⟩
  unfold knownN textN
  cases hf : typesL.find? (fun p => p.1 == t) with
  | none =>
    have : typesL.any (fun p => p.1 == t) = false := by
      rw [List.find?_eq_none] at hf
      rw [List.any_eq_false]
      exact hf
    rw [this]
    rfl
  | some p =>
    have hp := List.find?_some hf
    have he : p.1 = t := by simpa using hp
    have : typesL.any (fun p => p.1 == t) = true := List.any_eq_true.2 ⟨p, List.mem_of_find?_eq_some hf, hp⟩
    rw [this]
    simp [he]
/-- Of whatever no row tells the type has raw octets. -/
theorem unknown_raw {t : Int} (h : knownN t = false) : whatN t = ⟨0, 0, false, false, 0, 0, false, true⟩ ∧ textN t = ⟨#[]⟩ := by
  simp only [knownN, typesL, List.any_cons, List.any_nil, Bool.or_false, Bool.or_eq_false_iff, beq_eq_false_iff_ne, ne_eq] at h
  constructor
  · unfold whatN
    rw [if_neg (by omega), if_neg (by omega), if_neg (by omega), if_neg (by omega), if_neg (by omega), if_neg (by omega), if_neg (by omega)]
  · unfold textN
    have : typesL.find? (fun p => p.1 == t) = none := by
      rw [List.find?_eq_none]
      intro p hp
      simp only [typesL, List.mem_cons, List.not_mem_nil, or_false] at hp
      rcases hp with rfl | rfl | rfl | rfl | rfl | rfl | rfl | rfl | rfl | rfl <;> simp <;> omega
    rw [this]
    rfl
theorem typeLaw : Keyed Tryz.prog 3 := int_keyed Tryz.underlying3
def TypesPost (w : World) (e : Ending) (w' : World) : Prop := ∃ b n, e = .returned (.map (some b)) ∧ w'.ownsMap Tryz.prog 3 tokE b n typesD ∧ Fr (fun _ => False) w w'
set_option maxRecDepth 100000 in
set_option maxHeartbeats 4000000 in
theorem types_any (w : World) : Calls Tryz.prog 122 #[] w (TypesPost w) := by
  have hmm := @run_makeMap Tryz.prog
  have hfr : Fr (fun _ => False) w (w.alloc (.map #[] 0)) := (Fr.refl _ _).alloc _
  have hown := World.ownsMap_made w Tryz.prog 3 tokE
  have H : Hid ((w.alloc (.map #[] 0)).ownsMap Tryz.prog 3 tokE w.heap.size 0 (.map []) ∧ Fr (· = w.heap.size) w (w.alloc (.map #[] 0))) := ⟨hown, hfr.mono fun _ _ h => h.elim⟩
  have hlt : ∀ i : Nat, i < 100 → i < maxLen := fun i hi => by simp only [maxLen]; omega
  have HL := Lib.hid hlt
  clear hown hfr hlt
  go_enter Tryz.func122, Tryz.ntmps122
  go_wp2_with (first
    | (refine wpList_insert_tok _ rfl _ _ _ 184 rfl 3 _ typeLaw Tryz.underlying184 w.heap.size _ _ (by rfl) H.out.1 (HL.out _ (by decide)) _ _ _ (by rfl) (by rfl) (keyOf_int_mk Tryz.underlying3 (by decide)) ?_
       intro w1 o1 f1
       replace H := Lib.hid (And.intro o1 (H.out.2.then f1))
       clear o1 f1))
  go_ret
  exact ⟨_, _, rfl, H.out.1, H.out.2.mono fun k hk e => by omega⟩
/-- A look-up in the map of the types. -/
theorem types_look {w : World} {b n : Nat} (h : w.ownsMap Tryz.prog 3 tokE b n typesD) (t : Int) (ht : -9223372036854775808 ≤ t ∧ t ≤ 9223372036854775807) :
    (Instr.lookup 184 (.map (some b)) (.int .i64 t) true).run Tryz.prog w = .ok (.tuple #[(whatN0 t).val (textN t), .bool (knownN t)]) w := by
  have hz : (zeroValue 155).run Tryz.prog w = .ok (Wh.val ⟨0, 0, false, false, 0, 0, false, false⟩ ⟨#[]⟩) w := by kernel_rfl
  obtain ⟨v, ps, hrun, hv⟩ := h.look_ok typeLaw Tryz.underlying184 hz (zd := .held _) (zp := []) rfl (keyOf_int_mk Tryz.underlying3 (WalkArith.wf_i64 ht))
  obtain ⟨h1, h2⟩ := typesD_look (Wh.val ⟨0, 0, false, false, 0, 0, false, false⟩ ⟨#[]⟩) t
  rw [h1] at hv
  rw [hrun, h2]
  have e : v = if knownN t = true then (whatN t).val (textN t) else Wh.val ⟨0, 0, false, false, 0, 0, false, false⟩ ⟨#[]⟩ := by
    have : tokE v = _ := hv
    unfold tokE at this
    exact (by simpa using this : _ ∧ ps = []).1
  rw [e]
  unfold whatN0
  by_cases hk : knownN t = true
  · rw [if_pos hk, if_pos hk]
  · rw [if_neg hk, if_neg hk, (unknown_raw (by simpa using hk)).2]
set_option maxRecDepth 100000 in
set_option maxHeartbeats 4000000 in
theorem of_any (t : Int) (ht : -9223372036854775808 ≤ t ∧ t ≤ 9223372036854775807) (w : World) :
    Calls Tryz.prog 98 #[.int .i64 t] w fun e w' => e = .returned ((whatN t).val (textN t)) ∧ Fr (fun _ => False) w w' := by
  have hb : Blk (w.alloc (.cells #[.string ⟨#[]⟩, .int .i64 0, .int .i64 0, .bool false, .bool false, .int .i64 0, .int .i64 0, .bool false, .bool false] 155)) w.heap.size 155 #[.string ⟨#[]⟩, .int .i64 0, .int .i64 0, .bool false, .bool false, .int .i64 0, .int .i64 0, .bool false, .bool false] := Blk.new _ _ _
  go_enter Tryz.func98, Tryz.ntmps98
  go_wp2_with fail
  refine (types_any _).mono ?_
  rintro e w1 ⟨b, n, rfl, o1, f1⟩
  have hl : (Instr.lookup 184 (.map (some b)) (.int .i64 t) true).run Tryz.prog w1 = .ok (.tuple #[.agg #[.string (textN t), .int .i64 ((whatN0 t).addr : Nat), .int .i64 ((whatN0 t).names : Nat), .bool (whatN0 t).plain, .bool (whatN0 t).first, .int .i64 ((whatN0 t).nums : Nat), .int .i64 ((whatN0 t).wide : Nat), .bool (whatN0 t).texts, .bool (whatN0 t).raw], .bool (knownN t)]) w1 := types_look o1 t ht
  have HB := Lib.hid (And.intro (hb.fr f1 id) (((Fr.refl (fun _ => False) w).alloc (.cells #[.string ⟨#[]⟩, .int .i64 0, .int .i64 0, .bool false, .bool false, .int .i64 0, .int .i64 0, .bool false, .bool false] 155)).then f1))
  clear o1
  have hu : Tryz.prog.underlying 155 = _ := Tryz.underlying155
  by_cases hk : knownN t = true
  · have hz : whatN0 t = whatN t := by unfold whatN0; rw [if_pos hk]
    rw [hk, hz] at hl
    go_wp2_with (first
      | (refine wpList_store_part rfl 155 _ _ rfl w.heap.size 0 (by rfl) _ (by rfl) 155 _ (HB.out.1.alloc _) (by kernel_rfl) (by simp [Value.oneCell']) (by simp) ((whatN t).cells (textN t)) (by rfl) ?_
         intro w2 b2 f2
         have HN := Lib.hid (And.intro b2 f2)
         clear b2 f2))
    refine bodyPost_ret (results_cell_blk Tryz.results98 HN.out.1 rfl hu rfl (by kernel_rfl)) rfl ?_
    exact ⟨rfl, (HB.out.2.alloc _).trans HN.out.2 fun i hi e => by omega⟩
  · have hk' : knownN t = false := by simpa using hk
    obtain ⟨e1, e2⟩ := unknown_raw hk'
    rw [hk'] at hl
    go_wp2_with (first
      | (refine wpList_store_part rfl 155 _ _ rfl w.heap.size 0 (by rfl) _ (by rfl) 155 _ (HB.out.1.alloc _) (by kernel_rfl) (by simp [Value.oneCell']) (by simp) (Wh.cells ⟨0, 0, false, false, 0, 0, false, true⟩ ⟨#[]⟩) (by rfl) ?_
         intro w2 b2 f2
         have HN := Lib.hid (And.intro b2 f2)
         clear b2 f2))
    refine bodyPost_ret (results_cell_blk Tryz.results98 HN.out.1 rfl hu rfl (by kernel_rfl)) rfl ?_
    exact ⟨by rw [e1, e2]; rfl, (HB.out.2.alloc _).trans HN.out.2 fun i hi e => by omega⟩
theorem may_any (t : Int) (w : World) :
    Calls Tryz.prog 108 #[.int .i64 t] w fun e w' => e = .returned (.bool (decide (0 ≤ t ∧ t ≤ 65535))) ∧ w = w' := by
  by_cases a : 0 ≤ t
  · by_cases b : t ≤ 65535
    · rw [decide_eq_true ⟨a, b⟩]
      go_enter Tryz.func108, Tryz.ntmps108
      go_wp2
      go_ret
      exact ⟨rfl, rfl⟩
    · rw [decide_eq_false (fun h => b h.2)]
      go_enter Tryz.func108, Tryz.ntmps108
      go_wp2
      go_ret
      exact ⟨rfl, rfl⟩
  · rw [decide_eq_false (fun h => a h.1)]
    go_enter Tryz.func108, Tryz.ntmps108
    go_wp2
    go_ret
    exact ⟨rfl, rfl⟩
end Go.Proofs.YtmbgejiahmhffaaGreat

/-
  LAYER 4, AS FAR AS DATA WANT IT: an address is looked at, put as octets, read of octets.
-/
namespace Go.Proofs.YtmbgejiahmhffaaGreat
set_option linter.unusedVariables false
set_option linter.unusedSimpArgs false
open Go.RowKit

abbrev adrV (six : Bool) (hi lo : Nat) : Value := .agg #[.bool six, .int .u64 hi, .int .u64 lo]
def adrCk (six : Bool) (hi lo : Nat) : Int := if six = false ∧ ¬ (hi = 0 ∧ lo < 4294967296) then 2 else 0
theorem u64_or_nat (a b : Nat) (ha : a < 18446744073709551616) (hb : b < 18446744073709551616) : bits .or .u64 (a : Int) (b : Int) = ((a ||| b : Nat) : Int) := by
  have hx : a ||| b < 2 ^ 64 := Nat.or_lt_two_pow (by omega) (by omega)
  show IntKind.u64.wrap ((BitVec.ofInt 64 (a : Int) ||| BitVec.ofInt 64 (b : Int)).toNat : Int) = _
  rw [BitVec.toNat_or, BitVec.ofInt_natCast, BitVec.ofInt_natCast, BitVec.toNat_ofNat, BitVec.toNat_ofNat, Nat.mod_eq_of_lt (by omega), Nat.mod_eq_of_lt (by omega), IntKind.wrap_u64]
  omega
theorem orU64 (V c : Nat) (hV : V < 72057594037927936) (hc : c < 256) : bits .or .u64 ((V : Int) * 256) (c : Int) = ((V * 256 + c : Nat) : Int) := by
  have e1 : (V : Int) * 256 = ((V * 256 : Nat) : Int) := by omega
  rw [e1, u64_or_nat _ _ (by omega) (by omega), Nat.mul_comm V 256, show 256 = 2 ^ 8 from rfl, ← Nat.two_pow_add_eq_or_of_lt (by omega)]
set_option maxRecDepth 100000 in
set_option maxHeartbeats 1600000 in
theorem adrCheck_any (six : Bool) (hi lo : Nat) (w : World) (h1 : hi < 18446744073709551616) (h2 : lo < 18446744073709551616) :
    Calls Tryz.prog 123 #[adrV six hi lo] w fun e w' => e = .returned (.int .i64 (adrCk six hi lo)) ∧ w' = w.alloc (.cells #[.bool six, .int .u64 hi, .int .u64 lo] 49) := by
  unfold adrV
  cases six with
  | true =>
    go_enter Tryz.func123, Tryz.ntmps123
    go_wp2
    go_ret
    exact ⟨rfl, rfl⟩
  | false =>
    by_cases a : hi = 0
    · subst a
      by_cases b : lo < 4294967296
      · have hc : adrCk false 0 lo = 0 := by unfold adrCk; rw [if_neg (by simp [b])]
        have hb : (((lo : Int) / 4294967296) != 0) = false := by
          rw [bne_eq_false_iff_eq]; omega
        rw [hc]
        go_enter Tryz.func123, Tryz.ntmps123
        go_wp2
        go_ret
        exact ⟨rfl, rfl⟩
      · have hc : adrCk false 0 lo = 2 := by unfold adrCk; rw [if_pos (by simp; omega)]
        have hb : (((lo : Int) / 4294967296) != 0) = true := by
          rw [bne_iff_ne]; omega
        rw [hc]
        go_enter Tryz.func123, Tryz.ntmps123
        go_wp2
        go_ret
        exact ⟨rfl, rfl⟩
    · have hc : adrCk false hi lo = 2 := by unfold adrCk; rw [if_pos (by simp [a])]
      have hb : (((hi : Int)) != 0) = true := by
        rw [bne_iff_ne]; omega
      rw [hc]
      go_enter Tryz.func123, Tryz.ntmps123
      go_wp2
      go_ret
      exact ⟨rfl, rfl⟩
set_option maxRecDepth 100000 in
set_option maxHeartbeats 1600000 in
theorem whole_any (g off cap : Nat) (l : List UInt8) (w : World) (hl : l.length ≤ 8) (hc : l.length ≤ cap) (h : ∀ j, j < l.length → w.cell? ⟨g, off + j, none⟩ = some (.int .u8 (l.getD j 0).toNat)) :
    Calls Tryz.prog 139 #[.slice (some ⟨g, off, none⟩) l.length cap] w fun e w' => e = .returned (.int .u64 (numOf l)) ∧ w = w' := by
  have HC := Lib.hid h
  clear h
  go_enter Tryz.func139, Tryz.ntmps139
  go_wp2_with fail
  go_loop [3, 8] (fun v i => ∃ k : Nat, k ≤ l.length ∧ i = .int .i64 k ∧ v = .int .u64 (numOf (l.take k))) (fun _ i => l.length - (intOf i).toNat)
  case atStart => exact ⟨0, Nat.zero_le _, rfl, rfl⟩
  case round =>
    obtain ⟨k, hk, rfl, rfl⟩ := hrel
    have hlen : (l.take k).length = k := by simp; omega
    have hv := numOf_lt (l.take k)
    rw [hlen] at hv
    by_cases hlt : k < l.length
    · have hc := HC.out k hlt
      have hs4 : numOf (l.take k) < 72057594037927936 := Nat.lt_of_lt_of_le hv (Nat.pow_le_pow_right (by decide) (show k ≤ 7 by omega))
      have hb : (l.getD k 0).toNat < 256 := (l.getD k 0).toNat_lt
      have ht : l.take (k + 1) = l.take k ++ [l.getD k 0] := by
        rw [List.take_succ_eq_append_getElem hlt]
        congr 2
        rw [List.getD_eq_getElem?_getD, List.getElem?_eq_getElem hlt]
        rfl
      have hn : numOf (l.take (k + 1)) = numOf (l.take k) * 256 + (l.getD k 0).toNat := by rw [ht, numOf_snoc]
      have HN := Lib.hid hn
      clear hn ht hv hlen
      generalize l.getD k 0 = cb at *
      have ho := orU64 (numOf (l.take k)) cb.toNat hs4 hb
      generalize numOf (l.take k) = V at *
      have HS := Lib.hid hs4
      clear hs4
      have hwr : IntKind.u64.wrap ((V : Int) * 256) = (V : Int) * 256 := by rw [IntKind.wrap_u64]; have := HS.out; omega
      go_wp2_with fail
      go_round
      case rel => exact ⟨k + 1, by omega, by go_num, by rw [HN.out]; go_num⟩
      case measure => simp [intOf]; omega
    · have hke : k = l.length := by omega
      subst hke
      rw [List.take_of_length_le (Nat.le_refl _)]
      clear hv
      go_wp2
      go_ret
      exact ⟨rfl, rfl⟩
theorem octs_take_succ (v : Nat) : ∀ (n j : Nat), j < n → (octs v n).take (j + 1) = (octs v n).take j ++ [UInt8.ofNat (v / 256 ^ (n - 1 - j))]
  | n + 1, 0, _ => by simp [octs]
  | n + 1, j + 1, h => by
    have := octs_take_succ v n j (by omega)
    simp only [octs, List.take_succ_cons, List.cons_append]
    rw [this, show n + 1 - 1 - (j + 1) = n - 1 - j by omega]
theorem u8_new (w : World) (v : Int) (t : TypeId) : ∀ j u, ([Value.int .u8 v] : List Value)[j]? = some u → (w.alloc (.cells #[.int .u8 v] t)).cell? ((⟨w.heap.size, 0, none⟩ : Addr).add j) = some u := by
  intro j u hu
  have hj : j = 0 := by have := (List.getElem?_eq_some_iff.1 hu).1; simpa using this
  subst hj
  rw [add_off, (Blk.new w t #[.int .u8 v]).cell]
  simpa using hu
theorem u8_one (v : Int) : ∀ u ∈ ([Value.int .u8 v] : List Value), u.oneCell' = true := by
  intro u hu
  rw [List.mem_singleton.1 hu]
  rfl
def PartPost (w : World) (A : Option Addr) (l : List UInt8) (e : Ending) (w' : World) : Prop :=
  ∃ A' cap', e = .returned (.slice A' l.length cap') ∧ w'.ownsRow 0 5 1 (.slice A' l.length cap') l.length (u8s l) ∧ Fr (rowOf A) w w' ∧ ∀ k, rowOf A' k → rowOf A k ∨ w.heap.size ≤ k
set_option maxRecDepth 100000 in
set_option maxHeartbeats 4000000 in
theorem parted_any (A : Option Addr) (cap : Nat) (pre : List UInt8) (n long : Nat) (w : World) (hn : n < 18446744073709551616) (hlong : long ≤ 8) (hpre : pre.length ≤ 1000) (h : w.ownsRow 0 5 1 (.slice A pre.length cap) pre.length (u8s pre)) :
    Calls Tryz.prog 124 #[.slice A pre.length cap, .int .u64 n, .int .i64 long] w (PartPost w A (pre ++ octs n long)) := by
  obtain ⟨i0, hi, hz0, hz1, hz2⟩ := info_parts Tryz.info5
  have H := Lib.hid h
  clear h
  go_enter Tryz.func124, Tryz.ntmps124
  go_wp2_with fail
  go_loopg [0, 7] long (fun g v i wr => ∃ (j : Nat) (B : Option Addr) (bcap : Nat), j ≤ long ∧ g = long - j ∧ i = .int .i64 ((long : Int) - 1 - (j : Int)) ∧ v = .slice B (pre.length + j) bcap ∧ wr.ownsRow 0 5 1 (.slice B (pre.length + j) bcap) (pre.length + j) (u8s (pre ++ (octs n long).take j)) ∧
    Fr (rowOf A) w wr ∧ ∀ k, rowOf B k → rowOf A k ∨ w.heap.size ≤ k)
  case atStart => exact ⟨0, A, cap, Nat.zero_le _, rfl, by simp, rfl, by simpa using H.out, Fr.refl _ _, fun _ h => .inl h⟩
  case round =>
    obtain ⟨j, B, bcap, hj, hg, rfl, rfl, ho, hf, hs⟩ := hrel
    have HR := Lib.hid (And.intro ho (And.intro hf hs))
    have HG := Lib.hid hg
    clear ho hf hs hg
    by_cases hlt : j < long
    · obtain ⟨m, rfl⟩ : ∃ m, long = j + 1 + m := ⟨long - 1 - j, by omega⟩
      have e1 : (((j + 1 + m : Nat) : Int) - 1 - (j : Int)) = (m : Int) := by omega
      rw [e1]
      have q1 : ((n : Int) / 2 ^ (8 * m) % 256) = (((UInt8.ofNat (n / 256 ^ m)).toNat : Nat) : Int) := by
        rw [UInt8.toNat_ofNat', Int.natCast_emod, Int.natCast_ediv, show (256 : Nat) ^ m = 2 ^ (8 * m) by rw [show (256 : Nat) = 2 ^ 8 from rfl, ← Nat.pow_mul], Int.natCast_pow]
        rfl
      have Q1 := Lib.hid q1
      clear q1
      have HT : Hid ((octs n (j + 1 + m)).take (j + 1) = (octs n (j + 1 + m)).take j ++ [UInt8.ofNat (n / 256 ^ m)]) := by
        show _ = _
        rw [octs_take_succ _ _ _ hlt, show j + 1 + m - 1 - j = m by omega]
      go_wp2_with (first
        | (at_builtin; refine wpList_append_src rfl (.tmp 14) (.tmp 20) _ _ rfl 5 i0 _ 1 1 Tryz.underlying66 hi hz0 hz1 hz2 rfl (by decide) B (pre.length + j) bcap (u8s (pre ++ (octs n (j + 1 + m)).take j)) (by rfl) (HR.out.1.alloc _) _ 1 [.int .u8 ((n : Int) / 2 ^ (8 * m) % 256)] (by rfl)
             (Src.ofSlice _ Tryz.underlying66 ⟨wr.heap.size, 0, none⟩ 1 1 [.int .u8 ((n : Int) / 2 ^ (8 * m) % 256)] rfl (u8_new _ _ _) (u8_one _)) (by simp only [maxLen]; omega) (by omega) ?_
           intro B2 cap2 w1 o1 o2 o3
           have o4 : Fr (rowOf B) wr w1 := ((Fr.refl _ wr).alloc _).then o2
           have HN := Lib.hid (And.intro o1 (And.intro o4 o3))
           clear o1 o2 o3 o4))
      go_roundg m
      case rel =>
        have hcell : ([Value.int .u8 ((n : Int) / 2 ^ (8 * m) % 256)] : List Value) = u8s [UInt8.ofNat (n / 256 ^ m)] := by rw [Q1.out]; rfl
        have ho := HN.out.1
        rw [hcell, ← u8s_append, List.append_assoc, ← HT.out] at ho
        exact ⟨j + 1, B2, cap2, by omega, by omega, vint (by omega), rfl, ho, HR.out.2.1.step HN.out.2.1 HR.out.2.2, at_step HR.out.2.1.size HR.out.2.2 fun k hk => (HN.out.2.2 k hk).imp id fun h => by rw [World.size_alloc] at h; omega⟩
      case measure => have := HG.out; omega
    · have hje : j = long := by omega
      subst hje
      have hneg : ¬ 0 ≤ ((j : Int) - 1 - (j : Int)) := by omega
      go_wp2_with fail
      go_ret
      have ho := HR.out.1
      rw [List.take_of_length_le (by rw [octs_length]; exact Nat.le_refl _)] at ho
      have hl : (pre ++ octs n j).length = pre.length + j := by rw [List.length_append, octs_length]
      exact ⟨B, bcap, by rw [hl]; rfl, by rw [hl]; exact ho, HR.out.2⟩
def PartN (w : World) (A : Option Addr) (l : List UInt8) (n : Nat) (e : Ending) (w' : World) : Prop :=
  ∃ A' cap', e = .returned (.slice A' n cap') ∧ w'.ownsRow 0 5 1 (.slice A' n cap') n (u8s l) ∧ Fr (rowOf A) w w' ∧ ∀ k, rowOf A' k → rowOf A k ∨ w.heap.size ≤ k
theorem PartPost.n {w w' : World} {A : Option Addr} {l : List UInt8} {n : Nat} {e : Ending} (h : PartPost w A l e w') (hn : l.length = n) : PartN w A l n e w' := by subst hn; exact h
theorem parted4_any (n : Nat) (w : World) (hn : n < 18446744073709551616) : Calls Tryz.prog 124 #[.slice none 0 0, .int .u64 n, .int .i64 4] w (PartN w none (octs n 4) 4) :=
  (parted_any none 0 [] n 4 w hn (by decide) (by decide) (own_nil _ _ _)).mono fun _ _ h => PartPost.n h rfl
theorem parted8_any (n : Nat) (w : World) (hn : n < 18446744073709551616) : Calls Tryz.prog 124 #[.slice none 0 0, .int .u64 n, .int .i64 8] w (PartN w none (octs n 8) 8) :=
  (parted_any none 0 [] n 8 w hn (by decide) (by decide) (own_nil _ _ _)).mono fun _ _ h => PartPost.n h rfl
theorem parted16_any (A : Option Addr) (cap m n : Nat) (w : World) (hn : n < 18446744073709551616) (h : w.ownsRow 0 5 1 (.slice A 8 cap) 8 (u8s (octs m 8))) :
    Calls Tryz.prog 124 #[.slice A 8 cap, .int .u64 n, .int .i64 8] w (PartN w A (octs m 8 ++ octs n 8) 16) :=
  (parted_any A cap (octs m 8) n 8 w hn (by decide) (by rw [octs_length]; decide) h).mono fun _ _ h => PartPost.n h rfl
/-- An address' octets. -/
def adrL (six : Bool) (hi lo : Nat) : List UInt8 := if six = true then octs hi 8 ++ octs lo 8 else octs lo 4
def StrPost (w : World) (v : Value) (e : Ending) (w' : World) : Prop := e = .returned v ∧ Fr (fun _ => False) w w'
set_option maxRecDepth 100000 in
set_option maxHeartbeats 4000000 in
theorem adrOctets_any (six : Bool) (hi lo : Nat) (w : World) (h1 : hi < 18446744073709551616) (h2 : lo < 18446744073709551616) (hc : adrCk six hi lo = 0) :
    Calls Tryz.prog 99 #[adrV six hi lo] w (StrPost w (.tuple #[.string ⟨(adrL six hi lo).toArray⟩, .int .i64 0])) := by
  have HB := Lib.hid (And.intro h1 h2)
  clear h1 h2
  have HC := Lib.hid hc
  clear hc
  unfold adrV
  have hb := Blk.new w 49 #[.bool six, .int .u64 hi, .int .u64 lo]
  have hf : Fr (fun _ => False) w (w.alloc (.cells #[.bool six, .int .u64 hi, .int .u64 lo] 49)) := (Fr.refl _ _).alloc _
  have hb2 := hb.alloc (.cells #[.bool six, .int .u64 hi, .int .u64 lo] 49)
  have hf2 := hf.alloc (.cells #[.bool six, .int .u64 hi, .int .u64 lo] 49)
  have H := Lib.hid (And.intro hb2 hf2)
  clear hb hf hb2 hf2
  have hcv : ∀ (l : List UInt8) (n : Nat) (A : Option Addr) (cap : Nat) (w : World), l.length = n → w.ownsRow 0 5 1 (.slice A n cap) n (u8s l) → (convert 66 9 (.slice A n cap)).run Tryz.prog w = .ok (.string ⟨l.toArray⟩) w := fun l n A cap w e h => by
    subst e
    exact run_conv_row (P := Tryz.prog) Tryz.underlying66 Tryz.underlying5 Tryz.underlying9 h
  have HV := Lib.hid hcv
  clear hcv
  cases six with
  | false =>
    go_enter Tryz.func99, Tryz.ntmps99
    go_wp2_with fail
    refine (adrCheck_any false hi lo _ HB.out.1 HB.out.2).mono ?_
    rintro e w1 ⟨rfl, rfl⟩
    rw [HC.out]
    generalize hW : (w.alloc (.cells #[.bool false, .int .u64 hi, .int .u64 lo] 49)).alloc (.cells #[.bool false, .int .u64 hi, .int .u64 lo] 49) = W at *
    clear hW
    have c0 := H.out.1.cell 0
    have c2 := H.out.1.cell 2
    simp only [List.getElem?_toArray, List.getElem?_cons_zero, List.getElem?_cons_succ] at c0 c2
    go_wp2_with fail
    refine (parted4_any lo _ HB.out.2).mono ?_
    rintro e w1 ⟨A1, k1, rfl, o1, f1, s1⟩
    have hc := HV.out (octs lo 4) 4 A1 k1 w1 (octs_length _ _) o1
    have HF := Lib.hid (H.out.2.step f1 fun i hi => absurd hi (rowOf_none i))
    clear o1 f1 s1 c0 c2
    go_wp2_with fail
    go_ret2
    exact ⟨rfl, HF.out⟩
  | true =>
    go_enter Tryz.func99, Tryz.ntmps99
    go_wp2_with fail
    refine (adrCheck_any true hi lo _ HB.out.1 HB.out.2).mono ?_
    rintro e w1 ⟨rfl, rfl⟩
    rw [HC.out]
    generalize hW : (w.alloc (.cells #[.bool true, .int .u64 hi, .int .u64 lo] 49)).alloc (.cells #[.bool true, .int .u64 hi, .int .u64 lo] 49) = W at *
    clear hW
    have c0 := H.out.1.cell 0
    have c1 := H.out.1.cell 1
    have c2 := H.out.1.cell 2
    simp only [List.getElem?_toArray, List.getElem?_cons_zero, List.getElem?_cons_succ] at c0 c1 c2
    go_wp2_with fail
    have b1 : W.drew.cell? ⟨w.heap.size, 1, none⟩ = some (.int .u64 hi) := c1
    have b2 : W.drew.cell? ⟨w.heap.size, 2, none⟩ = some (.int .u64 lo) := c2
    go_region_with (first
        | (go_at_call 124
           (with_reducible refine (parted8_any hi _ HB.out.1).mono ?_)
           rintro e w1 ⟨A1, k1, rfl, o1, f1, s1⟩
           have g1 : Fr (rowOf none) W w1 := f1.fromD
           have t1 : ∀ k, rowOf A1 k → W.heap.size ≤ k := fun k hk => (s1 k hk).resolve_left (rowOf_none k)
           have d1 := (g1.cell (p := ⟨w.heap.size, 1, none⟩) (World.block_lt_of_cell? W _ c1) (fun h => rowOf_none _ h)).trans c1
           have d2 := (g1.cell (p := ⟨w.heap.size, 2, none⟩) (World.block_lt_of_cell? W _ c2) (fun h => rowOf_none _ h)).trans c2
           have H1 := Lib.hid (And.intro o1 (And.intro (H.out.2.step g1 fun i hi => absurd hi (rowOf_none i)) t1))
           clear o1 f1 s1 g1 t1)
        | (go_at_call 124
           (with_reducible refine (parted16_any A1 k1 hi lo _ HB.out.2 H1.out.1).mono ?_)
           rintro e w2 ⟨A2, k2, rfl, o2, f2, s2⟩
           have hlt := World.block_lt_of_cell? W _ c1
           have hne : ¬ rowOf A1 w.heap.size := fun h => by
             have := H1.out.2.2 _ h
             have : w.heap.size < W.heap.size := hlt
             omega
           have d3 := (f2.cell (p := ⟨w.heap.size, 1, none⟩) (World.block_lt_of_cell? w1 _ d1) hne).trans d1
           have d4 := (f2.cell (p := ⟨w.heap.size, 2, none⟩) (World.block_lt_of_cell? w1 _ d2) hne).trans d2
           have hc := HV.out (octs hi 8 ++ octs lo 8) 16 A2 k2 w2 (by rw [List.length_append, octs_length, octs_length]) o2
           have H2 := Lib.hid (H1.out.2.1.step f2 fun i hi => .inr (Nat.le_trans H.out.2.size (H1.out.2.2 i hi)))
           clear o2 f2 s2 hlt hne))
    all_goals
      go_wp2_with fail
      go_ret2
      exact ⟨rfl, H2.out⟩
theorem whole_n (g off n cap : Nat) (l : List UInt8) (w : World) (hn : l.length = n) (hl : n ≤ 8) (hc : n ≤ cap) (h : ∀ j, j < l.length → w.cell? ⟨g, off + j, none⟩ = some (.int .u8 (l.getD j 0).toNat)) :
    Calls Tryz.prog 139 #[.slice (some ⟨g, off, none⟩) n cap] w fun e w' => e = .returned (.int .u64 (numOf l)) ∧ w = w' := by
  subst hn
  exact whole_any g off cap l w hl hc h
set_option maxRecDepth 100000 in
set_option maxHeartbeats 4000000 in
theorem four_any (a b c d : UInt8) (w : World) :
    Calls Tryz.prog 138 #[.int .u8 a.toNat, .int .u8 b.toNat, .int .u8 c.toNat, .int .u8 d.toNat] w (StrPost w (adrV false 0 (numOf [a, b, c, d]))) := by
  have hb := Blk.new w 49 #[.bool false, .int .u64 0, .int .u64 0]
  have hf : Fr (fun _ => False) w (w.alloc (.cells #[.bool false, .int .u64 0, .int .u64 0] 49)) := (Fr.refl _ _).alloc _
  have hk := Blk.new (w.alloc (.cells #[.bool false, .int .u64 0, .int .u64 0] 49)) 5 #[.int .u8 a.toNat, .int .u8 b.toNat, .int .u8 c.toNat, .int .u8 d.toNat]
  rw [World.size_alloc] at hk
  have H := Lib.hid (And.intro (hb.alloc (.cells #[.int .u8 a.toNat, .int .u8 b.toNat, .int .u8 c.toNat, .int .u8 d.toNat] 5)) (And.intro (hf.alloc (.cells #[.int .u8 a.toNat, .int .u8 b.toNat, .int .u8 c.toNat, .int .u8 d.toNat] 5)) hk))
  clear hb hf hk
  have hu : Tryz.prog.underlying 49 = _ := Tryz.underlying49
  go_enter Tryz.func138, Tryz.ntmps138
  go_wp2_with fail
  (with_reducible refine (whole_n (w.heap.size + 1) 0 4 4 [a, b, c, d] _ rfl (by decide) (by decide) ?_).mono ?_)
  · intro j hj
    rw [Nat.zero_add, H.out.2.2.cell]
    rcases (show j = 0 ∨ j = 1 ∨ j = 2 ∨ j = 3 by simp at hj; omega) with rfl | rfl | rfl | rfl <;> rfl
  rintro e w1 ⟨rfl, rfl⟩
  go_wp2_with (first
    | (refine wpList_store_part rfl 49 _ _ rfl w.heap.size 0 (by rfl) _ (by rfl) 49 _ H.out.1 (by kernel_rfl) (by simp [Value.oneCell']) (by simp) #[.bool false, .int .u64 0, .int .u64 (numOf [a, b, c, d])] (by rfl) ?_
       intro w2 b2 f2
       have HN := Lib.hid (And.intro b2 f2)
       clear b2 f2))
  refine bodyPost_ret (results_cell_blk Tryz.results138 HN.out.1 rfl hu rfl (by kernel_rfl)) rfl ?_
  exact ⟨rfl, H.out.2.1.new HN.out.2 fun i e => by omega⟩
theorem four_list {l : List UInt8} (h : l.length = 4) : ∃ a b c d, l = [a, b, c, d] := by
  match l, h with
  | [a, b, c, d], _ => exact ⟨a, b, c, d, rfl⟩
def AddrOfPost (w : World) (s : ByteArray) (e : Ending) (w' : World) : Prop :=
  ∃ v, e = .returned (.tuple #[adrV (addrOf s.data.toList).1 (addrOf s.data.toList).2.1 (addrOf s.data.toList).2.2, v]) ∧ Fr (fun _ => False) w w'
theorem addrOf_four {s : ByteArray} {a b c d : UInt8} (h : s.data.toList = [a, b, c, d]) {w w' : World} {v : Value} (hf : Fr (fun _ => False) w w') :
    AddrOfPost w s (.returned (.tuple #[.agg #[.bool false, .int .u64 (0 : Nat), .int .u64 (numOf [a, b, c, d])], v])) w' := by
  refine ⟨v, ?_, hf⟩
  rw [h]
  rfl
set_option maxRecDepth 100000 in
set_option maxHeartbeats 4000000 in
theorem addrOf_any (s : ByteArray) (w : World) :
    Calls Tryz.prog 128 #[.string s] w (AddrOfPost w s) := by
  have hb := Blk.new w 49 #[.bool false, .int .u64 0, .int .u64 0]
  have hf : Fr (fun _ => False) w (w.alloc (.cells #[.bool false, .int .u64 0, .int .u64 0] 49)) := (Fr.refl _ _).alloc _
  generalize hW : w.alloc (.cells #[.bool false, .int .u64 0, .int .u64 0] 49) = W at *
  have HW := Lib.hid hW
  have hcv := Lib.run_convert_string_bytes (P := Tryz.prog) W 9 66 5 s Tryz.underlying9 Tryz.underlying66 Tryz.underlying5
  have B1 : BytesPost W s (Lib.bytesWorld W 5 s) := bytes_post W s
  have hcap := grownCap_ge W s.size 0 5
  have hlt : w.heap.size < W.heap.size := by rw [← hW, World.size_alloc]; omega
  generalize Lib.bytesWorld W 5 s = w2 at *
  generalize grownCap W s.size 0 5 = cap at *
  have H := Lib.hid (And.intro (hb.fr B1.1 id) (And.intro (hf.then B1.1) (And.intro B1.2 hlt)))
  clear hb hf hW B1 hlt
  have hu : Tryz.prog.underlying 49 = _ := Tryz.underlying49
  by_cases h4 : s.size = 4
  · obtain ⟨a, b, c, d, hl⟩ := four_list (show s.data.toList.length = 4 by rw [size_l]; exact h4)
    have k0 : w2.cell? ⟨W.heap.size, 0, none⟩ = some (.int .u8 a.toNat) := by have := H.out.2.2.1 0 (by omega); rw [hl] at this; exact this
    have k1 : w2.cell? ⟨W.heap.size, 1, none⟩ = some (.int .u8 b.toNat) := by have := H.out.2.2.1 1 (by omega); rw [hl] at this; exact this
    have k2 : w2.cell? ⟨W.heap.size, 2, none⟩ = some (.int .u8 c.toNat) := by have := H.out.2.2.1 2 (by omega); rw [hl] at this; exact this
    have k3 : w2.cell? ⟨W.heap.size, 3, none⟩ = some (.int .u8 d.toNat) := by have := H.out.2.2.1 3 (by omega); rw [hl] at this; exact this
    have HK := Lib.hid (And.intro k0 (And.intro k1 (And.intro k2 k3)))
    rw [h4] at hcv hcap
    have Hl := Lib.hid hl
    clear h4 hl k0 k1 k2 k3
    go_enter Tryz.func128, Tryz.ntmps128
    go_wp2_with fail
    rw [HW.out, hcv]
    clear hcv
    go_wp2_with fail
    obtain ⟨k0, k1, k2, k3⟩ := HK.out
    have j0 : w2.drew.cell? ⟨W.heap.size, 0, none⟩ = some (.int .u8 a.toNat) := k0
    have j1 : w2.drew.cell? ⟨W.heap.size, 1, none⟩ = some (.int .u8 b.toNat) := k1
    have j2 : w2.drew.cell? ⟨W.heap.size, 2, none⟩ = some (.int .u8 c.toNat) := k2
    have j3 : w2.drew.cell? ⟨W.heap.size, 3, none⟩ = some (.int .u8 d.toNat) := k3
    have HL := Lib.hid (World.block_lt_of_cell? _ _ k0)
    have HZ : Hid (W.heap.size ≠ w.heap.size) := by have := H.out.2.2.2; show _ ≠ _; omega
    go_region_held3 (fun w' => w'.cell? ⟨W.heap.size, 0, none⟩ = some (.int .u8 a.toNat) ∧ w'.cell? ⟨W.heap.size, 1, none⟩ = some (.int .u8 b.toNat) ∧ w'.cell? ⟨W.heap.size, 2, none⟩ = some (.int .u8 c.toNat) ∧ w'.cell? ⟨W.heap.size, 3, none⟩ = some (.int .u8 d.toNat))
      (first | with_reducible exact ⟨j0, j1, j2, j3⟩ | with_reducible exact ⟨m0, m1, m2, m3⟩ | exact ⟨(cell_set3 HZ.out).trans m0, (cell_set3 HZ.out).trans m1, (cell_set3 HZ.out).trans m2, (cell_set3 HZ.out).trans m3⟩)
      (first
        | (go_at_call 138
           (with_reducible refine (four_any a b c d _).mono ?_)
           rintro e w3 ⟨rfl, f3⟩
           have g3 : Fr (fun _ => False) w2 w3 := f3.fromD
           have m0 := (g3.cell (p := ⟨W.heap.size, 0, none⟩) HL.out id).trans k0
           have m1 := (g3.cell (p := ⟨W.heap.size, 1, none⟩) HL.out id).trans k1
           have m2 := (g3.cell (p := ⟨W.heap.size, 2, none⟩) HL.out id).trans k2
           have m3 := (g3.cell (p := ⟨W.heap.size, 3, none⟩) HL.out id).trans k3
           have H3 := Lib.hid (And.intro (H.out.1.fr g3 id) (And.intro (H.out.2.1.then g3) (Nat.lt_of_lt_of_le HL.out g3.size)))
           have d0 : w3.cell? ⟨w.heap.size, 0, none⟩ = some (.bool false) := H3.out.1.cell 0
           have d1 : w3.cell? ⟨w.heap.size, 1, none⟩ = some (.int .u64 0) := H3.out.1.cell 1
           have d2 : w3.cell? ⟨w.heap.size, 2, none⟩ = some (.int .u64 0) := H3.out.1.cell 2
           have z0 := H3.out.1.frozen 0
           have z1 := H3.out.1.frozen 1
           have z2 := H3.out.1.frozen 2
           unfold adrV
           clear f3 g3))
    go_wp2_with fail
    refine bodyPost_ret (results_cell_tmp Tryz.results128 (blk_set3 H3.out.1) rfl rfl hu rfl (by kernel_rfl)) rfl ?_
    exact addrOf_four Hl.out (H3.out.2.1.new fr_set3 fun i e => by omega)
  · by_cases h16 : s.size = 16
    · have hl16 : s.data.toList.length = 16 := by rw [size_l]; exact h16
      have hk1 : ∀ j, j < (s.data.toList.take 8).length → w2.drew.cell? ⟨W.heap.size, 0 + j, none⟩ = some (.int .u8 ((s.data.toList.take 8).getD j 0).toNat) := by
        intro j hj
        rw [List.length_take] at hj
        have := H.out.2.2.1 j (by omega)
        rw [Nat.zero_add, List.getD_eq_getElem?_getD, List.getElem?_take_of_lt (by omega), ← List.getD_eq_getElem?_getD]
        exact this
      have hk2 : ∀ j, j < (s.data.toList.drop 8).length → w2.drew.cell? ⟨W.heap.size, 8 + j, none⟩ = some (.int .u8 ((s.data.toList.drop 8).getD j 0).toNat) := by
        intro j hj
        rw [List.length_drop] at hj
        have := H.out.2.2.1 (8 + j) (by omega)
        rw [List.getD_eq_getElem?_getD, List.getElem?_drop, ← List.getD_eq_getElem?_getD]
        exact this
      have HK := Lib.hid (And.intro hk1 hk2)
      have hT : (s.data.toList.take 8).length = 8 := by rw [List.length_take]; omega
      have hD : (s.data.toList.drop 8).length = 8 := by rw [List.length_drop]; omega
      have hA : addrOf s.data.toList = (true, numOf (s.data.toList.take 8), numOf (s.data.toList.drop 8)) := by
        unfold addrOf
        rw [if_neg (by omega), if_pos hl16]
      have HT := Lib.hid (And.intro hT (And.intro hD hA))
      rw [h16] at hcv hcap
      have q1 : ¬ cap = 8 := by omega
      have q2 : 8 ≤ cap := by omega
      have d0 : w2.cell? ⟨w.heap.size, 0, none⟩ = some (.bool false) := H.out.1.cell 0
      have d1 : w2.cell? ⟨w.heap.size, 1, none⟩ = some (.int .u64 0) := H.out.1.cell 1
      have d2 : w2.cell? ⟨w.heap.size, 2, none⟩ = some (.int .u64 0) := H.out.1.cell 2
      have z0 : w2.frozen? ⟨w.heap.size, 0, none⟩ = false := H.out.1.frozen 0
      have z1 : w2.frozen? ⟨w.heap.size, 1, none⟩ = false := H.out.1.frozen 1
      have z2 : w2.frozen? ⟨w.heap.size, 2, none⟩ = false := H.out.1.frozen 2
      clear h4 h16 hl16 hk1 hk2 hT hD hA
      go_enter Tryz.func128, Tryz.ntmps128
      go_wp2_with fail
      rw [HW.out, hcv]
      clear hcv
      go_wp2_with fail
      go_region_with (first
          | (go_at_call 139
             (with_reducible refine (whole_n W.heap.size 0 8 _ (s.data.toList.take 8) _ HT.out.1 (by decide) q2 HK.out.1).mono ?_)
             rintro e w3 ⟨rfl, rfl⟩)
          | (go_at_call 139
             (with_reducible refine (whole_n W.heap.size 8 8 _ (s.data.toList.drop 8) _ HT.out.2.1 (by decide) (by omega) HK.out.2).mono ?_)
             rintro e w3 ⟨rfl, rfl⟩))
      all_goals
        go_wp2_with fail
        refine bodyPost_ret (results_cell_tmp Tryz.results128 (blk_set3 (H.out.1.drew)) rfl rfl hu rfl (by kernel_rfl)) rfl ?_
        exact ⟨_, by rw [HT.out.2.2], H.out.2.1.drew.new fr_set3 fun i e => by omega⟩
    · have e4 : ((s.size : Int) == 4) = false := by rw [beq_eq_false_iff_ne]; omega
      have e16 : ((s.size : Int) == 16) = false := by rw [beq_eq_false_iff_ne]; omega
      have hA : addrOf s.data.toList = (false, 0, 0) := by
        unfold addrOf
        rw [if_neg (by rw [size_l]; exact h4), if_neg (by rw [size_l]; exact h16)]
      have HA := Lib.hid hA
      clear hA
      go_enter Tryz.func128, Tryz.ntmps128
      go_wp2_with fail
      rw [HW.out, hcv]
      clear hcv
      have d0 : w2.cell? ⟨w.heap.size, 0, none⟩ = some (.bool false) := H.out.1.cell 0
      have d1 : w2.cell? ⟨w.heap.size, 1, none⟩ = some (.int .u64 0) := H.out.1.cell 1
      have d2 : w2.cell? ⟨w.heap.size, 2, none⟩ = some (.int .u64 0) := H.out.1.cell 2
      have z0 : w2.frozen? ⟨w.heap.size, 0, none⟩ = false := H.out.1.frozen 0
      have z1 : w2.frozen? ⟨w.heap.size, 1, none⟩ = false := H.out.1.frozen 1
      have z2 : w2.frozen? ⟨w.heap.size, 2, none⟩ = false := H.out.1.frozen 2
      go_wp2_with fail
      refine bodyPost_ret (results_cell_tmp Tryz.results128 (blk_set3 H.out.1) rfl rfl hu rfl (by kernel_rfl)) rfl ?_
      exact ⟨_, by rw [HA.out]; first | done | rfl, H.out.2.1.new fr_set3 fun i e => by omega⟩
end Go.Proofs.YtmbgejiahmhffaaGreat

/-
  Structs compared: addresses, rows of five numbers.
-/
namespace Go.Proofs.YtmbgejiahmhffaaGreat
set_option linter.unusedVariables false
set_option linter.unusedSimpArgs false
open Go.RowKit

theorem wf_u64 {n : Nat} (h : n < 18446744073709551616) : (Lit.int .u64 n).wf = true := by
  simp [Lit.wf, IntKind.min, IntKind.max, IntKind.signed, IntKind.bits]
  omega
theorem wf_u32 {n : Nat} (h : n < 4294967296) : (Lit.int .u32 n).wf = true := by
  simp [Lit.wf, IntKind.min, IntKind.max, IntKind.signed, IntKind.bits]
  omega
def adrLits (six : Bool) (hi lo : Nat) : List Lit := [.bool six, .int .u64 hi, .int .u64 lo]
theorem adr_keyLits (six : Bool) (hi lo : Nat) (h1 : hi < 18446744073709551616) (h2 : lo < 18446744073709551616) : Tryz.prog.keyLits 3 49 (adrV six hi lo).cells.toList = some (adrLits six hi lo) := by
  have w1 := wf_u64 h1
  have w2 := wf_u64 h2
  have hc : Tryz.prog.cellsOf 49 = 3 := by kernel_rfl
  have c1 : Tryz.prog.cellsOf 4 = 1 := by kernel_rfl
  have c64 : Tryz.prog.cellsOf 47 = 1 := by kernel_rfl
  simp [Program.keyLits, Tryz.underlying49, Tryz.underlying4, Tryz.underlying47, hc, c1, c64, w1, w2, Value.cells, adrV, adrLits, List.range_succ]
theorem adr_formed (six : Bool) (hi lo : Nat) : (adrV six hi lo).formed Tryz.prog 49 = true := by kernel_rfl
theorem adr_equalIn (s1 s2 : Bool) (h1 h2 l1 l2 : Nat) (a1 : h1 < 18446744073709551616) (a2 : l1 < 18446744073709551616) (a3 : h2 < 18446744073709551616) (a4 : l2 < 18446744073709551616) (w : World) :
    (Op.equalIn 10000 49 (adrV s1 h1 l1) (adrV s2 h2 l2)).run Tryz.prog w = .ok (decide (s1 = s2 ∧ h1 = h2 ∧ l1 = l2)) w := by
  obtain ⟨r, hr, hiff⟩ := run_equalIn_deep (P := Tryz.prog) 9997 3 49 (by kernel_rfl) w 3 3 (adrV s1 h1 l1) (adrV s2 h2 l2) _ _ (adr_formed _ _ _) (adr_formed _ _ _) (adr_keyLits s1 h1 l1 a1 a2) (adr_keyLits s2 h2 l2 a3 a4)
  have e : r = decide (s1 = s2 ∧ h1 = h2 ∧ l1 = l2) := by
    rw [Bool.eq_iff_iff, decide_eq_true_eq, hiff]
    simp [adrLits]
    intro _
    omega
  rw [← e]
  exact hr
theorem adr_eql (s1 s2 : Bool) (h1 h2 l1 l2 : Nat) (a1 : h1 < 18446744073709551616) (a2 : l1 < 18446744073709551616) (a3 : h2 < 18446744073709551616) (a4 : l2 < 18446744073709551616) (w : World) :
    (Go.binOp .eql 49 (.agg #[.bool s1, .int .u64 h1, .int .u64 l1]) (.agg #[.bool s2, .int .u64 h2, .int .u64 l2])).run Tryz.prog w = .ok (.bool (decide (s1 = s2 ∧ h1 = h2 ∧ l1 = l2))) w := by
  have := adr_equalIn s1 s2 h1 h2 l1 l2 a1 a2 a3 a4 w
  unfold adrV at this
  rw [run_eql_struct, this]
  rfl
theorem adr_neq (s1 s2 : Bool) (h1 h2 l1 l2 : Nat) (a1 : h1 < 18446744073709551616) (a2 : l1 < 18446744073709551616) (a3 : h2 < 18446744073709551616) (a4 : l2 < 18446744073709551616) (w : World) :
    (Go.binOp .neq 49 (.agg #[.bool s1, .int .u64 h1, .int .u64 l1]) (.agg #[.bool s2, .int .u64 h2, .int .u64 l2])).run Tryz.prog w = .ok (.bool (!decide (s1 = s2 ∧ h1 = h2 ∧ l1 = l2))) w := by
  have := adr_equalIn s1 s2 h1 h2 l1 l2 a1 a2 a3 a4 w
  unfold adrV at this
  rw [run_neq_struct, this]
  rfl
def numsLits (d : Dt) : List Lit := [.int .u32 d.n0, .int .u32 d.n1, .int .u32 d.n2, .int .u32 d.n3, .int .u32 d.n4]
def numsV (d : Dt) : Value := .agg #[.int .u32 d.n0, .int .u32 d.n1, .int .u32 d.n2, .int .u32 d.n3, .int .u32 d.n4]
theorem nums_keyLits (d : Dt) (h : ∀ i, d.num i < 4294967296) : Tryz.prog.keyLits 3 50 (numsV d).cells.toList = some (numsLits d) := by
  have w0 := wf_u32 (h 0)
  have w1 := wf_u32 (h 1)
  have w2 := wf_u32 (h 2)
  have w3 := wf_u32 (h 3)
  have w4 := wf_u32 (h 4)
  simp only [Dt.num] at w0 w1 w2 w3 w4
  have hc : Tryz.prog.cellsOf 50 = 5 := by kernel_rfl
  have c1 : Tryz.prog.cellsOf 46 = 1 := by kernel_rfl
  simp [Program.keyLits, Tryz.underlying50, Tryz.underlying46, hc, c1, w0, w1, w2, w3, w4, Value.cells, numsV, numsLits, List.range_succ]
theorem nums_formed (d : Dt) : (numsV d).formed Tryz.prog 50 = true := by kernel_rfl
theorem nums_eql (d e : Dt) (hd : ∀ i, d.num i < 4294967296) (he : ∀ i, e.num i < 4294967296) (w : World) :
    (Go.binOp .eql 50 (numsV d) (numsV e)).run Tryz.prog w = .ok (.bool (decide (d.n0 = e.n0 ∧ d.n1 = e.n1 ∧ d.n2 = e.n2 ∧ d.n3 = e.n3 ∧ d.n4 = e.n4))) w := by
  obtain ⟨r, hr, hiff⟩ := run_equalIn_deep (P := Tryz.prog) 9997 3 50 (by kernel_rfl) w 3 3 (numsV d) (numsV e) _ _ (nums_formed _) (nums_formed _) (nums_keyLits d hd) (nums_keyLits e he)
  have e' : r = decide (d.n0 = e.n0 ∧ d.n1 = e.n1 ∧ d.n2 = e.n2 ∧ d.n3 = e.n3 ∧ d.n4 = e.n4) := by
    rw [Bool.eq_iff_iff, decide_eq_true_eq, hiff]
    simp [numsLits]
    omega
  rw [← e']
  unfold numsV at hr ⊢
  rw [run_eql_struct, hr]
  rfl
end Go.Proofs.YtmbgejiahmhffaaGreat

/-
  LAYER 2, AS FAR AS LAYER 7 REACHES IT: is a name one that may be?
-/
namespace Go.Proofs.YtmbgejiahmhffaaGreat
open Go.RowKit

theorem empty_of {m : ByteArray} (h : m.data.toList = []) : m = ⟨#[]⟩ := ByteArray.ext (Array.toList_inj.1 h)
theorem nonempty_facts {m : ByteArray} (hm : m ≠ ⟨#[]⟩) : m.toList.isEmpty = false ∧ m.data.toList ≠ [] ∧ 0 < m.size := by
  have h : m.data.toList ≠ [] := fun h => hm (empty_of h)
  refine ⟨?_, h, ?_⟩
  · rw [ByteArray.toList_eq]
    cases hd : m.data.toList with
    | nil => exact absurd hd h
    | cons a b => rfl
  · rw [← size_l]
    exact List.length_pos_iff.2 h
/-- Is the first label none that may be? -/
def cutBad (m : ByteArray) : Prop := oc m.data.toList 0 < 1 ∨ 63 < oc m.data.toList 0 ∨ m.size ≤ oc m.data.toList 0
set_option maxRecDepth 100000 in
set_option maxHeartbeats 2000000 in
theorem cut_bad (m : ByteArray) (w : World) (hm : m ≠ ⟨#[]⟩) (hb : cutBad m) :
    Calls Tryz.prog 112 #[.string m] w fun e w' => e = .returned (.tuple #[.string ⟨#[]⟩, .string m, .bool false]) ∧ ∃ n, w' = w.drewN n := by
  obtain ⟨h1, _, h3⟩ := nonempty_facts hm
  have hix := run_index_oc' m (0 : Int) 0 rfl h3
  unfold cutBad at hb
  have hK := oc_lt m.data.toList 0
  generalize oc m.data.toList 0 = K at *
  by_cases b1 : K < 1
  · go_enter Tryz.func112, Tryz.ntmps112
    go_wp2_with fail
    go_ret3
    exact ⟨rfl, 0, rfl⟩
  · by_cases b2 : 63 < K
    · go_enter Tryz.func112, Tryz.ntmps112
      go_wp2_with fail
      go_ret3
      exact ⟨rfl, 0, rfl⟩
    · have b3 : m.size ≤ K := by omega
      go_enter Tryz.func112, Tryz.ntmps112
      go_wp2_with fail
      go_ret3
      exact ⟨rfl, 0, rfl⟩
set_option maxRecDepth 100000 in
set_option maxHeartbeats 2000000 in
theorem cut_ok (m : ByteArray) (w : World) (hm : m ≠ ⟨#[]⟩) (hb : ¬ cutBad m) :
    Calls Tryz.prog 112 #[.string m] w fun e w' => e = .returned (.tuple #[.string (m.extract 1 (1 + oc m.data.toList 0)), .string (m.extract (1 + oc m.data.toList 0) m.size), .bool true]) ∧ ∃ n, w' = w.drewN n := by
  obtain ⟨h1, _, h3⟩ := nonempty_facts hm
  have hix := run_index_oc' m (0 : Int) 0 rfl h3
  unfold cutBad at hb
  have hK := oc_lt m.data.toList 0
  generalize oc m.data.toList 0 = K at *
  have q1 : IntKind.i64.wrap (1 + (K : Int)) = 1 + (K : Int) := IntWalk.i64_in _ (by omega)
  have q2 : (1 + (K : Int)).toNat = 1 + K := by omega
  have hsl : ∀ w, (Instr.slice 36 (.string m) (some (.int .i64 1)) (some (.int .i64 (1 + (K : Int)))) none).run Tryz.prog w = .ok (.string (m.extract 1 (1 + K))) w := fun w => by
    rw [run_slice_string (P := Tryz.prog) w 36 m .i64 .i64 _ _ Tryz.underlying36 (by omega) (by omega) (by omega), q2]
    rfl
  have hsl2 : ∀ w, (Instr.slice 36 (.string m) (some (.int .i64 (1 + (K : Int)))) none none).run Tryz.prog w = .ok (.string (m.extract (1 + K) m.size)) w := fun w => by
    rw [run_slice_string_l (P := Tryz.prog) w 36 m Tryz.underlying36 .i64 _ (by omega) (by omega), q2]
  go_enter Tryz.func112, Tryz.ntmps112
  go_wp2_with fail
  go_quiet (fail)
  go_wp2_with fail
  go_ret3
  exact ⟨rfl, _, rfl⟩
set_option maxRecDepth 100000 in
set_option maxHeartbeats 2000000 in
theorem ncheck_any (s : ByteArray) (w : World) :
    Calls Tryz.prog 85 #[.string s] w fun e w' => e = .returned (.int .i64 (ckN s)) ∧ ∃ n, w' = w.drewN n := by
  by_cases h0 : 254 < s.size
  · have hr : ckN s = 3 := by unfold ckN; rw [if_pos h0]
    rw [hr]
    clear hr
    go_enter Tryz.func85, Tryz.ntmps85
    go_wp2_with fail
    go_ret
    exact ⟨rfl, 0, rfl⟩
  · have hr : ckN s = ckAt s.data.toList 0 := by unfold ckN; rw [if_neg h0]
    rw [hr]
    clear hr
    generalize hz : ckAt s.data.toList 0 = z
    have HZ := Lib.hid hz
    clear hz
    go_enter Tryz.func85, Tryz.ntmps85
    go_wp2_with fail
    go_loopg [0] s.size (fun g v wr => ∃ (m : ByteArray) (n : Nat), g = m.size ∧ v = .string m ∧ m.size ≤ s.size ∧ ckAt m.data.toList 0 = z ∧ wr = w.drewN n)
    case atStart => exact ⟨s, 0, rfl, rfl, Nat.le_refl _, HZ.out, rfl⟩
    case round =>
      obtain ⟨m, n, rfl, rfl, hm1, hm2, rfl⟩ := hrel
      by_cases hm : m = ⟨#[]⟩
      · subst hm
        have hz : z = 0 := by rw [← hm2, ckAt]; rfl
        subst hz
        clear HZ hm2
        go_wp2_with fail
        go_ret
        exact ⟨rfl, n, rfl⟩
      · obtain ⟨h1, h2, h3⟩ := nonempty_facts hm
        rw [ckAt, if_neg (by rw [size_l]; omega), size_l, Nat.zero_add] at hm2
        by_cases hb : cutBad m
        · have hz : z = 4 := by
            rw [if_pos (by unfold cutBad at hb; omega)] at hm2
            exact hm2.symm
          subst hz
          clear HZ hm2
          go_wp2_with fail
          refine (cut_bad m _ hm hb).mono ?_
          rintro e w' ⟨rfl, n2, rfl⟩
          go_wp2_with fail
          go_ret
          exact ⟨rfl, n + n2, rfl⟩
        · rw [if_neg (by unfold cutBad at hb; omega), show 1 + oc m.data.toList 0 = 1 + oc m.data.toList 0 + 0 from rfl, ← ckAt_drop, ← drop_list] at hm2
          have HM := Lib.hid hm2
          have hsz : (m.extract (1 + oc m.data.toList 0) m.size).size = m.size - (1 + oc m.data.toList 0) := by rw [ByteArray.size_extract, Nat.min_self]
          clear hm2
          go_wp2_with fail
          refine (cut_ok m _ hm hb).mono ?_
          rintro e w' ⟨rfl, n2, rfl⟩
          go_wp2_with fail
          go_roundg (m.size - (1 + oc m.data.toList 0))
          case measure => omega
          case rel => exact ⟨_, n + n2, hsz.symm, rfl, by omega, HM.out, rfl⟩
end Go.Proofs.YtmbgejiahmhffaaGreat

/-
  LAYER 7: THE PROGRAM's PACKER: a map from rests of names to places.
-/
namespace Go.Proofs.YtmbgejiahmhffaaGreat
open Go.RowKit Go.Maps
open Go.WideMaps (keyOf_string_mk)

theorem restLaw : Keyed Tryz.prog 36 := string_keyed Tryz.underlying36
theorem restZero (w : World) : (zeroValue 3).run Tryz.prog w = .ok (.int .i64 0) w := by kernel_rfl
/-- Block b is a map that tells of each rest where it stands. -/
def MapIs (w : World) (b n : Nat) (g : List UInt8 → Option Nat) : Prop :=
  ∃ D : DataW Unit, w.ownsMap Tryz.prog 36 (plainElem Tryz.prog 3) b n D ∧
    (∀ l : List UInt8, Maps.has D (.string l) = (g l).isSome ∧ D.atKey (.string l) (.lit (.int .i64 0)) = .lit (.int .i64 ((g l).getD 0 : Nat))) ∧ ∀ l a, g l = some a → a < 16384
theorem MapIs.made (w : World) : MapIs (w.alloc (.map #[] 0)) w.heap.size 0 (fun _ => none) :=
  ⟨.map [], World.ownsMap_made w _ _ _, fun _ => ⟨rfl, rfl⟩, fun _ _ h => by cases h⟩
theorem MapIs.lt {w : World} {b n : Nat} {g : List UInt8 → Option Nat} (h : MapIs w b n g) : b < w.heap.size := by
  obtain ⟨D, h1, _⟩ := h
  exact h1.lt
theorem MapIs.fr {w w' : World} {b n : Nat} {g : List UInt8 → Option Nat} {S : Nat → Prop} (h : MapIs w b n g) (hf : Fr S w w') (hb : ¬ S b) : MapIs w' b n g := by
  obtain ⟨D, ⟨es, clock, h1, h2, h3, h4⟩, hD⟩ := h
  exact ⟨D, ⟨es, clock, (hf.block b (Array.getElem?_eq_some_iff.1 h1).1 hb).trans h1, h2, h3, h4⟩, hD⟩
theorem MapIs.look {w : World} {b n : Nat} {g : List UInt8 → Option Nat} (h : MapIs w b n g) (s : ByteArray) (hs : s.size ≤ maxLen) :
    (Instr.lookup 111 (.map (some b)) (.string s) true).run Tryz.prog w = .ok (.tuple #[.int .i64 ((g s.data.toList).getD 0 : Nat), .bool (g s.data.toList).isSome]) w := by
  obtain ⟨D, h1, h2, _⟩ := h
  obtain ⟨v, ps, hrun, hv⟩ := h1.look_ok restLaw Tryz.underlying111 (restZero w) (plainElem_int Tryz.underlying3 (by decide)) (keyOf_string_mk Tryz.underlying36 hs)
  obtain ⟨c, rfl, hc, hwc⟩ := plainElem_int_inv Tryz.underlying3 hv
  obtain ⟨e1, e2⟩ := h2 s.data.toList
  rw [e2] at hc
  simp only [Prod.mk.injEq, DataW.lit.injEq, Lit.int.injEq, true_and] at hc
  rw [hrun, e1, hc.1]
theorem MapIs.put {w : World} {b n : Nat} {g : List UInt8 → Option Nat} (h : MapIs w b n g) (s : ByteArray) (hs : s.size ≤ maxLen) (a : Nat) (ha : a < 16384) (hn : n < maxLen) :
    ∃ w', (Instr.mapUpdate 111 (.map (some b)) (.string s) (.int .i64 a)).run Tryz.prog w = .ok () w' ∧ MapIs w' b (n + 1) (updAt g s.data.toList a) ∧ Fr (· = b) w w' := by
  obtain ⟨D, h1, h2, h14⟩ := h
  have hw : (Lit.int .i64 (a : Int)).wf = true := WalkArith.wf_i64 (by omega)
  obtain ⟨w', hrun, h3, h4⟩ := h1.update restLaw Tryz.underlying111 hn (keyOf_string_mk Tryz.underlying36 hs) (plainElem_int Tryz.underlying3 hw)
  refine ⟨w', hrun, ⟨_, h3, fun l => ?_, fun l c h => (updAt_some h).elim (h14 l c) fun h => by omega⟩, (Fr.refl (· = b) w).grown (row := some b) h4 fun k hk _ => ?_⟩
  rotate_left
  · exact (Option.some.inj hk).symm
  unfold updAt
  rw [if_pos ha]
  by_cases hl : l = s.data.toList
  · subst hl
    rw [if_pos rfl]
    have hk : WideAt.IsKeyLit (.string s.data.toList) := trivial
    exact ⟨has_put_same h1.isMap hk _, atKey_put_same h1.isMap hk _ _⟩
  · rw [if_neg hl]
    have hne : (Lit.string l) ≠ .string s.data.toList := fun h => hl (by injection h)
    rw [has_put_other hne, atKey_put_other hne]
    exact h2 l
theorem updAt_far {g : List UInt8 → Option Nat} {n : List UInt8} {p : Nat} (h : ¬ p < 16384) : updAt g n p = g := by unfold updAt; rw [if_neg h]
/-- The program's packer lies at block q, its memory within F; n: how many rests at most its map has. -/
def PPkn (w : World) (q : Nat) (F : Nat → Prop) (y : Pk) (bg : List Int) (n : Nat) : Prop :=
  ∃ p G b C ccap, Blk w q 116 #[.pointer (some ⟨p, 0, none⟩), .map (some b), .slice C bg.length ccap] ∧ Wr w p G y.x ∧ MapIs w b n y.get ∧
    w.ownsRow 0 3 1 (.slice C bg.length ccap) bg.length (bg.map (Value.int .i64)) ∧
    (¬ G q ∧ ¬ G b ∧ b ≠ q ∧ ¬ rowOf C b ∧ ∀ k, rowOf C k → ¬ G k) ∧ F q ∧ F b ∧ (∀ k, G k → F k) ∧ (∀ k, rowOf C k → F k) ∧ ∀ k, F k → k < w.heap.size
def PPk (w : World) (q : Nat) (F : Nat → Prop) (y : Pk) (bg : List Int) : Prop := ∃ n, n ≤ y.x.b.length ∧ PPkn w q F y bg n
theorem PPkn.fr {w w' : World} {q n : Nat} {F S : Nat → Prop} {y : Pk} {bg : List Int} (h : PPkn w q F y bg n) (hf : Fr S w w') (hd : ∀ k, F k → ¬ S k) : PPkn w' q F y bg n := by
  obtain ⟨p, G, b, C, ccap, h1, h2, h3, h4, h6, h7, h8, h9, h10, h11⟩ := h
  exact ⟨p, G, b, C, ccap, h1.fr hf (hd _ h7), h2.fr hf fun k hk => hd k (h9 k hk), h3.fr hf (hd _ h8), own_fr h4 hf fun k hk => hd k (h10 k hk), h6, h7, h8, h9, h10, fun k hk => Nat.lt_of_lt_of_le (h11 k hk) hf.size⟩
theorem PPk.fr {w w' : World} {q : Nat} {F S : Nat → Prop} {y : Pk} {bg : List Int} (h : PPk w q F y bg) (hf : Fr S w w') (hd : ∀ k, F k → ¬ S k) : PPk w' q F y bg := by
  obtain ⟨n, h1, h2⟩ := h
  exact ⟨n, h1, h2.fr hf hd⟩
theorem PPk.drewN {w : World} {q : Nat} {F : Nat → Prop} {y : Pk} {bg : List Int} (h : PPk w q F y bg) (n : Nat) : PPk (w.drewN n) q F y bg := h.fr (S := fun _ => False) ((Fr.refl _ w).drewN n) fun _ _ h => h
/-- What a call leaves. -/
def PPkPost (w : World) (q : Nat) (F : Nat → Prop) (bg : List Int) (r : Pk × Int) (e : Ending) (w' : World) : Prop :=
  e = .returned (.int .i64 r.2) ∧ ∃ F', PPk w' q F' r.1 bg ∧ Fr F w w' ∧ ∀ k, F' k → F k ∨ w.heap.size ≤ k
theorem PPkPost.of {w w1 w' : World} {q : Nat} {F F1 : Nat → Prop} {bg : List Int} {r : Pk × Int} {e : Ending} (h : PPkPost w1 q F1 bg r e w') (hf : Fr F w w1) (hs : ∀ k, F1 k → F k ∨ w.heap.size ≤ k) : PPkPost w q F bg r e w' := by
  obtain ⟨he, F', h2, h3, h4⟩ := h
  refine ⟨he, F', h2, hf.trans h3 fun i hi h => (hs i h).resolve_right (by omega), fun k hk => ?_⟩
  rcases h4 k hk with h | h
  · exact hs k h
  · exact .inr (Nat.le_trans hf.size h)
/-- The writer within. -/
theorem PPkn.writer {w : World} {q n : Nat} {F : Nat → Prop} {y : Pk} {bg : List Int} (h : PPkn w q F y bg n) :
    ∃ p G, w.cell? ⟨q, 0, none⟩ = some (.pointer (some ⟨p, 0, none⟩)) ∧ Wr w p G y.x ∧ (∀ k, G k → F k) ∧ ¬ G q ∧
      ∀ r e w', WrPost w p G r e w' → e = .returned (.int .i64 r.2) ∧ ∃ F', PPkn w' q F' ⟨r.1, y.get⟩ bg n ∧ Fr F w w' ∧ Fr G w w' ∧ ∀ k, F' k → F k ∨ w.heap.size ≤ k := by
  obtain ⟨p, G, b, C, ccap, h1, h2, h3, h4, ⟨d1, d2, d3, d4, d5⟩, h7, h8, h9, h10, h11⟩ := h
  refine ⟨p, G, h1.cell 0, h2, h9, d1, fun r e w' hp => ?_⟩
  obtain ⟨he, G', g1, g2, g3⟩ := hp
  have hq := h1.lt
  have hb := h3.lt
  refine ⟨he, fun k => F k ∨ G' k, ⟨p, G', b, C, ccap, h1.fr g2 d1, g1, h3.fr g2 d2, own_fr h4 g2 d5, ⟨fun h => (g3 _ h).elim d1 fun h => by omega, fun h => (g3 _ h).elim d2 fun h => by omega, d3, d4, fun k hk h => (g3 _ h).elim (d5 k hk) fun h => by have := own_lt h4 hk; omega⟩, .inl h7, .inl h8, fun k hk => .inr hk, fun k hk => .inl (h10 k hk), ?_⟩, g2.mono fun k _ hk => h9 k hk, g2, ?_⟩
  · rintro k (hk | hk)
    · exact Nat.lt_of_lt_of_le (h11 k hk) g2.size
    · exact g1.lt k hk
  · rintro k (hk | hk)
    · exact .inl hk
    · exact (g3 k hk).imp (h9 k) id
theorem PPk.writer {w : World} {q : Nat} {F : Nat → Prop} {y : Pk} {bg : List Int} (h : PPk w q F y bg) :
    ∃ p G, w.cell? ⟨q, 0, none⟩ = some (.pointer (some ⟨p, 0, none⟩)) ∧ Wr w p G y.x ∧ (∀ k, G k → F k) ∧ ¬ G q ∧
      ∀ r e w', WrPost w p G r e w' → y.x.b.length ≤ r.1.b.length → e = .returned (.int .i64 r.2) ∧ ∃ F', PPk w' q F' ⟨r.1, y.get⟩ bg ∧ Fr F w w' ∧ Fr G w w' ∧ ∀ k, F' k → F k ∨ w.heap.size ≤ k := by
  obtain ⟨n, hn, h⟩ := h
  obtain ⟨p, G, h1, h2, h3, h4, h5⟩ := h.writer
  refine ⟨p, G, h1, h2, h3, h4, fun r e w' hp hge => ?_⟩
  obtain ⟨he, F', g1, g2⟩ := h5 r e w' hp
  exact ⟨he, F', ⟨n, by dsimp only; omega, g1⟩, g2⟩
/-- The map within. -/
theorem PPkn.rests {w : World} {q n : Nat} {F : Nat → Prop} {y : Pk} {bg : List Int} (h : PPkn w q F y bg n) (s : ByteArray) (hs : s.size ≤ maxLen) (hn : n < maxLen) :
    ∃ b, w.cell? ⟨q, 1, none⟩ = some (.map (some b)) ∧
      (Instr.lookup 111 (.map (some b)) (.string s) true).run Tryz.prog w = .ok (.tuple #[.int .i64 ((y.get s.data.toList).getD 0 : Nat), .bool (y.get s.data.toList).isSome]) w ∧
      (∀ l a, y.get l = some a → a < 16384) ∧ ∀ a, a < 16384 → ∃ w', (Instr.mapUpdate 111 (.map (some b)) (.string s) (.int .i64 (a : Nat))).run Tryz.prog w = .ok () w' ∧ PPkn w' q F ⟨y.x, updAt y.get s.data.toList a⟩ bg (n + 1) ∧ Fr F w w' := by
  obtain ⟨p, G, b, C, ccap, h1, h2, h3, h4, ⟨d1, d2, d3, d4, d5⟩, h7, h8, h9, h10, h11⟩ := h
  refine ⟨b, h1.cell 1, h3.look s hs, (by obtain ⟨_, _, _, h⟩ := h3; exact h), fun a ha => ?_⟩
  obtain ⟨w', hrun, hm, hf⟩ := h3.put s hs a ha hn
  exact ⟨w', hrun, ⟨p, G, b, C, ccap, h1.fr hf (fun e => d3 e.symm), h2.fr hf (fun k hk e => d2 (e ▸ hk)), hm, own_fr h4 hf (fun k hk e => d4 (e ▸ hk)), ⟨d1, d2, d3, d4, d5⟩, h7, h8, h9, h10, fun k hk => Nat.lt_of_lt_of_le (h11 k hk) hf.size⟩, hf.mono fun k _ e => e ▸ h8⟩
set_option maxHeartbeats 1000000 in
theorem perr_any (q : Nat) (F : Nat → Prop) (y : Pk) (bg : List Int) (w : World) (h : PPk w q F y bg) :
    Calls Tryz.prog 37 #[.pointer (some ⟨q, 0, none⟩)] w fun e w' => e = .returned (.int .i64 y.x.e) ∧ w = w' := by
  obtain ⟨p, G, c0, hw, _⟩ := h.writer
  have HW := Lib.hid hw
  clear h hw
  go_enter Tryz.func37, Tryz.ntmps37
  go_wp2_with fail
  refine (err_any p G y.x _ HW.out).mono ?_
  rintro e w' ⟨rfl, rfl⟩
  go_wp2_with fail
  go_ret
  exact ⟨rfl, rfl⟩
set_option maxHeartbeats 1000000 in
theorem ptext_any (q : Nat) (F : Nat → Prop) (y : Pk) (bg : List Int) (w : World) (h : PPk w q F y bg) :
    Calls Tryz.prog 38 #[.pointer (some ⟨q, 0, none⟩)] w fun e w' => e = .returned (.string ⟨y.x.b.toArray⟩) ∧ w = w' := by
  obtain ⟨p, G, c0, hw, _⟩ := h.writer
  have HW := Lib.hid hw
  clear h hw
  go_enter Tryz.func38, Tryz.ntmps38
  go_wp2_with fail
  refine (text_any p G y.x _ HW.out).mono ?_
  rintro e w' ⟨rfl, rfl⟩
  go_wp2_with fail
  go_ret
  exact ⟨rfl, rfl⟩
set_option maxHeartbeats 1000000 in
theorem pput_any (q : Nat) (F : Nat → Prop) (y : Pk) (bg : List Int) (s : ByteArray) (w : World) (h : PPk w q F y bg) (hs : y.x.b.length + s.size ≤ 140737488355328) :
    Calls Tryz.prog 34 #[.pointer (some ⟨q, 0, none⟩), .string s] w (PPkPost w q F bg (⟨(y.x.put s.data.toList).1, y.get⟩, (y.x.put s.data.toList).2)) := by
  obtain ⟨p, G, c0, hw, _, _, hup⟩ := h.writer
  have HW := Lib.hid hw
  have HU := Lib.hid hup
  clear h hw hup
  go_enter Tryz.func34, Tryz.ntmps34
  go_wp2_with fail
  refine (put_any p G y.x s _ HW.out hs).mono ?_
  intro e w' hp
  obtain ⟨rfl, F', g1, g2, _, g4⟩ := HU.out _ _ _ hp (put_ge _ _)
  have HG := Lib.hid (And.intro g1 (And.intro g2 g4))
  clear hp g1 g2 g4
  go_wp2_with fail
  go_ret
  exact ⟨rfl, F', HG.out⟩
set_option maxHeartbeats 1000000 in
theorem pnumber_any (q : Nat) (F : Nat → Prop) (y : Pk) (bg : List Int) (v n : Int) (w : World) (h : PPk w q F y bg) (h0 : 0 ≤ v) (h1 : v < 4294967296) (hs : y.x.b.length + 4 ≤ 140737488355328) :
    Calls Tryz.prog 67 #[.pointer (some ⟨q, 0, none⟩), .int .u32 v, .int .i64 n] w (PPkPost w q F bg (⟨(y.x.number v n).1, y.get⟩, (y.x.number v n).2)) := by
  obtain ⟨p, G, c0, hw, _, _, hup⟩ := h.writer
  have HW := Lib.hid hw
  have HU := Lib.hid hup
  clear h hw hup
  go_enter Tryz.func67, Tryz.ntmps67
  go_wp2_with fail
  refine (number_any p G y.x v n _ HW.out h0 h1 hs).mono ?_
  intro e w' hp
  obtain ⟨rfl, F', g1, g2, _, g4⟩ := HU.out _ _ _ hp (number_ge _ _ _)
  have HG := Lib.hid (And.intro g1 (And.intro g2 g4))
  clear hp g1 g2 g4
  go_wp2_with fail
  go_ret
  exact ⟨rfl, F', HG.out⟩
set_option maxHeartbeats 1000000 in
theorem ready_any (q : Nat) (F : Nat → Prop) (y : Pk) (bg : List Int) (n : ByteArray) (w : World) (h : PPk w q F y bg) :
    Calls Tryz.prog 121 #[.pointer (some ⟨q, 0, none⟩), .string n] w fun e w' => e = .returned (.int .i64 (if y.x.e = 0 then ckN n else y.x.e)) ∧ ∃ k, w' = w.drewN k := by
  have H := Lib.hid h
  clear h
  by_cases he : y.x.e = 0
  · have he' : (y.x.e != 0) = false := by simp [he]
    rw [if_pos he]
    go_enter Tryz.func121, Tryz.ntmps121
    go_wp2_with fail
    refine (perr_any q F y bg _ H.out).mono ?_
    rintro e w' ⟨rfl, rfl⟩
    go_wp2_with fail
    refine (ncheck_any n _).mono ?_
    rintro e w' ⟨rfl, k, rfl⟩
    go_wp2_with fail
    go_ret
    exact ⟨rfl, k, rfl⟩
  · have he' : (y.x.e != 0) = true := by simp [he]
    rw [if_neg he]
    go_enter Tryz.func121, Tryz.ntmps121
    go_wp2_with fail
    refine (perr_any q F y bg _ H.out).mono ?_
    rintro e w' ⟨rfl, rfl⟩
    go_wp2_with fail
    go_ret
    exact ⟨rfl, 0, rfl⟩
set_option maxHeartbeats 1000000 in
theorem psize_any (n : ByteArray) (w : World) :
    Calls Tryz.prog 51 #[.string n] w fun e w' => e = .returned (.int .i64 (if ckN n = 0 then (n.size : Int) + 1 else 0)) ∧ ∃ k, w' = w.drewN k := by
  by_cases hc : ckN n = 0
  · have hc' : (ckN n != 0) = false := by simp [hc]
    have hn := (ckN_ok hc).1
    rw [if_pos hc]
    go_enter Tryz.func51, Tryz.ntmps51
    go_wp2_with fail
    refine (ncheck_any n _).mono ?_
    rintro e w' ⟨rfl, k, rfl⟩
    go_wp2_with fail
    go_ret
    exact ⟨rfl, k, rfl⟩
  · have hc' : (ckN n != 0) = true := by simp [hc]
    rw [if_neg hc]
    go_enter Tryz.func51, Tryz.ntmps51
    go_wp2_with fail
    refine (ncheck_any n _).mono ?_
    rintro e w' ⟨rfl, k, rfl⟩
    go_wp2_with fail
    go_ret
    exact ⟨rfl, k, rfl⟩
end Go.Proofs.YtmbgejiahmhffaaGreat

/-
  LAYER 7: THE PROGRAM's PACKER: names.
-/
namespace Go.Proofs.YtmbgejiahmhffaaGreat
open Go.RowKit Go.Maps

set_option maxRecDepth 100000 in
set_option maxHeartbeats 4000000 in
theorem pplain_any (q : Nat) (F : Nat → Prop) (y : Pk) (bg : List Int) (n : ByteArray) (w : World) (h : PPk w q F y bg) (hb : y.x.b.length ≤ 999999000) :
    Calls Tryz.prog 101 #[.pointer (some ⟨q, 0, none⟩), .string n] w (PPkPost w q F bg (y.plain n)) := by
  have H := Lib.hid h
  clear h
  by_cases he : y.x.e = 0
  · by_cases hk : ckN n = 0
    · have hs : y.x.b.length + n.size + 4 ≤ 1000000000 := by have := (ckN_ok hk).1; omega
      have hr : y.plain n = (⟨(y.x.put (n ++ ⟨#[0]⟩).data.toList).1, y.get⟩, (y.x.put (n ++ ⟨#[0]⟩).data.toList).2) := by
        unfold Pk.plain
        rw [if_neg (by simp [he]), if_neg (by simp [hk])]
        simp [ByteArray.data_append]
      rw [hr]
      clear hr
      have ha : ∀ w, (Op.stringOp .add n ⟨#[0]⟩).run Tryz.prog w = .ok (.string (n ++ ⟨#[0]⟩)) w := fun w => run_string_add_sum w _ _ (by rw [show (⟨#[0]⟩ : ByteArray).size = 1 from rfl]; omega)
      have hsz : (n ++ ⟨#[0]⟩ : ByteArray).size = n.size + 1 := by rw [ByteArray.size_append]; rfl
      generalize n ++ ⟨#[0]⟩ = s at *
      obtain ⟨p, G, c0, hw, _, _, hup⟩ := H.out.writer
      have HW := Lib.hid hw
      have HU := Lib.hid hup
      clear hw hup
      go_enter Tryz.func101, Tryz.ntmps101
      go_wp2_with fail
      refine (ready_any q F y bg n _ H.out).mono ?_
      rintro e w' ⟨rfl, k, rfl⟩
      rw [if_pos he, hk]
      have c0' : (w.drewN k).cell? ⟨q, 0, none⟩ = some (.pointer (some ⟨p, 0, none⟩)) := c0
      go_wp2_with fail
      refine (put_any p G y.x s _ (HW.out.fr (S := fun _ => False) ((Fr.refl _ w).drewN k) (fun _ _ h => h)) (by omega)).mono ?_
      intro e w' hp
      obtain ⟨rfl, F', g1, g2, _, g4⟩ := HU.out _ _ w' (by
        obtain ⟨p1, F2, p2, p3, p4⟩ := hp
        exact ⟨p1, F2, p2, p3.fromN, p4⟩) (put_ge _ _)
      have HG := Lib.hid (And.intro g1 (And.intro g2 g4))
      clear hp g1 g2 g4
      go_wp2_with fail
      go_ret
      exact ⟨rfl, F', HG.out⟩
    · have hk' : (ckN n != 0) = true := by simp [hk]
      have hr : y.plain n = (y, ckN n) := by unfold Pk.plain; rw [if_neg (by simp [he]), if_pos hk]
      rw [hr]
      clear hr
      go_enter Tryz.func101, Tryz.ntmps101
      go_wp2_with fail
      refine (ready_any q F y bg n _ H.out).mono ?_
      rintro e w' ⟨rfl, k, rfl⟩
      rw [if_pos he]
      go_wp2_with fail
      go_ret
      exact ⟨rfl, F, H.out.drewN k, (Fr.refl _ _).drewN k, fun _ h => .inl h⟩
  · have he' : (y.x.e != 0) = true := by simp [he]
    have hr : y.plain n = (y, y.x.e) := by unfold Pk.plain; rw [if_pos he]
    rw [hr]
    clear hr
    go_enter Tryz.func101, Tryz.ntmps101
    go_wp2_with fail
    refine (ready_any q F y bg n _ H.out).mono ?_
    rintro e w' ⟨rfl, k, rfl⟩
    rw [if_neg he]
    go_wp2_with fail
    go_ret
    exact ⟨rfl, F, H.out.drewN k, (Fr.refl _ _).drewN k, fun _ h => .inl h⟩
set_option maxRecDepth 100000 in
set_option maxHeartbeats 4000000 in
theorem pname_any (q : Nat) (F : Nat → Prop) (y : Pk) (bg : List Int) (n : ByteArray) (w : World) (h : PPk w q F y bg) (hb : y.x.b.length ≤ 999999000) :
    Calls Tryz.prog 95 #[.pointer (some ⟨q, 0, none⟩), .string n] w (PPkPost w q F bg (y.name n)) := by
  have H := Lib.hid h
  clear h
  by_cases he : y.x.e = 0
  · by_cases hk : ckN n = 0
    · have hs : y.x.b.length + n.size + 4 ≤ 1000000000 := by have := (ckN_ok hk).1; omega
      have hr : y.name n = y.rest n.data.toList := by unfold Pk.name; rw [if_neg (by simp [he]), if_neg (by simp [hk])]
      rw [hr]
      clear hr
      generalize hz : y.rest n.data.toList = z
      have HZ := Lib.hid (And.intro hz (And.intro he (And.intro hs (ckN_ok hk))))
      clear hz hs
      go_enter Tryz.func95, Tryz.ntmps95
      go_wp2_with fail
      refine (ready_any q F y bg n _ H.out).mono ?_
      rintro e w' ⟨rfl, k0, rfl⟩
      rw [if_pos he, hk]
      have HD : Hid (PPk (w.drewN k0) q F y bg ∧ Fr F w (w.drewN k0)) := ⟨H.out.drewN k0, (Fr.refl _ _).drewN k0⟩
      generalize w.drewN k0 = w0 at *
      go_wp2_with fail
      go_loopg [1] n.size (fun g v wr => ∃ (m : ByteArray) (x : Pk) (G : Nat → Prop), g = m.size ∧ v = .string m ∧ PPk wr q G x bg ∧ x.x.e = 0 ∧ x.rest m.data.toList = z ∧ ckAt m.data.toList 0 = 0 ∧
        x.x.b.length + m.size + 4 ≤ 1000000000 ∧ Fr F w wr ∧ ∀ i, G i → F i ∨ w.heap.size ≤ i)
      case atStart => exact ⟨n, y, F, rfl, rfl, HD.out.1, HZ.out.2.1, HZ.out.1, HZ.out.2.2.2.2, HZ.out.2.2.1, HD.out.2, fun _ h => .inl h⟩
      case round =>
        obtain ⟨m, x, G, rfl, rfl, ⟨n0, hn0, r2⟩, r3, r4, r5, r6, r7, r8⟩ := hrel
        obtain ⟨p, P, c0, hw, hPG, hPq, up⟩ := r2.writer
        have HX := Lib.hid (And.intro hn0 (And.intro r2 (And.intro r3 (And.intro r7 r8))))
        have HU := Lib.hid up
        have HW := Lib.hid hw
        clear r2 r3 r7 r8 up hw
        by_cases hm : m = ⟨#[]⟩
        · subst hm
          have r4' : x.rest [] = z := r4
          rw [Pk.rest_nil] at r4'
          clear r4
          go_wp2_with fail
          refine (put_any p P x.x ⟨#[0]⟩ _ HW.out (by rw [show (⟨#[0]⟩ : ByteArray).size = 1 from rfl]; omega)).mono ?_
          intro e w' hp
          obtain ⟨rfl, F', g1, g2, _, g4⟩ := HU.out _ _ _ hp
          have HG := Lib.hid (And.intro g1 (And.intro g2 g4))
          clear hp g1 g2 g4
          go_wp2_with fail
          go_ret
          subst r4'
          exact PPkPost.of (w1 := wr) (F1 := G) ⟨rfl, F', ⟨n0, Nat.le_trans HX.out.1 (put_ge _ _), HG.out.1⟩, HG.out.2⟩ HX.out.2.2.2.1 HX.out.2.2.2.2
        · obtain ⟨hme, hml, hms⟩ := nonempty_facts hm
          have hrs := HX.out.2.1.rests m (by simp only [maxLen]; omega) (by simp only [maxLen]; omega)
          cases hg : x.get m.data.toList with
          | some a =>
            obtain ⟨b, c1, hlook, h14, _⟩ := hrs
            have ha := h14 _ _ hg
            rw [hg] at hlook
            simp only [Option.getD_some, Option.isSome_some] at hlook
            rw [Pk.rest_some hml hg] at r4
            have H4 := Lib.hid r4
            have q1 : IntKind.i64.wrap (49152 + (a : Int)) = 49152 + (a : Int) := IntWalk.i64_in _ (by omega)
            clear r4 hg r5 hm hml h14
            go_wp2_with fail
            refine (number_any p P x.x (49152 + (a : Int)) 2 _ HW.out (by omega) (by omega) (by omega)).mono ?_
            intro e w' hp
            obtain ⟨rfl, F', g1, g2, _, g4⟩ := HU.out _ _ _ hp
            have HG := Lib.hid (And.intro g1 (And.intro g2 g4))
            clear hp g1 g2 g4
            go_wp2_with fail
            go_ret
            rw [← H4.out]
            exact PPkPost.of (w1 := wr) (F1 := G) ⟨rfl, F', ⟨n0, Nat.le_trans HX.out.1 (number_ge _ _ _), HG.out.1⟩, HG.out.2⟩ HX.out.2.2.2.1 HX.out.2.2.2.2
          | none =>
            obtain ⟨b, c1, hlook, h14, _⟩ := hrs
            rw [hg] at hlook
            simp only [Option.getD_none, Option.isSome_none] at hlook
            obtain ⟨k1, k2, k3, k4⟩ := ckAt_first hml r5
            rw [size_l] at k3
            have hix := run_index_oc' m (0 : Int) 0 rfl (by omega)
            generalize hKO : oc m.data.toList 0 = K at *
            have q1 : IntKind.i64.wrap (1 + (K : Int)) = 1 + (K : Int) := IntWalk.i64_in _ (by omega)
            have q2 : (1 + (K : Int)).toNat = 1 + K := by omega
            have hsl : ∀ w, (Instr.slice 36 (.string m) none (some (.int .i64 (1 + (K : Int)))) none).run Tryz.prog w = .ok (.string (m.extract 0 (1 + K))) w := fun w => by
              rw [run_slice_string_h (P := Tryz.prog) w 36 m Tryz.underlying36 .i64 _ (by omega) (by omega), q2]
            have hsl2 : ∀ w, (Instr.slice 36 (.string m) (some (.int .i64 (1 + (K : Int)))) none none).run Tryz.prog w = .ok (.string (m.extract (1 + K) m.size)) w := fun w => by
              rw [run_slice_string_l (P := Tryz.prog) w 36 m Tryz.underlying36 .i64 _ (by omega) (by omega), q2]
            have HEX := Lib.hid (take_list m (1 + K))
            have HEX2 := Lib.hid (drop_list m (1 + K))
            go_wp2_with fail
            clear hlook c1
            go_quiet (first
              | (go_at_call 96; refine quiet_left (len_any p P x.x _ ?_); exact HW.out.fr (S := fun _ => False) ((Fr.refl _ wr).drewN _) (fun _ _ h => h)))
            go_wp2_with fail
            have FD : Hid (Fr (fun _ => False) wr (wr.drewN nq)) := (Fr.refl _ wr).drewN nq
            have d0 : (wr.drewN nq).cell? ⟨q, 0, none⟩ = some (.pointer (some ⟨p, 0, none⟩)) := c0
            clear hix c0
            generalize wr.drewN nq = W at *
            go_still_tail 7, (by kernel_rfl)
            change wpList _ _ _ _ _ W.drew
            replace FD := Lib.hid FD.out.drew
            clear d0
            generalize W.drew = W2 at *
            go_wp2_with fail
            refine (put_any p P x.x (m.extract 0 (1 + K)) _ (HW.out.fr FD.out (fun _ _ h => h)) (by simp only [ByteArray.size_extract]; omega)).mono ?_
            intro e w3 hp
            rw [HEX.out] at hp
            obtain ⟨rfl, F', g1, g2, _, g4⟩ := HU.out _ _ w3 (by
              obtain ⟨p1, F2, p2, p3, p4⟩ := hp
              exact ⟨p1, F2, p2, (FD.out.mono fun _ _ h => h.elim).then p3, fun k hk => (p4 k hk).imp id fun h => Nat.le_trans FD.out.size h⟩)
            have HG := Lib.hid (And.intro g1 (And.intro g2 g4))
            clear hp g1 g2 g4
            by_cases hpe : (x.x.put (m.data.toList.take (1 + K))).2 = 0
            · rw [Pk.rest_go hml hg (by rw [hKO]; exact hpe), hKO] at r4
              have hx' := rput_err x.x _ HX.out.2.2.1 hpe
              rw [hx'] at HG r4
              simp only [hpe]
              have H4 := Lib.hid r4
              have hx2 : (m.extract (1 + K) m.size).size = m.size - (1 + K) := by rw [ByteArray.size_extract, Nat.min_self]
              have hf1 := HX.out.2.2.2.1
              have hs1 := HX.out.2.2.2.2
              have hf2 : Fr F w w3 := hf1.trans HG.out.2.1 fun i hi h => (hs1 i h).resolve_right (by omega)
              have hs2 : ∀ i, F' i → F i ∨ w.heap.size ≤ i := fun i hi => (HG.out.2.2 i hi).elim (hs1 i) fun h => .inr (Nat.le_trans hf1.size h)
              have hln : (x.x.b ++ m.data.toList.take (1 + K)).length = x.x.b.length + (1 + K) := by rw [List.length_append, List.length_take, size_l]; omega
              have HF := Lib.hid (And.intro hf2 hs2)
              clear r4 hx' hf1 hs1 hf2 hs2
              by_cases hat : x.x.b.length < 16384
              · obtain ⟨b', e1, _, _, hup⟩ := HG.out.1.rests m (by simp only [maxLen]; omega) (by simp only [maxLen]; omega)
                obtain ⟨w5, hrun, n1, n2⟩ := hup x.x.b.length hat
                have HN := Lib.hid (And.intro n1 n2)
                clear n1 n2 hup
                go_wp2_with fail
                go_roundg (m.size - (1 + K))
                case rel =>
                  refine ⟨_, ⟨{ x.x with b := x.x.b ++ m.data.toList.take (1 + K) }, updAt x.get m.data.toList x.x.b.length⟩, F', hx2.symm, rfl, ⟨n0 + 1, by dsimp only; omega, HN.out.1⟩, HX.out.2.2.1, by rw [HEX2.out]; exact H4.out, by rw [HEX2.out]; exact k4, by rw [hx2]; dsimp only; omega, HF.out.1.trans HN.out.2 fun i hi h => (HF.out.2 i h).resolve_right (by omega), HF.out.2⟩
                case measure => omega
              · rw [updAt_far hat] at H4
                go_wp2_with fail
                go_roundg (m.size - (1 + K))
                case rel =>
                  refine ⟨_, ⟨{ x.x with b := x.x.b ++ m.data.toList.take (1 + K) }, x.get⟩, F', hx2.symm, rfl, ⟨n0, by dsimp only; omega, HG.out.1⟩, HX.out.2.2.1, by rw [HEX2.out]; exact H4.out, by rw [HEX2.out]; exact k4, by rw [hx2]; dsimp only; omega, HF.out.1, HF.out.2⟩
                case measure => omega
            · have hpe' : ((x.x.put (m.data.toList.take (1 + K))).2 != 0) = true := by simp [hpe]
              rw [Pk.rest_stop hml hg (by rw [hKO]; exact hpe), hKO] at r4
              have H4 := Lib.hid r4
              clear r4
              go_wp2_with fail
              go_ret
              rw [← H4.out]
              exact PPkPost.of (w1 := wr) (F1 := G) ⟨rfl, F', ⟨n0, Nat.le_trans HX.out.1 (put_ge _ _), HG.out.1⟩, HG.out.2⟩ HX.out.2.2.2.1 HX.out.2.2.2.2
    · have hk' : (ckN n != 0) = true := by simp [hk]
      have hr : y.name n = (y, ckN n) := by unfold Pk.name; rw [if_neg (by simp [he]), if_pos hk]
      rw [hr]
      clear hr
      go_enter Tryz.func95, Tryz.ntmps95
      go_wp2_with fail
      refine (ready_any q F y bg n _ H.out).mono ?_
      rintro e w' ⟨rfl, k, rfl⟩
      rw [if_pos he]
      go_wp2_with fail
      go_ret
      exact ⟨rfl, F, H.out.drewN k, (Fr.refl _ _).drewN k, fun _ h => .inl h⟩
  · have he' : (y.x.e != 0) = true := by simp [he]
    have hr : y.name n = (y, y.x.e) := by unfold Pk.name; rw [if_pos he]
    rw [hr]
    clear hr
    go_enter Tryz.func95, Tryz.ntmps95
    go_wp2_with fail
    refine (ready_any q F y bg n _ H.out).mono ?_
    rintro e w' ⟨rfl, k, rfl⟩
    rw [if_neg he]
    go_wp2_with fail
    go_ret
    exact ⟨rfl, F, H.out.drewN k, (Fr.refl _ _).drewN k, fun _ h => .inl h⟩
end Go.Proofs.YtmbgejiahmhffaaGreat
