/-
  TEXTS OF THIS CLAIM, TOGETHER: Drb, Drd, Deq, Dsm, Dlt.
-/
import Derived.Test.YtncfdfgcnblicaaCDdc
import Derived.Test.YtncfdfgcnblicaaBunD
/-
  LAYER 9: what data that was read can hold, of no program.
-/
namespace Go.Proofs.Ytncfdfgcnblicaa
set_option linter.unusedVariables false
set_option linter.unusedSimpArgs false
open Go.RowKit

theorem getD_lt {l : List Nat} {B : Nat} (h : ∀ v ∈ l, v < B) (hB : 0 < B) (i : Nat) : l.getD i 0 < B := by
  rw [List.getD_eq_getElem?_getD]
  cases hv : l[i]? with
  | none => exact hB
  | some v => exact h v (List.mem_of_getElem? hv)
theorem cu_take_len (S : List UInt8) (en : Nat) (c : Cu) (n : Nat) : (c.take S en n).1.length ≤ n := by
  unfold Cu.take
  split
  · exact Nat.zero_le _
  · split
    · exact Nat.zero_le _
    · simp only [List.length_take]; omega
theorem cu_nums_lt (S : List UInt8) (en wide : Nat) (hw : wide ≤ 4) : ∀ (k : Nat) (c : Cu), ∀ v ∈ (Cu.nums S en wide k c).1, v < 4294967296
  | 0, _ => fun v hv => by simp [Cu.nums] at hv
  | k + 1, c => fun v hv => by
    unfold Cu.nums at hv
    rcases List.mem_cons.1 hv with rfl | hv
    · show numOf (c.take S en wide).1 < _
      refine Nat.lt_of_lt_of_le (numOf_lt _) ?_
      have h1 := cu_take_len S en c wide
      exact Nat.le_trans (Nat.pow_le_pow_right (by decide) (Nat.le_trans h1 hw)) (by decide)
    · exact cu_nums_lt S en wide hw k _ v hv
theorem cu_texts_len (S : List UInt8) (en : Nat) : ∀ (f : Nat) (c : Cu), (Cu.texts S en f c).1.length ≤ f
  | 0, _ => Nat.le_refl _
  | f + 1, c => by
    unfold Cu.texts
    dsimp only
    split
    · exact Nat.zero_le _
    · split
      · simp only [List.length_cons]
        exact Nat.succ_le_succ (cu_texts_len S en f _)
      · simp
theorem addrOf_lt (l : List UInt8) : (addrOf l).2.1 < 18446744073709551616 ∧ (addrOf l).2.2 < 18446744073709551616 := by
  unfold addrOf
  split
  · rename_i h
    have := numOf_lt l
    rw [h] at this
    refine ⟨by show 0 < _; decide, ?_⟩
    show numOf l < _
    exact Nat.lt_of_lt_of_le this (by decide)
  · split
    · rename_i h
      have h1 := numOf_lt (l.take 8)
      have h2 := numOf_lt (l.drop 8)
      rw [List.length_take, h] at h1
      rw [List.length_drop, h] at h2
      exact ⟨h1, h2⟩
    · exact ⟨by show 0 < _; decide, by show 0 < _; decide⟩
theorem dreadB_in (S : List UInt8) (en at_ : Nat) (t : Int) (d : Dt) (hd : d = (dreadB S en (whatN t) at_).1) :
    d.hi < 18446744073709551616 ∧ d.lo < 18446744073709551616 ∧ (∀ i, d.num i < 4294967296) ∧ d.texts.length ≤ en + 1 ∧ d.raw.size ≤ en := by
  have hw : (whatN t).wide ≤ 4 := by rcases whatN_cases t with h | h | h | h | h | h | h | h <;> rw [h] <;> decide
  generalize whatN t = w at *
  subst hd
  unfold dreadB
  dsimp only
  generalize (if 0 < w.addr then Cu.take S en ⟨at_, 0⟩ w.addr else ([], ⟨at_, 0⟩)) = a
  have had : ∀ ad, ad = (if 0 < w.addr then addrOf a.1 else (false, 0, 0)) → ad.2.1 < 18446744073709551616 ∧ ad.2.2 < 18446744073709551616 := by
    rintro ad rfl
    split
    · exact addrOf_lt _
    · exact ⟨by show 0 < _; decide, by show 0 < _; decide⟩
  have hp : ∀ p : List Nat × Cu, p = (if w.first = true then Cu.nums S en w.wide w.nums a.2 else ([], a.2)) → ∀ v ∈ p.1, v < 4294967296 := by
    rintro p rfl
    split
    · exact cu_nums_lt _ _ _ hw _ _
    · simp
  generalize (if 0 < w.addr then addrOf a.1 else (false, 0, 0)) = ad at *
  generalize (if w.first = true then Cu.nums S en w.wide w.nums a.2 else ([], a.2)) = p at *
  generalize (if 1 ≤ w.names then Cu.name S en w.plain p.2 else ([], p.2)) = m
  generalize (if 2 ≤ w.names then Cu.name S en w.plain m.2 else ([], m.2)) = q
  have hr : ∀ r : List Nat × Cu, r = (if w.first = true then ([], q.2) else Cu.nums S en w.wide w.nums q.2) → ∀ v ∈ r.1, v < 4294967296 := by
    rintro p rfl
    split
    · simp
    · exact cu_nums_lt _ _ _ hw _ _
  generalize (if w.first = true then ([], q.2) else Cu.nums S en w.wide w.nums q.2) = r at *
  have hvs : ∀ l, l = (if w.first = true then p.1 else r.1) → ∀ v ∈ l, v < 4294967296 := by
    rintro l rfl
    split
    · exact hp _ rfl
    · exact hr _ rfl
  generalize (if w.first = true then p.1 else r.1) = vs at *
  have ht : ∀ y : List (List UInt8) × Cu, y = (if w.texts = true then Cu.texts S en (en + 1) r.2 else ([], r.2)) → y.1.length ≤ en + 1 := by
    rintro p rfl
    split
    · exact cu_texts_len _ _ _ _
    · simp
  generalize (if w.texts = true then Cu.texts S en (en + 1) r.2 else ([], r.2)) = y at *
  have hz : ∀ z : List UInt8 × Cu, z = (if w.raw = true then Cu.take S en y.2 (en - y.2.at_) else ([], y.2)) → z.1.length ≤ en := by
    rintro p rfl
    split
    · exact Nat.le_trans (cu_take_len _ _ _ _) (Nat.sub_le _ _)
    · simp
  generalize (if w.raw = true then Cu.take S en y.2 (en - y.2.at_) else ([], y.2)) = z at *
  refine ⟨(had _ rfl).1, (had _ rfl).2, fun i => ?_, ?_, ?_⟩
  · have h := getD_lt (hvs _ rfl) (by decide)
    match i with
    | 0 => exact h 0
    | 1 => exact h 1
    | 2 => exact h 2
    | 3 => exact h 3
    | n + 4 => exact h 4
  · simpa using ht _ rfl
  · simpa [ByteArray.size] using hz _ rfl
end Go.Proofs.Ytncfdfgcnblicaa

/-
  LAYER 9: rdata.Read: the walk.
-/
namespace Go.Proofs.Ytncfdfgcnblicaa
set_option linter.unusedVariables false
set_option linter.unusedSimpArgs false
open Go.RowKit

/-- What Read answers: the data, and the error. -/
def dreadC (s : ByteArray) (at_ en t : Int) : Dt × Int :=
  if at_ < 0 ∨ en < at_ ∨ (s.size : Int) < en ∨ ¬ (0 ≤ t ∧ t ≤ 65535) then (Dt.zero, 2)
  else
    if (ddAll s.data.toList en.toNat (whatN t) ⟨at_.toNat, 0⟩).2.e ≠ 0 then (Dt.zero, (ddAll s.data.toList en.toNat (whatN t) ⟨at_.toNat, 0⟩).2.e)
    else if (ddAll s.data.toList en.toNat (whatN t) ⟨at_.toNat, 0⟩).2.at_ < en.toNat ∨ dcheckB t (ddAll s.data.toList en.toNat (whatN t) ⟨at_.toNat, 0⟩).1 ≠ 0 then (Dt.zero, 4)
    else ((ddAll s.data.toList en.toNat (whatN t) ⟨at_.toNat, 0⟩).1, 0)
theorem dreadC_eq (s : ByteArray) (at_ en t : Int) : dreadC s at_ en t = dreadN s.data.toList at_ en t := by
  unfold dreadC dreadN
  rw [ddAll_eq _ _ _ _ ⟨t, rfl⟩]
  have hs : s.data.toList.length = s.size := rfl
  rw [hs]
  dsimp only
  rw [dcheckB_eq]

theorem blk_set12 {w : World} {q : Nat} {t : TypeId} {a0 a1 a2 a3 a4 a5 a6 a7 a8 a9 a10 a11 u0 u1 u2 u3 u4 u5 u6 u7 u8 u9 u10 u11 : Value} (h : Blk w q t #[a0, a1, a2, a3, a4, a5, a6, a7, a8, a9, a10, a11]) : Blk ((((((((((((w.setCell ⟨q, 0, none⟩ u0).setCell ⟨q, 1, none⟩ u1).setCell ⟨q, 2, none⟩ u2).setCell ⟨q, 3, none⟩ u3).setCell ⟨q, 4, none⟩ u4).setCell ⟨q, 5, none⟩ u5).setCell ⟨q, 6, none⟩ u6).setCell ⟨q, 7, none⟩ u7).setCell ⟨q, 8, none⟩ u8).setCell ⟨q, 9, none⟩ u9).setCell ⟨q, 10, none⟩ u10).setCell ⟨q, 11, none⟩ u11) q t #[u0, u1, u2, u3, u4, u5, u6, u7, u8, u9, u10, u11] := by
  have h0 : Blk _ q t #[u0, a1, a2, a3, a4, a5, a6, a7, a8, a9, a10, a11] := h.set_ 0 u0
  have h1 : Blk _ q t #[u0, u1, a2, a3, a4, a5, a6, a7, a8, a9, a10, a11] := h0.set_ 1 u1
  have h2 : Blk _ q t #[u0, u1, u2, a3, a4, a5, a6, a7, a8, a9, a10, a11] := h1.set_ 2 u2
  have h3 : Blk _ q t #[u0, u1, u2, u3, a4, a5, a6, a7, a8, a9, a10, a11] := h2.set_ 3 u3
  have h4 : Blk _ q t #[u0, u1, u2, u3, u4, a5, a6, a7, a8, a9, a10, a11] := h3.set_ 4 u4
  have h5 : Blk _ q t #[u0, u1, u2, u3, u4, u5, a6, a7, a8, a9, a10, a11] := h4.set_ 5 u5
  have h6 : Blk _ q t #[u0, u1, u2, u3, u4, u5, u6, a7, a8, a9, a10, a11] := h5.set_ 6 u6
  have h7 : Blk _ q t #[u0, u1, u2, u3, u4, u5, u6, u7, a8, a9, a10, a11] := h6.set_ 7 u7
  have h8 : Blk _ q t #[u0, u1, u2, u3, u4, u5, u6, u7, u8, a9, a10, a11] := h7.set_ 8 u8
  have h9 : Blk _ q t #[u0, u1, u2, u3, u4, u5, u6, u7, u8, u9, a10, a11] := h8.set_ 9 u9
  have h10 : Blk _ q t #[u0, u1, u2, u3, u4, u5, u6, u7, u8, u9, u10, a11] := h9.set_ 10 u10
  have h11 : Blk _ q t #[u0, u1, u2, u3, u4, u5, u6, u7, u8, u9, u10, u11] := h10.set_ 11 u11
  exact h11
theorem fr_set12 {w : World} {q : Nat} {u0 u1 u2 u3 u4 u5 u6 u7 u8 u9 u10 u11 : Value} : Fr (· = q) w ((((((((((((w.setCell ⟨q, 0, none⟩ u0).setCell ⟨q, 1, none⟩ u1).setCell ⟨q, 2, none⟩ u2).setCell ⟨q, 3, none⟩ u3).setCell ⟨q, 4, none⟩ u4).setCell ⟨q, 5, none⟩ u5).setCell ⟨q, 6, none⟩ u6).setCell ⟨q, 7, none⟩ u7).setCell ⟨q, 8, none⟩ u8).setCell ⟨q, 9, none⟩ u9).setCell ⟨q, 10, none⟩ u10).setCell ⟨q, 11, none⟩ u11) := (((((((((((((Fr.refl (· = q) w).setCell (p := ⟨q, 0, none⟩) (fun _ => rfl) u0).setCell (p := ⟨q, 1, none⟩) (fun _ => rfl) u1).setCell (p := ⟨q, 2, none⟩) (fun _ => rfl) u2).setCell (p := ⟨q, 3, none⟩) (fun _ => rfl) u3).setCell (p := ⟨q, 4, none⟩) (fun _ => rfl) u4).setCell (p := ⟨q, 5, none⟩) (fun _ => rfl) u5).setCell (p := ⟨q, 6, none⟩) (fun _ => rfl) u6).setCell (p := ⟨q, 7, none⟩) (fun _ => rfl) u7).setCell (p := ⟨q, 8, none⟩) (fun _ => rfl) u8).setCell (p := ⟨q, 9, none⟩) (fun _ => rfl) u9).setCell (p := ⟨q, 10, none⟩) (fun _ => rfl) u10).setCell (p := ⟨q, 11, none⟩) (fun _ => rfl) u11)

theorem wpList_load_blkg {P : Program} {ops : Array Oper} {rest : List Oper} {o : Oper} {a : Act} {w : World} {Q : Exit → Act → World → Prop} (hgd : Region.wanted o (yielded ops a.tmps) = true) (ty : TypeId) (x : Operand) (ho : o.op = .load ty x)
    (g : Nat) (hx : a.eval x = .pointer (some ⟨g, 0, none⟩)) (t : TypeId) (cs : Array Value) (d : TypeDesc) (hg : Blk w g t cs)
    (hu : P.underlying ty = some d) (hd : (match d with | .struct _ | .array _ _ => true | _ => false) = true) (hi : (P.info? ty).map (·.size) = some cs.size)
    (h : wpList P ops Q rest (a.put o.dst (.agg cs)) w) : wpList P ops Q (o :: rest) a w :=
  wpList_step fun K hK => by
    rw [if_pos hgd]
    unfold Oper.wp execOp
    simp only [ho, hx, Instr.loadAt, Instr.sureAddr, Sem.run_bind, Sem.run_pure, Result.andThen_ok, run_loadVar_row (P := P) w g t ty cs (0, 0) d hg hu hd hi]
    exact hK _ _ h

def DreadPost (w0 : World) (D : Dt × Int) (e : Ending) (w' : World) : Prop :=
  ∃ A cap, e = .returned (.tuple #[.agg (D.1.cells (.slice A D.1.texts.length cap)), .int .i64 D.2]) ∧ Strs w' A D.1.texts ∧ Fr (fun _ => False) w0 w' ∧ ∀ k, rowOf A k → w0.heap.size ≤ k ∧ k < w'.heap.size

end Go.Proofs.Ytncfdfgcnblicaa

/-
  LAYER 9: slices.Equal of rows of strings; rdata.Same.
-/
namespace Go.Proofs.Ytncfdfgcnblicaa
set_option linter.unusedVariables false
set_option linter.unusedSimpArgs false
open Go.RowKit

theorem lists_eq {l m : List ByteArray} (h : l.length = m.length) (hk : ∀ k, k < l.length → l[k]? = m[k]?) : l = m := by
  apply List.ext_getElem?
  intro i
  by_cases hi : i < l.length
  · exact hk i hi
  · rw [List.getElem?_eq_none (by omega), List.getElem?_eq_none (by omega)]

def EqPost (w : World) (b : Bool) (e : Ending) (w' : World) : Prop := e = .returned (.bool b) ∧ Fr (fun _ => False) w w'
end Go.Proofs.Ytncfdfgcnblicaa

/-
  LAYER 9: rdata.Same.
-/
namespace Go.Proofs.Ytncfdfgcnblicaa
set_option linter.unusedVariables false
set_option linter.unusedSimpArgs false
open Go.RowKit

theorem wpList_load_partg {P : Program} {w : World} {ops : Array Oper} {rest : List Oper} {o : Oper} {a : Act} {Q : Exit → Act → World → Prop} (hgd : Region.wanted o (yielded ops a.tmps) = true) (ty : TypeId) (x : Operand) (ho : o.op = .load ty x)
    (g off : Nat) (hx : a.eval x = .pointer (some ⟨g, off, none⟩)) (t : TypeId) (cs : Array Value) (n : Nat) (d : TypeDesc) (hg : Blk w g t cs)
    (hu : P.underlying ty = some d) (hd : (match d with | .struct _ | .array _ _ => true | _ => false) = true) (hi : (P.info? ty).map (·.size) = some n) (hn : off + n ≤ cs.size)
    (v : Array Value) (hv : cs.extract off (off + n) = v)
    (h : wpList P ops Q rest (a.put o.dst (.agg v)) w) : wpList P ops Q (o :: rest) a w :=
  wpList_step fun K hK => by
    rw [if_pos hgd]
    unfold Oper.wp execOp
    simp only [ho, hx, Instr.loadAt, Instr.sureAddr, Sem.run_bind, Sem.run_pure, Result.andThen_ok, run_loadVar_part n off hg hu hd hi hn, hv]
    exact hK _ _ h

def numsB (a b : Dt) : Bool := decide (a.n0 = b.n0 ∧ a.n1 = b.n1 ∧ a.n2 = b.n2 ∧ a.n3 = b.n3 ∧ a.n4 = b.n4)
def sameB (a b : Dt) : Bool := decide (a.six = b.six ∧ a.hi = b.hi ∧ a.lo = b.lo) && (a.name.toList == b.name.toList) && (a.mail.toList == b.mail.toList) && numsB a b && (a.raw.toList == b.raw.toList) && decide (a.texts = b.texts)

theorem toList_inj {x y : ByteArray} (h : (x.toList == y.toList) = true) : x = y := by
  rw [beq_iff_eq, ByteArray.toList_eq, ByteArray.toList_eq] at h
  exact ByteArray.ext (Array.ext' h)
theorem sameB_iff (a b : Dt) : sameB a b = true ↔ a = b := by
  constructor
  · intro h
    simp only [sameB, numsB, Bool.and_eq_true, decide_eq_true_eq] at h
    obtain ⟨⟨⟨⟨⟨⟨h1, h2, h3⟩, h4⟩, h5⟩, h6, h7, h8, h9, h10⟩, h11⟩, h12⟩ := h
    have h4 := toList_inj h4
    have h5 := toList_inj h5
    have h11 := toList_inj h11
    cases a
    cases b
    simp only at *
    subst h1 h2 h3 h4 h5 h6 h7 h8 h9 h10 h11 h12
    rfl
  · rintro rfl
    simp [sameB, numsB]

end Go.Proofs.Ytncfdfgcnblicaa

/-
  LAYER 9: nameplatekit.LightData.
-/
namespace Go.Proofs.Ytncfdfgcnblicaa
set_option linter.unusedVariables false
set_option linter.unusedSimpArgs false
open Go.RowKit

end Go.Proofs.Ytncfdfgcnblicaa
