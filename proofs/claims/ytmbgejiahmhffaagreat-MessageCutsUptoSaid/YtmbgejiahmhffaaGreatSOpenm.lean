/-
  A MESSAGE THAT CAME IN, OPENED (second form).
-/
import Derived.Test.YtmbgejiahmhffaaGreatSunM
namespace Go.Proofs.YtmbgejiahmhffaaGreat
set_option linter.unusedVariables false
set_option linter.unusedSimpArgs false
set_option linter.constructorNameAsVariable false
open Go.ChangeShapes Go.WideShapes Go.ChangeAt Go.RowKit Go.Deep

/-- A slice that came in. -/
def SlOk (A : Option Addr) (n cap : Nat) : Prop := n ≤ 1048576 ∧ (A = none → n = 0) ∧ (A = none → cap = 0) ∧ n ≤ cap ∧ cap ≤ 9223372036854775807
/-- A message that came in. -/
structure MsIn (w : World) (h : Hd) (Aq : Option Addr) (lq : List Qn) (cq : Nat) (Aa : Option Addr) (la : List (Rcd × Option Addr × Nat)) (ca : Nat) (Ab : Option Addr) (lb : List (Rcd × Option Addr × Nat)) (cb : Nat) (Ac : Option Addr) (lc : List (Rcd × Option Addr × Nat)) (cc : Nat) : Prop where
  h : h.ok
  q : RowIn w Aq (lq.flatMap qcl)
  qk : ∀ x ∈ lq, QOk x
  qz : SlOk Aq lq.length cq
  a : RowIn w Aa (la.flatMap rcl)
  ak : ∀ x ∈ la, RcIn w x.2.1 x.1 ∧ x.1.name.size + x.1.d.light ≤ 1048576
  az : SlOk Aa la.length ca
  b : RowIn w Ab (lb.flatMap rcl)
  bk : ∀ x ∈ lb, RcIn w x.2.1 x.1 ∧ x.1.name.size + x.1.d.light ≤ 1048576
  bz : SlOk Ab lb.length cb
  c : RowIn w Ac (lc.flatMap rcl)
  ck : ∀ x ∈ lc, RcIn w x.2.1 x.1 ∧ x.1.name.size + x.1.d.light ≤ 1048576
  cz : SlOk Ac lc.length cc
abbrev mval (h : Hd) (Aq : Option Addr) (lq : List Qn) (cq : Nat) (Aa : Option Addr) (la : List (Rcd × Option Addr × Nat)) (ca : Nat) (Ab : Option Addr) (lb : List (Rcd × Option Addr × Nat)) (cb : Nat) (Ac : Option Addr) (lc : List (Rcd × Option Addr × Nat)) (cc : Nat) : Value :=
  .agg #[.int .u16 h.id, .bool h.resp, .int .i64 h.op, .bool h.aa, .bool h.tc, .bool h.rd, .bool h.ra, .bool h.ad, .bool h.cd, .int .i64 h.rc, .int .i64 h.c0, .int .i64 h.c1, .int .i64 h.c2, .int .i64 h.c3, .slice Aq lq.length cq, .slice Aa la.length ca, .slice Ab lb.length cb, .slice Ac lc.length cc]
section
variable {W : World} {H : Type} {enc : TypeId × Value → H} {fuel : Nat} {cs : List Value} {x : DataW H × List MemPlace}
set_option maxRecDepth 100000 in
theorem open_questions_c (hb : Rows.uptoBulk x.1 ≤ 1048576) (hf : DataW.trod enc Tryz.prog W 0 (fun _ => true) true fuel 26 cs = some x) :
    ∃ (l : List (Qn)) (A : Option Addr) (cap : Nat), cs = [.slice A l.length cap] ∧ RowIn W A (l.flatMap qcl) ∧ (∀ q ∈ l, QOk q) ∧ SlOk A l.length cap := by
  rcases open_slice Tryz.underlying26 hf with ⟨hcs, _⟩ | ⟨a, len', cap', m, n, D, Pl, hcs, _, hl, hm, hmm, hx, hi⟩
  · exact ⟨[], none, 0, hcs, fun h => by simp at h, fun q hq => by simp at hq, by simp, fun _ => rfl, fun _ => rfl, Nat.le_refl _, by simp⟩
  · have hc : Tryz.prog.cellsOf 40 = 3 := by kernel_rfl
    have hlm : len' ≤ m := by simp at hmm; omega
    rw [hx] at hb
    simp only [Rows.uptoBulk] at hb
    have hcnt := bulk_count ((List.range len').map D)
    rw [List.length_map, List.length_range] at hcnt
    have key : ∀ i, i < len' → ∃ q : Qn, (QOk q) ∧ ∀ j v, (qcl q)[j]? = some v → W.cell? (a.add (i * 3 + j)) = some v := fun i hil => by
      obtain ⟨cs', h1, h2⟩ := hi i (by omega)
      rw [hc] at h1
      have hbi := bulk_part (l := (List.range len').map D) (i := i) (d := D i) (by simp [hil])
      obtain ⟨q, e1, e2, e3, e4⟩ := open_question_c h2
      dsimp only at e2
      refine ⟨q, ⟨by omega, e3, e4⟩, fun j v hj => ?_⟩
      obtain ⟨_, hcl, hat⟩ := World.cells?_some h1
      rw [← Go.Deep.add_add, hat j (by have := (List.getElem?_eq_some_iff.1 hj).1; exact this), e1]
      exact hj
    obtain ⟨l, hll, hp⟩ := list_of key
    subst hll
    refine ⟨l, some a, cap', hcs, rowIn_flat qcl 3 (fun _ => rfl) (fun q x hq => (hp q x hq).2), fun q hq => ?_, by omega, (fun h => by cases h), (fun h => by cases h), hl, by simp only [maxLen] at hm; omega⟩
    obtain ⟨i, hi'⟩ := List.mem_iff_getElem?.1 hq
    exact (hp i q hi').1
set_option maxRecDepth 100000 in
theorem open_records_c (hb : Rows.uptoBulk x.1 ≤ 1048576) (hf : DataW.trod enc Tryz.prog W 0 (fun _ => true) true fuel 27 cs = some x) :
    ∃ (l : List (Rcd × Option Addr × Nat)) (A : Option Addr) (cap : Nat), cs = [.slice A l.length cap] ∧ RowIn W A (l.flatMap rcl) ∧ (∀ q ∈ l, RcIn W q.2.1 q.1 ∧ q.1.name.size + q.1.d.light ≤ 1048576) ∧ SlOk A l.length cap := by
  rcases open_slice Tryz.underlying27 hf with ⟨hcs, _⟩ | ⟨a, len', cap', m, n, D, Pl, hcs, _, hl, hm, hmm, hx, hi⟩
  · exact ⟨[], none, 0, hcs, fun h => by simp at h, fun q hq => by simp at hq, by simp, fun _ => rfl, fun _ => rfl, Nat.le_refl _, by simp⟩
  · have hc : Tryz.prog.cellsOf 55 = 16 := by kernel_rfl
    have hlm : len' ≤ m := by simp at hmm; omega
    rw [hx] at hb
    simp only [Rows.uptoBulk] at hb
    have hcnt := bulk_count ((List.range len').map D)
    rw [List.length_map, List.length_range] at hcnt
    have key : ∀ i, i < len' → ∃ q : Rcd × Option Addr × Nat, (RcIn W q.2.1 q.1 ∧ q.1.name.size + q.1.d.light ≤ 1048576) ∧ ∀ j v, (rcl q)[j]? = some v → W.cell? (a.add (i * 16 + j)) = some v := fun i hil => by
      obtain ⟨cs', h1, h2⟩ := hi i (by omega)
      rw [hc] at h1
      have hbi := bulk_part (l := (List.range len').map D) (i := i) (d := D i) (by simp [hil])
      obtain ⟨r, A, cap, e1, e2, e3, e4, e5, e6⟩ := open_record_c h2
      dsimp only at e6
      have hrc := rec_in e2 e3 e4 e5 (by omega)
      have hlt : r.name.size + r.d.light ≤ 1048576 := by omega
      refine ⟨(r, A, cap), ⟨hrc, hlt⟩, fun j v hj => ?_⟩
      obtain ⟨_, hcl, hat⟩ := World.cells?_some h1
      rw [← Go.Deep.add_add, hat j (by have := (List.getElem?_eq_some_iff.1 hj).1; exact this), e1]
      exact hj
    obtain ⟨l, hll, hp⟩ := list_of key
    subst hll
    refine ⟨l, some a, cap', hcs, rowIn_flat rcl 16 (fun _ => rfl) (fun q x hq => (hp q x hq).2), fun q hq => ?_, by omega, (fun h => by cases h), (fun h => by cases h), hl, by simp only [maxLen] at hm; omega⟩
    obtain ⟨i, hi'⟩ := List.mem_iff_getElem?.1 hq
    exact (hp i q hi').1
end
set_option maxRecDepth 100000 in
theorem open_message {W : World} {H : Type} {enc : TypeId × Value → H} {v : Value} {base : Nat} {d : DataW H} {p : List MemPlace}
    (hv : Value.okWide Tryz.prog W .any base 29 v) (h : DataW.Trod enc Tryz.prog W 0 (fun _ => true) true 29 v d p) (hb : Rows.uptoBulk d ≤ 1048576) :
    ∃ h Aq lq cq Aa la ca Ab lb cb Ac lc cc, v = mval h Aq lq cq Aa la ca Ab lb cb Ac lc cc ∧ MsIn W h Aq lq cq Aa la ca Ab lb cb Ac lc cc := by
  obtain ⟨cs, rfl, _⟩ := okWide_struct Tryz.underlying29 hv
  obtain ⟨fuel, hf⟩ := h
  obtain ⟨ys, n, _, hxx, hl, hyl, hff⟩ := DataW.trod_struct Tryz.underlying29 hf
  have hc : Tryz.prog.cellsOf 29 = 18 := by kernel_rfl
  have cH : Tryz.prog.cellsOf 25 = 14 := by kernel_rfl
  have cQ : Tryz.prog.cellsOf 26 = 1 := by kernel_rfl
  have cR : Tryz.prog.cellsOf 27 = 1 := by kernel_rfl
  rw [hc] at hl
  change ys.length = 5 at hyl
  obtain ⟨e0, e1, e2, e3, e4, e5, e6, e7, e8, e9, e10, e11, e12, e13, e14, e15, e16, e17, hcs⟩ := eighteen_c _ hl
  rw [hcs] at hff
  obtain ⟨a0, a1, a2, a3, a4, rfl⟩ : ∃ a0 a1 a2 a3 a4, ys = [a0, a1, a2, a3, a4] := by
    match ys, hyl with
    | [a0, a1, a2, a3, a4], _ => exact ⟨a0, a1, a2, a3, a4, rfl⟩
  have hbb : Rows.uptoBulk a0.1 + (Rows.uptoBulk a1.1 + (Rows.uptoBulk a2.1 + (Rows.uptoBulk a3.1 + (Rows.uptoBulk a4.1 + 0)))) ≤ 1048576 := by
    rw [(Prod.mk.inj hxx).1] at hb
    simp only [List.map_cons, List.map_nil, Rows.uptoBulk, Rows.uptoBulkAll] at hb
    omega
  have t0 : DataW.trod enc Tryz.prog W 0 (fun _ => true) true n 25 (([e0, e1, e2, e3, e4, e5, e6, e7, e8, e9, e10, e11, e12, e13, e14, e15, e16, e17].drop 0).take (Tryz.prog.cellsOf 25)) = some a0 := hff 0 _ rfl
  rw [cH] at t0
  obtain ⟨hd, q0, o0⟩ := open_header_c t0
  have t1 : DataW.trod enc Tryz.prog W 0 (fun _ => true) true n 26 (([e0, e1, e2, e3, e4, e5, e6, e7, e8, e9, e10, e11, e12, e13, e14, e15, e16, e17].drop 14).take (Tryz.prog.cellsOf 26)) = some a1 := hff 1 _ rfl
  rw [cQ] at t1
  obtain ⟨l1, A1, c1, q1, x1, y1, z1⟩ := open_questions_c (by omega) t1
  have t2 : DataW.trod enc Tryz.prog W 0 (fun _ => true) true n 27 (([e0, e1, e2, e3, e4, e5, e6, e7, e8, e9, e10, e11, e12, e13, e14, e15, e16, e17].drop 15).take (Tryz.prog.cellsOf 27)) = some a2 := hff 2 _ rfl
  rw [cR] at t2
  obtain ⟨l2, A2, c2, q2, x2, y2, z2⟩ := open_records_c (by omega) t2
  have t3 : DataW.trod enc Tryz.prog W 0 (fun _ => true) true n 27 (([e0, e1, e2, e3, e4, e5, e6, e7, e8, e9, e10, e11, e12, e13, e14, e15, e16, e17].drop 16).take (Tryz.prog.cellsOf 27)) = some a3 := hff 3 _ rfl
  rw [cR] at t3
  obtain ⟨l3, A3, c3, q3, x3, y3, z3⟩ := open_records_c (by omega) t3
  have t4 : DataW.trod enc Tryz.prog W 0 (fun _ => true) true n 27 (([e0, e1, e2, e3, e4, e5, e6, e7, e8, e9, e10, e11, e12, e13, e14, e15, e16, e17].drop 17).take (Tryz.prog.cellsOf 27)) = some a4 := hff 4 _ rfl
  rw [cR] at t4
  obtain ⟨l4, A4, c4, q4, x4, y4, z4⟩ := open_records_c (by omega) t4
  unfold Hd.cells at q0
  simp only [List.drop_succ_cons, List.drop_zero, List.take_succ_cons, List.take_zero, List.cons.injEq, and_true] at q0 q1 q2 q3 q4
  obtain ⟨rfl, rfl, rfl, rfl, rfl, rfl, rfl, rfl, rfl, rfl, rfl, rfl, rfl, rfl⟩ := q0
  subst q1 q2 q3 q4
  refine ⟨hd, A1, l1, c1, A2, l2, c2, A3, l3, c3, A4, l4, c4, ?_, ⟨o0, x1, y1, z1, x2, y2, z2, x3, y3, z3, x4, y4, z4⟩⟩
  have : cs.toList = _ := hcs
  exact congrArg Value.agg (Array.toList_inj.1 this)
end Go.Proofs.YtmbgejiahmhffaaGreat
