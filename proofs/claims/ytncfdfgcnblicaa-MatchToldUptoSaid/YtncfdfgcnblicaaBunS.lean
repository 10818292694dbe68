/-
  TEXTS OF THIS CLAIM, TOGETHER: Openm, Lrc, Rsq.
-/
import Derived.Test.YtncfdfgcnblicaaBunM
import Derived.Test.YtncfdfgcnblicaaBunR
import Derived.Test.YtncfdfgcnblicaaBunD
import Derived.Test.YtncfdfgcnblicaaBunG
import Derived.Test.YtncfdfgcnblicaaBunI
/-
  A MESSAGE THAT CAME IN, OPENED (second form).
-/
namespace Go.Proofs.Ytncfdfgcnblicaa
set_option linter.unusedVariables false
set_option linter.unusedSimpArgs false
set_option linter.constructorNameAsVariable false
open Go.ChangeShapes Go.WideShapes Go.ChangeAt Go.RowKit Go.Deep

/-- A slice that came in. -/
def SlOk (A : Option Addr) (n cap : Nat) : Prop := n ≤ 1048576 ∧ (A = none → n = 0) ∧ (A = none → cap = 0) ∧ n ≤ cap ∧ cap ≤ 9223372036854775807
/-- A message that came in. -/
structure MsIn (w : World) (h : Hd) (Aq : Option Addr) (lq : List Qn) (cq : Nat) (Aa : Option Addr) (la : List (Rcd × Option Addr × Nat)) (ca : Nat) (Ab : Option Addr) (lb : List (Rcd × Option Addr × Nat)) (cb : Nat) (Ac : Option Addr) (lc : List (Rcd × Option Addr × Nat)) (cc : Nat) : Prop where
  h : h.ok
  q : RowIn w Aq (lq.flatMap qcl)
  qk : ∀ x ∈ lq, QOk x
  qz : SlOk Aq lq.length cq
  a : RowIn w Aa (la.flatMap rcl)
  ak : ∀ x ∈ la, RcIn w x.2.1 x.1 ∧ x.1.name.size + x.1.d.light ≤ 1048576
  az : SlOk Aa la.length ca
  b : RowIn w Ab (lb.flatMap rcl)
  bk : ∀ x ∈ lb, RcIn w x.2.1 x.1 ∧ x.1.name.size + x.1.d.light ≤ 1048576
  bz : SlOk Ab lb.length cb
  c : RowIn w Ac (lc.flatMap rcl)
  ck : ∀ x ∈ lc, RcIn w x.2.1 x.1 ∧ x.1.name.size + x.1.d.light ≤ 1048576
  cz : SlOk Ac lc.length cc
abbrev mval (h : Hd) (Aq : Option Addr) (lq : List Qn) (cq : Nat) (Aa : Option Addr) (la : List (Rcd × Option Addr × Nat)) (ca : Nat) (Ab : Option Addr) (lb : List (Rcd × Option Addr × Nat)) (cb : Nat) (Ac : Option Addr) (lc : List (Rcd × Option Addr × Nat)) (cc : Nat) : Value :=
  .agg #[.int .u16 h.id, .bool h.resp, .int .i64 h.op, .bool h.aa, .bool h.tc, .bool h.rd, .bool h.ra, .bool h.ad, .bool h.cd, .int .i64 h.rc, .int .i64 h.c0, .int .i64 h.c1, .int .i64 h.c2, .int .i64 h.c3, .slice Aq lq.length cq, .slice Aa la.length ca, .slice Ab lb.length cb, .slice Ac lc.length cc]
section
variable {W : World} {H : Type} {enc : TypeId × Value → H} {fuel : Nat} {cs : List Value} {x : DataW H × List MemPlace}
set_option maxRecDepth 100000 in
theorem open_questions_c (hb : Rows.uptoBulk x.1 ≤ 1048576) (hf : DataW.trod enc Try.prog W 0 (fun _ => true) true fuel 34 cs = some x) :
    ∃ (l : List (Qn)) (A : Option Addr) (cap : Nat), cs = [.slice A l.length cap] ∧ RowIn W A (l.flatMap qcl) ∧ (∀ q ∈ l, QOk q) ∧ SlOk A l.length cap := by
  rcases open_slice Try.underlying34 hf with ⟨hcs, _⟩ | ⟨a, len', cap', m, n, D, Pl, hcs, _, hl, hm, hmm, hx, hi⟩
  · exact ⟨[], none, 0, hcs, fun h => by simp at h, fun q hq => by simp at hq, by simp, fun _ => rfl, fun _ => rfl, Nat.le_refl _, by simp⟩
  · have hc : Try.prog.cellsOf 25 = 3 := by kernel_rfl
    have hlm : len' ≤ m := by simp at hmm; omega
    rw [hx] at hb
    simp only [Rows.uptoBulk] at hb
    have hcnt := bulk_count ((List.range len').map D)
    rw [List.length_map, List.length_range] at hcnt
    have key : ∀ i, i < len' → ∃ q : Qn, (QOk q) ∧ ∀ j v, (qcl q)[j]? = some v → W.cell? (a.add (i * 3 + j)) = some v := fun i hil => by
      obtain ⟨cs', h1, h2⟩ := hi i (by omega)
      rw [hc] at h1
      have hbi := bulk_part (l := (List.range len').map D) (i := i) (d := D i) (by simp [hil])
      obtain ⟨q, e1, e2, e3, e4⟩ := open_question_c h2
      dsimp only at e2
      refine ⟨q, ⟨by omega, e3, e4⟩, fun j v hj => ?_⟩
      obtain ⟨_, hcl, hat⟩ := World.cells?_some h1
      rw [← Go.Deep.add_add, hat j (by have := (List.getElem?_eq_some_iff.1 hj).1; exact this), e1]
      exact hj
    obtain ⟨l, hll, hp⟩ := list_of key
    subst hll
    refine ⟨l, some a, cap', hcs, rowIn_flat qcl 3 (fun _ => rfl) (fun q x hq => (hp q x hq).2), fun q hq => ?_, by omega, (fun h => by cases h), (fun h => by cases h), hl, by simp only [maxLen] at hm; omega⟩
    obtain ⟨i, hi'⟩ := List.mem_iff_getElem?.1 hq
    exact (hp i q hi').1
set_option maxRecDepth 100000 in
theorem open_records_c (hb : Rows.uptoBulk x.1 ≤ 1048576) (hf : DataW.trod enc Try.prog W 0 (fun _ => true) true fuel 35 cs = some x) :
    ∃ (l : List (Rcd × Option Addr × Nat)) (A : Option Addr) (cap : Nat), cs = [.slice A l.length cap] ∧ RowIn W A (l.flatMap rcl) ∧ (∀ q ∈ l, RcIn W q.2.1 q.1 ∧ q.1.name.size + q.1.d.light ≤ 1048576) ∧ SlOk A l.length cap := by
  rcases open_slice Try.underlying35 hf with ⟨hcs, _⟩ | ⟨a, len', cap', m, n, D, Pl, hcs, _, hl, hm, hmm, hx, hi⟩
  · exact ⟨[], none, 0, hcs, fun h => by simp at h, fun q hq => by simp at hq, by simp, fun _ => rfl, fun _ => rfl, Nat.le_refl _, by simp⟩
  · have hc : Try.prog.cellsOf 63 = 16 := by kernel_rfl
    have hlm : len' ≤ m := by simp at hmm; omega
    rw [hx] at hb
    simp only [Rows.uptoBulk] at hb
    have hcnt := bulk_count ((List.range len').map D)
    rw [List.length_map, List.length_range] at hcnt
    have key : ∀ i, i < len' → ∃ q : Rcd × Option Addr × Nat, (RcIn W q.2.1 q.1 ∧ q.1.name.size + q.1.d.light ≤ 1048576) ∧ ∀ j v, (rcl q)[j]? = some v → W.cell? (a.add (i * 16 + j)) = some v := fun i hil => by
      obtain ⟨cs', h1, h2⟩ := hi i (by omega)
      rw [hc] at h1
      have hbi := bulk_part (l := (List.range len').map D) (i := i) (d := D i) (by simp [hil])
      obtain ⟨r, A, cap, e1, e2, e3, e4, e5, e6⟩ := open_record_c h2
      dsimp only at e6
      have hrc := rec_in e2 e3 e4 e5 (by omega)
      have hlt : r.name.size + r.d.light ≤ 1048576 := by omega
      refine ⟨(r, A, cap), ⟨hrc, hlt⟩, fun j v hj => ?_⟩
      obtain ⟨_, hcl, hat⟩ := World.cells?_some h1
      rw [← Go.Deep.add_add, hat j (by have := (List.getElem?_eq_some_iff.1 hj).1; exact this), e1]
      exact hj
    obtain ⟨l, hll, hp⟩ := list_of key
    subst hll
    refine ⟨l, some a, cap', hcs, rowIn_flat rcl 16 (fun _ => rfl) (fun q x hq => (hp q x hq).2), fun q hq => ?_, by omega, (fun h => by cases h), (fun h => by cases h), hl, by simp only [maxLen] at hm; omega⟩
    obtain ⟨i, hi'⟩ := List.mem_iff_getElem?.1 hq
    exact (hp i q hi').1
end
set_option maxRecDepth 100000 in
theorem open_message {W : World} {H : Type} {enc : TypeId × Value → H} {v : Value} {base : Nat} {d : DataW H} {p : List MemPlace}
    (hv : Value.okWide Try.prog W .any base 37 v) (h : DataW.Trod enc Try.prog W 0 (fun _ => true) true 37 v d p) (hb : Rows.uptoBulk d ≤ 1048576) :
    ∃ h Aq lq cq Aa la ca Ab lb cb Ac lc cc, v = mval h Aq lq cq Aa la ca Ab lb cb Ac lc cc ∧ MsIn W h Aq lq cq Aa la ca Ab lb cb Ac lc cc := by
  obtain ⟨cs, rfl, _⟩ := okWide_struct Try.underlying37 hv
  obtain ⟨fuel, hf⟩ := h
  obtain ⟨ys, n, _, hxx, hl, hyl, hff⟩ := DataW.trod_struct Try.underlying37 hf
  have hc : Try.prog.cellsOf 37 = 18 := by kernel_rfl
  have cH : Try.prog.cellsOf 33 = 14 := by kernel_rfl
  have cQ : Try.prog.cellsOf 34 = 1 := by kernel_rfl
  have cR : Try.prog.cellsOf 35 = 1 := by kernel_rfl
  rw [hc] at hl
  change ys.length = 5 at hyl
  obtain ⟨e0, e1, e2, e3, e4, e5, e6, e7, e8, e9, e10, e11, e12, e13, e14, e15, e16, e17, hcs⟩ := eighteen_c _ hl
  rw [hcs] at hff
  obtain ⟨a0, a1, a2, a3, a4, rfl⟩ : ∃ a0 a1 a2 a3 a4, ys = [a0, a1, a2, a3, a4] := by
    match ys, hyl with
    | [a0, a1, a2, a3, a4], _ => exact ⟨a0, a1, a2, a3, a4, rfl⟩
  have hbb : Rows.uptoBulk a0.1 + (Rows.uptoBulk a1.1 + (Rows.uptoBulk a2.1 + (Rows.uptoBulk a3.1 + (Rows.uptoBulk a4.1 + 0)))) ≤ 1048576 := by
    rw [(Prod.mk.inj hxx).1] at hb
    simp only [List.map_cons, List.map_nil, Rows.uptoBulk, Rows.uptoBulkAll] at hb
    omega
  have t0 : DataW.trod enc Try.prog W 0 (fun _ => true) true n 33 (([e0, e1, e2, e3, e4, e5, e6, e7, e8, e9, e10, e11, e12, e13, e14, e15, e16, e17].drop 0).take (Try.prog.cellsOf 33)) = some a0 := hff 0 _ rfl
  rw [cH] at t0
  obtain ⟨hd, q0, o0⟩ := open_header_c t0
  have t1 : DataW.trod enc Try.prog W 0 (fun _ => true) true n 34 (([e0, e1, e2, e3, e4, e5, e6, e7, e8, e9, e10, e11, e12, e13, e14, e15, e16, e17].drop 14).take (Try.prog.cellsOf 34)) = some a1 := hff 1 _ rfl
  rw [cQ] at t1
  obtain ⟨l1, A1, c1, q1, x1, y1, z1⟩ := open_questions_c (by omega) t1
  have t2 : DataW.trod enc Try.prog W 0 (fun _ => true) true n 35 (([e0, e1, e2, e3, e4, e5, e6, e7, e8, e9, e10, e11, e12, e13, e14, e15, e16, e17].drop 15).take (Try.prog.cellsOf 35)) = some a2 := hff 2 _ rfl
  rw [cR] at t2
  obtain ⟨l2, A2, c2, q2, x2, y2, z2⟩ := open_records_c (by omega) t2
  have t3 : DataW.trod enc Try.prog W 0 (fun _ => true) true n 35 (([e0, e1, e2, e3, e4, e5, e6, e7, e8, e9, e10, e11, e12, e13, e14, e15, e16, e17].drop 16).take (Try.prog.cellsOf 35)) = some a3 := hff 3 _ rfl
  rw [cR] at t3
  obtain ⟨l3, A3, c3, q3, x3, y3, z3⟩ := open_records_c (by omega) t3
  have t4 : DataW.trod enc Try.prog W 0 (fun _ => true) true n 35 (([e0, e1, e2, e3, e4, e5, e6, e7, e8, e9, e10, e11, e12, e13, e14, e15, e16, e17].drop 17).take (Try.prog.cellsOf 35)) = some a4 := hff 4 _ rfl
  rw [cR] at t4
  obtain ⟨l4, A4, c4, q4, x4, y4, z4⟩ := open_records_c (by omega) t4
  unfold Hd.cells at q0
  simp only [List.drop_succ_cons, List.drop_zero, List.take_succ_cons, List.take_zero, List.cons.injEq, and_true] at q0 q1 q2 q3 q4
  obtain ⟨rfl, rfl, rfl, rfl, rfl, rfl, rfl, rfl, rfl, rfl, rfl, rfl, rfl, rfl⟩ := q0
  subst q1 q2 q3 q4
  refine ⟨hd, A1, l1, c1, A2, l2, c2, A3, l3, c3, A4, l4, c4, ?_, ⟨o0, x1, y1, z1, x2, y2, z2, x3, y3, z3, x4, y4, z4⟩⟩
  have : cs.toList = _ := hcs
  exact congrArg Value.agg (Array.toList_inj.1 this)
end Go.Proofs.Ytncfdfgcnblicaa

/-
  Records, messages: are they gone through? (Whatever the answer.)
-/
namespace Go.Proofs.Ytncfdfgcnblicaa
open Go.RowKit
set_option linter.unusedVariables false
set_option linter.unusedSimpArgs false

def SomeB (w : World) (e : Ending) (w' : World) : Prop := ∃ b : Bool, e = .returned (.bool b) ∧ Fr (fun _ => False) w w'
theorem textsLen_mem : ∀ {l : List ByteArray} {x : ByteArray}, x ∈ l → x.size ≤ textsLen l
  | [], x, h => by simp at h
  | y :: l, x, h => by
    rcases List.mem_cons.1 h with rfl | h
    · unfold textsLen; omega
    · have := textsLen_mem h
      unfold textsLen
      omega
set_option maxRecDepth 100000 in
set_option maxHeartbeats 4000000 in
theorem lrec_any (x : Rcd × Option Addr × Nat) (w : World) (h : RcIn w x.2.1 x.1) (hl : x.1.name.size + x.1.d.light ≤ 1048576) : Calls Try.prog 47 #[.agg (rcl x).toArray] w (SomeB w) := by
  change Calls Try.prog 47 #[.agg #[.string x.1.name, .int .i64 x.1.t, .int .i64 x.1.cl, .int .u32 x.1.ttl, .bool x.1.d.six, .int .u64 x.1.d.hi, .int .u64 x.1.d.lo, .string x.1.d.name, .string x.1.d.mail, .int .u32 x.1.d.n0, .int .u32 x.1.d.n1, .int .u32 x.1.d.n2, .int .u32 x.1.d.n3, .int .u32 x.1.d.n4, .slice x.2.1 x.1.d.texts.length x.2.2, .string x.1.d.raw]] w _
  obtain ⟨W, hW⟩ : ∃ W, W = w.alloc (.cells #[.string x.1.name, .int .i64 x.1.t, .int .i64 x.1.cl, .int .u32 x.1.ttl, .bool x.1.d.six, .int .u64 x.1.d.hi, .int .u64 x.1.d.lo, .string x.1.d.name, .string x.1.d.mail, .int .u32 x.1.d.n0, .int .u32 x.1.d.n1, .int .u32 x.1.d.n2, .int .u32 x.1.d.n3, .int .u32 x.1.d.n4, .slice x.2.1 x.1.d.texts.length x.2.2, .string x.1.d.raw] 63) := ⟨_, rfl⟩
  have hb : Blk W w.heap.size 63 #[.string x.1.name, .int .i64 x.1.t, .int .i64 x.1.cl, .int .u32 x.1.ttl, .bool x.1.d.six, .int .u64 x.1.d.hi, .int .u64 x.1.d.lo, .string x.1.d.name, .string x.1.d.mail, .int .u32 x.1.d.n0, .int .u32 x.1.d.n1, .int .u32 x.1.d.n2, .int .u32 x.1.d.n3, .int .u32 x.1.d.n4, .slice x.2.1 x.1.d.texts.length x.2.2, .string x.1.d.raw] := by rw [hW]; exact Blk.new _ _ _
  have hf : Fr (fun _ => False) w W := by rw [hW]; exact (Fr.refl _ _).alloc _
  unfold Dt.light at hl
  have s0 : x.1.name.size ≤ 1048576 := by omega
  have s1 : x.1.d.name.size ≤ 1048576 := by omega
  have s2 : x.1.d.mail.size ≤ 1048576 := by omega
  have s3 : x.1.d.raw.size ≤ 1048576 := by omega
  have s4 : x.1.d.texts.length ≤ 1048576 := by have := texts_len_le x.1.d.texts; omega
  have s5 : ∀ y ∈ x.1.d.texts, y.size ≤ 1048576 := fun y hy => by have := textsLen_mem hy; omega
  have c0 := hb.cell 0
  have c7 := hb.cell 7
  have c8 := hb.cell 8
  have c14 := hb.cell 14
  have c15 := hb.cell 15
  have H := Lib.hid (And.intro hb (And.intro hf (And.intro (h.d.txt.fr0 hf) s5)))
  have HW := Lib.hid hW
  clear hb hf hW h hl s5
  go_enter Try.func47, Try.ntmps47
  go_upto_region 1 with fail
  rw [← HW.out]
  clear HW
  go_wp2_with fail
  go_loop [3, 4] (fun n i => ∃ (k : Nat) (m : Int), k ≤ x.1.d.texts.length ∧ i = .int .i64 (k : Nat) ∧ n = .int .i64 m ∧ 0 ≤ m ∧ m ≤ 4194304 + (k : Int) * 1048576) (fun _ i => x.1.d.texts.length - (intOf i).toNat)
  case atStart => exact ⟨0, _, Nat.zero_le _, rfl, rfl, by omega, by omega⟩
  case round =>
    obtain ⟨k, m, hk, rfl, rfl, hm0, hm1⟩ := hrel
    by_cases hlt : k < x.1.d.texts.length
    · by_cases h30 : (k : Int) < 30
      · obtain ⟨y, hy⟩ : ∃ y, x.1.d.texts[k]? = some y := ⟨x.1.d.texts[k], List.getElem?_eq_getElem hlt⟩
        obtain ⟨b, off, hA, hbl, hcs⟩ := H.out.2.2.1.form.resolve_left (fun e => by rw [e] at hlt; simp at hlt)
        rw [hA] at c14
        have hc := hcs k y hy
        have hys := H.out.2.2.2 y (List.mem_of_getElem? hy)
        clear hcs hy
        have HA := Lib.hid hA
        clear hA
        go_wp2_with fail
        go_round
        case rel => exact ⟨k + 1, _, hlt, by go_num, rfl, by omega, by omega⟩
        case measure => simp [intOf]; omega
      · by_cases h2 : m ≤ 2000
        · go_wp2_with fail
          go_ret
          exact ⟨_, rfl, H.out.2.1⟩
        · go_wp2_with fail
          go_ret
          exact ⟨_, rfl, H.out.2.1⟩
    · have hke : k = x.1.d.texts.length := by omega
      by_cases h2 : m ≤ 2000
      · clear hke
        go_wp2_with fail
        go_ret
        exact ⟨_, rfl, H.out.2.1⟩
      · clear hke
        go_wp2_with fail
        go_ret
        exact ⟨_, rfl, H.out.2.1⟩
def RlIn (w : World) (l : RL) : Prop := ∀ x ∈ l, RcIn w x.2.1 x.1 ∧ x.1.name.size + x.1.d.light ≤ 1048576
theorem RlIn.fr0 {w w' : World} {l : RL} (h : RlIn w l) (f : Fr (fun _ => False) w w') : RlIn w' l := fun x hx => ⟨(h x hx).1.fr0 f, (h x hx).2⟩
set_option maxRecDepth 100000 in
set_option maxHeartbeats 4000000 in
theorem lrecs_any (A : Option Addr) (cap : Nat) (l : RL) (w : World) (h : RowIn w A (l.flatMap rcl)) (hl : RlIn w l) (hn : l.length ≤ 1048576) : Calls Try.prog 22 #[.slice A l.length cap, .int .i64 10] w (SomeB w) := by
  have hsz : ∀ x : Rcd × Option Addr × Nat, (Try.prog.info? 63).map (·.size) = some (rcl x).length := fun x => by rw [rcl_len]; kernel_rfl
  have HL := Lib.hid (And.intro h (And.intro hl hsz))
  clear h hl hsz
  go_enter Try.func22, Try.ntmps22
  go_upto_region 2 with fail
  go_loopw [5] (fun i wr => ∃ k : Nat, k ≤ l.length ∧ i = .int .i64 (k : Nat) ∧ Fr (fun _ => False) w wr) (fun i _ => l.length - (intOf i).toNat)
  case atStart => exact ⟨0, Nat.zero_le _, rfl, Fr.refl _ _⟩
  case round =>
    obtain ⟨k, hk, rfl, hfr⟩ := hrel
    have HF := Lib.hid hfr
    clear hfr
    by_cases hlt : k < l.length
    · obtain ⟨x, hx⟩ : ∃ x, l[k]? = some x := ⟨l[k], List.getElem?_eq_getElem hlt⟩
      obtain ⟨b, off, rfl, hbs, hrg⟩ := rowIn_mk rcl 16 rcl_len HL.out.1 hx
      have HX := Lib.hid ((HL.out.2.1.fr0 HF.out) x (List.mem_of_getElem? hx))
      have HR := Lib.hid (And.intro (range_fr0 HF.out hbs hrg) (HL.out.2.2 x))
      clear hx hrg
      have hk0 : (0 : Int) ≤ (k : Int) := by omega
      go_upto_if 17 with (first
        | (refine wpList_load_mid rfl 63 _ rfl b (off + k * 16) (by rfl) (rcl x) _ HR.out.1 Try.underlying63 rfl HR.out.2 ?_)
        | ((with_reducible refine (lrec_any x _ HX.out.1 HX.out.2).mono ?_)
           rintro e w1 ⟨bb, rfl, f1⟩
           have H1 := Lib.hid (HF.out.then f1)
           clear f1)
        | fail "no arm")
      rcases bb with _ | _
      · go_wp2_with fail
        go_ret
        exact ⟨_, rfl, H1.out⟩
      · go_wp2_with fail
        go_roundw
        case rel => exact ⟨k + 1, hlt, by go_num, H1.out⟩
        case measure => simp [intOf]; omega
    · have hke : k = l.length := by omega
      subst hke
      go_wp2_with fail
      go_ret
      exact ⟨_, rfl, HF.out⟩
set_option maxRecDepth 100000 in
set_option maxHeartbeats 4000000 in
theorem light25m_any (h : Hd) (Aq Aa Ab A3 : Option Addr) (cq ca cb n3 c3 : Nat) (lq : List Qn) (la lb : RL) (w : World) (hq : RowIn w Aq (lq.flatMap qcl)) (hqk : ∀ x ∈ lq, QOk x) (ha : RowIn w Aa (la.flatMap rcl)) (hb : RowIn w Ab (lb.flatMap rcl)) (ka : RlIn w la) (kb : RlIn w lb) (nq : lq.length ≤ 1048576) (na : la.length ≤ 1048576) (nb : lb.length ≤ 1048576) :
    Calls Try.prog 7 #[.agg #[.int .u16 0, .string ⟨#[]⟩, .int .i64 0, .int .i64 0, .int .i64 0, .int .i64 0, .int .i64 0, .slice none 0 0], .agg #[.int .u16 h.id, .bool h.resp, .int .i64 h.op, .bool h.aa, .bool h.tc, .bool h.rd, .bool h.ra, .bool h.ad, .bool h.cd, .int .i64 h.rc, .int .i64 h.c0, .int .i64 h.c1, .int .i64 h.c2, .int .i64 h.c3, .slice Aq lq.length cq, .slice Aa la.length ca, .slice Ab lb.length cb, .slice A3 n3 c3]] w (SomeB w) := by
  obtain ⟨W, hW⟩ : ∃ W, W = (w.alloc (.cells #[.int .u16 0, .string ⟨#[]⟩, .int .i64 0, .int .i64 0, .int .i64 0, .int .i64 0, .int .i64 0, .slice none 0 0] 28)).alloc (.cells #[.int .u16 h.id, .bool h.resp, .int .i64 h.op, .bool h.aa, .bool h.tc, .bool h.rd, .bool h.ra, .bool h.ad, .bool h.cd, .int .i64 h.rc, .int .i64 h.c0, .int .i64 h.c1, .int .i64 h.c2, .int .i64 h.c3, .slice Aq lq.length cq, .slice Aa la.length ca, .slice Ab lb.length cb, .slice A3 n3 c3] 37) := ⟨_, rfl⟩
  have b1 : Blk W w.heap.size 28 #[.int .u16 0, .string ⟨#[]⟩, .int .i64 0, .int .i64 0, .int .i64 0, .int .i64 0, .int .i64 0, .slice none 0 0] := by rw [hW]; exact (Blk.new w 28 _).alloc _
  have b2 : Blk W (w.heap.size + 1) 37 #[.int .u16 h.id, .bool h.resp, .int .i64 h.op, .bool h.aa, .bool h.tc, .bool h.rd, .bool h.ra, .bool h.ad, .bool h.cd, .int .i64 h.rc, .int .i64 h.c0, .int .i64 h.c1, .int .i64 h.c2, .int .i64 h.c3, .slice Aq lq.length cq, .slice Aa la.length ca, .slice Ab lb.length cb, .slice A3 n3 c3] := by
    rw [hW]
    have := Blk.new (w.alloc (.cells #[.int .u16 0, .string ⟨#[]⟩, .int .i64 0, .int .i64 0, .int .i64 0, .int .i64 0, .int .i64 0, .slice none 0 0] 28)) 37 #[.int .u16 h.id, .bool h.resp, .int .i64 h.op, .bool h.aa, .bool h.tc, .bool h.rd, .bool h.ra, .bool h.ad, .bool h.cd, .int .i64 h.rc, .int .i64 h.c0, .int .i64 h.c1, .int .i64 h.c2, .int .i64 h.c3, .slice Aq lq.length cq, .slice Aa la.length ca, .slice Ab lb.length cb, .slice A3 n3 c3]
    rwa [World.size_alloc] at this
  have hf : Fr (fun _ => False) w W := by rw [hW]; exact ((Fr.refl _ _).alloc _).alloc _
  have HB := Lib.hid (And.intro b1 (And.intro b2 hf))
  have HQ := Lib.hid (And.intro (rowIn_fr0 hq hf) hqk)
  have HR := Lib.hid (And.intro (rowIn_fr0 ha hf) (And.intro (rowIn_fr0 hb hf) (And.intro (ka.fr0 hf) (kb.fr0 hf))))
  have c1 := b1.cell 1
  have c7 := b1.cell 7
  have d14 := b2.cell 14
  have d15 := b2.cell 15
  have d16 := b2.cell 16
  have HW := Lib.hid hW
  clear b1 b2 hf hq hqk ha hb ka kb hW
  by_cases h10 : 10 < (lq.length : Int)
  · go_enter Try.func7, Try.ntmps7
    go_upto_region 1 with fail
    rw [← HW.out]
    clear HW
    go_wp2_with fail
    go_ret
    exact ⟨_, rfl, HB.out.2.2⟩
  · go_enter Try.func7, Try.ntmps7
    go_upto_region 1 with fail
    rw [← HW.out]
    clear HW
    go_upto_if 34 with (first
      | (go_at_call 22
         (with_reducible refine (lrecs_any Aa ca la W HR.out.1 HR.out.2.2.1 na).mono ?_)
         rintro e w1 ⟨ba, rfl, f1⟩
         have H1 := Lib.hid (And.intro f1 (HB.out.2.2.then f1))
         have d16 : w1.cell? ⟨w.heap.size + 1, 16, none⟩ = some (.slice Ab lb.length cb) := (HB.out.2.1.fr f1 id).cell 16
         clear f1
         rcases ba with _ | _)
      | (go_at_call 22
         (with_reducible refine (lrecs_any Ab cb lb w1 (rowIn_fr0 HR.out.2.1 H1.out.1) (HR.out.2.2.2.fr0 H1.out.1) nb).mono ?_)
         rintro e w2 ⟨bb, rfl, f2⟩
         have H2 := Lib.hid (And.intro (H1.out.1.then f2) (H1.out.2.then f2))
         clear f2
         rcases bb with _ | _)
      | fail "no arm")
    · go_wp2_with fail
      go_ret
      exact ⟨_, rfl, H1.out.2⟩
    · go_wp2_with fail
      go_ret
      exact ⟨_, rfl, H2.out.2⟩
    · clear c1 c7 d14 d15 d16
      go_wp2_with fail
      go_loopw [5] (fun i wr => ∃ k : Nat, k ≤ lq.length ∧ i = .int .i64 (k : Nat) ∧ Fr (fun _ => False) w2 wr) (fun i _ => lq.length - (intOf i).toNat)
      case atStart => exact ⟨0, Nat.zero_le _, rfl, Fr.refl _ _⟩
      case round =>
        obtain ⟨k, hk, rfl, hfr⟩ := hrel
        have d14 : wr.cell? ⟨w.heap.size + 1, 14, none⟩ = some (.slice Aq lq.length cq) := ((HB.out.2.1.fr H2.out.1 id).fr hfr id).cell 14
        have HF := Lib.hid hfr
        clear hfr
        by_cases hlt : k < lq.length
        · obtain ⟨x, hx⟩ : ∃ x, lq[k]? = some x := ⟨lq[k], List.getElem?_eq_getElem hlt⟩
          obtain ⟨b, off, rfl, hbs, g0, g1, g2⟩ := rowIn_q (rowIn_fr0 (rowIn_fr0 HQ.out.1 H2.out.1) HF.out) hx
          have hxs := (HQ.out.2 x (List.mem_of_getElem? hx)).1
          have hk0 : (0 : Int) ≤ (k : Int) := by omega
          clear g1 g2 hx
          by_cases h3 : 300 < (x.1.size : Int)
          · go_wp2_with fail
            go_ret
            exact ⟨_, rfl, H2.out.2.then HF.out⟩
          · go_wp2_with fail
            go_roundw
            case rel => exact ⟨k + 1, hlt, by go_num, HF.out⟩
            case measure => simp [intOf]; omega
        · have hke : k = lq.length := by omega
          subst hke
          go_wp2_with fail
          go_ret
          exact ⟨_, rfl, H2.out.2.then HF.out⟩
end Go.Proofs.Ytncfdfgcnblicaa

/-
  LAYERS 9, 10, REFERENCE: records that are equal are the same.
-/
namespace Go.Proofs.Ytncfdfgcnblicaa
open Go.RowKit
set_option linter.unusedVariables false
set_option linter.unusedSimpArgs false

theorem nums_neq0 (d : Dt) (hd : ∀ i, d.num i < 4294967296) (w : World) :
    (Go.binOp .neq 58 (.agg #[.int .u32 d.n0, .int .u32 d.n1, .int .u32 d.n2, .int .u32 d.n3, .int .u32 d.n4]) (.agg #[.int .u32 d.n0, .int .u32 d.n1, .int .u32 d.n2, .int .u32 d.n3, .int .u32 d.n4])).run Try.prog w = .ok (.bool false) w := by
  obtain ⟨r, hr, hiff⟩ := run_equalIn_deep (P := Try.prog) 9997 3 58 (by kernel_rfl) w 3 3 (numsV d) (numsV d) _ _ (nums_formed _) (nums_formed _) (nums_keyLits d hd) (nums_keyLits d hd)
  have e' : r = true := hiff.2 rfl
  subst e'
  unfold numsV at hr
  rw [run_neq_struct, hr]
  rfl
theorem adr_neq0 (s : Bool) (h l : Nat) (a1 : h < 18446744073709551616) (a2 : l < 18446744073709551616) (w : World) :
    (Go.binOp .neq 57 (.agg #[.bool s, .int .u64 h, .int .u64 l]) (.agg #[.bool s, .int .u64 h, .int .u64 l])).run Try.prog w = .ok (.bool false) w := by
  rw [adr_neq s s h h l l a1 a2 a1 a2 w]
  simp
set_option maxRecDepth 100000 in
set_option maxHeartbeats 4000000 in
theorem rdsame_eq (d : Dt) (A B : Option Addr) (c1 c2 : Nat) (w : World) (ha : DtIn w A d) (hb : DtIn w B d) :
    Calls Try.prog 43 #[.agg #[.bool d.six, .int .u64 d.hi, .int .u64 d.lo, .string d.name, .string d.mail, .int .u32 d.n0, .int .u32 d.n1, .int .u32 d.n2, .int .u32 d.n3, .int .u32 d.n4, .slice A d.texts.length c1, .string d.raw], .agg #[.bool d.six, .int .u64 d.hi, .int .u64 d.lo, .string d.name, .string d.mail, .int .u32 d.n0, .int .u32 d.n1, .int .u32 d.n2, .int .u32 d.n3, .int .u32 d.n4, .slice B d.texts.length c2, .string d.raw]] w (EqPost w true) := by
  obtain ⟨W, hW⟩ : ∃ W, W = (w.alloc (.cells #[.bool d.six, .int .u64 d.hi, .int .u64 d.lo, .string d.name, .string d.mail, .int .u32 d.n0, .int .u32 d.n1, .int .u32 d.n2, .int .u32 d.n3, .int .u32 d.n4, .slice A d.texts.length c1, .string d.raw] 61)).alloc (.cells #[.bool d.six, .int .u64 d.hi, .int .u64 d.lo, .string d.name, .string d.mail, .int .u32 d.n0, .int .u32 d.n1, .int .u32 d.n2, .int .u32 d.n3, .int .u32 d.n4, .slice B d.texts.length c2, .string d.raw] 61) := ⟨_, rfl⟩
  have b1 : Blk W w.heap.size 61 #[.bool d.six, .int .u64 d.hi, .int .u64 d.lo, .string d.name, .string d.mail, .int .u32 d.n0, .int .u32 d.n1, .int .u32 d.n2, .int .u32 d.n3, .int .u32 d.n4, .slice A d.texts.length c1, .string d.raw] := by rw [hW]; exact (Blk.new w 61 _).alloc _
  have b2 : Blk W (w.heap.size + 1) 61 #[.bool d.six, .int .u64 d.hi, .int .u64 d.lo, .string d.name, .string d.mail, .int .u32 d.n0, .int .u32 d.n1, .int .u32 d.n2, .int .u32 d.n3, .int .u32 d.n4, .slice B d.texts.length c2, .string d.raw] := by
    rw [hW]
    have := Blk.new (w.alloc (.cells #[.bool d.six, .int .u64 d.hi, .int .u64 d.lo, .string d.name, .string d.mail, .int .u32 d.n0, .int .u32 d.n1, .int .u32 d.n2, .int .u32 d.n3, .int .u32 d.n4, .slice A d.texts.length c1, .string d.raw] 61)) 61 #[.bool d.six, .int .u64 d.hi, .int .u64 d.lo, .string d.name, .string d.mail, .int .u32 d.n0, .int .u32 d.n1, .int .u32 d.n2, .int .u32 d.n3, .int .u32 d.n4, .slice B d.texts.length c2, .string d.raw]
    rwa [World.size_alloc] at this
  have hf : Fr (fun _ => False) w W := by rw [hW]; exact ((Fr.refl _ _).alloc _).alloc _
  have n1 : ∀ w, (Go.binOp .neq 58 (.agg #[.int .u32 d.n0, .int .u32 d.n1, .int .u32 d.n2, .int .u32 d.n3, .int .u32 d.n4]) (.agg #[.int .u32 d.n0, .int .u32 d.n1, .int .u32 d.n2, .int .u32 d.n3, .int .u32 d.n4])).run Try.prog w = .ok (.bool false) w := fun w => nums_neq0 d ha.num w
  have n2 : ∀ w, (Go.binOp .neq 57 (.agg #[.bool d.six, .int .u64 d.hi, .int .u64 d.lo]) (.agg #[.bool d.six, .int .u64 d.hi, .int .u64 d.lo])).run Try.prog w = .ok (.bool false) w := fun w => adr_neq0 _ _ _ ha.hi ha.lo w
  have e3 := b1.cell 3
  have e4 := b1.cell 4
  have e10 := b1.cell 10
  have e11 := b1.cell 11
  have f3 := b2.cell 3
  have f4 := b2.cell 4
  have f10 := b2.cell 10
  have f11 := b2.cell 11
  have H := Lib.hid (And.intro b1 (And.intro b2 (And.intro hf (And.intro (ha.txt.fr0 hf) (hb.txt.fr0 hf)))))
  have hl : d.texts.length ≤ 1000000000 := ha.len
  have HW := Lib.hid hW
  clear b1 b2 hf hW ha hb
  go_enter Try.func43, Try.ntmps43
  go_upto_region 1 with fail
  rw [← HW.out]
  clear HW
  go_upto_region 4 with (first
    | (refine wpList_load_partg (by first | rfl | (simp [Region.wanted, yielded]; done)) 57 _ rfl w.heap.size 0 (by rfl) 61 _ 3 _ H.out.1 Try.underlying57 rfl (by kernel_rfl) (by simp) #[.bool d.six, .int .u64 d.hi, .int .u64 d.lo] (by rfl) ?_)
    | (refine wpList_load_partg (by first | rfl | (simp [Region.wanted, yielded]; done)) 57 _ rfl (w.heap.size + 1) 0 (by rfl) 61 _ 3 _ H.out.2.1 Try.underlying57 rfl (by kernel_rfl) (by simp) #[.bool d.six, .int .u64 d.hi, .int .u64 d.lo] (by rfl) ?_)
    | (refine wpList_load_partg (by first | rfl | (simp [Region.wanted, yielded]; done)) 58 _ rfl w.heap.size 5 (by rfl) 61 _ 5 _ H.out.1 Try.underlying58 rfl (by kernel_rfl) (by simp) #[.int .u32 d.n0, .int .u32 d.n1, .int .u32 d.n2, .int .u32 d.n3, .int .u32 d.n4] (by rfl) ?_)
    | (refine wpList_load_partg (by first | rfl | (simp [Region.wanted, yielded]; done)) 58 _ rfl (w.heap.size + 1) 5 (by rfl) 61 _ 5 _ H.out.2.1 Try.underlying58 rfl (by kernel_rfl) (by simp) #[.int .u32 d.n0, .int .u32 d.n1, .int .u32 d.n2, .int .u32 d.n3, .int .u32 d.n4] (by rfl) ?_)
    | fail "no arm")
  clear e3 e4 e10 e11 f3 f4 f10 f11 n1 n2
  go_loopw [5] (fun i wr => ∃ k : Nat, k ≤ d.texts.length ∧ i = .int .i64 (k : Nat) ∧ Fr (fun _ => False) W wr) (fun i _ => d.texts.length - (intOf i).toNat)
  case atStart => exact ⟨0, Nat.zero_le _, rfl, Fr.refl _ _⟩
  case round =>
    obtain ⟨k, hk, rfl, hfr⟩ := hrel
    have e10 : wr.cell? ⟨w.heap.size, 10, none⟩ = some (.slice A d.texts.length c1) := (H.out.1.fr hfr id).cell 10
    have f10 : wr.cell? ⟨w.heap.size + 1, 10, none⟩ = some (.slice B d.texts.length c2) := (H.out.2.1.fr hfr id).cell 10
    by_cases hlt : k < d.texts.length
    · obtain ⟨x, hx⟩ : ∃ x, d.texts[k]? = some x := ⟨d.texts[k], List.getElem?_eq_getElem hlt⟩
      obtain ⟨b, off, rfl, hbl, hcs⟩ := (H.out.2.2.2.1.fr0 hfr).form.resolve_left (fun e => by rw [e] at hlt; simp at hlt)
      obtain ⟨b', off', rfl, hbl', hcs'⟩ := (H.out.2.2.2.2.fr0 hfr).form.resolve_left (fun e => by rw [e] at hlt; simp at hlt)
      have hc := hcs k x hx
      have hc' := hcs' k x hx
      have hk0 : (0 : Int) ≤ (k : Int) := by omega
      have hlti : (k : Int) < (d.texts.length : Int) := by omega
      have HF := Lib.hid hfr
      clear hcs hcs' hx hfr
      go_upto_region 6 with fail
      go_quiet (fail)
      go_wp2_with fail
      go_roundw
      case rel => exact ⟨k + 1, hlt, by go_num, HF.out.drewN _⟩
      case measure => simp [intOf]; omega
    · have hke : k = d.texts.length := by omega
      have HF := Lib.hid hfr
      clear hfr
      subst hke
      go_wp2_with fail
      go_ret
      exact ⟨rfl, H.out.2.2.1.then HF.out⟩
set_option maxRecDepth 100000 in
set_option maxHeartbeats 4000000 in
theorem rrsame_eq (r : Rcd) (A B : Option Addr) (c1 c2 : Nat) (w : World) (ha : RcIn w A r) (hb : RcIn w B r) :
    Calls Try.prog 17 #[.agg #[.string r.name, .int .i64 r.t, .int .i64 r.cl, .int .u32 r.ttl, .bool r.d.six, .int .u64 r.d.hi, .int .u64 r.d.lo, .string r.d.name, .string r.d.mail, .int .u32 r.d.n0, .int .u32 r.d.n1, .int .u32 r.d.n2, .int .u32 r.d.n3, .int .u32 r.d.n4, .slice A r.d.texts.length c1, .string r.d.raw], .agg #[.string r.name, .int .i64 r.t, .int .i64 r.cl, .int .u32 r.ttl, .bool r.d.six, .int .u64 r.d.hi, .int .u64 r.d.lo, .string r.d.name, .string r.d.mail, .int .u32 r.d.n0, .int .u32 r.d.n1, .int .u32 r.d.n2, .int .u32 r.d.n3, .int .u32 r.d.n4, .slice B r.d.texts.length c2, .string r.d.raw]] w (EqPost w true) := by
  obtain ⟨W, hW⟩ : ∃ W, W = (w.alloc (.cells #[.string r.name, .int .i64 r.t, .int .i64 r.cl, .int .u32 r.ttl, .bool r.d.six, .int .u64 r.d.hi, .int .u64 r.d.lo, .string r.d.name, .string r.d.mail, .int .u32 r.d.n0, .int .u32 r.d.n1, .int .u32 r.d.n2, .int .u32 r.d.n3, .int .u32 r.d.n4, .slice A r.d.texts.length c1, .string r.d.raw] 63)).alloc (.cells #[.string r.name, .int .i64 r.t, .int .i64 r.cl, .int .u32 r.ttl, .bool r.d.six, .int .u64 r.d.hi, .int .u64 r.d.lo, .string r.d.name, .string r.d.mail, .int .u32 r.d.n0, .int .u32 r.d.n1, .int .u32 r.d.n2, .int .u32 r.d.n3, .int .u32 r.d.n4, .slice B r.d.texts.length c2, .string r.d.raw] 63) := ⟨_, rfl⟩
  have b1 : Blk W w.heap.size 63 #[.string r.name, .int .i64 r.t, .int .i64 r.cl, .int .u32 r.ttl, .bool r.d.six, .int .u64 r.d.hi, .int .u64 r.d.lo, .string r.d.name, .string r.d.mail, .int .u32 r.d.n0, .int .u32 r.d.n1, .int .u32 r.d.n2, .int .u32 r.d.n3, .int .u32 r.d.n4, .slice A r.d.texts.length c1, .string r.d.raw] := by rw [hW]; exact (Blk.new w 63 _).alloc _
  have b2 : Blk W (w.heap.size + 1) 63 #[.string r.name, .int .i64 r.t, .int .i64 r.cl, .int .u32 r.ttl, .bool r.d.six, .int .u64 r.d.hi, .int .u64 r.d.lo, .string r.d.name, .string r.d.mail, .int .u32 r.d.n0, .int .u32 r.d.n1, .int .u32 r.d.n2, .int .u32 r.d.n3, .int .u32 r.d.n4, .slice B r.d.texts.length c2, .string r.d.raw] := by
    rw [hW]
    have := Blk.new (w.alloc (.cells #[.string r.name, .int .i64 r.t, .int .i64 r.cl, .int .u32 r.ttl, .bool r.d.six, .int .u64 r.d.hi, .int .u64 r.d.lo, .string r.d.name, .string r.d.mail, .int .u32 r.d.n0, .int .u32 r.d.n1, .int .u32 r.d.n2, .int .u32 r.d.n3, .int .u32 r.d.n4, .slice A r.d.texts.length c1, .string r.d.raw] 63)) 63 #[.string r.name, .int .i64 r.t, .int .i64 r.cl, .int .u32 r.ttl, .bool r.d.six, .int .u64 r.d.hi, .int .u64 r.d.lo, .string r.d.name, .string r.d.mail, .int .u32 r.d.n0, .int .u32 r.d.n1, .int .u32 r.d.n2, .int .u32 r.d.n3, .int .u32 r.d.n4, .slice B r.d.texts.length c2, .string r.d.raw]
    rwa [World.size_alloc] at this
  have hf : Fr (fun _ => False) w W := by rw [hW]; exact ((Fr.refl _ _).alloc _).alloc _
  have e0 := b1.cell 0
  have e1 := b1.cell 1
  have e2 := b1.cell 2
  have e3 := b1.cell 3
  have f0 := b2.cell 0
  have f1 := b2.cell 1
  have f2 := b2.cell 2
  have f3 := b2.cell 3
  have H := Lib.hid (And.intro b1 (And.intro b2 (And.intro hf (And.intro (ha.d.fr0 hf) (hb.d.fr0 hf)))))
  have HW := Lib.hid hW
  clear b1 b2 hf hW ha hb
  go_enter Try.func17, Try.ntmps17
  go_upto_region 1 with fail
  rw [← HW.out]
  clear HW
  go_wp2_with (first
    | (refine wpList_load_partg (by first | rfl | (simp [Region.wanted, yielded]; done)) 61 _ rfl w.heap.size 4 (by rfl) 63 _ 12 _ H.out.1 Try.underlying61 rfl (by kernel_rfl) (by simp) #[.bool r.d.six, .int .u64 r.d.hi, .int .u64 r.d.lo, .string r.d.name, .string r.d.mail, .int .u32 r.d.n0, .int .u32 r.d.n1, .int .u32 r.d.n2, .int .u32 r.d.n3, .int .u32 r.d.n4, .slice A r.d.texts.length c1, .string r.d.raw] (by rfl) ?_)
    | (refine wpList_load_partg (by first | rfl | (simp [Region.wanted, yielded]; done)) 61 _ rfl (w.heap.size + 1) 4 (by rfl) 63 _ 12 _ H.out.2.1 Try.underlying61 rfl (by kernel_rfl) (by simp) #[.bool r.d.six, .int .u64 r.d.hi, .int .u64 r.d.lo, .string r.d.name, .string r.d.mail, .int .u32 r.d.n0, .int .u32 r.d.n1, .int .u32 r.d.n2, .int .u32 r.d.n3, .int .u32 r.d.n4, .slice B r.d.texts.length c2, .string r.d.raw] (by rfl) ?_)
    | (go_at_call 43
       (with_reducible refine (rdsame_eq r.d A B c1 c2 _ H.out.2.2.2.1 H.out.2.2.2.2).mono ?_)
       rintro e w3 ⟨rfl, f⟩
       have H3 := Lib.hid (H.out.2.2.1.then f)
       clear f)
    | fail "no arm")
  go_ret
  exact ⟨rfl, H3.out⟩
end Go.Proofs.Ytncfdfgcnblicaa
