/-
  Whatever is done to a writer (numbers, rows, patches), the program's and the document's tell the same: 'OctetsWrite' returns true for every input.
-/
import Derived.Test.YtbemackcdccpaaaRows
import Derived.Test.YtbemackcdccpaaaOpen
import Derived.Test.YtbemackcdccpaaaInit
import Derived.Test.YtbemackcdccpaaaWrite3
namespace Go.Proofs.Ytbemackcdccpaaa
open Go.ChangeShapes Go.WideShapes Go.ChangeAt Go.RowKit Go.Deep
open Go.ChangeMaps (open_string shut_string)
set_option linter.unusedVariables false

theorem own : ownKnob Try.prog.godebug = none := by kernel_rfl
theorem laidOut : laidOutB Try.prog = true := by kernel_rfl

theorem acts_of {W : World} {H : Type} {enc : TypeId × Value → H} {base : Nat} {spare : Nat → Bool} {held : Bool} {a : Addr} {len m : Nat} {D : Nat → DataW H} {Pl : Nat → List MemPlace} {fs : Array Field}
    (hfs : Try.prog.underlying 30 = some (.struct fs)) (hsz : fs.size = 4) (h0 : ∃ f, fs[0]? = some f ∧ Try.prog.underlying f.type = some (.int .i64)) (h1 : ∃ f, fs[1]? = some f ∧ Try.prog.underlying f.type = some (.int .i64))
    (h2 : ∃ f, fs[2]? = some f ∧ Try.prog.underlying f.type = some (.int .u32)) (h3 : ∃ f, fs[3]? = some f ∧ Try.prog.underlying f.type = some .string)
    (hl : len ≤ m)
    (hx : ∀ i, i < m → ∃ (ys : List (DataW H × List MemPlace)) (n : Nat), D i = .agg (ys.map (·.1)) ∧ Pl i = ys.flatMap (·.2) ∧ ys.length = fs.size ∧
        ∀ (j : Nat) (f : Field), fs[j]? = some f → ∃ (v : Value) (y : DataW H × List MemPlace), W.cell? (a.add (i * fs.size + j)) = some v ∧ ys[j]? = some y ∧ DataW.trod enc Try.prog W base spare held n f.type [v] = some y) :
    ∃ l : List Act3, l.length = len ∧ Acts W (some a) l ∧ ∀ x ∈ l, ActOk x := by
  obtain ⟨f0, e0, u0⟩ := h0
  obtain ⟨f1, e1, u1⟩ := h1
  obtain ⟨f2, e2, u2⟩ := h2
  obtain ⟨f3, e3, u3⟩ := h3
  have key : ∀ i, i < len → ∃ x : Act3, ActOk x ∧ W.cell? (a.add (i * 4)) = some (.int .i64 x.kind) ∧ W.cell? (a.add (i * 4 + 1)) = some (.int .i64 x.n) ∧ W.cell? (a.add (i * 4 + 2)) = some (.int .u32 x.v) ∧ W.cell? (a.add (i * 4 + 3)) = some (.string x.s) := by
    intro i hi
    obtain ⟨ys, n, _, _, _, hf⟩ := hx i (by omega)
    obtain ⟨v0, y0, c0, _, t0⟩ := hf 0 f0 e0
    obtain ⟨v1, y1, c1, _, t1⟩ := hf 1 f1 e1
    obtain ⟨v2, y2, c2, _, t2⟩ := hf 2 f2 e2
    obtain ⟨v3, y3, c3, _, t3⟩ := hf 3 f3 e3
    obtain ⟨n0, q0, _, b0⟩ := DataW.trod_int u0 t0
    obtain ⟨n1, q1, _, b1⟩ := DataW.trod_int u1 t1
    obtain ⟨n2, q2, _, b2⟩ := DataW.trod_int u2 t2
    obtain ⟨s3, q3, _, b3⟩ := DataW.trod_string u3 t3
    simp only [List.cons.injEq, and_true] at q0 q1 q2 q3
    subst q0 q1 q2 q3
    have r0 := bounds_i64 b0
    have r1 := bounds_i64 b1
    have r2 := bounds_u32 b2
    rw [hsz] at c0 c1 c2 c3
    exact ⟨⟨n0, n1, n2, s3⟩, ⟨r0.1, r0.2, r1.1, r1.2, r2.1, by have := r2.2; dsimp only; omega⟩, c0, c1, c2, c3⟩
  obtain ⟨l, hll, hp⟩ := list_of key
  refine ⟨l, hll, fun h0 => ?_, fun x hx => ?_⟩
  · obtain ⟨x0, hx0⟩ : ∃ x, l[0]? = some x := ⟨l[0], List.getElem?_eq_getElem h0⟩
    have c0 : W.cell? a = some (.int .i64 x0.kind) := by have := (hp 0 x0 hx0).2.1; simpa [Addr.add] using this
    obtain ⟨b, off, rfl, hadd⟩ := addr_flat c0
    refine ⟨b, off, rfl, World.block_lt_of_cell? W _ c0, fun i x hx => ?_⟩
    have hh := (hp i x hx).2
    rw [hadd, hadd, hadd, hadd] at hh
    simpa [Nat.add_assoc] using hh
  · obtain ⟨i, hi⟩ := List.mem_iff_getElem?.1 hx
    exact (hp i x hi).1

set_option maxRecDepth 100000 in
set_option maxHeartbeats 1000000 in
theorem over_len (room : Int) (A : Option Addr) (cap : Nat) (l : List Act3) (w : World) (hn : 200 < l.length) (hm : l.length ≤ 9223372036854775807) :
    Calls Try.prog 3 #[.int .i64 room, .slice A l.length cap] w fun e w' => e = .returned (.bool true) ∧ Below w.heap.size w w' := by
  go_enter Try.func3, Try.ntmps3
  go_wp2_with fail
  refine (lives3_any _).mono ?_
  rintro e w1 ⟨rfl, hb1⟩
  go_wp2_with fail
  go_ret
  exact ⟨rfl, hb1⟩

/-! ### THE ROW's STEP -/
set_option maxRecDepth 100000 in
theorem lifted (os : Os) (started : os.Started) (H : Type) (enc : TypeId × Value → H) :
    ReturnsInHanded {} Try.checked os 3 .any (Rows.octetsWriteSpec.pre6 enc Try.prog Try.f3 Rows.octetsWriteRow.domain false) (Rows.octetsWriteSpec.post enc Try.prog Try.f3 false true false false) := by
  refine returnsInHanded_of_change (C := Try.checked) own started (by kernel_rfl) Try.func3
    (ChangeSpec.witness6 (enc := enc) (C := Try.checked) false ⟨#[], #[.int .i64 0, .slice none 0 0], []⟩ 8 (by kernel_rfl) (by kernel_rfl) (by kernel_rfl) (by kernel_rfl)) ?_
  intro W base args ds gs before hval0 hW hcnd _
  have hval : ∀ (j : Nat) t v, Try.f3.params[j]? = some t → args[j]? = some v → Value.okWide Try.prog W .any base t v := hval0
  have hW' := hW
  obtain ⟨p, q, hA0, hV, rfl, hfz, hnd⟩ := hW
  have hA : DataW.TrodAll enc Try.prog W 0 (fun _ => true) true Try.f3.params.toList args.toList ds p := hA0
  rw [Try.params3] at hA hval
  obtain ⟨v0, vs0, d0, ds0, p0, q0, hargs, rfl, rfl, h0, r0⟩ := trodAll_cons hA
  obtain ⟨v1, vs1, d1, ds1, p1, q1, rfl, rfl, rfl, h1, r1⟩ := trodAll_cons r0
  obtain ⟨rfl, rfl, rfl⟩ := trodAll_nil r1
  obtain rfl : args = #[v0, v1] := by cases args; simp_all
  obtain ⟨rfl, rfl⟩ := trodVars_none hV
  have k0 := h0
  have lt0 : ∀ x ∈ p0, x.block < W.heap.size := by obtain ⟨m, hm⟩ := k0; exact DataW.trod_lt m _ _ _ hm
  have k1 := h1
  have lt1 : ∀ x ∈ p1, x.block < W.heap.size := by obtain ⟨m, hm⟩ := k1; exact DataW.trod_lt m _ _ _ hm
  obtain ⟨a0, rfl, _, _, w0⟩ := open_int Try.underlying3 (hval 0 3 v0 rfl rfl) h0
  obtain ⟨a1, len1, cap1, rfl⟩ := okWide_slice Try.underlying22 (hval 1 22 v1 rfl rfl)
  obtain ⟨l, hl, hacts, hok, hmax⟩ : ∃ l : List Act3, l.length = len1 ∧ Acts W a1 l ∧ (∀ x ∈ l, ActOk x) ∧ len1 ≤ maxLen := by
    obtain ⟨fuel, hf⟩ := h1
    rcases open_slice_fields Try.underlying22 Try.underlying30 (by kernel_rfl) (by kernel_rfl) hf with ⟨hcs, _⟩ | ⟨a, len', cap', m, D, Pl, hcs, _, hl, hm, hmm, _, hx⟩
    · simp [Value.cells] at hcs
      obtain ⟨rfl, rfl, rfl⟩ := hcs
      exact ⟨[], rfl, fun h => by simp at h, fun x hx => by simp at hx, by simp [maxLen]⟩
    · simp [Value.cells] at hcs
      obtain ⟨rfl, rfl, rfl⟩ := hcs
      obtain ⟨l, g1, g2, g3⟩ := acts_of Try.underlying30 rfl ⟨_, rfl, Try.underlying3⟩ ⟨_, rfl, Try.underlying3⟩ ⟨_, rfl, Try.underlying28⟩ ⟨_, rfl, Try.underlying9⟩ (by simp at hmm; omega : len1 ≤ m) hx
      exact ⟨l, g1, g2, g3, by omega⟩
  subst hl
  clear hA0 hval0
  have fin : ∀ (e : Ending) (W' : World), (e = .returned (.bool true) ∧ Below W.heap.size W W') → ∃ v, e = .returned v ∧ Rows.octetsWriteSpec.post enc Try.checked.prog Try.f3 false true false false W #[.int .i64 a0, .slice a1 l.length cap1] v W' := by
    rintro e W' ⟨he, bel⟩
    subst he
    exact ⟨_, rfl, _, _, _, [], _, [], hW', trodAll_mk1 (shut_bool Try.underlying4 _), (trodAll_cons_mk (Below.trod laidOut (by kernel_rfl) (of_decide_eq_true (by kernel_rfl)) k0 bel lt0) (trodAll_cons_mk (Below.trod laidOut (by kernel_rfl) (of_decide_eq_true (by kernel_rfl)) k1 bel lt1) trodAll_mk0)), rfl, bel.frame _, fun h => by cases h⟩
  have b0 := bounds_i64 w0
  by_cases hn : l.length ≤ 200
  · exact (octetsWrite_walk a0 a1 cap1 l W b0.2 hacts hok hn).mono fun e W' h => fin e W' h
  · exact (over_len a0 a1 cap1 l W (by omega) (by simp only [maxLen] at hmax; omega)).mono fun e W' h => fin e W' h

theorem facts : joinedFacts Try.pinned.checked.prog 3 Try.f3 Rows.octetsWriteSpec Rows.octetsWriteRow = true := by
  unfold joinedFacts
  rw [may_enter, lifts_final, make_cut]
  kernel_rfl
theorem over : Rows.octetsWriteRow.holds Try.pinned (OpenSpec.ofChange Rows.octetsWriteSpec) :=
  OpenClaim.holds_of_wide 3 Try.f3 rfl rfl rfl rfl rfl rfl rfl ⟨rfl, rfl, rfl, rfl, rfl⟩ rfl rfl rfl rfl rfl (by kernel_rfl) Try.func3 facts
    (of_decide_eq_true (by kernel_rfl)) (by unfold Func.isWrapper; rw [if_neg (of_decide_eq_false (by kernel_rfl))]; exact ⟨rfl, rfl⟩)
    (fun os started H enc _ => lifted os started H enc)

theorem octetsWrite_holds : Rows.OctetsWriteSaid := over
#print axioms octetsWrite_holds
end Go.Proofs.Ytbemackcdccpaaa
