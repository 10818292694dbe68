/-
  A LIST OF ACTS (chapter 3) OPENED.
-/
import Derived.Test.YtbemackcdccpaaaOpen
import Derived.Test.YtbemackcdccpaaaWrite3
namespace Go.Proofs.Ytbemackcdccpaaa
open Go.ChangeShapes Go.WideShapes Go.ChangeAt Go.RowKit Go.Deep

theorem acts_of {W : World} {H : Type} {enc : TypeId × Value → H} {base : Nat} {spare : Nat → Bool} {held : Bool} {a : Addr} {len m : Nat} {D : Nat → DataW H} {Pl : Nat → List MemPlace} {fs : Array Field}
    (_hfs : Try.prog.underlying 30 = some (.struct fs)) (hsz : fs.size = 4) (h0 : ∃ f, fs[0]? = some f ∧ Try.prog.underlying f.type = some (.int .i64)) (h1 : ∃ f, fs[1]? = some f ∧ Try.prog.underlying f.type = some (.int .i64))
    (h2 : ∃ f, fs[2]? = some f ∧ Try.prog.underlying f.type = some (.int .u32)) (h3 : ∃ f, fs[3]? = some f ∧ Try.prog.underlying f.type = some .string)
    (hl : len ≤ m)
    (hx : ∀ i, i < m → ∃ (ys : List (DataW H × List MemPlace)) (n : Nat), D i = .agg (ys.map (·.1)) ∧ Pl i = ys.flatMap (·.2) ∧ ys.length = fs.size ∧
        ∀ (j : Nat) (f : Field), fs[j]? = some f → ∃ (v : Value) (y : DataW H × List MemPlace), W.cell? (a.add (i * fs.size + j)) = some v ∧ ys[j]? = some y ∧ DataW.trod enc Try.prog W base spare held n f.type [v] = some y) :
    ∃ l : List Act3, l.length = len ∧ Acts W (some a) l ∧ ∀ x ∈ l, ActOk x := by
  obtain ⟨f0, e0, u0⟩ := h0
  obtain ⟨f1, e1, u1⟩ := h1
  obtain ⟨f2, e2, u2⟩ := h2
  obtain ⟨f3, e3, u3⟩ := h3
  have key : ∀ i, i < len → ∃ x : Act3, ActOk x ∧ W.cell? (a.add (i * 4)) = some (.int .i64 x.kind) ∧ W.cell? (a.add (i * 4 + 1)) = some (.int .i64 x.n) ∧ W.cell? (a.add (i * 4 + 2)) = some (.int .u32 x.v) ∧ W.cell? (a.add (i * 4 + 3)) = some (.string x.s) := by
    intro i hi
    obtain ⟨ys, n, _, _, _, hf⟩ := hx i (by omega)
    obtain ⟨v0, y0, c0, _, t0⟩ := hf 0 f0 e0
    obtain ⟨v1, y1, c1, _, t1⟩ := hf 1 f1 e1
    obtain ⟨v2, y2, c2, _, t2⟩ := hf 2 f2 e2
    obtain ⟨v3, y3, c3, _, t3⟩ := hf 3 f3 e3
    obtain ⟨n0, q0, _, b0⟩ := DataW.trod_int u0 t0
    obtain ⟨n1, q1, _, b1⟩ := DataW.trod_int u1 t1
    obtain ⟨n2, q2, _, b2⟩ := DataW.trod_int u2 t2
    obtain ⟨s3, q3, _, b3⟩ := DataW.trod_string u3 t3
    simp only [List.cons.injEq, and_true] at q0 q1 q2 q3
    subst q0 q1 q2 q3
    have r0 := bounds_i64 b0
    have r1 := bounds_i64 b1
    have r2 := bounds_u32 b2
    rw [hsz] at c0 c1 c2 c3
    exact ⟨⟨n0, n1, n2, s3⟩, ⟨r0.1, r0.2, r1.1, r1.2, r2.1, by have := r2.2; dsimp only; omega⟩, c0, c1, c2, c3⟩
  obtain ⟨l, hll, hp⟩ := list_of key
  refine ⟨l, hll, fun h0 => ?_, fun x hx => ?_⟩
  · obtain ⟨x0, hx0⟩ : ∃ x, l[0]? = some x := ⟨l[0], List.getElem?_eq_getElem h0⟩
    have c0 : W.cell? a = some (.int .i64 x0.kind) := by have := (hp 0 x0 hx0).2.1; simpa [Addr.add] using this
    obtain ⟨b, off, rfl, hadd⟩ := addr_flat c0
    refine ⟨b, off, rfl, World.block_lt_of_cell? W _ c0, fun i x hx => ?_⟩
    have hh := (hp i x hx).2
    rw [hadd, hadd, hadd, hadd] at hh
    simpa [Nat.add_assoc] using hh
  · obtain ⟨i, hi⟩ := List.mem_iff_getElem?.1 hx
    exact (hp i x hi).1


theorem open_acts {W : World} {H : Type} {enc : TypeId × Value → H} {A : Option Addr} {len cap : Nat} {d : DataW H} {p : List MemPlace}
    (h : DataW.Trod enc Try.prog W 0 (fun _ => true) true 22 (.slice A len cap) d p) :
    ∃ l : List Act3, l.length = len ∧ Acts W A l ∧ (∀ x ∈ l, ActOk x) ∧ len ≤ maxLen := by
  obtain ⟨fuel, hf⟩ := h
  rcases open_slice_fields Try.underlying22 Try.underlying30 (by kernel_rfl) (by kernel_rfl) hf with ⟨hcs, _⟩ | ⟨a, len', cap', m, D, Pl, hcs, _, hl, hm, hmm, _, hx⟩
  · simp [Value.cells] at hcs
    obtain ⟨rfl, rfl, rfl⟩ := hcs
    exact ⟨[], rfl, fun h => by simp at h, fun x hx => by simp at hx, by simp [maxLen]⟩
  · simp [Value.cells] at hcs
    obtain ⟨rfl, rfl, rfl⟩ := hcs
    obtain ⟨l, g1, g2, g3⟩ := acts_of Try.underlying30 rfl ⟨_, rfl, Try.underlying3⟩ ⟨_, rfl, Try.underlying3⟩ ⟨_, rfl, Try.underlying28⟩ ⟨_, rfl, Try.underlying9⟩ (by simp at hmm; omega : len ≤ m) hx
    exact ⟨l, g1, g2, g3, by omega⟩
end Go.Proofs.Ytbemackcdccpaaa
