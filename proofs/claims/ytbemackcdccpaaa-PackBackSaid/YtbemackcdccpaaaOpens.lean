/-
  LISTS OF STRINGS AND OF BOOLS THAT CAME IN, OPENED.
-/
import Derived.Test.YtbemackcdccpaaaOpen
import Derived.Test.YtbemackcdccpaaaProg
namespace Go.Proofs.Ytbemackcdccpaaa
open Go.ChangeShapes Go.WideShapes Go.ChangeAt Go.RowKit Go.Deep

/-- A row of one-cell values that came in. -/
def RowIn (W : World) (A : Option Addr) (vs : List Value) : Prop := 0 < vs.length → ∃ b off, A = some ⟨b, off, none⟩ ∧ b < W.heap.size ∧ ∀ i x, vs[i]? = some x → W.cell? ⟨b, off + i, none⟩ = some x
def Strs (W : World) (A : Option Addr) (l : List ByteArray) : Prop := RowIn W A (l.map Value.string)
def Bools (W : World) (A : Option Addr) (l : List Bool) : Prop := RowIn W A (l.map Value.bool)

theorem rowIn_of {α : Type} {W : World} {a : Addr} (mk : α → Value) {l : List α} (h : ∀ i x, l[i]? = some x → W.cell? (a.add i) = some (mk x)) : RowIn W (some a) (l.map mk) := by
  intro h0
  rw [List.length_map] at h0
  obtain ⟨x0, hx0⟩ : ∃ x, l[0]? = some x := ⟨l[0], List.getElem?_eq_getElem h0⟩
  have c0 : W.cell? a = some (mk x0) := by have := h 0 x0 hx0; simpa [Addr.add] using this
  obtain ⟨b, off, rfl, hadd⟩ := addr_flat c0
  refine ⟨b, off, rfl, World.block_lt_of_cell? W _ c0, fun i v hv => ?_⟩
  rw [List.getElem?_map, Option.map_eq_some_iff] at hv
  obtain ⟨x, hx, rfl⟩ := hv
  have := h i x hx
  rwa [hadd] at this

theorem open_strs' {W : World} {H : Type} {enc : TypeId × Value → H} {t e : TypeId} (ht : Try.prog.underlying t = some (.slice e)) (he : Try.prog.underlying e = some .string) (hc1 : Try.prog.cellsOf e = 1)
    {A : Option Addr} {len cap : Nat} {d : DataW H} {p : List MemPlace}
    (h : DataW.Trod enc Try.prog W 0 (fun _ => true) true t (.slice A len cap) d p) :
    ∃ l : List ByteArray, l.length = len ∧ Strs W A l ∧ (∀ x ∈ l, x.size ≤ maxLen) ∧ len ≤ maxLen := by
  obtain ⟨fuel, hf⟩ := h
  rcases open_slice ht hf with ⟨hcs, _⟩ | ⟨a, len', cap', m, n, D, Pl, hcs, _, hl, hm, hmm, _, hi⟩
  · simp [Value.cells] at hcs
    obtain ⟨rfl, rfl, rfl⟩ := hcs
    exact ⟨[], rfl, fun h => by simp at h, fun x hx => by simp at hx, by simp [maxLen]⟩
  · simp [Value.cells] at hcs
    obtain ⟨rfl, rfl, rfl⟩ := hcs
    have hlm : len ≤ m := by simp at hmm; omega
    have key : ∀ i, i < len → ∃ x : ByteArray, x.size ≤ maxLen ∧ W.cell? (a.add i) = some (.string x) := by
      intro i hi'
      obtain ⟨cs', hc, ht'⟩ := hi i (by omega)
      rw [hc1] at hc
      obtain ⟨_, hcl, hat⟩ := World.cells?_some hc
      obtain ⟨s, q, _, b⟩ := DataW.trod_string he ht'
      subst q
      have := hat 0 (by omega)
      simp only [Nat.mul_one] at this
      refine ⟨s, b, ?_⟩
      simpa [Addr.add] using this
    obtain ⟨l, hll, hp⟩ := list_of key
    refine ⟨l, hll, rowIn_of _ fun i x hx => (hp i x hx).2, fun x hx => ?_, by omega⟩
    obtain ⟨i, hi⟩ := List.mem_iff_getElem?.1 hx
    exact (hp i x hi).1

theorem open_bools {W : World} {H : Type} {enc : TypeId × Value → H} {t e : TypeId} (ht : Try.prog.underlying t = some (.slice e)) (he : Try.prog.underlying e = some .bool) (hc1 : Try.prog.cellsOf e = 1)
    {A : Option Addr} {len cap : Nat} {d : DataW H} {p : List MemPlace}
    (h : DataW.Trod enc Try.prog W 0 (fun _ => true) true t (.slice A len cap) d p) :
    ∃ l : List Bool, l.length = len ∧ Bools W A l ∧ len ≤ maxLen := by
  obtain ⟨fuel, hf⟩ := h
  rcases open_slice ht hf with ⟨hcs, _⟩ | ⟨a, len', cap', m, n, D, Pl, hcs, _, hl, hm, hmm, _, hi⟩
  · simp [Value.cells] at hcs
    obtain ⟨rfl, rfl, rfl⟩ := hcs
    exact ⟨[], rfl, fun h => by simp at h, by simp [maxLen]⟩
  · simp [Value.cells] at hcs
    obtain ⟨rfl, rfl, rfl⟩ := hcs
    have hlm : len ≤ m := by simp at hmm; omega
    have key : ∀ i, i < len → ∃ x : Bool, W.cell? (a.add i) = some (.bool x) := by
      intro i hi'
      obtain ⟨cs', hc, ht'⟩ := hi i (by omega)
      rw [hc1] at hc
      obtain ⟨_, hcl, hat⟩ := World.cells?_some hc
      obtain ⟨s, q, _⟩ := DataW.trod_bool he ht'
      subst q
      have := hat 0 (by omega)
      simp only [Nat.mul_one] at this
      refine ⟨s, ?_⟩
      simpa [Addr.add] using this
    obtain ⟨l, hll, hp⟩ := list_of key
    exact ⟨l, hll, rowIn_of _ fun i x hx => hp i x hx, by omega⟩
end Go.Proofs.Ytbemackcdccpaaa
