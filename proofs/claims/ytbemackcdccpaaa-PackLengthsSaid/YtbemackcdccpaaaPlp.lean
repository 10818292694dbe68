/-
  LAYER 7, PLAIN: lengths within one another.
-/
import Derived.Test.YtbemackcdccpaaaPpb
import Derived.Test.YtbemackcdccpaaaPgr
namespace Go.Proofs.Ytbemackcdccpaaa
open Go.RowKit

/-- Where the j-th length stands. -/
def posL : List ByteArray → Nat → Nat
  | _, 0 => 0
  | [], _ + 1 => 0
  | x :: r, j + 1 => 2 + x.size + posL r j
/-- The octets, with what stands at the lengths' places. -/
def bd (H : Nat → List UInt8) : Nat → List ByteArray → List UInt8
  | _, [] => []
  | i, x :: r => H i ++ (x.data.toList ++ bd H (i + 1) r)
theorem bd_len (H : Nat → List UInt8) (hH : ∀ i, (H i).length = 2) : ∀ (l : List ByteArray) (i : Nat), (bd H i l).length = posL l l.length
  | [], _ => rfl
  | x :: r, i => by
    simp only [bd, List.length_append, hH, List.length_cons, posL, bd_len H hH r (i + 1), size_l]
    omega
theorem posL_take : ∀ (l : List ByteArray) (j : Nat), j ≤ l.length → posL (l.take j) j = posL l j
  | _, 0, _ => by simp [posL]
  | [], _ + 1, h => by simp at h
  | x :: r, j + 1, h => by
    simp only [List.take_succ_cons, posL]
    rw [posL_take r j (by simpa using h)]
theorem posL_succ : ∀ (l : List ByteArray) (j : Nat) (x : ByteArray), l[j]? = some x → posL l (j + 1) = posL l j + 2 + x.size
  | [], _, _, h => by simp at h
  | a :: r, 0, x, h => by
    simp only [List.getElem?_cons_zero, Option.some.injEq] at h
    subst h
    cases r <;> simp [posL]
  | a :: r, j + 1, x, h => by
    simp only [List.getElem?_cons_succ] at h
    have := posL_succ r j x h
    simp only [posL]
    omega
theorem posL_mono (l : List ByteArray) {i j : Nat} (hij : i ≤ j) (hj : j ≤ l.length) : posL l i ≤ posL l j := by
  induction hij with
  | refl => exact Nat.le_refl _
  | @step m h ih =>
    have hm : m < l.length := by omega
    rw [posL_succ l m l[m] (List.getElem?_eq_getElem hm)]
    have := ih (by omega)
    omega
theorem bd_append (H : Nat → List UInt8) : ∀ (l m : List ByteArray) (i : Nat), bd H i (l ++ m) = bd H i l ++ bd H (i + l.length) m
  | [], _, _ => by simp [bd]
  | x :: r, m, i => by
    simp only [List.cons_append, bd, bd_append H r m (i + 1), List.append_assoc, List.length_cons]
    rw [show i + 1 + r.length = i + (r.length + 1) by omega]
theorem bd_congr {H K : Nat → List UInt8} : ∀ (l : List ByteArray) (i : Nat), (∀ j, i ≤ j → j < i + l.length → H j = K j) → bd H i l = bd K i l
  | [], _, _ => rfl
  | x :: r, i, h => by
    simp only [bd]
    rw [h i (Nat.le_refl _) (by simp), bd_congr r (i + 1) fun j h1 h2 => h j (by omega) (by simp; omega)]
theorem bd_split (H : Nat → List UInt8) (l : List ByteArray) (j : Nat) (x : ByteArray) (h : l[j]? = some x) : bd H 0 l = bd H 0 (l.take j) ++ (H j ++ (x.data.toList ++ bd H (j + 1) (l.drop (j + 1)))) := by
  have hj := (List.getElem?_eq_some_iff.1 h).1
  have e : l = l.take j ++ (x :: l.drop (j + 1)) := by
    conv => lhs; rw [← List.take_append_drop j l, List.drop_eq_getElem_cons hj, (List.getElem?_eq_some_iff.1 h).2]
  conv => lhs; rw [e]
  rw [bd_append, List.length_take, Nat.min_eq_left (by omega), Nat.zero_add]
  rfl

/-- What stands at the lengths' places once those from j on are ended. -/
def hdL (l : List ByteArray) (j : Nat) : Nat → List UInt8 := fun i => if j ≤ i then octs (posL l l.length - posL l i - 2) 2 else [0, 0]
theorem hdL_len (l : List ByteArray) (j i : Nat) : (hdL l j i).length = 2 := by
  unfold hdL
  split
  · exact octs_length _ _
  · rfl
theorem zeros_len (i : Nat) : ((fun _ => [0, 0] : Nat → List UInt8) i).length = 2 := rfl

/-- The last of those that were begun is ended. -/
theorem bd_patch (l : List ByteArray) (j : Nat) (hj : j < l.length) (m : Int) : (Wst.mk (bd (hdL l (j + 1)) 0 l) m 0).patch (posL l j : Nat) ((posL l l.length - posL l j - 2 : Nat) : Int) 2 = (⟨bd (hdL l j) 0 l, m, 0⟩, 0) ∨ 65536 ≤ posL l l.length := by
  by_cases hbig : 65536 ≤ posL l l.length
  · exact .inr hbig
  · left
    have hx : l[j]? = some l[j] := List.getElem?_eq_getElem hj
    have hlen := bd_len (hdL l (j + 1)) (hdL_len l (j + 1)) l 0
    have hs := bd_split (hdL l (j + 1)) l j l[j] hx
    have hs2 := bd_split (hdL l j) l j l[j] hx
    have hp : (bd (hdL l (j + 1)) 0 (l.take j)).length = posL l j := by
      rw [bd_len _ (hdL_len l (j + 1)), List.length_take, Nat.min_eq_left (by omega), posL_take l j (by omega)]
    have e1 : bd (hdL l j) 0 (l.take j) = bd (hdL l (j + 1)) 0 (l.take j) := bd_congr _ _ fun i _ h2 => by
      rw [List.length_take] at h2
      unfold hdL
      rw [if_neg (by omega), if_neg (by omega)]
    have e2 : bd (hdL l j) (j + 1) (l.drop (j + 1)) = bd (hdL l (j + 1)) (j + 1) (l.drop (j + 1)) := bd_congr _ _ fun i h1 _ => by
      unfold hdL
      rw [if_pos (by omega), if_pos (by omega)]
    have e3 : hdL l j j = octs (posL l l.length - posL l j - 2) 2 := by unfold hdL; rw [if_pos (Nat.le_refl _)]
    have hsucc := posL_succ l j l[j] hx
    have hmono := posL_mono l (show j + 1 ≤ l.length by omega) (Nat.le_refl _)
    have hf : fitsB ((posL l l.length - posL l j - 2 : Nat) : Int) 2 = true := by
      simp only [fitsB, decide_eq_true_eq]
      refine ⟨by omega, by omega, ?_⟩
      show ((posL l l.length - posL l j - 2 : Nat) : Int) < 256 ^ 2
      omega
    unfold Wst.patch
    rw [if_neg (by simp), if_pos ⟨hf, by omega, by dsimp only; rw [hlen]; omega⟩]
    dsimp only
    rw [Int.toNat_natCast, Int.toNat_natCast, show (2 : Int).toNat = 2 from rfl]
    have ht : (bd (hdL l (j + 1)) 0 l).take (posL l j) = bd (hdL l (j + 1)) 0 (l.take j) := by
      rw [hs, ← hp, List.take_left]
    have hd : (bd (hdL l (j + 1)) 0 l).drop (posL l j + 2) = l[j].data.toList ++ bd (hdL l (j + 1)) (j + 1) (l.drop (j + 1)) := by
      rw [hs, ← hp, List.drop_length_add_append]
      have := hdL_len l (j + 1) j
      rw [← this, List.drop_left]
    rw [ht, hd, hs2, e1, e2, e3]

theorem posL_le (l : List ByteArray) : ∀ j, j ≤ l.length → (∀ x ∈ l, x.size ≤ 300) → posL l j ≤ 302 * j
  | 0, _, _ => by simp [posL]
  | j + 1, h, hx => by
    have hj : j < l.length := by omega
    rw [posL_succ l j l[j] (List.getElem?_eq_getElem hj)]
    have h1 := posL_le l j (by omega) hx
    have h2 := hx l[j] (List.getElem_mem hj)
    omega

/-- What the law looks at. -/
theorem bd_reads (l : List ByteArray) (j : Nat) (x : ByteArray) (hx : l[j]? = some x) (hbig : posL l l.length < 65536) :
    256 * oc (bd (hdL l 0) 0 l) (posL l j) + oc (bd (hdL l 0) 0 l) (posL l j + 1) = posL l l.length - posL l j - 2 ∧ ((bd (hdL l 0) 0 l).drop (posL l j + 2)).take x.size = x.data.toList ∧ posL l j + 2 + x.size ≤ posL l l.length := by
  have hj := (List.getElem?_eq_some_iff.1 hx).1
  have hs := bd_split (hdL l 0) l j x hx
  have hp : (bd (hdL l 0) 0 (l.take j)).length = posL l j := by
    rw [bd_len _ (hdL_len l 0), List.length_take, Nat.min_eq_left (by omega), posL_take l j (by omega)]
  have e3 : hdL l 0 j = octs (posL l l.length - posL l j - 2) 2 := by unfold hdL; rw [if_pos (Nat.zero_le _)]
  have hsucc := posL_succ l j x hx
  have hmono := posL_mono l (show j + 1 ≤ l.length by omega) (Nat.le_refl _)
  rw [e3] at hs
  have o0 : oc (bd (hdL l 0) 0 l) (posL l j + 0) = oc (octs (posL l l.length - posL l j - 2) 2) 0 := by
    rw [hs, ← hp, oc_app_r, oc_app_l _ _ _ (by rw [octs_length]; omega)]
  have o1 : oc (bd (hdL l 0) 0 l) (posL l j + 1) = oc (octs (posL l l.length - posL l j - 2) 2) 1 := by
    rw [hs, ← hp, oc_app_r, oc_app_l _ _ _ (by rw [octs_length]; omega)]
  rw [Nat.add_zero] at o0
  refine ⟨?_, ?_, by omega⟩
  · rw [o0, o1]
    have hv : posL l l.length - posL l j - 2 < 65536 := by omega
    generalize posL l l.length - posL l j - 2 = v at *
    simp only [oc, octs, Nat.pow_one, Nat.pow_zero, Nat.div_one]
    simp
    omega
  · rw [hs, ← hp, List.drop_length_add_append]
    have h2 : (octs (posL l l.length - (bd (hdL l 0) 0 (l.take j)).length - 2) 2).length = 2 := octs_length _ _
    have h3 := List.drop_left (l₁ := octs (posL l l.length - (bd (hdL l 0) 0 (l.take j)).length - 2) 2) (l₂ := x.data.toList ++ bd (hdL l 0) (j + 1) (l.drop (j + 1)))
    rw [h2] at h3
    rw [h3, ← size_l x, List.take_left]
end Go.Proofs.Ytbemackcdccpaaa
