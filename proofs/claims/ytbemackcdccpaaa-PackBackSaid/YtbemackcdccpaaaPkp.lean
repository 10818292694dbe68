/-
  LAYER 7, PLAIN: a packer, as what is written, which rest of a name stands where, which lengths were begun.
-/
import Derived.Test.YtbemackcdccpaaaUnpk
import Derived.Test.YtbemackcdccpaaaOctb
namespace Go.Proofs.Ytbemackcdccpaaa
open Go.RowKit

structure Pk where
  x : Wst
  get : List UInt8 → Option Nat

/-- A rest of a name is put. -/
def Pk.rest (p : Pk) (n : List UInt8) : Pk × Int :=
  if _h : n = [] then ({ p with x := (p.x.put [0]).1 }, (p.x.put [0]).2)
  else match p.get n with
  | some a => ({ p with x := (p.x.number (49152 + a) 2).1 }, (p.x.number (49152 + a) 2).2)
  | none =>
    if (p.x.put (n.take (1 + oc n 0))).2 = 0 then Pk.rest ⟨(p.x.put (n.take (1 + oc n 0))).1, updAt p.get n p.x.b.length⟩ (n.drop (1 + oc n 0))
    else ({ p with x := (p.x.put (n.take (1 + oc n 0))).1 }, (p.x.put (n.take (1 + oc n 0))).2)
termination_by n.length
decreasing_by
  rw [List.length_drop]
  have := List.length_pos_iff.2 (by assumption)
  omega
theorem Pk.rest_nil (p : Pk) : p.rest [] = ({ p with x := (p.x.put [0]).1 }, (p.x.put [0]).2) := by rw [Pk.rest]; rfl
theorem Pk.rest_some {p : Pk} {n : List UInt8} {a : Nat} (hn : n ≠ []) (h : p.get n = some a) : p.rest n = ({ p with x := (p.x.number (49152 + a) 2).1 }, (p.x.number (49152 + a) 2).2) := by
  rw [Pk.rest, dif_neg hn, h]
theorem Pk.rest_go {p : Pk} {n : List UInt8} (hn : n ≠ []) (h : p.get n = none) (h0 : (p.x.put (n.take (1 + oc n 0))).2 = 0) :
    p.rest n = Pk.rest ⟨(p.x.put (n.take (1 + oc n 0))).1, updAt p.get n p.x.b.length⟩ (n.drop (1 + oc n 0)) := by
  rw [Pk.rest, dif_neg hn, h]
  dsimp only
  rw [if_pos h0]
theorem Pk.rest_stop {p : Pk} {n : List UInt8} (hn : n ≠ []) (h : p.get n = none) (h0 : (p.x.put (n.take (1 + oc n 0))).2 ≠ 0) :
    p.rest n = ({ p with x := (p.x.put (n.take (1 + oc n 0))).1 }, (p.x.put (n.take (1 + oc n 0))).2) := by
  rw [Pk.rest, dif_neg hn, h]
  dsimp only
  rw [if_neg h0]

/-- A name is put. -/
def Pk.name (p : Pk) (n : ByteArray) : Pk × Int :=
  if p.x.e ≠ 0 then (p, p.x.e) else if ckN n ≠ 0 then (p, ckN n) else p.rest n.data.toList
/-- A name is put without pointers. -/
def Pk.plain (p : Pk) (n : ByteArray) : Pk × Int :=
  if p.x.e ≠ 0 then (p, p.x.e) else if ckN n ≠ 0 then (p, ckN n) else ({ p with x := (p.x.put (n.data.toList ++ [0])).1 }, (p.x.put (n.data.toList ++ [0])).2)

/-- Where there is room nothing fails. -/
theorem Wst.put_ok {x : Wst} {l : List UInt8} (he : x.e = 0) (h : (x.b.length : Int) + l.length ≤ x.most) : x.put l = ({ x with b := x.b ++ l }, 0) := by
  unfold Wst.put
  rw [if_neg (by simp [he]), if_neg (by omega)]
theorem ptr_octs (a : Nat) (_h : a < 16384) : octs (49152 + a) 2 = ptr a := by
  simp only [octs, ptr, Nat.pow_one, Nat.pow_zero, Nat.div_one]
  have e1 : (49152 + a) / 256 = 192 + a / 256 := by omega
  rw [e1]
  congr 2
  apply UInt8.toNat_inj.1
  simp
end Go.Proofs.Ytbemackcdccpaaa
