/-
  LAYER 8, PLAIN: a name that is read, step by step; where it ends.
-/
import Derived.WalkKit
namespace Go.Proofs.Ytbemackcdccpaaa
open Go.RowKit

/-- The octet at a place. -/
def oc (s : List UInt8) (i : Nat) : Nat := (s.getD i 0).toNat
theorem oc_lt (s : List UInt8) (i : Nat) : oc s i < 256 := (s.getD i 0).toNat_lt

/-- Where a name is read, where its run began, where it ends in the octets, how many pointers were followed, what was read. -/
structure Un where
  at_ : Nat
  begun : Nat
  fin : Int
  jumps : Nat
  out : List UInt8

inductive Ust where
  | done (x : Un)
  | bad (e : Int)
  | on (x : Un)

def Un.leave (x : Un) (n : Nat) : Int := if x.fin < 0 then ((x.at_ + n : Nat) : Int) else x.fin

def Un.lab (s : List UInt8) (x : Un) : Un := { x with at_ := x.at_ + 1 + oc s x.at_, out := x.out ++ (s.drop x.at_).take (1 + oc s x.at_) }
def Un.to (s : List UInt8) (x : Un) : Nat := (oc s x.at_ - 192) * 256 + oc s (x.at_ + 1)
def Un.jmp (s : List UInt8) (x : Un) : Un := ⟨x.to s, x.to s, x.leave 2, x.jumps + 1, x.out⟩

def Un.step (s : List UInt8) (follow : Bool) (x : Un) : Ust :=
  if s.length ≤ x.at_ then .bad 8
  else if oc s x.at_ = 0 then .done { x with fin := x.leave 1 }
  else if oc s x.at_ < 64 then
    if s.length < x.at_ + 1 + oc s x.at_ then .bad 8
    else if 254 < x.out.length + (1 + oc s x.at_) then .bad 3
    else .on (x.lab s)
  else if 192 ≤ oc s x.at_ ∧ follow = true then
    if s.length < x.at_ + 2 then .bad 8
    else if x.begun ≤ x.to s then .bad 4
    else .on (x.jmp s)
  else .bad 4

def Un.mu (s : List UInt8) (x : Un) : Nat := x.begun * (s.length + 1) + (s.length - x.at_)
theorem Un.step_mu {s : List UInt8} {f : Bool} {x y : Un} (h : x.step s f = .on y) : y.mu s < x.mu s := by
  unfold Un.step at h
  split at h
  · cases h
  · rename_i h1
    split at h
    · cases h
    · split at h
      · split at h
        · cases h
        · split at h
          · cases h
          · injection h with h
            subst h
            simp only [Un.mu, Un.lab]
            omega
      · split at h
        · split at h
          · cases h
          · split at h
            · cases h
            · rename_i h6
              injection h with h
              subst h
              simp only [Un.mu, Un.jmp]
              have h7 : (x.to s + 1) * (s.length + 1) ≤ x.begun * (s.length + 1) := Nat.mul_le_mul_right _ (by omega)
              rw [Nat.add_mul, Nat.one_mul] at h7
              omega
        · cases h

/-- The name read to its end. -/
def uread (s : List UInt8) (f : Bool) (x : Un) : Ust :=
  match _h : x.step s f with
  | .on y => uread s f y
  | .done y => .done y
  | .bad e => .bad e
termination_by x.mu s
decreasing_by exact Un.step_mu (by assumption)

theorem uread_on {s : List UInt8} {f : Bool} {x y : Un} (h : x.step s f = .on y) : uread s f x = uread s f y := by
  conv => lhs; rw [uread]
  split <;> rename_i h' <;> rw [h] at h' <;> cases h'
  rfl
theorem uread_done {s : List UInt8} {f : Bool} {x y : Un} (h : x.step s f = .done y) : uread s f x = .done y := by
  rw [uread]
  split <;> rename_i h' <;> rw [h] at h' <;> cases h'
  rfl
theorem uread_bad {s : List UInt8} {f : Bool} {x : Un} {e : Int} (h : x.step s f = .bad e) : uread s f x = .bad e := by
  rw [uread]
  split <;> rename_i h' <;> rw [h] at h' <;> cases h'
  rfl
/-- Reading ends. -/
theorem uread_cases (s : List UInt8) (f : Bool) (x : Un) : (∃ y, uread s f x = .done y) ∨ ∃ e, uread s f x = .bad e := by
  generalize hm : x.mu s = m
  induction m using Nat.strongRecOn generalizing x with
  | _ m ih =>
    cases h : x.step s f with
    | done y => exact .inl ⟨y, uread_done h⟩
    | bad e => exact .inr ⟨e, uread_bad h⟩
    | on y =>
      rw [uread_on h]
      exact ih (y.mu s) (hm ▸ Un.step_mu h) y rfl

def Ust.name : Ust → ByteArray
  | .done x => ⟨x.out.toArray⟩
  | _ => ⟨#[]⟩
def Ust.fin : Ust → Int
  | .done x => x.fin
  | _ => 0
def Ust.err : Ust → Int
  | .bad e => e
  | _ => 0
def Ust.jumps : Ust → Int
  | .done x => x.jumps
  | _ => 0

/-- A name read at a place. -/
def nameAt (s : ByteArray) (at_ : Int) (f : Bool) : Ust :=
  if at_ < 0 ∨ (s.size : Int) < at_ then .bad 2 else uread s.data.toList f ⟨at_.toNat, at_.toNat, -1, 0, []⟩

/-- Where a name ends. -/
def skipL (s : List UInt8) (a : Nat) : Int × Int :=
  if s.length ≤ a then (0, 8)
  else if oc s a = 0 then (((a + 1 : Nat) : Int), 0)
  else if 192 ≤ oc s a then if s.length < a + 2 then (0, 8) else (((a + 2 : Nat) : Int), 0)
  else if 64 ≤ oc s a then (0, 4)
  else if s.length < a + 1 + oc s a then (0, 8)
  else skipL s (a + 1 + oc s a)
termination_by s.length - a
def skipAt (s : ByteArray) (at_ : Int) : Int × Int := if at_ < 0 ∨ (s.size : Int) < at_ then (0, 2) else skipL s.data.toList at_.toNat

/-- May a name be? -/
def ckAt (s : List UInt8) (a : Nat) : Int :=
  if s.length ≤ a then 0
  else if oc s a < 1 ∨ 63 < oc s a ∨ s.length < a + 1 + oc s a then 4
  else ckAt s (a + 1 + oc s a)
termination_by s.length - a
def ckN (s : ByteArray) : Int := if 254 < s.size then 3 else ckAt s.data.toList 0

end Go.Proofs.Ytbemackcdccpaaa
