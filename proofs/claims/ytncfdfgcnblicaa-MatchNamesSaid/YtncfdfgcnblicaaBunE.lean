/-
  TEXTS OF THIS CLAIM, TOGETHER: Dck, Dkl, Dsz, Dch, Dda, Ddb.
-/
import Derived.Test.YtncfdfgcnblicaaBunD
import Derived.Test.YtncfdfgcnblicaaBunB
import Derived.Deep.DeepCutAuto
import Derived.Deep.Light
import Derived.Deep.RegionLaw
/-
  LAYER 9: whether data may be: the program's looks at it.
-/
namespace Go.Proofs.Ytncfdfgcnblicaa
set_option linter.unusedVariables false
set_option linter.unusedSimpArgs false
open Go.RowKit

/-- Data in memory, cell by cell; t: the texts' slice. -/
def Dt.cells (d : Dt) (t : Value) : Array Value := #[.bool d.six, .int .u64 d.hi, .int .u64 d.lo, .string d.name, .string d.mail, .int .u32 d.n0, .int .u32 d.n1, .int .u32 d.n2, .int .u32 d.n3, .int .u32 d.n4, t, .string d.raw]
def Dt.val (d : Dt) (t : Value) : Value := .agg (d.cells t)

/-- What the first look says: there is something that the type has not. -/
def bare1 (w : Wh) (d : Dt) : Bool := (decide ((w.names : Int) < 1) && !d.name.toList.isEmpty) || (decide ((w.names : Int) < 2) && !d.mail.toList.isEmpty) || (!w.raw && !d.raw.toList.isEmpty) || (!(w.texts == decide (0 < d.texts.length)))

def bare2 (w : Wh) (d : Dt) : Bool := decide (w.addr = 0) && !decide (d.six = false ∧ d.hi = 0 ∧ d.lo = 0)
def bare3 (w : Wh) (d : Dt) : Bool := decide (0 < w.addr) && ((adrCk d.six d.hi d.lo != 0) || (d.six != (w.addr == 16)))
def bare4 (w : Wh) (d : Dt) (i : Nat) : Bool := (decide (w.nums ≤ i) && (d.num i != 0)) || ((w.wide == 2) && decide (65535 < d.num i))

def bareB (w : Wh) (d : Dt) : Bool := if bare1 w d = true then false else if bare2 w d = true then false else if bare3 w d = true then false else (List.range 5).all fun i => !bare4 w d i
theorem all_no {f : Nat → Bool} {k : Nat} (hk : k < 5) (h : f k = true) : ((List.range 5).all fun i => !f i) = false := by
  rw [List.all_eq_false]
  exact ⟨k, List.mem_range.2 hk, by rw [h]; decide⟩
theorem all_yes {f : Nat → Bool} (h : ∀ j, j < 5 → f j = false) : ((List.range 5).all fun i => !f i) = true := by
  rw [List.all_eq_true]
  intro j hj
  rw [h j (List.mem_range.1 hj)]
  rfl
def BoolPost (W : World) (b : Bool) (e : Ending) (w' : World) : Prop := e = .returned (.bool b) ∧ Fr (fun _ => False) W w'
theorem run_index5 (n0 n1 n2 n3 n4 : Nat) (k : Nat) (hk : k < 5) (w : World) :
    (Instr.index 58 (.agg #[.int .u32 n0, .int .u32 n1, .int .u32 n2, .int .u32 n3, .int .u32 n4]) (.int .i64 k)).run Try.prog w = .ok (.int .u32 (Dt.num ⟨false, 0, 0, ⟨#[]⟩, ⟨#[]⟩, n0, n1, n2, n3, n4, [], ⟨#[]⟩⟩ k : Nat)) w := by
  rcases (show k = 0 ∨ k = 1 ∨ k = 2 ∨ k = 3 ∨ k = 4 by omega) with rfl | rfl | rfl | rfl | rfl <;> kernel_rfl

end Go.Proofs.Ytncfdfgcnblicaa

/-
  LAYER 9: small functions on data: is a text too long; are texts the same; is data light.
-/
namespace Go.Proofs.Ytncfdfgcnblicaa
set_option linter.unusedVariables false
set_option linter.unusedSimpArgs false
open Go.RowKit

theorem Strs.form {W : World} {A : Option Addr} {l : List ByteArray} (h : Strs W A l) :
    l = [] ∨ ∃ b off, A = some ⟨b, off, none⟩ ∧ b < W.heap.size ∧ ∀ i x, l[i]? = some x → W.cell? ⟨b, off + i, none⟩ = some (.string x) := by
  rcases List.eq_nil_or_concat l with rfl | ⟨r, x, rfl⟩
  · exact .inl rfl
  · obtain ⟨b, off, h1, h2, h3⟩ := h (by simp)
    refine .inr ⟨b, off, h1, h2, fun i y hy => h3 i _ ?_⟩
    rw [List.getElem?_map, hy]
    rfl
theorem Strs.fr {w w' : World} {A : Option Addr} {l : List ByteArray} {S : Nat → Prop} (h : Strs w A l) (hf : Fr S w w') (hs : ∀ k, rowOf A k → ¬ S k) : Strs w' A l := by
  intro h0
  obtain ⟨b, off, rfl, h2, h3⟩ := h h0
  refine ⟨b, off, rfl, Nat.lt_of_lt_of_le h2 hf.size, fun i x hx => (hf.cell (p := ⟨b, off + i, none⟩) h2 (hs b ⟨_, rfl, rfl⟩)).trans (h3 i x hx)⟩
theorem Strs.fr0 {w w' : World} {A : Option Addr} {l : List ByteArray} (h : Strs w A l) (hf : Fr (fun _ => False) w w') : Strs w' A l := h.fr hf fun _ _ => id
theorem Strs.nil (w : World) (A : Option Addr) : Strs w A [] := fun h => by simp at h

def IdxPost (w : World) (l : List ByteArray) (e : Ending) (w' : World) : Prop := ∃ r : Int, e = .returned (.int .i64 r) ∧ (0 ≤ r ↔ ∃ x ∈ l, 255 < x.size) ∧ w = w'
def longB (l : List ByteArray) : Bool := l.any fun x => decide (255 < x.size)
theorem longB_iff (l : List ByteArray) : longB l = true ↔ ∃ x ∈ l, 255 < x.size := by simp [longB]
/-- How much is gone through. -/
def Dt.light (d : Dt) : Nat := d.raw.size + d.name.size + d.mail.size + textsLen d.texts
end Go.Proofs.Ytncfdfgcnblicaa

/-
  LAYER 9: how many octets data has: the program's reckoning.
-/
namespace Go.Proofs.Ytncfdfgcnblicaa
set_option linter.unusedVariables false
set_option linter.unusedSimpArgs false
open Go.RowKit

theorem textsLen_append : ∀ (a b : List ByteArray), textsLen (a ++ b) = textsLen a + textsLen b
  | [], b => by simp [textsLen]
  | x :: r, b => by simp [textsLen, textsLen_append r b]; omega
theorem textsLen_snoc {l : List ByteArray} {k : Nat} {x : ByteArray} (h : l[k]? = some x) : textsLen (l.take (k + 1)) = textsLen (l.take k) + (1 + x.size) := by
  obtain ⟨hk, hx⟩ := List.getElem?_eq_some_iff.1 h
  rw [List.take_succ_eq_append_getElem hk, textsLen_append, hx]
  simp [textsLen]
theorem textsLen_le {l : List ByteArray} (h : ∀ x ∈ l, x.size ≤ 255) : textsLen l ≤ 256 * l.length := by
  induction l with
  | nil => simp [textsLen]
  | cons x r ih =>
    have h1 := ih fun y hy => h y (by simp [hy])
    have h2 := h x (by simp)
    simp [textsLen]
    omega
theorem textsLen_take_le (l : List ByteArray) (k : Nat) : textsLen (l.take k) ≤ textsLen l := by
  conv => rhs; rw [← List.take_append_drop k l, textsLen_append]
  omega
/-- The names' part. -/
def namesLen (w : Wh) (d : Dt) : Nat := (if 1 ≤ w.names then d.name.size + 1 else 0) + (if 2 ≤ w.names then d.mail.size + 1 else 0)
theorem Dt.size_eq (d : Dt) (w : Wh) : d.size w = w.addr + w.nums * w.wide + d.raw.size + namesLen w d + textsLen d.texts := by unfold Dt.size namesLen; omega

def IntPost (W : World) (n : Int) (e : Ending) (w' : World) : Prop := e = .returned (.int .i64 n) ∧ Fr (fun _ => False) W w'
end Go.Proofs.Ytncfdfgcnblicaa

/-
  LAYER 9: may data be: check, Size, Check.
-/
namespace Go.Proofs.Ytncfdfgcnblicaa
set_option linter.unusedVariables false
set_option linter.unusedSimpArgs false
open Go.RowKit

theorem isEmpty_iff (x : ByteArray) : x.toList.isEmpty = true ↔ x = ⟨#[]⟩ := by
  constructor
  · intro h
    refine Classical.byContradiction fun hn => ?_
    rw [(nonempty_facts hn).1] at h
    cases h
  · rintro rfl
    rw [ByteArray.toList_eq]
    rfl
theorem isEmpty_no (x : ByteArray) : x.toList.isEmpty = false ↔ x ≠ ⟨#[]⟩ := by
  rw [← Bool.not_eq_true, isEmpty_iff]
theorem bare1_no (w : Wh) (d : Dt) : bare1 w d = false ↔ (w.names < 1 → d.name = ⟨#[]⟩) ∧ (w.names < 2 → d.mail = ⟨#[]⟩) ∧ (w.raw = false → d.raw = ⟨#[]⟩) ∧ (w.texts = true ↔ d.texts ≠ []) := by
  unfold bare1
  simp only [Bool.or_eq_false_iff, Bool.and_eq_false_iff, Bool.not_eq_false', isEmpty_iff, decide_eq_false_iff_not, beq_iff_eq]
  have e1 : (¬ (w.names : Int) < 1 ∨ d.name = ⟨#[]⟩) ↔ (w.names < 1 → d.name = ⟨#[]⟩) := by
    constructor
    · rintro (h | h) g
      · omega
      · exact h
    · intro h
      by_cases g : w.names < 1
      · exact .inr (h g)
      · exact .inl (by omega)
  have e2 : (¬ (w.names : Int) < 2 ∨ d.mail = ⟨#[]⟩) ↔ (w.names < 2 → d.mail = ⟨#[]⟩) := by
    constructor
    · rintro (h | h) g
      · omega
      · exact h
    · intro h
      by_cases g : w.names < 2
      · exact .inr (h g)
      · exact .inl (by omega)
  have e3 : (w.raw = true ∨ d.raw = ⟨#[]⟩) ↔ (w.raw = false → d.raw = ⟨#[]⟩) := by cases w.raw <;> simp
  have e4 : (w.texts = decide (0 < d.texts.length)) ↔ (w.texts = true ↔ d.texts ≠ []) := by
    rw [Bool.eq_iff_iff, decide_eq_true_eq, List.length_pos_iff]
  rw [e1, e2, e3, e4]
  simp only [and_assoc]
theorem bare2_no (w : Wh) (d : Dt) : bare2 w d = false ↔ (w.addr = 0 → d.six = false ∧ d.hi = 0 ∧ d.lo = 0) := by
  unfold bare2
  simp only [Bool.and_eq_false_iff, Bool.not_eq_false', decide_eq_false_iff_not, decide_eq_true_eq]
  constructor
  · rintro (h | h) g
    · exact absurd g h
    · exact h
  · intro h
    by_cases g : w.addr = 0
    · exact .inr (h g)
    · exact .inl g
theorem bare3_no (w : Wh) (d : Dt) : bare3 w d = false ↔ (0 < w.addr → (d.six = false → d.hi = 0 ∧ d.lo < 4294967296) ∧ (d.six = true ↔ w.addr = 16)) := by
  unfold bare3
  simp only [Bool.and_eq_false_iff, Bool.or_eq_false_iff, bne_eq_false_iff_eq, decide_eq_false_iff_not]
  have e : adrCk d.six d.hi d.lo = 0 ↔ (d.six = false → d.hi = 0 ∧ d.lo < 4294967296) := by
    unfold adrCk
    constructor
    · intro h hs
      split at h
      · cases h
      · rename_i hn
        exact Classical.not_not.1 fun g => hn ⟨hs, g⟩
    · intro h
      rw [if_neg]
      rintro ⟨g1, g2⟩
      exact g2 (h g1)
  have e2 : (d.six = (w.addr == 16)) ↔ (d.six = true ↔ w.addr = 16) := by rw [Bool.eq_iff_iff, beq_iff_eq]
  rw [e, e2]
  constructor
  · rintro (h | h) g
    · exact absurd g h
    · exact h
  · intro h
    by_cases g : 0 < w.addr
    · exact .inr (h g)
    · exact .inl g
theorem bare4_no (w : Wh) (d : Dt) (i : Nat) : bare4 w d i = false ↔ (w.nums ≤ i → d.num i = 0) ∧ (w.wide = 2 → d.num i ≤ 65535) := by
  unfold bare4
  by_cases a : w.nums ≤ i <;> by_cases b : d.num i = 0 <;> by_cases c : w.wide = 2 <;> by_cases e : 65535 < d.num i <;> simp [a, b, c, e] <;> omega
theorem bareB_iff (w : Wh) (d : Dt) : bareB w d = true ↔ d.bare w := by
  unfold bareB Dt.bare
  by_cases h1 : bare1 w d = true
  · rw [if_pos h1]
    refine ⟨(fun h => by cases h), fun h => ?_⟩
    have := (bare1_no w d).2 ⟨h.1, h.2.1, h.2.2.1, h.2.2.2.1⟩
    rw [h1] at this
    cases this
  · rw [if_neg h1]
    have g1 := (bare1_no w d).1 (by simpa using h1)
    by_cases h2 : bare2 w d = true
    · rw [if_pos h2]
      refine ⟨(fun h => by cases h), fun h => ?_⟩
      have := (bare2_no w d).2 h.2.2.2.2.1
      rw [h2] at this
      cases this
    · rw [if_neg h2]
      have g2 := (bare2_no w d).1 (by simpa using h2)
      by_cases h3 : bare3 w d = true
      · rw [if_pos h3]
        refine ⟨(fun h => by cases h), fun h => ?_⟩
        have := (bare3_no w d).2 h.2.2.2.2.2.1
        rw [h3] at this
        cases this
      · rw [if_neg h3]
        have g3 := (bare3_no w d).1 (by simpa using h3)
        rw [List.all_eq_true]
        constructor
        · intro h
          have h4 : ∀ i, i < 5 → bare4 w d i = false := fun i hi => by simpa using h i (List.mem_range.2 hi)
          exact ⟨g1.1, g1.2.1, g1.2.2.1, g1.2.2.2, g2, g3, fun i hi => ((bare4_no w d i).1 (h4 i hi)).1, fun hw i hi => ((bare4_no w d i).1 (h4 i hi)).2 hw⟩
        · intro h i hi
          have hi := List.mem_range.1 hi
          rw [(bare4_no w d i).2 ⟨h.2.2.2.2.2.2.1 i hi, fun hw => h.2.2.2.2.2.2.2 hw i hi⟩]
          rfl
/-- The same, to be reckoned. -/
def dcheckB0 (t : Int) (d : Dt) : Int :=
  if 0 ≤ t ∧ t ≤ 65535 ∧ bareB (whatN t) d = true then
    if ckN d.name ≠ 0 then ckN d.name else if ckN d.mail ≠ 0 then ckN d.mail else if longB d.texts = true then 3 else 0
  else 2
theorem dcheckB0_eq (t : Int) (d : Dt) : dcheckB0 t d = dcheck0 t d := by
  unfold dcheckB0 dcheck0
  have e1 : (0 ≤ t ∧ t ≤ 65535 ∧ bareB (whatN t) d = true) = (0 ≤ t ∧ t ≤ 65535 ∧ d.bare (whatN t)) := by rw [bareB_iff]
  have e2 : (longB d.texts = true) = (∃ x ∈ d.texts, 255 < x.size) := propext (longB_iff _)
  simp only [e1, e2]
  congr

theorem dcells {w : World} {q : Nat} {d : Dt} {A : Option Addr} {cap : Nat} (h : Blk w q 61 (d.cells (.slice A d.texts.length cap))) : w.cell? ⟨q, 0, none⟩ = some (.bool d.six) ∧ w.cell? ⟨q, 1, none⟩ = some (.int .u64 d.hi) ∧ w.cell? ⟨q, 2, none⟩ = some (.int .u64 d.lo) ∧ w.cell? ⟨q, 3, none⟩ = some (.string d.name) ∧ w.cell? ⟨q, 4, none⟩ = some (.string d.mail) ∧ w.cell? ⟨q, 5, none⟩ = some (.int .u32 d.n0) ∧ w.cell? ⟨q, 6, none⟩ = some (.int .u32 d.n1) ∧ w.cell? ⟨q, 7, none⟩ = some (.int .u32 d.n2) ∧ w.cell? ⟨q, 8, none⟩ = some (.int .u32 d.n3) ∧ w.cell? ⟨q, 9, none⟩ = some (.int .u32 d.n4) ∧ w.cell? ⟨q, 10, none⟩ = some (.slice A d.texts.length cap) ∧ w.cell? ⟨q, 11, none⟩ = some (.string d.raw) := by
  refine ⟨h.cell 0, h.cell 1, h.cell 2, h.cell 3, h.cell 4, h.cell 5, h.cell 6, h.cell 7, h.cell 8, h.cell 9, h.cell 10, h.cell 11⟩

theorem num_cell {w : World} {p : Nat} {d : Dt} {t : Value} (h : Blk w p 61 (d.cells t)) {i : Nat} (hi : i < 5) : w.cell? ⟨p, 5 + i, none⟩ = some (.int .u32 (d.num i : Nat)) := by
  rw [h.cell]
  rcases (show i = 0 ∨ i = 1 ∨ i = 2 ∨ i = 3 ∨ i = 4 by omega) with rfl | rfl | rfl | rfl | rfl <;> rfl

/-- Data as it lies, with what is asked of it. -/
structure DtIn (w : World) (A : Option Addr) (d : Dt) : Prop where
  hi : d.hi < 18446744073709551616
  lo : d.lo < 18446744073709551616
  num : ∀ i, d.num i < 4294967296
  txt : Strs w A d.texts
  len : d.texts.length ≤ 1000000000
  raw : d.raw.size ≤ 1000000000000
theorem DtIn.fr {w w' : World} {A : Option Addr} {d : Dt} {S : Nat → Prop} (h : DtIn w A d) (hf : Fr S w w') (hs : ∀ k, rowOf A k → ¬ S k) : DtIn w' A d := ⟨h.hi, h.lo, h.num, h.txt.fr hf hs, h.len, h.raw⟩
theorem DtIn.fr0 {w w' : World} {A : Option Addr} {d : Dt} (h : DtIn w A d) (hf : Fr (fun _ => False) w w') : DtIn w' A d := h.fr hf fun _ _ => id
theorem DtIn.ok {w : World} {A : Option Addr} {d : Dt} (h : DtIn w A d) : d.ok := ⟨h.hi, h.lo, h.num⟩

def dsizeB (t : Int) (d : Dt) : Int := if dcheckB0 t d = 0 then (d.size (whatN t) : Int) else 0
def dcheckB (t : Int) (d : Dt) : Int := if dcheckB0 t d ≠ 0 then dcheckB0 t d else if 65535 < d.size (whatN t) then 3 else 0
theorem dcheckB_eq (t : Int) (d : Dt) : dcheckB t d = dcheck t d := by unfold dcheckB dcheck; rw [dcheckB0_eq]

end Go.Proofs.Ytncfdfgcnblicaa

/-
  LAYER 9: the cursor's data: what is known at each step; the numbers.
-/
namespace Go.Proofs.Ytncfdfgcnblicaa
set_option linter.unusedVariables false
set_option linter.unusedSimpArgs false
open Go.RowKit

def Dt.withN (d : Dt) (l : List Nat) : Dt := { d with n0 := l.getD 0 0, n1 := l.getD 1 0, n2 := l.getD 2 0, n3 := l.getD 3 0, n4 := l.getD 4 0 }
theorem withN_set (d : Dt) (t : Value) (l : List Nat) (v : Nat) (h : l.length < 5) : ((d.withN l).cells t).setIfInBounds (5 + l.length) (.int .u32 (v : Nat)) = (d.withN (l ++ [v])).cells t := by
  match l, h with
  | [], _ => rfl
  | [a], _ => rfl
  | [a, b], _ => rfl
  | [a, b, c], _ => rfl
  | [a, b, c, e], _ => rfl

section
variable {w0 w w' : World} {p r : Nat} {s : ByteArray} {en : Nat} {c c' : Cu} {p2 p8 pd : Nat} {wh : Wh} {tx : ByteArray} {d d' : Dt} {t t' : Value}
end

theorem run_numAddr (p i : Nat) (hi : i < 5) (w : World) : (Instr.indexAt 58 (.pointer (some ⟨p, 5, none⟩)) (.int .i64 i)).run Try.prog w = .ok (.pointer (some ⟨p, 5 + i, none⟩)) w := by
  rcases (show i = 0 ∨ i = 1 ∨ i = 2 ∨ i = 3 ∨ i = 4 by omega) with rfl | rfl | rfl | rfl | rfl <;> kernel_rfl

end Go.Proofs.Ytncfdfgcnblicaa

/-
  LAYER 9: the cursor's data.
-/
namespace Go.Proofs.Ytncfdfgcnblicaa
set_option linter.unusedVariables false
set_option linter.unusedSimpArgs false
open Go.RowKit

/-! ### The data's parts, read one by one, as steps -/
def ddA (S : List UInt8) (en : Nat) (w : Wh) (c : Cu) : Dt × Cu :=
  if 0 < w.addr then ({ Dt.zero with six := (addrOf (c.take S en w.addr).1).1, hi := (addrOf (c.take S en w.addr).1).2.1, lo := (addrOf (c.take S en w.addr).1).2.2 }, (c.take S en w.addr).2) else (Dt.zero, c)
def ddN (S : List UInt8) (en : Nat) (w : Wh) (x : Dt × Cu) : Dt × Cu := (x.1.withN (Cu.nums S en w.wide w.nums x.2).1, (Cu.nums S en w.wide w.nums x.2).2)
def ddM (S : List UInt8) (en : Nat) (w : Wh) (x : Dt × Cu) : Dt × Cu := ({ x.1 with name := ⟨(x.2.name S en w.plain).1.toArray⟩ }, (x.2.name S en w.plain).2)
def ddQ (S : List UInt8) (en : Nat) (w : Wh) (x : Dt × Cu) : Dt × Cu := ({ x.1 with mail := ⟨(x.2.name S en w.plain).1.toArray⟩ }, (x.2.name S en w.plain).2)
def ddB (S : List UInt8) (en : Nat) (w : Wh) (x : Dt × Cu) : Nat → Dt × Cu
  | 0 => x
  | 1 => ddM S en w x
  | _ => ddQ S en w (ddM S en w x)
def ddT (S : List UInt8) (en : Nat) (w : Wh) (x : Dt × Cu) : Dt × Cu :=
  if w.texts = true then ({ x.1 with texts := (Cu.texts S en (en + 1) x.2).1.map fun l => ⟨l.toArray⟩ }, (Cu.texts S en (en + 1) x.2).2) else x
def ddR (S : List UInt8) (en : Nat) (w : Wh) (x : Dt × Cu) : Dt × Cu :=
  if w.raw = true then ({ x.1 with raw := ⟨(x.2.take S en (en - x.2.at_)).1.toArray⟩ }, (x.2.take S en (en - x.2.at_)).2) else x
def ddAll (S : List UInt8) (en : Nat) (w : Wh) (c : Cu) : Dt × Cu :=
  ddR S en w (ddT S en w (if w.first = true then ddB S en w (ddN S en w (ddA S en w c)) w.names else ddN S en w (ddB S en w (ddA S en w c) w.names)))
theorem withN_nil (d : Dt) : d.withN [] = { d with n0 := 0, n1 := 0, n2 := 0, n3 := 0, n4 := 0 } := rfl
theorem ddAll_eq (S : List UInt8) (en at_ : Nat) (w : Wh) (hw : ∃ t, w = whatN t) : ddAll S en w ⟨at_, 0⟩ = dreadB S en w at_ := by
  obtain ⟨t, rfl⟩ := hw
  rcases whatN_cases t with h | h | h | h | h | h | h | h <;> rw [h] <;> rfl
end Go.Proofs.Ytncfdfgcnblicaa
