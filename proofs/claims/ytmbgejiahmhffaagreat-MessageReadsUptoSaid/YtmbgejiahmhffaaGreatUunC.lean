/-
  TEXTS OF THIS CLAIM, TOGETHER: Nil3, Patch3, Dtp, Dtr, Dtq, Dtn, Dtc, Rcp, Rcu, Rcr, Pkm, Dtr2.
-/
import Derived.Test.YtmbgejiahmhffaaGreatUunB
import Derived.Test.YtmbgejiahmhffaaGreatUunA
/-
  WALKS: 'OctetsNil', 'OctetsNames', 'OctetsPatches', 'OctetsBack', 'OctetsRead' of chapter 3.
-/
namespace Go.Proofs.YtmbgejiahmhffaaGreat
open Go.RowKit

/-- A reader at p, a writer at q, both made since there were B blocks. -/
def RW (B : Nat) (w0 w : World) (p : Nat) (x : Rst) (q : Nat) (F : Nat → Prop) (y : Wst) : Prop :=
  Rd w p x ∧ Wr w q F y ∧ ¬ F p ∧ (∀ k, F k → B ≤ k) ∧ B ≤ p ∧ Below B w0 w
theorem RW.read {B : Nat} {w0 w w' : World} {p q : Nat} {x x' : Rst} {F : Nat → Prop} {y : Wst} (h : RW B w0 w p x q F y) (h' : Rd w' p x') (f : Fr (· = p) w w') : RW B w0 w' p x' q F y := by
  obtain ⟨h1, h2, h3, h4, h5, h6⟩ := h
  exact ⟨h', h2.fr f (fun k hk e => h3 (e ▸ hk)), h3, h4, h5, h6.trans (f.below (fun k e => by omega) (Nat.le_trans h5 (Nat.le_of_lt h1.1.lt)))⟩
theorem RW.drewN {B : Nat} {w0 w : World} {p q : Nat} {x : Rst} {F : Nat → Prop} {y : Wst} (h : RW B w0 w p x q F y) (n : Nat) : RW B w0 (w.drewN n) p x q F y :=
  h.read (h.1.fr (S := fun _ => False) ((Fr.refl _ _).drewN n) id) ((Fr.refl _ _).drewN n)
end Go.Proofs.YtmbgejiahmhffaaGreat

/-
  THE WALK OF 'OctetsPatches' (chapter 3).
-/
namespace Go.Proofs.YtmbgejiahmhffaaGreat
open Go.RowKit

theorem numOf_octs (v n : Nat) (h : v < 256 ^ n) : ∀ a : Nat, (octs v n).foldl (fun v b => v * 256 + b.toNat) a = a * 256 ^ n + v := by
  have key : ∀ (n v a : Nat), (octs v n).foldl (fun v b => v * 256 + b.toNat) a = a * 256 ^ n + v % 256 ^ n := by
    intro n
    induction n with
    | zero => intro v a; simp [octs, Nat.mod_one]
    | succ n ih =>
      intro v a
      rw [octs, List.foldl_cons, ih]
      have e1 : (UInt8.ofNat (v / 256 ^ n)).toNat = v / 256 ^ n % 256 := by simp
      rw [e1, Nat.pow_succ, Nat.mod_mul, Nat.add_mul, Nat.mul_assoc, Nat.mul_comm 256, Nat.add_assoc, Nat.mul_comm (v / 256 ^ n % 256), Nat.add_comm (256 ^ n * _)]
  intro a
  rw [key, Nat.mod_eq_of_lt h]
end Go.Proofs.YtmbgejiahmhffaaGreat

/-
  LAYER 9, PLAIN: data of a record, what a type has, what is put. No program.
-/
namespace Go.Proofs.YtmbgejiahmhffaaGreat
open Go.RowKit
variable {K : Nat}

/-- Data. -/
structure Dt where
  six : Bool
  hi : Nat
  lo : Nat
  name : ByteArray
  mail : ByteArray
  n0 : Nat
  n1 : Nat
  n2 : Nat
  n3 : Nat
  n4 : Nat
  texts : List ByteArray
  raw : ByteArray
def Dt.zero : Dt := ⟨false, 0, 0, ⟨#[]⟩, ⟨#[]⟩, 0, 0, 0, 0, 0, [], ⟨#[]⟩⟩
def Dt.num (d : Dt) : Nat → Nat
  | 0 => d.n0 | 1 => d.n1 | 2 => d.n2 | 3 => d.n3 | _ => d.n4
/-- What data that came in may be. -/
def Dt.ok (d : Dt) : Prop := d.hi < 18446744073709551616 ∧ d.lo < 18446744073709551616 ∧ ∀ i, d.num i < 4294967296
/-- What a type has. -/
structure Wh where
  addr : Nat
  names : Nat
  plain : Bool
  first : Bool
  nums : Nat
  wide : Nat
  texts : Bool
  raw : Bool
deriving DecidableEq
def whatN (t : Int) : Wh :=
  if t = 1 then ⟨4, 0, false, false, 0, 0, false, false⟩
  else if t = 28 then ⟨16, 0, false, false, 0, 0, false, false⟩
  else if t = 2 ∨ t = 5 ∨ t = 12 then ⟨0, 1, false, false, 0, 0, false, false⟩
  else if t = 6 then ⟨0, 2, false, false, 5, 4, false, false⟩
  else if t = 15 then ⟨0, 1, false, true, 1, 2, false, false⟩
  else if t = 33 then ⟨0, 1, true, true, 3, 2, false, false⟩
  else if t = 16 then ⟨0, 0, false, false, 0, 0, true, false⟩
  else ⟨0, 0, false, false, 0, 0, false, true⟩
theorem whatN_cases (t : Int) : whatN t = ⟨4, 0, false, false, 0, 0, false, false⟩ ∨ whatN t = ⟨16, 0, false, false, 0, 0, false, false⟩ ∨ whatN t = ⟨0, 1, false, false, 0, 0, false, false⟩ ∨ whatN t = ⟨0, 2, false, false, 5, 4, false, false⟩ ∨
    whatN t = ⟨0, 1, false, true, 1, 2, false, false⟩ ∨ whatN t = ⟨0, 1, true, true, 3, 2, false, false⟩ ∨ whatN t = ⟨0, 0, false, false, 0, 0, true, false⟩ ∨ whatN t = ⟨0, 0, false, false, 0, 0, false, true⟩ := by
  unfold whatN
  repeat' split
  all_goals simp
/-- Is there nothing that the type has not, and all that it has? -/
def Dt.bare (d : Dt) (w : Wh) : Prop :=
  (w.names < 1 → d.name = ⟨#[]⟩) ∧ (w.names < 2 → d.mail = ⟨#[]⟩) ∧ (w.raw = false → d.raw = ⟨#[]⟩) ∧ (w.texts = true ↔ d.texts ≠ []) ∧
  (w.addr = 0 → d.six = false ∧ d.hi = 0 ∧ d.lo = 0) ∧ (0 < w.addr → (d.six = false → d.hi = 0 ∧ d.lo < 4294967296) ∧ (d.six = true ↔ w.addr = 16)) ∧
  (∀ i, i < 5 → w.nums ≤ i → d.num i = 0) ∧ (w.wide = 2 → ∀ i, i < 5 → d.num i ≤ 65535)
def textsLen : List ByteArray → Nat
  | [] => 0
  | x :: r => 1 + x.size + textsLen r
def Dt.size (d : Dt) (w : Wh) : Nat := w.addr + w.nums * w.wide + d.raw.size + (if 1 ≤ w.names then d.name.size + 1 else 0) + (if 2 ≤ w.names then d.mail.size + 1 else 0) + textsLen d.texts
open Classical in
noncomputable def dcheck0 (t : Int) (d : Dt) : Int :=
  if 0 ≤ t ∧ t ≤ 65535 ∧ d.bare (whatN t) then
    if ckN d.name ≠ 0 then ckN d.name else if ckN d.mail ≠ 0 then ckN d.mail else if ∃ x ∈ d.texts, 255 < x.size then 3 else 0
  else 2
noncomputable def dcheck (t : Int) (d : Dt) : Int := if dcheck0 t d ≠ 0 then dcheck0 t d else if 65535 < d.size (whatN t) then 3 else 0
theorem dcheck_ok {t : Int} {d : Dt} (h : dcheck t d = 0) : (0 ≤ t ∧ t ≤ 65535) ∧ d.bare (whatN t) ∧ ckN d.name = 0 ∧ ckN d.mail = 0 ∧ (∀ x ∈ d.texts, x.size ≤ 255) ∧ d.size (whatN t) ≤ 65535 := by
  unfold dcheck at h
  split at h
  · exact absurd h (by assumption)
  · rename_i h0
    rw [Classical.not_not] at h0
    split at h
    · cases h
    · rename_i h1
      unfold dcheck0 at h0
      split at h0
      · rename_i h2
        split at h0
        · exact absurd h0 (by assumption)
        · rename_i h3
          split at h0
          · exact absurd h0 (by assumption)
          · rename_i h4
            split at h0
            · cases h0
            · rename_i h5
              exact ⟨⟨h2.1, h2.2.1⟩, h2.2.2, Classical.not_not.1 h3, Classical.not_not.1 h4, fun x hx => by
                apply Nat.le_of_not_lt
                intro hl
                exact h5 ⟨x, hx, hl⟩, by omega⟩
      · cases h0
/-- An address' octets. -/
def addrL (d : Dt) (w : Wh) : List UInt8 := if w.addr = 4 then octs d.lo 4 else if w.addr = 16 then octs d.hi 8 ++ octs d.lo 8 else []
def numsL (d : Dt) (w : Wh) : List UInt8 := (List.range w.nums).flatMap fun i => octs (d.num i) w.wide
def textsL : List ByteArray → List UInt8
  | [] => []
  | x :: r => octs x.size 1 ++ (x.data.toList ++ textsL r)
theorem textsL_length : ∀ l : List ByteArray, (textsL l).length = textsLen l
  | [] => rfl
  | x :: r => by simp [textsL, textsLen, textsL_length r, octs_length]; omega
theorem addrL_length (d : Dt) (w : Wh) (h : w.addr = 0 ∨ w.addr = 4 ∨ w.addr = 16) : (addrL d w).length = w.addr := by
  unfold addrL
  rcases h with h | h | h <;> rw [h] <;> simp [octs_length]
theorem numsL_length (d : Dt) (w : Wh) : (numsL d w).length = w.nums * w.wide := by
  unfold numsL
  induction w.nums with
  | zero => simp
  | succ n ih => rw [List.range_succ, List.flatMap_append, List.length_append, ih]; simp [octs_length, Nat.add_mul]
/-- The packer, octets appended. -/
def Pk.more (y : Pk) (l : List UInt8) : Pk := ⟨{ y.x with b := y.x.b ++ l }, y.get⟩
theorem UGK.put {y : Pk} {B : Nat} (h : UGK K y B) (l : List UInt8) : UGK K (y.more l) (B + l.length) := by
  refine ⟨h.e, h.most, fun m a hm => ?_, ?_⟩
  · obtain ⟨r1, r2, r3⟩ := h.good m a hm
    dsimp only at r1
    exact ⟨by dsimp only [Pk.more]; rw [List.length_append]; omega, r2, r3.app _⟩
  · have := h.len
    dsimp only [Pk.more]
    rw [List.length_append]
    omega
theorem Pk.more_b (y : Pk) (l : List UInt8) : (y.more l).x.b = y.x.b ++ l := rfl
def Pk.nameB (y : Pk) (p : Bool) (n : ByteArray) : Pk := if p = true then (y.plain n).1 else (y.name n).1
/-- Data that may be is put. -/
def dputB (y : Pk) (w : Wh) (d : Dt) : Pk :=
  let y1 := y.more (addrL d w)
  let y2 := if w.first = true then y1.more (numsL d w) else y1
  let y3 := if 1 ≤ w.names then y2.nameB w.plain d.name else y2
  let y4 := if 2 ≤ w.names then y3.nameB w.plain d.mail else y3
  let y5 := if w.first = true then y4 else y4.more (numsL d w)
  (y5.more (textsL d.texts)).more d.raw.data.toList
end Go.Proofs.YtmbgejiahmhffaaGreat

/-
  LAYER 9, PLAIN: data is read; what was put is read. No program.
-/
namespace Go.Proofs.YtmbgejiahmhffaaGreat
open Go.RowKit
variable {K : Nat}

/-! ### A name that is put has an octet more than it, at most -/
theorem rest_len : ∀ (n : List UInt8) (x : Rp), (x.rest n).S.length ≤ x.S.length + n.length + 1 := by
  intro n
  generalize hk : n.length = k
  induction k using Nat.strongRecOn generalizing n with
  | _ k ih =>
    intro x
    by_cases hn : n = []
    · subst hn
      rw [rest_nil]
      simp
    · have hp : 0 < n.length := List.length_pos_iff.2 hn
      cases hg : x.get n with
      | some a =>
        rw [rest_some hn hg]
        simp [ptr]
        omega
      | none =>
        rw [rest_none hn hg]
        have := ih (n.drop (1 + oc n 0)).length (by rw [List.length_drop]; omega) (n.drop (1 + oc n 0)) rfl ⟨x.S ++ n.take (1 + oc n 0), updAt x.get n x.S.length⟩
        dsimp only at this
        rw [List.length_append, List.length_take, List.length_drop] at this
        omega
theorem UGK.name_len {y : Pk} {B : Nat} (h : UGK K y B) (n : ByteArray) (hn : ckN n = 0) (hB : B + 256 ≤ K) : (y.name n).1.x.b.length ≤ y.x.b.length + n.size + 1 := by
  obtain ⟨h1, h2⟩ := ckN_ok hn
  have hr : y.name n = y.rest n.data.toList := by unfold Pk.name; rw [if_neg (by simp [h.e]), if_neg (by simp [hn])]
  have hrm := Pk.rest_room y n.data.toList h.e h2 (fun m a hm => (h.good m a hm).2.1) (by rw [h.most, size_l]; have := h.len; omega)
  rw [hr, hrm]
  have := rest_len n.data.toList ⟨y.x.b, y.get⟩
  rw [size_l] at this
  exact this
/-- A name that was put, with pointers or without, is read. -/
theorem plain_reads' (S n R : List UInt8) (f : Bool) (hc : ckAt n 0 = 0) (hn : n.length ≤ 254) : ∃ y : Un, uread (S ++ (n ++ [0]) ++ R) f ⟨S.length, S.length, -1, 0, []⟩ = .done y ∧ y.out = n ∧ y.fin = ((S.length + n.length + 1 : Nat) : Int) := by
  have hs : StandsAt (S ++ (n ++ [0]) ++ R) S.length n := by
    have h := standsAt_app S n ([0] ++ R)
    rwa [show S ++ (n ++ ([0] ++ R)) = S ++ (n ++ [0]) ++ R by simp] at h
  have h0 := uread_labels0 (f := f) hs S.length (-1) 0 [] (by simpa using hn) hc
  rw [h0]
  have ho : oc (S ++ (n ++ [0]) ++ R) (S.length + n.length) = 0 := by
    have e : S ++ (n ++ [0]) ++ R = (S ++ n) ++ (0 :: R) := by simp
    rw [e, show S.length + n.length = (S ++ n).length + 0 by simp, oc_app_r]
    try rfl
  have hst : Un.step (S ++ (n ++ [0]) ++ R) f ⟨S.length + n.length, S.length, -1, 0, [] ++ n⟩ = .done ⟨S.length + n.length, S.length, ((S.length + n.length + 1 : Nat) : Int), 0, [] ++ n⟩ := by
    unfold Un.step
    rw [if_neg (by simp), if_pos ho]
    simp [Un.leave]
  exact ⟨_, uread_done hst, by simp, rfl⟩
/-! ### The cursor -/
structure Cu where
  at_ : Nat
  e : Int
def Cu.take (S : List UInt8) (en : Nat) (c : Cu) (n : Nat) : List UInt8 × Cu :=
  if c.e ≠ 0 then ([], c) else if en - c.at_ < n then ([], { c with e := 8 }) else ((S.drop c.at_).take n, ⟨c.at_ + n, 0⟩)
def Cu.number (S : List UInt8) (en : Nat) (c : Cu) (n : Nat) : Nat × Cu := (numOf (c.take S en n).1, (c.take S en n).2)
def Cu.nums (S : List UInt8) (en wide : Nat) : Nat → Cu → List Nat × Cu
  | 0, c => ([], c)
  | k + 1, c => ((c.number S en wide).1 :: (Cu.nums S en wide k (c.number S en wide).2).1, (Cu.nums S en wide k (c.number S en wide).2).2)
def Cu.name (S : List UInt8) (en : Nat) (plain : Bool) (c : Cu) : List UInt8 × Cu :=
  if c.e ≠ 0 then ([], c)
  else match uread S (!plain) ⟨c.at_, c.at_, -1, 0, []⟩ with
  | .done z => if (en : Int) < z.fin then ([], { c with e := 8 }) else (z.out, ⟨z.fin.toNat, 0⟩)
  | .bad e => ([], { c with e := e })
  | .on _ => ([], c)
def Cu.texts (S : List UInt8) (en : Nat) : Nat → Cu → List (List UInt8) × Cu
  | 0, c => ([], c)
  | f + 1, c =>
    if c.e ≠ 0 then ([], c)
    else
      let a := c.number S en 1
      let b := a.2.take S en a.1
      if b.2.at_ < en then (b.1 :: (Cu.texts S en f b.2).1, (Cu.texts S en f b.2).2) else ([b.1], b.2)
theorem take_reads (P L R : List UInt8) (en : Nat) (h : P.length + L.length ≤ en) : Cu.take (P ++ (L ++ R)) en ⟨P.length, 0⟩ L.length = (L, ⟨P.length + L.length, 0⟩) := by
  unfold Cu.take
  rw [if_neg (by simp), if_neg (by dsimp only; omega)]
  dsimp only
  rw [List.drop_left, List.take_left]
theorem number_reads (P R : List UInt8) (v n en : Nat) (hv : v < 256 ^ n) (h : P.length + n ≤ en) : Cu.number (P ++ (octs v n ++ R)) en ⟨P.length, 0⟩ n = (v, ⟨P.length + n, 0⟩) := by
  unfold Cu.number
  have := take_reads P (octs v n) R en (by rw [octs_length]; exact h)
  rw [octs_length] at this
  rw [this]
  have hn := numOf_octs v n hv 0
  simp only [Nat.zero_mul, Nat.zero_add] at hn
  rw [show numOf (octs v n) = v from hn]
theorem nums_reads (num : Nat → Nat) (wide en : Nat) (hv : ∀ i, num i < 256 ^ wide) : ∀ (k j : Nat) (P R : List UInt8), P.length + k * wide ≤ en →
    Cu.nums (P ++ (((List.range' j k).flatMap fun i => octs (num i) wide) ++ R)) en wide k ⟨P.length, 0⟩ = ((List.range' j k).map num, ⟨P.length + k * wide, 0⟩)
  | 0, j, P, R, _ => by simp [Cu.nums]
  | k + 1, j, P, R, h => by
    have hm : (k + 1) * wide = k * wide + wide := Nat.succ_mul k wide
    simp only [List.range'_succ, List.flatMap_cons, List.map_cons, List.append_assoc]
    have h1 := number_reads P (((List.range' (j + 1) k).flatMap fun i => octs (num i) wide) ++ R) (num j) wide en (hv j) (by omega)
    unfold Cu.nums
    rw [h1]
    have h2 := nums_reads num wide en hv k (j + 1) (P ++ octs (num j) wide) R (by rw [List.length_append, octs_length]; omega)
    rw [List.append_assoc, List.length_append, octs_length] at h2
    dsimp only
    rw [h2]
    simp
    omega
theorem texts_reads (en : Nat) : ∀ (l : List ByteArray) (P R : List UInt8) (f : Nat), l ≠ [] → l.length ≤ f → (∀ x ∈ l, x.size ≤ 255) → P.length + textsLen l = en →
    Cu.texts (P ++ (textsL l ++ R)) en f ⟨P.length, 0⟩ = (l.map fun x => x.data.toList, ⟨en, 0⟩)
  | [], _, _, _, h, _, _, _ => absurd rfl h
  | x :: r, P, R, 0, _, h, _, _ => by simp at h
  | x :: r, P, R, f + 1, _, hf, hx, he => by
    have hx0 : x.size ≤ 255 := hx x (by simp)
    have hl : x.data.toList.length = x.size := size_l x
    have hen : P.length + (1 + x.size + textsLen r) = en := he
    have h1 := number_reads P (x.data.toList ++ (textsL r ++ R)) x.size 1 en (by omega) (by omega)
    have h2 := take_reads (P ++ octs x.size 1) x.data.toList (textsL r ++ R) en (by rw [List.length_append, octs_length]; omega)
    rw [List.length_append, octs_length, hl, List.append_assoc] at h2
    simp only [textsL, List.append_assoc]
    unfold Cu.texts
    rw [if_neg (by simp)]
    simp only [h1, h2]
    by_cases hr : r = []
    · subst hr
      rw [if_neg (by simp [textsLen] at hen; omega)]
      simp [textsLen] at hen
      simp
      omega
    · have hpos : 0 < textsLen r := by
        cases r with
        | nil => exact absurd rfl hr
        | cons a b => simp [textsLen]; omega
      rw [if_pos (by omega)]
      have h3 := texts_reads en r (P ++ octs x.size 1 ++ x.data.toList) R f hr (by simp at hf; omega) (fun z hz => hx z (by simp [hz])) (by rw [List.length_append, List.length_append, octs_length, hl]; omega)
      simp only [List.append_assoc, List.length_append, octs_length, hl] at h3
      rw [show P.length + 1 + x.size = P.length + (1 + x.size) by omega, h3]
      simp
/-- A name put by either road: how long, and that it is read. -/
theorem nameB_reads {y : Pk} {B : Nat} (h : UGK K y B) (p : Bool) (n : ByteArray) (hn : ckN n = 0) (hB : B + 256 ≤ K) :
    UGK K (y.nameB p n) (B + 256) ∧ (∃ T, (y.nameB p n).x.b = y.x.b ++ T) ∧ (y.nameB p n).x.b.length ≤ y.x.b.length + n.size + 1 ∧
      ∀ R en, (y.nameB p n).x.b.length ≤ en → Cu.name ((y.nameB p n).x.b ++ R) en p ⟨y.x.b.length, 0⟩ = (n.data.toList, ⟨(y.nameB p n).x.b.length, 0⟩) := by
  cases p with
  | false =>
    obtain ⟨_, g2, ⟨T, g3, _, _⟩, k, z, _, g5, g6, g7⟩ := h.name n hn hB
    have hl := h.name_len n hn hB
    refine ⟨g2, ⟨T, g3⟩, hl, fun R en hen => ?_⟩
    show Cu.name ((y.name n).1.x.b ++ R) en false _ = (_, ⟨(y.name n).1.x.b.length, 0⟩)
    have hen' : (y.name n).1.x.b.length ≤ en := hen
    unfold Cu.name
    rw [if_neg (by simp)]
    simp only [Bool.not_false]
    rw [(g5.app R).uread]
    dsimp only
    rw [g7, if_neg (by omega), g6, Int.toNat_natCast]
  | true =>
    obtain ⟨_, g2, ⟨T, g3, _, _⟩, _⟩ := h.plain n hn hB
    obtain ⟨h1, h2⟩ := ckN_ok hn
    have hpo := Wst.put_ok (x := y.x) (l := n.data.toList ++ [0]) h.e (by rw [h.most, List.length_append, size_l]; have := h.len; simp; omega)
    have hr : y.plain n = (⟨{ y.x with b := y.x.b ++ (n.data.toList ++ [0]) }, y.get⟩, 0) := by
      unfold Pk.plain
      rw [if_neg (by simp [h.e]), if_neg (by simp [hn]), hpo]
    have hb : (y.plain n).1.x.b = y.x.b ++ (n.data.toList ++ [0]) := by rw [hr]
    have hbl : (y.plain n).1.x.b.length = y.x.b.length + n.size + 1 := by rw [hb, List.length_append, List.length_append, size_l]; simp; omega
    refine ⟨g2, ⟨T, g3⟩, Nat.le_of_eq hbl, fun R en hen => ?_⟩
    show Cu.name ((y.plain n).1.x.b ++ R) en true _ = (_, ⟨(y.plain n).1.x.b.length, 0⟩)
    have hen' : (y.plain n).1.x.b.length ≤ en := hen
    obtain ⟨z, z1, z2, z3⟩ := plain_reads' y.x.b n.data.toList R false h2 (by rw [size_l]; exact h1)
    rw [size_l] at z3
    unfold Cu.name
    rw [if_neg (by simp)]
    simp only [Bool.not_true]
    rw [hb, z1]
    dsimp only
    rw [z3, if_neg (by omega), z2, Int.toNat_natCast, ← hbl, hb]
end Go.Proofs.YtmbgejiahmhffaaGreat

/-
  LAYER 9, PLAIN: what was put is read. No program.
-/
namespace Go.Proofs.YtmbgejiahmhffaaGreat
open Go.RowKit
variable {K : Nat}

def addrOf (l : List UInt8) : Bool × Nat × Nat := if l.length = 4 then (false, 0, numOf l) else if l.length = 16 then (true, numOf (l.take 8), numOf (l.drop 8)) else (false, 0, 0)
/-- The data's parts, read one by one. -/
def dreadB (S : List UInt8) (en : Nat) (w : Wh) (at_ : Nat) : Dt × Cu :=
  let a := if 0 < w.addr then Cu.take S en ⟨at_, 0⟩ w.addr else ([], ⟨at_, 0⟩)
  let ad := if 0 < w.addr then addrOf a.1 else (false, 0, 0)
  let p := if w.first = true then Cu.nums S en w.wide w.nums a.2 else ([], a.2)
  let m := if 1 ≤ w.names then Cu.name S en w.plain p.2 else ([], p.2)
  let q := if 2 ≤ w.names then Cu.name S en w.plain m.2 else ([], m.2)
  let r := if w.first = true then ([], q.2) else Cu.nums S en w.wide w.nums q.2
  let vs := if w.first = true then p.1 else r.1
  let t := if w.texts = true then Cu.texts S en (en + 1) r.2 else ([], r.2)
  let z := if w.raw = true then Cu.take S en t.2 (en - t.2.at_) else ([], t.2)
  (⟨ad.1, ad.2.1, ad.2.2, ⟨m.1.toArray⟩, ⟨q.1.toArray⟩, vs.getD 0 0, vs.getD 1 0, vs.getD 2 0, vs.getD 3 0, vs.getD 4 0, t.1.map fun l => ⟨l.toArray⟩, ⟨z.1.toArray⟩⟩, z.2)
theorem numOf_octs0 (v n : Nat) (h : v < 256 ^ n) : numOf (octs v n) = v := by
  have := numOf_octs v n h 0
  simpa [numOf] using this
theorem back_arr (x : ByteArray) : (⟨x.data.toList.toArray⟩ : ByteArray) = x := by cases x; simp
theorem texts_len_le : ∀ l : List ByteArray, l.length ≤ textsLen l
  | [] => Nat.le_refl _
  | x :: r => by have := texts_len_le r; simp [textsLen]; omega
theorem emp0 : (⟨#[]⟩ : ByteArray).size = 0 := rfl
theorem more_nil (y : Pk) : y.more [] = y := by cases y; simp [Pk.more]
theorem back_map (l : List ByteArray) : (l.map fun x => x.data.toList).map (fun l => (⟨l.toArray⟩ : ByteArray)) = l := by
  rw [List.map_map]
  conv => rhs; rw [← List.map_id l]
  apply List.map_congr_left
  intro x _
  exact back_arr x
theorem numsL_reads (d : Dt) (w : Wh) (P R : List UInt8) (en : Nat) (hv : ∀ i, d.num i < 256 ^ w.wide) (h : P.length + w.nums * w.wide ≤ en) :
    Cu.nums (P ++ (numsL d w ++ R)) en w.wide w.nums ⟨P.length, 0⟩ = ((List.range w.nums).map d.num, ⟨P.length + w.nums * w.wide, 0⟩) := by
  have := nums_reads d.num w.wide en hv w.nums 0 P R h
  rw [← List.range_eq_range'] at this
  exact this
theorem num_all {d : Dt} {m : Nat} (h : ∀ i, i < 5 → d.num i ≤ m) (i : Nat) : d.num i ≤ m := by
  by_cases hi : i < 5
  · exact h i hi
  · have e : d.num i = d.num 4 := by
      obtain ⟨k, rfl⟩ : ∃ k, i = k + 5 := ⟨i - 5, by omega⟩
      rfl
    rw [e]
    exact h 4 (by decide)
theorem read_dput {y : Pk} {B : Nat} (h : UGK K y B) {w : Wh} {d : Dt} (hw : ∃ t, w = whatN t) (hd : d.ok) (hb : d.bare w) (k1 : ckN d.name = 0) (k2 : ckN d.mail = 0) (k3 : ∀ x ∈ d.texts, x.size ≤ 255) (hB : B + 600 + d.size w ≤ K) (Z : List UInt8) (en : Nat) (hen : (dputB y w d).x.b.length ≤ en) (hex : w.texts = true ∨ w.raw = true → en = (dputB y w d).x.b.length) :
    UGK K (dputB y w d) (B + 600 + d.size w) ∧ (∃ T, (dputB y w d).x.b = y.x.b ++ T) ∧ (dputB y w d).x.b.length ≤ y.x.b.length + d.size w ∧
      dreadB ((dputB y w d).x.b ++ Z) en w y.x.b.length = (d, ⟨(dputB y w d).x.b.length, 0⟩) := by
  obtain ⟨o1, o2, o3⟩ := hd
  obtain ⟨t, hw⟩ := hw
  have hcs := whatN_cases t
  rw [← hw] at hcs
  clear hw
  obtain ⟨six, hi, lo, name, mail, n0, n1, n2, n3, n4, texts, raw⟩ := d
  obtain ⟨b1, b2, b3, b4, b5, b6, b7, b8⟩ := hb
  rcases hcs with rfl | rfl | rfl | rfl | rfl | rfl | rfl | rfl
  · obtain rfl : name = ⟨#[]⟩ := b1 (by decide)
    obtain rfl : mail = ⟨#[]⟩ := b2 (by decide)
    obtain rfl : raw = ⟨#[]⟩ := b3 rfl
    obtain rfl : texts = [] := Classical.byContradiction fun h => Bool.false_ne_true (b4.2 h)
    have hs6 : six = false := by
      have := (b6 (by decide)).2
      dsimp only at this
      cases six
      · rfl
      · exact absurd (this.1 rfl) (by decide)
    subst hs6
    obtain ⟨q2, q3⟩ := (b6 (by decide)).1 rfl
    dsimp only at q2 q3
    subst q2
    obtain rfl : n0 = 0 := b7 0 (by decide) (by decide)
    obtain rfl : n1 = 0 := b7 1 (by decide) (by decide)
    obtain rfl : n2 = 0 := b7 2 (by decide) (by decide)
    obtain rfl : n3 = 0 := b7 3 (by decide) (by decide)
    obtain rfl : n4 = 0 := b7 4 (by decide) (by decide)
    have hsz : Dt.size ⟨false, 0, lo, ⟨#[]⟩, ⟨#[]⟩, 0, 0, 0, 0, 0, [], ⟨#[]⟩⟩ ⟨4, 0, false, false, 0, 0, false, false⟩ = 4 := by simp [Dt.size, textsLen, emp0]
    rw [hsz] at hB ⊢
    have hp : dputB y ⟨4, 0, false, false, 0, 0, false, false⟩ ⟨false, 0, lo, ⟨#[]⟩, ⟨#[]⟩, 0, 0, 0, 0, 0, [], ⟨#[]⟩⟩ = y.more (octs lo 4) := by simp [dputB, addrL, numsL, textsL, more_nil]
    rw [hp] at hen hex ⊢
    have htl : (octs lo 4).length = 4 := by simp [octs_length]
    have hu := h.put (octs lo 4)
    refine ⟨hu.more (by omega), ⟨_, rfl⟩, by rw [Pk.more_b, List.length_append, htl]; omega, ?_⟩
    rw [Pk.more_b, List.length_append, htl, List.append_assoc]
    have hr := take_reads y.x.b (octs lo 4) Z en (by rw [Pk.more_b, List.length_append] at hen; exact hen)
    rw [htl] at hr
    have hn := numOf_octs0 lo 4 (by simpa using q3)
    simp [dreadB, Cu.nums, hr, addrOf, octs_length, hn]
  · obtain rfl : name = ⟨#[]⟩ := b1 (by decide)
    obtain rfl : mail = ⟨#[]⟩ := b2 (by decide)
    obtain rfl : raw = ⟨#[]⟩ := b3 rfl
    obtain rfl : texts = [] := Classical.byContradiction fun h => Bool.false_ne_true (b4.2 h)
    have hs6 : six = true := (b6 (by decide)).2.2 rfl
    subst hs6
    dsimp only at o1 o2
    obtain rfl : n0 = 0 := b7 0 (by decide) (by decide)
    obtain rfl : n1 = 0 := b7 1 (by decide) (by decide)
    obtain rfl : n2 = 0 := b7 2 (by decide) (by decide)
    obtain rfl : n3 = 0 := b7 3 (by decide) (by decide)
    obtain rfl : n4 = 0 := b7 4 (by decide) (by decide)
    have hsz : Dt.size ⟨true, hi, lo, ⟨#[]⟩, ⟨#[]⟩, 0, 0, 0, 0, 0, [], ⟨#[]⟩⟩ ⟨16, 0, false, false, 0, 0, false, false⟩ = 16 := by simp [Dt.size, textsLen, emp0]
    rw [hsz] at hB ⊢
    have hp : dputB y ⟨16, 0, false, false, 0, 0, false, false⟩ ⟨true, hi, lo, ⟨#[]⟩, ⟨#[]⟩, 0, 0, 0, 0, 0, [], ⟨#[]⟩⟩ = y.more (octs hi 8 ++ octs lo 8) := by simp [dputB, addrL, numsL, textsL, more_nil]
    rw [hp] at hen hex ⊢
    have htl : (octs hi 8 ++ octs lo 8).length = 16 := by simp [octs_length]
    have hu := h.put (octs hi 8 ++ octs lo 8)
    refine ⟨hu.more (by omega), ⟨_, rfl⟩, by rw [Pk.more_b, List.length_append, htl]; omega, ?_⟩
    rw [Pk.more_b, List.length_append, htl, List.append_assoc]
    have hr := take_reads y.x.b (octs hi 8 ++ octs lo 8) Z en (by rw [Pk.more_b, List.length_append] at hen; exact hen)
    rw [htl] at hr
    have hn := numOf_octs0 lo 8 (by simpa using o2)
    have hn2 := numOf_octs0 hi 8 (by simpa using o1)
    simp only [List.append_assoc] at hr
    have e1 : (octs hi 8 ++ octs lo 8).take 8 = octs hi 8 := List.take_left' (octs_length _ _)
    have e2 : (octs hi 8 ++ octs lo 8).drop 8 = octs lo 8 := List.drop_left' (octs_length _ _)
    simp [dreadB, Cu.nums, hr, addrOf, octs_length, hn, hn2, e1, e2]
  · obtain rfl : mail = ⟨#[]⟩ := b2 (by decide)
    obtain rfl : raw = ⟨#[]⟩ := b3 rfl
    obtain rfl : texts = [] := Classical.byContradiction fun h => Bool.false_ne_true (b4.2 h)
    obtain ⟨q1, q2, q3⟩ := b5 rfl
    dsimp only at q1 q2 q3
    subst q1 q2 q3
    obtain rfl : n0 = 0 := b7 0 (by decide) (by decide)
    obtain rfl : n1 = 0 := b7 1 (by decide) (by decide)
    obtain rfl : n2 = 0 := b7 2 (by decide) (by decide)
    obtain rfl : n3 = 0 := b7 3 (by decide) (by decide)
    obtain rfl : n4 = 0 := b7 4 (by decide) (by decide)
    have HD : ∃ d : Dt, d = ⟨false, 0, 0, name, ⟨#[]⟩, 0, 0, 0, 0, 0, [], ⟨#[]⟩⟩ := ⟨_, rfl⟩
    obtain ⟨d, hdd⟩ := HD
    have HW : ∃ w : Wh, w = ⟨0, 1, false, false, 0, 0, false, false⟩ := ⟨_, rfl⟩
    obtain ⟨w, hww⟩ := HW
    have hsz : Dt.size ⟨false, 0, 0, name, ⟨#[]⟩, 0, 0, 0, 0, 0, [], ⟨#[]⟩⟩ ⟨0, 1, false, false, 0, 0, false, false⟩ = name.size + 1 := by simp [Dt.size, textsLen, emp0]; try omega
    rw [hsz] at hB ⊢
    obtain ⟨g1, ⟨T1, g2⟩, g3, g4⟩ := nameB_reads h false name k1 (by omega)
    have hp : dputB y ⟨0, 1, false, false, 0, 0, false, false⟩ ⟨false, 0, 0, name, ⟨#[]⟩, 0, 0, 0, 0, 0, [], ⟨#[]⟩⟩ = (y.nameB false name) := by simp [dputB, addrL, numsL, textsL, more_nil]
    rw [hp] at hen hex ⊢
    refine ⟨g1.more (by omega), ⟨T1, g2⟩, by omega, ?_⟩
    have hr := g4 Z en hen
    generalize y.nameB false name = z at *
    simp [dreadB, Cu.nums, hr]
  · obtain rfl : raw = ⟨#[]⟩ := b3 rfl
    obtain rfl : texts = [] := Classical.byContradiction fun h => Bool.false_ne_true (b4.2 h)
    obtain ⟨q1, q2, q3⟩ := b5 rfl
    dsimp only at q1 q2 q3
    subst q1 q2 q3
    have HD : ∃ d : Dt, d = ⟨false, 0, 0, name, mail, n0, n1, n2, n3, n4, [], ⟨#[]⟩⟩ := ⟨_, rfl⟩
    obtain ⟨d, hdd⟩ := HD
    have HW : ∃ w : Wh, w = ⟨0, 2, false, false, 5, 4, false, false⟩ := ⟨_, rfl⟩
    obtain ⟨w, hww⟩ := HW
    have hv : ∀ i, d.num i < 256 ^ w.wide := by
      rw [hdd, hww]
      exact fun i => by simpa using o3 i
    have hnl : (numsL d w).length = 20 := by rw [numsL_length, hww]; rfl
    have hsz : Dt.size ⟨false, 0, 0, name, mail, n0, n1, n2, n3, n4, [], ⟨#[]⟩⟩ ⟨0, 2, false, false, 5, 4, false, false⟩ = name.size + 1 + (mail.size + 1) + 20 := by simp [Dt.size, textsLen, emp0]; try omega
    rw [hsz] at hB ⊢
    obtain ⟨g1, ⟨T1, g2⟩, g3, g4⟩ := nameB_reads h false name k1 (by omega)
    obtain ⟨j1, ⟨T2, j2⟩, j3, j4⟩ := nameB_reads g1 false mail k2 (by omega)
    have hp : dputB y ⟨0, 2, false, false, 5, 4, false, false⟩ ⟨false, 0, 0, name, mail, n0, n1, n2, n3, n4, [], ⟨#[]⟩⟩ = ((y.nameB false name).nameB false mail).more (numsL d w) := by simp [dputB, addrL, textsL, more_nil, ← hdd, ← hww]
    rw [hp] at hen hex ⊢
    have hu := j1.put (numsL d w)
    rw [hnl] at hu
    have hlen : (((y.nameB false name).nameB false mail).more (numsL d w)).x.b.length = ((y.nameB false name).nameB false mail).x.b.length + 20 := by rw [Pk.more_b, List.length_append, hnl]
    refine ⟨hu.more (by omega), ⟨T1 ++ (T2 ++ numsL d w), by rw [Pk.more_b, j2, g2]; simp⟩, by omega, ?_⟩
    have hr3 := numsL_reads d w ((y.nameB false name).nameB false mail).x.b Z en hv (by have e : w.nums * w.wide = 20 := (by rw [hww]; rfl); rw [e]; rw [hlen] at hen; exact hen)
    have hl12 : (y.nameB false name).x.b.length ≤ ((y.nameB false name).nameB false mail).x.b.length := by rw [j2, List.length_append]; omega
    have hr2 := j4 (numsL d w ++ Z) en (by omega)
    have hr1 := g4 (T2 ++ (numsL d w ++ Z)) en (by omega)
    rw [← List.append_assoc, ← j2] at hr1
    rw [Pk.more_b, List.append_assoc]
    rw [Pk.more_b] at hlen hen
    rw [hlen] at hen ⊢
    generalize hz2 : ((y.nameB false name).nameB false mail) = z2 at *
    generalize y.nameB false name = z at *
    have ew : w.wide = 4 := by rw [hww]
    have enu : w.nums = 5 := by rw [hww]
    rw [ew, enu] at hr3
    have ed : (List.range 5).map d.num = [n0, n1, n2, n3, n4] := by rw [hdd]; rfl
    rw [ed] at hr3
    generalize numsL d w = N at *
    simp [dreadB, hr1, hr2, hr3]
  · obtain rfl : mail = ⟨#[]⟩ := b2 (by decide)
    obtain rfl : raw = ⟨#[]⟩ := b3 rfl
    obtain rfl : texts = [] := Classical.byContradiction fun h => Bool.false_ne_true (b4.2 h)
    obtain ⟨q1, q2, q3⟩ := b5 rfl
    dsimp only at q1 q2 q3
    subst q1 q2 q3
    obtain rfl : n1 = 0 := b7 1 (by decide) (by decide)
    obtain rfl : n2 = 0 := b7 2 (by decide) (by decide)
    obtain rfl : n3 = 0 := b7 3 (by decide) (by decide)
    obtain rfl : n4 = 0 := b7 4 (by decide) (by decide)
    have HD : ∃ d : Dt, d = ⟨false, 0, 0, name, ⟨#[]⟩, n0, 0, 0, 0, 0, [], ⟨#[]⟩⟩ := ⟨_, rfl⟩
    obtain ⟨d, hdd⟩ := HD
    have HW : ∃ w : Wh, w = ⟨0, 1, false, true, 1, 2, false, false⟩ := ⟨_, rfl⟩
    obtain ⟨w, hww⟩ := HW
    have hv : ∀ i, d.num i < 256 ^ w.wide := by
      rw [hdd, hww]
      exact fun i => Nat.lt_of_le_of_lt (num_all (b8 rfl) i) (by decide)
    have hnl : (numsL d w).length = 2 := by rw [numsL_length, hww]; rfl
    have hsz : Dt.size ⟨false, 0, 0, name, ⟨#[]⟩, n0, 0, 0, 0, 0, [], ⟨#[]⟩⟩ ⟨0, 1, false, true, 1, 2, false, false⟩ = name.size + 1 + 2 := by simp [Dt.size, textsLen, emp0]; try omega
    rw [hsz] at hB ⊢
    have hu0 := h.put (numsL d w)
    rw [hnl] at hu0
    have hlen : (y.more (numsL d w)).x.b.length = y.x.b.length + 2 := by rw [Pk.more_b, List.length_append, hnl]
    obtain ⟨g1, ⟨T1, g2⟩, g3, g4⟩ := nameB_reads hu0 false name k1 (by omega)
    have hp : dputB y ⟨0, 1, false, true, 1, 2, false, false⟩ ⟨false, 0, 0, name, ⟨#[]⟩, n0, 0, 0, 0, 0, [], ⟨#[]⟩⟩ = ((y.more (numsL d w)).nameB false name) := by simp [dputB, addrL, textsL, more_nil, ← hdd, ← hww]
    rw [hp] at hen hex ⊢
    refine ⟨g1.more (by omega), ⟨numsL d w ++ T1, by rw [g2, Pk.more_b]; simp⟩, by omega, ?_⟩
    have hl2 : (y.more (numsL d w)).x.b.length ≤ ((y.more (numsL d w)).nameB false name).x.b.length := by rw [g2, List.length_append]; omega
    have hr1 := numsL_reads d w y.x.b (T1 ++ Z) en hv (by have e : w.nums * w.wide = 2 := (by rw [hww]; rfl); rw [e]; rw [hlen] at hl2; exact Nat.le_trans hl2 hen)
    have hr2 := g4 Z en hen
    rw [← List.append_assoc, ← List.append_assoc, ← Pk.more_b y, ← g2] at hr1
    rw [hlen] at hr2
    have ew : w.wide = 2 := by rw [hww]
    have enu : w.nums = 1 := by rw [hww]
    rw [ew, enu] at hr1
    have ed : (List.range 1).map d.num = [n0] := by rw [hdd]; rfl
    rw [ed] at hr1
    generalize ((y.more (numsL d w)).nameB false name) = z at *
    simp [dreadB, hr1, hr2]
  · obtain rfl : mail = ⟨#[]⟩ := b2 (by decide)
    obtain rfl : raw = ⟨#[]⟩ := b3 rfl
    obtain rfl : texts = [] := Classical.byContradiction fun h => Bool.false_ne_true (b4.2 h)
    obtain ⟨q1, q2, q3⟩ := b5 rfl
    dsimp only at q1 q2 q3
    subst q1 q2 q3
    obtain rfl : n3 = 0 := b7 3 (by decide) (by decide)
    obtain rfl : n4 = 0 := b7 4 (by decide) (by decide)
    have HD : ∃ d : Dt, d = ⟨false, 0, 0, name, ⟨#[]⟩, n0, n1, n2, 0, 0, [], ⟨#[]⟩⟩ := ⟨_, rfl⟩
    obtain ⟨d, hdd⟩ := HD
    have HW : ∃ w : Wh, w = ⟨0, 1, true, true, 3, 2, false, false⟩ := ⟨_, rfl⟩
    obtain ⟨w, hww⟩ := HW
    have hv : ∀ i, d.num i < 256 ^ w.wide := by
      rw [hdd, hww]
      exact fun i => Nat.lt_of_le_of_lt (num_all (b8 rfl) i) (by decide)
    have hnl : (numsL d w).length = 6 := by rw [numsL_length, hww]; rfl
    have hsz : Dt.size ⟨false, 0, 0, name, ⟨#[]⟩, n0, n1, n2, 0, 0, [], ⟨#[]⟩⟩ ⟨0, 1, true, true, 3, 2, false, false⟩ = name.size + 1 + 6 := by simp [Dt.size, textsLen, emp0]; try omega
    rw [hsz] at hB ⊢
    have hu0 := h.put (numsL d w)
    rw [hnl] at hu0
    have hlen : (y.more (numsL d w)).x.b.length = y.x.b.length + 6 := by rw [Pk.more_b, List.length_append, hnl]
    obtain ⟨g1, ⟨T1, g2⟩, g3, g4⟩ := nameB_reads hu0 true name k1 (by omega)
    have hp : dputB y ⟨0, 1, true, true, 3, 2, false, false⟩ ⟨false, 0, 0, name, ⟨#[]⟩, n0, n1, n2, 0, 0, [], ⟨#[]⟩⟩ = ((y.more (numsL d w)).nameB true name) := by simp [dputB, addrL, textsL, more_nil, ← hdd, ← hww]
    rw [hp] at hen hex ⊢
    refine ⟨g1.more (by omega), ⟨numsL d w ++ T1, by rw [g2, Pk.more_b]; simp⟩, by omega, ?_⟩
    have hl2 : (y.more (numsL d w)).x.b.length ≤ ((y.more (numsL d w)).nameB true name).x.b.length := by rw [g2, List.length_append]; omega
    have hr1 := numsL_reads d w y.x.b (T1 ++ Z) en hv (by have e : w.nums * w.wide = 6 := (by rw [hww]; rfl); rw [e]; rw [hlen] at hl2; exact Nat.le_trans hl2 hen)
    have hr2 := g4 Z en hen
    rw [← List.append_assoc, ← List.append_assoc, ← Pk.more_b y, ← g2] at hr1
    rw [hlen] at hr2
    have ew : w.wide = 2 := by rw [hww]
    have enu : w.nums = 3 := by rw [hww]
    rw [ew, enu] at hr1
    have ed : (List.range 3).map d.num = [n0, n1, n2] := by rw [hdd]; rfl
    rw [ed] at hr1
    generalize ((y.more (numsL d w)).nameB true name) = z at *
    simp [dreadB, hr1, hr2]
  · obtain rfl : name = ⟨#[]⟩ := b1 (by decide)
    obtain rfl : mail = ⟨#[]⟩ := b2 (by decide)
    obtain rfl : raw = ⟨#[]⟩ := b3 rfl
    have hne : texts ≠ [] := b4.1 rfl
    obtain ⟨q1, q2, q3⟩ := b5 rfl
    dsimp only at q1 q2 q3
    subst q1 q2 q3
    obtain rfl : n0 = 0 := b7 0 (by decide) (by decide)
    obtain rfl : n1 = 0 := b7 1 (by decide) (by decide)
    obtain rfl : n2 = 0 := b7 2 (by decide) (by decide)
    obtain rfl : n3 = 0 := b7 3 (by decide) (by decide)
    obtain rfl : n4 = 0 := b7 4 (by decide) (by decide)
    have hsz : Dt.size ⟨false, 0, 0, ⟨#[]⟩, ⟨#[]⟩, 0, 0, 0, 0, 0, texts, ⟨#[]⟩⟩ ⟨0, 0, false, false, 0, 0, true, false⟩ = textsLen texts := by simp [Dt.size, emp0]
    rw [hsz] at hB ⊢
    have hp : dputB y ⟨0, 0, false, false, 0, 0, true, false⟩ ⟨false, 0, 0, ⟨#[]⟩, ⟨#[]⟩, 0, 0, 0, 0, 0, texts, ⟨#[]⟩⟩ = y.more (textsL texts) := by simp [dputB, addrL, numsL, more_nil]
    rw [hp] at hen hex ⊢
    have htl : (textsL texts).length = textsLen texts := by simp [textsL_length]
    have hu := h.put (textsL texts)
    refine ⟨hu.more (by omega), ⟨_, rfl⟩, by rw [Pk.more_b, List.length_append, htl]; omega, ?_⟩
    rw [Pk.more_b, List.length_append, htl, List.append_assoc]
    have hex2 := hex (.inl rfl)
    rw [Pk.more_b, List.length_append, htl] at hex2
    subst hex2
    have hr := texts_reads (y.x.b.length + textsLen texts) texts y.x.b Z (y.x.b.length + textsLen texts + 1) hne (by have := texts_len_le texts; omega) k3 rfl
    simp only [dreadB, Nat.lt_irrefl, if_false, Bool.false_eq_true, if_true, Cu.nums]
    simp [hr, back_map, -List.map_map]
  · obtain rfl : name = ⟨#[]⟩ := b1 (by decide)
    obtain rfl : mail = ⟨#[]⟩ := b2 (by decide)
    obtain rfl : texts = [] := Classical.byContradiction fun h => Bool.false_ne_true (b4.2 h)
    obtain ⟨q1, q2, q3⟩ := b5 rfl
    dsimp only at q1 q2 q3
    subst q1 q2 q3
    obtain rfl : n0 = 0 := b7 0 (by decide) (by decide)
    obtain rfl : n1 = 0 := b7 1 (by decide) (by decide)
    obtain rfl : n2 = 0 := b7 2 (by decide) (by decide)
    obtain rfl : n3 = 0 := b7 3 (by decide) (by decide)
    obtain rfl : n4 = 0 := b7 4 (by decide) (by decide)
    have hsz : Dt.size ⟨false, 0, 0, ⟨#[]⟩, ⟨#[]⟩, 0, 0, 0, 0, 0, [], raw⟩ ⟨0, 0, false, false, 0, 0, false, true⟩ = raw.size := by simp [Dt.size, textsLen]
    rw [hsz] at hB ⊢
    have hp : dputB y ⟨0, 0, false, false, 0, 0, false, true⟩ ⟨false, 0, 0, ⟨#[]⟩, ⟨#[]⟩, 0, 0, 0, 0, 0, [], raw⟩ = y.more (raw.data.toList) := by simp [dputB, addrL, numsL, textsL, more_nil]
    rw [hp] at hen hex ⊢
    have htl : (raw.data.toList).length = raw.size := by simp
    have hu := h.put (raw.data.toList)
    refine ⟨hu.more (by omega), ⟨_, rfl⟩, by rw [Pk.more_b, List.length_append, htl]; omega, ?_⟩
    rw [Pk.more_b, List.length_append, htl, List.append_assoc]
    have hex2 := hex (.inr rfl)
    rw [Pk.more_b, List.length_append, htl] at hex2
    subst hex2
    have hr := take_reads y.x.b (raw.data.toList) Z (y.x.b.length + raw.size) (by rw [htl]; omega)
    rw [htl] at hr
    simp only [dreadB, Nat.lt_irrefl, if_false, Bool.false_eq_true, if_true, Cu.nums]
    simp [hr]
end Go.Proofs.YtmbgejiahmhffaaGreat

/-
  LAYER 9, PLAIN: Read's answer; what RdataBack says of it. No program.
-/
namespace Go.Proofs.YtmbgejiahmhffaaGreat
open Go.RowKit
variable {K : Nat}

/-- Data is read. -/
noncomputable def dreadN (S : List UInt8) (at_ en t : Int) : Dt × Int :=
  if at_ < 0 ∨ en < at_ ∨ (S.length : Int) < en ∨ ¬ (0 ≤ t ∧ t ≤ 65535) then (Dt.zero, 2)
  else
    let r := dreadB S en.toNat (whatN t) at_.toNat
    if r.2.e ≠ 0 then (Dt.zero, r.2.e)
    else if r.2.at_ < en.toNat ∨ dcheck t r.1 ≠ 0 then (Dt.zero, 4)
    else (r.1, 0)
section
variable {y : Pk} {B : Nat} {t : Int} {d : Dt}
end

end Go.Proofs.YtmbgejiahmhffaaGreat

/-
  LAYER 10, PLAIN: what is put hangs on how much stands ahead, not on what; a record's octets. No program.
-/
namespace Go.Proofs.YtmbgejiahmhffaaGreat
open Go.RowKit
variable {K : Nat}

theorem rest_cong : ∀ (n : List UInt8) (S S' : List UInt8) (g : List UInt8 → Option Nat), S.length = S'.length → ∃ T g', Rp.rest ⟨S, g⟩ n = ⟨S ++ T, g'⟩ ∧ Rp.rest ⟨S', g⟩ n = ⟨S' ++ T, g'⟩ := by
  intro n
  generalize hk : n.length = k
  induction k using Nat.strongRecOn generalizing n with
  | _ k ih =>
    intro S S' g hl
    by_cases hn : n = []
    · subst hn
      rw [rest_nil, rest_nil]
      exact ⟨[0], g, rfl, rfl⟩
    · have hp : 0 < n.length := List.length_pos_iff.2 hn
      cases hg : g n with
      | some a =>
        rw [rest_some (x := ⟨S, g⟩) hn hg, rest_some (x := ⟨S', g⟩) hn hg]
        exact ⟨ptr a, g, rfl, rfl⟩
      | none =>
        rw [rest_none (x := ⟨S, g⟩) hn hg, rest_none (x := ⟨S', g⟩) hn hg]
        dsimp only
        rw [hl]
        obtain ⟨T, g', a, b⟩ := ih (n.drop (1 + oc n 0)).length (by rw [List.length_drop]; omega) (n.drop (1 + oc n 0)) rfl (S ++ n.take (1 + oc n 0)) (S' ++ n.take (1 + oc n 0)) (updAt g n S'.length) (by simp [hl])
        exact ⟨n.take (1 + oc n 0) ++ T, g', by rw [a, List.append_assoc], by rw [b, List.append_assoc]⟩
/-- The same is appended to both. -/
def Alike (y y' z z' : Pk) : Prop := ∃ T, z.x.b = y.x.b ++ T ∧ z'.x.b = y'.x.b ++ T ∧ z.get = z'.get
theorem Alike.refl {y y' : Pk} (h : y.get = y'.get) : Alike y y' y y' := ⟨[], by simp, by simp, h⟩
theorem Alike.more {y y' z z' : Pk} (h : Alike y y' z z') (l : List UInt8) : Alike y y' (z.more l) (z'.more l) := by
  obtain ⟨T, a, b, c⟩ := h
  exact ⟨T ++ l, by rw [Pk.more_b, a, List.append_assoc], by rw [Pk.more_b, b, List.append_assoc], c⟩
theorem Alike.len {y y' z z' : Pk} (h : Alike y y' z z') (hl : y.x.b.length = y'.x.b.length) : z.x.b.length = z'.x.b.length := by
  obtain ⟨T, a, b, _⟩ := h
  rw [a, b, List.length_append, List.length_append, hl]
theorem Alike.trans {y y' z z' u u' : Pk} (h : Alike y y' z z') (k : Alike z z' u u') : Alike y y' u u' := by
  obtain ⟨T, a, b, _⟩ := h
  obtain ⟨U, d, e, f⟩ := k
  exact ⟨T ++ U, by rw [d, a, List.append_assoc], by rw [e, b, List.append_assoc], f⟩
theorem nameB_alike {y y' : Pk} {B : Nat} (h : UGK K y B) (h' : UGK K y' B) (hg : y.get = y'.get) (hl : y.x.b.length = y'.x.b.length) (p : Bool) (n : ByteArray) (hn : ckN n = 0) (hB : B + 256 ≤ K) : Alike y y' (y.nameB p n) (y'.nameB p n) := by
  obtain ⟨h1, h2⟩ := ckN_ok hn
  cases p with
  | true =>
    have key : ∀ {y : Pk}, UGK K y B → (y.plain n).1 = ⟨{ y.x with b := y.x.b ++ (n.data.toList ++ [0]) }, y.get⟩ := fun {y} h => by
      have hpo := Wst.put_ok (x := y.x) (l := n.data.toList ++ [0]) h.e (by rw [h.most, List.length_append, size_l]; have := h.len; simp; omega)
      unfold Pk.plain
      rw [if_neg (by simp [h.e]), if_neg (by simp [hn]), hpo]
    show Alike y y' (y.plain n).1 (y'.plain n).1
    rw [key h, key h']
    exact ⟨_, rfl, rfl, hg⟩
  | false =>
    have key : ∀ {y : Pk}, UGK K y B → (y.name n).1 = ⟨{ y.x with b := (Rp.rest ⟨y.x.b, y.get⟩ n.data.toList).S }, (Rp.rest ⟨y.x.b, y.get⟩ n.data.toList).get⟩ := fun {y} h => by
      have hr : y.name n = y.rest n.data.toList := by unfold Pk.name; rw [if_neg (by simp [h.e]), if_neg (by simp [hn])]
      have hrm := Pk.rest_room y n.data.toList h.e h2 (fun m a hm => (h.good m a hm).2.1) (by rw [h.most, size_l]; have := h.len; omega)
      rw [hr, hrm]
    show Alike y y' (y.name n).1 (y'.name n).1
    rw [key h, key h']
    obtain ⟨T, g', a, b⟩ := rest_cong n.data.toList y.x.b y'.x.b y.get hl
    rw [← hg, a, b]
    exact ⟨T, rfl, rfl, rfl⟩
theorem dputB_alike {y y' : Pk} {B : Nat} (h : UGK K y B) (h' : UGK K y' B) (hg : y.get = y'.get) (hl : y.x.b.length = y'.x.b.length) {w : Wh} {d : Dt} (hw : ∃ t, w = whatN t) (k1 : ckN d.name = 0) (k2 : ckN d.mail = 0) (hB : B + 600 + d.size w ≤ K) :
    Alike y y' (dputB y w d) (dputB y' w d) := by
  have hwa : w.addr = 0 ∨ w.addr = 4 ∨ w.addr = 16 := by
    obtain ⟨t, rfl⟩ := hw
    rcases whatN_cases t with e | e | e | e | e | e | e | e <;> rw [e] <;> simp
  have hla := addrL_length d w hwa
  have hln := numsL_length d w
  have hsz : w.addr + w.nums * w.wide ≤ d.size w := by unfold Dt.size; omega
  unfold dputB
  dsimp only
  have s1 : Alike y y' (y.more (addrL d w)) (y'.more (addrL d w)) := (Alike.refl hg).more _
  have u1 := h.put (addrL d w)
  have u1' := h'.put (addrL d w)
  rw [hla] at u1 u1'
  generalize y.more (addrL d w) = z at *
  generalize y'.more (addrL d w) = z' at *
  have s2 : Alike y y' (if w.first = true then z.more (numsL d w) else z) (if w.first = true then z'.more (numsL d w) else z') ∧ UGK K (if w.first = true then z.more (numsL d w) else z) (B + d.size w) ∧ UGK K (if w.first = true then z'.more (numsL d w) else z') (B + d.size w) := by
    by_cases hf : w.first = true
    · simp only [hf, if_true]
      have v := u1.put (numsL d w)
      have v' := u1'.put (numsL d w)
      rw [hln] at v v'
      exact ⟨s1.more _, v.more (by omega), v'.more (by omega)⟩
    · simp only [hf]
      exact ⟨s1, u1.more (by omega), u1'.more (by omega)⟩
  obtain ⟨s2, u2, u2'⟩ := s2
  generalize (if w.first = true then z.more (numsL d w) else z) = z2 at *
  generalize (if w.first = true then z'.more (numsL d w) else z') = z2' at *
  have s3 : Alike y y' (if 1 ≤ w.names then z2.nameB w.plain d.name else z2) (if 1 ≤ w.names then z2'.nameB w.plain d.name else z2') ∧ UGK K (if 1 ≤ w.names then z2.nameB w.plain d.name else z2) (B + d.size w + 256) ∧ UGK K (if 1 ≤ w.names then z2'.nameB w.plain d.name else z2') (B + d.size w + 256) := by
    by_cases hf : 1 ≤ w.names
    · simp only [hf, if_true]
      exact ⟨s2.trans (nameB_alike u2 u2' s2.choose_spec.2.2 (s2.len hl) w.plain d.name k1 (by omega)), (nameB_reads u2 w.plain d.name k1 (by omega)).1, (nameB_reads u2' w.plain d.name k1 (by omega)).1⟩
    · simp only [hf, if_false]
      exact ⟨s2, u2.more (by omega), u2'.more (by omega)⟩
  obtain ⟨s3, u3, u3'⟩ := s3
  generalize (if 1 ≤ w.names then z2.nameB w.plain d.name else z2) = z3 at *
  generalize (if 1 ≤ w.names then z2'.nameB w.plain d.name else z2') = z3' at *
  have s4 : Alike y y' (if 2 ≤ w.names then z3.nameB w.plain d.mail else z3) (if 2 ≤ w.names then z3'.nameB w.plain d.mail else z3') := by
    by_cases hf : 2 ≤ w.names
    · simp only [hf, if_true]
      exact s3.trans (nameB_alike u3 u3' s3.choose_spec.2.2 (s3.len hl) w.plain d.mail k2 (by omega))
    · simp only [hf, if_false]
      exact s3
  generalize (if 2 ≤ w.names then z3.nameB w.plain d.mail else z3) = z4 at *
  generalize (if 2 ≤ w.names then z3'.nameB w.plain d.mail else z3') = z4' at *
  have s5 : Alike y y' (if w.first = true then z4 else z4.more (numsL d w)) (if w.first = true then z4' else z4'.more (numsL d w)) := by
    by_cases hf : w.first = true
    · simp only [hf, if_true]
      exact s4
    · simp only [hf]
      exact s4.more _
  exact (s5.more _).more _
end Go.Proofs.YtmbgejiahmhffaaGreat

/-
  LAYER 10, PLAIN: a record, a question: what is put, what is read. No program.
-/
namespace Go.Proofs.YtmbgejiahmhffaaGreat
open Go.RowKit
variable {K : Nat}

structure Rcd where
  name : ByteArray
  t : Int
  cl : Int
  ttl : Nat
  d : Dt
def Rcd.ok (r : Rcd) : Prop := r.ttl < 4294967296 ∧ r.d.ok
/-- May a name, a type, a class be? -/
def qcheck (n : ByteArray) (t cl : Int) : Int := if ckN n ≠ 0 then ckN n else if 0 ≤ t ∧ t ≤ 65535 ∧ 0 ≤ cl ∧ cl ≤ 65535 then 0 else 2
theorem qcheck_ok {n : ByteArray} {t cl : Int} (h : qcheck n t cl = 0) : ckN n = 0 ∧ (0 ≤ t ∧ t ≤ 65535) ∧ 0 ≤ cl ∧ cl ≤ 65535 := by
  unfold qcheck at h
  split at h
  · exact absurd h (by assumption)
  · rename_i h0
    split at h
    · rename_i h1
      exact ⟨Classical.not_not.1 h0, ⟨h1.1, h1.2.1⟩, h1.2.2.1, h1.2.2.2⟩
    · cases h
noncomputable def Rcd.check (r : Rcd) : Int := if qcheck r.name r.t r.cl ≠ 0 then qcheck r.name r.t r.cl else dcheck r.t r.d
theorem Rcd.check_ok {r : Rcd} (h : r.check = 0) : qcheck r.name r.t r.cl = 0 ∧ dcheck r.t r.d = 0 := by
  unfold Rcd.check at h
  split at h
  · exact absurd h (by assumption)
  · exact ⟨Classical.not_not.1 (by assumption), h⟩
/-- A name, a type, a class are put. -/
def headB (y : Pk) (n : ByteArray) (t cl : Int) : Pk := ((y.nameB false n).more (octs t.toNat 2)).more (octs cl.toNat 2)
theorem headB_good {y : Pk} {B : Nat} (h : UGK K y B) {n : ByteArray} (t cl : Int) (hn : ckN n = 0) (hB : B + 300 ≤ K) : UGK K (headB y n t cl) (B + 260) ∧ (headB y n t cl).x.b = (y.nameB false n).x.b ++ (octs t.toNat 2 ++ octs cl.toNat 2) ∧ (y.nameB false n).x.b.length ≤ y.x.b.length + n.size + 1 := by
  obtain ⟨g1, _, g3, _⟩ := nameB_reads h false n hn (by omega)
  have u1 := g1.put (octs t.toNat 2)
  have u2 := u1.put (octs cl.toNat 2)
  rw [octs_length] at u1 u2
  rw [octs_length] at u2
  exact ⟨u2.more (by omega), by unfold headB; rw [Pk.more_b, Pk.more_b, List.append_assoc], g3⟩
/-- A record's octets, but for how many the data has. -/
def rc2 (y : Pk) (r : Rcd) : Pk := (headB y r.name r.t r.cl).more (octs r.ttl 4)
def rc0 (y : Pk) (r : Rcd) : Pk := dputB ((rc2 y r).more [0, 0]) (whatN r.t) r.d
def rcL (y : Pk) (r : Rcd) : Nat := (rc0 y r).x.b.length - (rc2 y r).x.b.length - 2
/-- A record is put. -/
def rputB (y : Pk) (r : Rcd) : Pk := dputB ((rc2 y r).more (octs (rcL y r) 2)) (whatN r.t) r.d
theorem rput_facts {y : Pk} {B : Nat} (h : UGK K y B) {r : Rcd} (hr : r.ok) (hc : r.check = 0) (hB : B + 1000 + r.d.size (whatN r.t) ≤ K) :
    UGK K (rc0 y r) (B + 900 + r.d.size (whatN r.t)) ∧ UGK K (rputB y r) (B + 900 + r.d.size (whatN r.t)) ∧ (∃ T, (rc0 y r).x.b = (rc2 y r).x.b ++ ([0, 0] ++ T) ∧ (rputB y r).x.b = (rc2 y r).x.b ++ (octs (rcL y r) 2 ++ T) ∧ T.length = rcL y r) ∧ (rc0 y r).get = (rputB y r).get ∧
      UGK K ((rc2 y r).more (octs (rcL y r) 2)) (B + 270) ∧ (rc2 y r).x.b = (y.nameB false r.name).x.b ++ (octs r.t.toNat 2 ++ (octs r.cl.toNat 2 ++ octs r.ttl 4)) ∧ (rputB y r).x.b.length ≤ y.x.b.length + r.name.size + 11 + r.d.size (whatN r.t) ∧ rcL y r ≤ r.d.size (whatN r.t) := by
  obtain ⟨hq, hd⟩ := Rcd.check_ok hc
  obtain ⟨hn, ht, hcl⟩ := qcheck_ok hq
  obtain ⟨_, hb, k1, k2, k3, _⟩ := dcheck_ok hd
  obtain ⟨a1, a2, a3⟩ := headB_good h r.t r.cl hn (by omega)
  have a4 := a1.put (octs r.ttl 4)
  rw [octs_length] at a4
  have b0 : UGK K ((rc2 y r).more [0, 0]) (B + 270) := (UGK.put a4 [0, 0]).more (by simp)
  have b1 : UGK K ((rc2 y r).more (octs (rcL y r) 2)) (B + 270) := (UGK.put a4 (octs (rcL y r) 2)).more (by rw [octs_length]; omega)
  have hb2 : (rc2 y r).x.b = (y.nameB false r.name).x.b ++ (octs r.t.toNat 2 ++ (octs r.cl.toNat 2 ++ octs r.ttl 4)) := by
    unfold rc2
    rw [Pk.more_b, a2]
    simp
  obtain ⟨c1, ⟨T0, c2⟩, c3, _⟩ := read_dput b0 ⟨_, rfl⟩ hr.2 hb k1 k2 k3 (by omega) [] _ (Nat.le_refl _) (fun _ => rfl)
  obtain ⟨d1, _, d3, _⟩ := read_dput b1 ⟨_, rfl⟩ hr.2 hb k1 k2 k3 (by omega) [] _ (Nat.le_refl _) (fun _ => rfl)
  obtain ⟨T, s1, s2, s3⟩ := dputB_alike (w := whatN r.t) (d := r.d) b0 b1 rfl (by rw [Pk.more_b, Pk.more_b, List.length_append, List.length_append, octs_length]; rfl) ⟨_, rfl⟩ k1 k2 (by omega)
  rw [Pk.more_b, List.append_assoc] at s1 s2
  have hl0 : (rc0 y r).x.b.length = (rc2 y r).x.b.length + (2 + T.length) := by
    show (dputB _ _ _).x.b.length = _
    rw [s1, List.length_append, List.length_append]
    rfl
  have hL : T.length = rcL y r := by unfold rcL; rw [hl0]; omega
  have hlen2 : (rc2 y r).x.b.length = (y.nameB false r.name).x.b.length + 8 := by rw [hb2]; simp [octs_length]
  have hmore : ((rc2 y r).more (octs (rcL y r) 2)).x.b.length = (rc2 y r).x.b.length + 2 := by rw [Pk.more_b, List.length_append, octs_length]
  have hmore0 : ((rc2 y r).more [0, 0]).x.b.length = (rc2 y r).x.b.length + 2 := by rw [Pk.more_b, List.length_append]; rfl
  rw [hmore] at d3
  rw [hmore0] at c3
  refine ⟨c1.more (by omega), d1.more (by omega), ⟨T, s1, s2, hL⟩, s3, b1, hb2, ?_, ?_⟩
  · show (dputB _ _ _).x.b.length ≤ _
    omega
  · have : (rc0 y r).x.b.length ≤ (rc2 y r).x.b.length + 2 + r.d.size (whatN r.t) := c3
    omega
/-- The length is told when the data is put: that is the record. -/
theorem rput_patch {y : Pk} {B : Nat} (h : UGK K y B) {r : Rcd} (hr : r.ok) (hc : r.check = 0) (hB : B + 1000 + r.d.size (whatN r.t) ≤ K) :
    (rc0 y r).x.patch ((rc2 y r).x.b.length : Nat) (((rc0 y r).x.b.length - (rc2 y r).x.b.length - 2 : Nat) : Int) 2 = ((rputB y r).x, 0) := by
  have hds := (dcheck_ok (Rcd.check_ok hc).2).2.2.2.2.2
  obtain ⟨u0, u1, ⟨T, t1, t2, t3⟩, _, _, _, _, hle⟩ := rput_facts h hr hc hB
  have hl : (rc0 y r).x.b.length - (rc2 y r).x.b.length - 2 = rcL y r := rfl
  rw [hl]
  have hlen : (rc0 y r).x.b.length = (rc2 y r).x.b.length + (2 + T.length) := by rw [t1, List.length_append, List.length_append]; rfl
  have hf : fitsB ((rcL y r : Nat) : Int) 2 = true := by
    simp only [fitsB, decide_eq_true_eq]
    refine ⟨by omega, by omega, ?_⟩
    show ((rcL y r : Nat) : Int) < 256 ^ 2
    omega
  unfold Wst.patch
  rw [if_neg (by simp [u0.e]), if_pos ⟨hf, by omega, by omega⟩]
  rw [Int.toNat_natCast, Int.toNat_natCast, show (2 : Int).toNat = 2 from rfl]
  have e1 : (rc0 y r).x.b.take (rc2 y r).x.b.length = (rc2 y r).x.b := by rw [t1, List.take_left]
  have e2 : (rc0 y r).x.b.drop ((rc2 y r).x.b.length + 2) = T := by
    rw [t1, List.drop_length_add_append]
    rfl
  rw [e1, e2, ← t2]
  have q1 : (rc0 y r).x.most = (rputB y r).x.most := by rw [u0.most, u1.most]
  have q2 : (rc0 y r).x.e = (rputB y r).x.e := by rw [u0.e, u1.e]
  generalize (rputB y r).x = a at *
  cases a
  dsimp only at *
  rw [q1, q2]
/-- A record that was put is read. -/
theorem rput_reads {y : Pk} {B : Nat} (h : UGK K y B) {r : Rcd} (hr : r.ok) (hc : r.check = 0) (hB : B + 1000 + r.d.size (whatN r.t) ≤ K) (Z : List UInt8) :
    ∃ (p : Nat) (z : Un) (T : List UInt8), uread ((rputB y r).x.b ++ Z) true ⟨y.x.b.length, y.x.b.length, -1, 0, []⟩ = .done z ∧ z.out = r.name.data.toList ∧ z.fin = ((p : Nat) : Int) ∧ y.x.b.length ≤ p ∧
      (rputB y r).x.b = (y.nameB false r.name).x.b ++ (octs r.t.toNat 2 ++ (octs r.cl.toNat 2 ++ (octs r.ttl 4 ++ (octs T.length 2 ++ T)))) ∧ (y.nameB false r.name).x.b.length = p ∧ (rputB y r).x.b.length = p + 10 + T.length ∧ T.length ≤ 65535 ∧
      dreadB ((rputB y r).x.b ++ Z) (p + 10 + T.length) (whatN r.t) (p + 10) = (r.d, ⟨p + 10 + T.length, 0⟩) := by
  obtain ⟨hq, hd⟩ := Rcd.check_ok hc
  obtain ⟨hn, ht, hcl⟩ := qcheck_ok hq
  obtain ⟨_, hb, k1, k2, k3, _⟩ := dcheck_ok hd
  obtain ⟨u0, u1, ⟨T, t1, t2, t3⟩, _, b1, hb2, hle, hLe⟩ := rput_facts h hr hc hB
  obtain ⟨_, _, ⟨X, x1, _, _⟩, k, z, _, z2, z3, z4⟩ := h.name r.name hn (by omega)
  have hb3 : (rputB y r).x.b = (y.nameB false r.name).x.b ++ (octs r.t.toNat 2 ++ (octs r.cl.toNat 2 ++ (octs r.ttl 4 ++ (octs T.length 2 ++ T)))) := by
    rw [t2, hb2, t3]
    simp
  have hlen : (rputB y r).x.b.length = (y.nameB false r.name).x.b.length + 10 + T.length := by rw [hb3]; simp [octs_length]; omega
  have hmore : ((rc2 y r).more (octs (rcL y r) 2)).x.b.length = (y.nameB false r.name).x.b.length + 10 := by rw [Pk.more_b, hb2]; simp [octs_length]
  obtain ⟨_, _, _, g⟩ := read_dput b1 ⟨_, rfl⟩ hr.2 hb k1 k2 k3 (by omega) Z _ (Nat.le_refl _) (fun _ => rfl)
  rw [hmore] at g
  change dreadB ((rputB y r).x.b ++ Z) (rputB y r).x.b.length _ _ = (_, ⟨(rputB y r).x.b.length, 0⟩) at g
  rw [hlen] at g
  refine ⟨(y.nameB false r.name).x.b.length, z, T, ?_, z3, z4, ?_, hb3, rfl, hlen, by omega, g⟩
  · have := z2.app ((octs r.t.toNat 2 ++ (octs r.cl.toNat 2 ++ (octs r.ttl 4 ++ (octs T.length 2 ++ T)))) ++ Z)
    rw [hb3, List.append_assoc]
    exact this.uread
  · show _ ≤ (y.name r.name).1.x.b.length
    rw [x1, List.length_append]
    omega
end Go.Proofs.YtmbgejiahmhffaaGreat

/-
  LAYER 10, PLAIN: unlike records, questions have unlike octets; a question is read. No program.
-/
namespace Go.Proofs.YtmbgejiahmhffaaGreat
open Go.RowKit
variable {K : Nat}

theorem arr_eq {x y : ByteArray} (h : x.data.toList = y.data.toList) : x = y := ByteArray.ext (Array.toList_inj.1 h)
/-- A question that was put is read. -/
theorem qput_reads {y : Pk} {B : Nat} (h : UGK K y B) {n : ByteArray} {t cl : Int} (hc : qcheck n t cl = 0) (hB : B + 300 ≤ K) (Z : List UInt8) :
    ∃ (p : Nat) (z : Un), uread ((headB y n t cl).x.b ++ Z) true ⟨y.x.b.length, y.x.b.length, -1, 0, []⟩ = .done z ∧ z.out = n.data.toList ∧ z.fin = ((p : Nat) : Int) ∧ y.x.b.length ≤ p ∧ p ≤ y.x.b.length + n.size + 1 ∧
      (headB y n t cl).x.b = (y.nameB false n).x.b ++ (octs t.toNat 2 ++ octs cl.toNat 2) ∧ (y.nameB false n).x.b.length = p ∧ (headB y n t cl).x.b.length = p + 4 := by
  obtain ⟨hn, ht, hcl⟩ := qcheck_ok hc
  obtain ⟨u, hb, hle⟩ := headB_good h t cl hn hB
  obtain ⟨_, _, ⟨X, x1, _, _⟩, k, z, _, z2, z3, z4⟩ := h.name n hn (by omega)
  refine ⟨(y.nameB false n).x.b.length, z, ?_, z3, z4, ?_, hle, hb, rfl, by rw [hb]; simp [octs_length]⟩
  · rw [hb, List.append_assoc]
    exact (z2.app _).uread
  · show _ ≤ (y.name n).1.x.b.length
    rw [x1, List.length_append]
    omega
end Go.Proofs.YtmbgejiahmhffaaGreat

/-
  LAYER 10, PLAIN: Read's and ReadQuestion's answers; what was put is what they tell. No program.
-/
namespace Go.Proofs.YtmbgejiahmhffaaGreat
open Go.RowKit
variable {K : Nat}

def numAt (S : List UInt8) (p n : Nat) : Nat := numOf ((S.drop p).take n)
theorem numAt_app (P R : List UInt8) (v n : Nat) (hv : v < 256 ^ n) : numAt (P ++ (octs v n ++ R)) P.length n = v := by
  unfold numAt
  rw [List.drop_left, List.take_left' (octs_length v n)]
  exact numOf_octs0 v n hv
def Rcd.zero : Rcd := ⟨⟨#[]⟩, 0, 0, 0, Dt.zero⟩
/-- A question is read: name, type, class; where it ends; the error. -/
def qreadN (S : List UInt8) (at_ : Int) : (ByteArray × Int × Int) × Int × Int :=
  if at_ < 0 ∨ (S.length : Int) < at_ then ((⟨#[]⟩, 0, 0), 0, 2)
  else match uread S true ⟨at_.toNat, at_.toNat, -1, 0, []⟩ with
  | .done z =>
    if S.length - z.fin.toNat < 4 then ((⟨#[]⟩, 0, 0), 0, 8)
    else ((⟨z.out.toArray⟩, (numAt S z.fin.toNat 2 : Nat), (numAt S (z.fin.toNat + 2) 2 : Nat)), ((z.fin.toNat + 4 : Nat) : Int), 0)
  | .bad e => ((⟨#[]⟩, 0, 0), 0, e)
  | .on _ => ((⟨#[]⟩, 0, 0), 0, 0)
/-- A record is read. -/
noncomputable def rreadN (S : List UInt8) (at_ : Int) : Rcd × Int × Int :=
  if at_ < 0 ∨ (S.length : Int) < at_ then (Rcd.zero, 0, 2)
  else match uread S true ⟨at_.toNat, at_.toNat, -1, 0, []⟩ with
  | .done z =>
    let p := z.fin.toNat
    if S.length - p < 10 then (Rcd.zero, 0, 8)
    else
      let n := numAt S (p + 8) 2
      if S.length - (p + 10) < n then (Rcd.zero, 0, 8)
      else
        let d := dreadN S ((p + 10 : Nat) : Int) ((p + 10 + n : Nat) : Int) (numAt S p 2 : Nat)
        if d.2 ≠ 0 then (Rcd.zero, 0, d.2)
        else (⟨⟨z.out.toArray⟩, (numAt S p 2 : Nat), (numAt S (p + 2) 2 : Nat), numAt S (p + 4) 4, d.1⟩, ((p + 10 + n : Nat) : Int), 0)
  | .bad e => (Rcd.zero, 0, e)
  | .on _ => (Rcd.zero, 0, 0)
theorem qread_qput {y : Pk} {B : Nat} (h : UGK K y B) {n : ByteArray} {t cl : Int} (hc : qcheck n t cl = 0) (hB : B + 300 ≤ K) (Z : List UInt8) :
    qreadN ((headB y n t cl).x.b ++ Z) (y.x.b.length : Nat) = ((n, t, cl), (((headB y n t cl).x.b.length : Nat) : Int), 0) := by
  obtain ⟨p, z, r1, r2, r3, r4, _, r5, r6, r7⟩ := qput_reads h hc hB Z
  obtain ⟨_, ta, ua⟩ := qcheck_ok hc
  unfold qreadN
  rw [if_neg (by rw [List.length_append]; omega), Int.toNat_natCast, r1]
  dsimp only
  rw [r3, Int.toNat_natCast, if_neg (by rw [List.length_append]; omega), r2, back_arr]
  have e0 : numAt ((headB y n t cl).x.b ++ Z) p 2 = t.toNat := by
    rw [r5, List.append_assoc, List.append_assoc, ← r6]
    exact numAt_app _ _ _ 2 (by show _ < 65536; omega)
  have e1 : numAt ((headB y n t cl).x.b ++ Z) (p + 2) 2 = cl.toNat := by
    have := numAt_app ((y.nameB false n).x.b ++ octs t.toNat 2) Z cl.toNat 2 (by show _ < 65536; omega)
    rw [List.length_append, octs_length, r6] at this
    rw [r5]
    conv => rhs; rw [← this]
    simp
  rw [e0, e1, r7, show ((t.toNat : Nat) : Int) = t by omega, show ((cl.toNat : Nat) : Int) = cl by omega]
theorem rread_rput {y : Pk} {B : Nat} (h : UGK K y B) {r : Rcd} (hr : r.ok) (hc : r.check = 0) (hB : B + 1000 + r.d.size (whatN r.t) ≤ K) (Z : List UInt8) :
    rreadN ((rputB y r).x.b ++ Z) (y.x.b.length : Nat) = (r, (((rputB y r).x.b.length : Nat) : Int), 0) := by
  obtain ⟨p, z, T, r1, r2, r3, r4, r5, r6, r7, r8, r9⟩ := rput_reads h hr hc hB Z
  obtain ⟨hq, hd⟩ := Rcd.check_ok hc
  obtain ⟨_, ta, ua⟩ := qcheck_ok hq
  have hS : (rputB y r).x.b ++ Z = (y.nameB false r.name).x.b ++ (octs r.t.toNat 2 ++ (octs r.cl.toNat 2 ++ (octs r.ttl 4 ++ (octs T.length 2 ++ (T ++ Z))))) := by rw [r5]; simp
  have e0 : numAt ((rputB y r).x.b ++ Z) p 2 = r.t.toNat := by
    rw [hS, ← r6]
    exact numAt_app _ _ _ 2 (by show _ < 65536; omega)
  have e1 : numAt ((rputB y r).x.b ++ Z) (p + 2) 2 = r.cl.toNat := by
    have := numAt_app ((y.nameB false r.name).x.b ++ octs r.t.toNat 2) (octs r.ttl 4 ++ (octs T.length 2 ++ (T ++ Z))) r.cl.toNat 2 (by show _ < 65536; omega)
    rw [List.length_append, octs_length, r6] at this
    rw [hS]
    conv => rhs; rw [← this]
    simp
  have e2 : numAt ((rputB y r).x.b ++ Z) (p + 4) 4 = r.ttl := by
    have := numAt_app ((y.nameB false r.name).x.b ++ (octs r.t.toNat 2 ++ octs r.cl.toNat 2)) (octs T.length 2 ++ (T ++ Z)) r.ttl 4 (by show _ < 4294967296; exact hr.1)
    rw [List.length_append, List.length_append, octs_length, octs_length, r6] at this
    rw [hS]
    conv => rhs; rw [← this]
    simp
  have e3 : numAt ((rputB y r).x.b ++ Z) (p + 8) 2 = T.length := by
    have := numAt_app ((y.nameB false r.name).x.b ++ (octs r.t.toNat 2 ++ (octs r.cl.toNat 2 ++ octs r.ttl 4))) (T ++ Z) T.length 2 (by show _ < 65536; omega)
    rw [List.length_append, List.length_append, List.length_append, octs_length, octs_length, octs_length, r6] at this
    rw [hS]
    conv => rhs; rw [← this]
    simp
  have hlen : ((rputB y r).x.b ++ Z).length = p + 10 + T.length + Z.length := by rw [List.length_append, r7]
  have hdr : dreadN ((rputB y r).x.b ++ Z) ((p + 10 : Nat) : Int) ((p + 10 + T.length : Nat) : Int) r.t = (r.d, 0) := by
    unfold dreadN
    rw [if_neg (by rw [hlen]; omega)]
    dsimp only
    rw [Int.toNat_natCast, Int.toNat_natCast, r9]
    dsimp only
    rw [if_neg (by simp), if_neg (by simp [hd])]
  unfold rreadN
  rw [if_neg (by rw [hlen]; omega), Int.toNat_natCast, r1]
  dsimp only
  rw [r3, Int.toNat_natCast, e3, e0, e1, e2, if_neg (by rw [hlen]; omega), if_neg (by rw [hlen]; omega)]
  rw [show ((r.t.toNat : Nat) : Int) = r.t by omega, show ((r.cl.toNat : Nat) : Int) = r.cl by omega, hdr]
  dsimp only
  rw [if_neg (by simp), r2, back_arr, r7]
end Go.Proofs.YtmbgejiahmhffaaGreat

/-
  LAYER 7, PLAIN: in any room, what fits is put whole, and what does not is an error that stays. No program.
-/
namespace Go.Proofs.YtmbgejiahmhffaaGreat
open Go.RowKit

theorem Rp.rest_pre : ∀ (n : List UInt8) (x : Rp), ∃ T, (x.rest n).S = x.S ++ T := by
  intro n
  generalize hk : n.length = k
  induction k using Nat.strongRecOn generalizing n with
  | _ k ih =>
    intro x
    by_cases hn : n = []
    · subst hn
      rw [Go.Proofs.YtmbgejiahmhffaaGreat.rest_nil]
      exact ⟨_, rfl⟩
    · have hp : 0 < n.length := List.length_pos_iff.2 hn
      cases hg : x.get n with
      | some a =>
        rw [Go.Proofs.YtmbgejiahmhffaaGreat.rest_some hn hg]
        exact ⟨_, rfl⟩
      | none =>
        rw [Go.Proofs.YtmbgejiahmhffaaGreat.rest_none hn hg]
        obtain ⟨T, hT⟩ := ih (n.drop (1 + oc n 0)).length (by rw [List.length_drop]; omega) (n.drop (1 + oc n 0)) rfl ⟨x.S ++ n.take (1 + oc n 0), updAt x.get n x.S.length⟩
        exact ⟨n.take (1 + oc n 0) ++ T, by rw [hT, List.append_assoc]⟩
theorem Wst.put_no {x : Wst} {l : List UInt8} (he : x.e = 0) (h : x.most < (x.b.length : Int) + l.length) : x.put l = ({ x with e := 3 }, 3) := by
  unfold Wst.put
  rw [if_neg (by simp [he]), if_pos (by omega)]
theorem Pk.rest_most (y : Pk) (n : List UInt8) (he : y.x.e = 0) (hc : ckAt n 0 = 0) (hg : ∀ m a, y.get m = some a → a < 16384) :
    (((Rp.rest ⟨y.x.b, y.get⟩ n).S.length : Int) ≤ y.x.most → y.rest n = (⟨{ y.x with b := (Rp.rest ⟨y.x.b, y.get⟩ n).S }, (Rp.rest ⟨y.x.b, y.get⟩ n).get⟩, 0)) ∧
      (y.x.most < ((Rp.rest ⟨y.x.b, y.get⟩ n).S.length : Int) → (y.rest n).2 = 3 ∧ (y.rest n).1.x.e = 3) := by
  generalize hk : n.length = k
  induction k using Nat.strongRecOn generalizing y n with
  | _ k ih =>
    subst hk
    by_cases hn : n = []
    · subst hn
      rw [Pk.rest_nil, Go.Proofs.YtmbgejiahmhffaaGreat.rest_nil]
      refine ⟨fun h => ?_, fun h => ?_⟩
      · rw [Wst.put_ok he (by simp at h ⊢; omega)]
      · rw [Wst.put_no he (by simp at h ⊢; omega)]
        exact ⟨rfl, rfl⟩
    · cases hgn : y.get n with
      | some a =>
        have ha := hg _ _ hgn
        rw [Pk.rest_some hn hgn, Go.Proofs.YtmbgejiahmhffaaGreat.rest_some (x := ⟨y.x.b, y.get⟩) hn hgn]
        have hf : fitsB (49152 + (a : Int)) 2 = true := by
          simp only [fitsB, decide_eq_true_eq]
          refine ⟨by omega, by omega, ?_⟩
          show (49152 : Int) + a < 256 ^ 2
          omega
        have hnm : y.x.number (49152 + (a : Int)) 2 = y.x.put (ptr a) := by
          unfold Wst.number
          rw [if_neg (by simp [he]), if_pos hf]
          rw [show ((49152 : Int) + a).toNat = 49152 + a by omega, show (2 : Int).toNat = 2 from rfl, ptr_octs a ha]
        rw [hnm]
        refine ⟨fun h => ?_, fun h => ?_⟩
        · rw [Wst.put_ok he (by simp at h ⊢; omega)]
        · rw [Wst.put_no he (by simp at h ⊢; omega)]
          exact ⟨rfl, rfl⟩
      | none =>
        obtain ⟨c1, c2, c3, c4⟩ := ckAt_first hn hc
        have hlen : (n.take (1 + oc n 0)).length = 1 + oc n 0 := by rw [List.length_take]; omega
        rw [Go.Proofs.YtmbgejiahmhffaaGreat.rest_none (x := ⟨y.x.b, y.get⟩) hn hgn]
        by_cases hfit : (y.x.b.length : Int) + (n.take (1 + oc n 0)).length ≤ y.x.most
        · have hpo := Wst.put_ok (x := y.x) (l := n.take (1 + oc n 0)) he hfit
          rw [Pk.rest_go hn hgn (by rw [hpo]), hpo]
          exact ih (n.drop (1 + oc n 0)).length (by rw [List.length_drop]; omega) ⟨{ y.x with b := y.x.b ++ n.take (1 + oc n 0) }, updAt y.get n y.x.b.length⟩ (n.drop (1 + oc n 0)) he c4
            (fun m a h => by
              rcases updAt_some h with h | ⟨_, h, h'⟩
              · exact hg m a h
              · omega) rfl
        · have hpn := Wst.put_no (x := y.x) (l := n.take (1 + oc n 0)) he (by omega)
          obtain ⟨T, hT⟩ := Rp.rest_pre (n.drop (1 + oc n 0)) ⟨y.x.b ++ n.take (1 + oc n 0), updAt y.get n y.x.b.length⟩
          refine ⟨fun h => ?_, fun _ => ?_⟩
          · dsimp only at h hT
            rw [hT, List.length_append, List.length_append] at h
            omega
          · rw [Pk.rest_stop hn hgn (by rw [hpn]; exact (by decide : (3 : Int) ≠ 0)), hpn]
            exact ⟨rfl, rfl⟩
end Go.Proofs.YtmbgejiahmhffaaGreat

/-
  LAYERS 9, 10, PLAIN: what is put in any room: it fits, and is what stands in a great room; or the error stays. No program.
-/
namespace Go.Proofs.YtmbgejiahmhffaaGreat
open Go.RowKit
variable {K : Nat}

/-- y, of M octets of room, does what z does that has room enough. -/
def Rm (M : Nat) (y z : Pk) : Prop :=
  (z.x.b.length ≤ M ∧ y = ⟨{ z.x with most := (M : Int) }, z.get⟩) ∨ (M < z.x.b.length ∧ y.x.e = 3)
def Pk.putP (y : Pk) (l : List UInt8) : Pk := { y with x := (y.x.put l).1 }
def Pk.numP (y : Pk) (v n : Int) : Pk := { y with x := (y.x.number v n).1 }
theorem Wst.put_err {x : Wst} {l : List UInt8} (he : x.e ≠ 0) : x.put l = (x, x.e) := by unfold Wst.put; rw [if_pos he]
theorem Wst.number_err {x : Wst} {v n : Int} (he : x.e ≠ 0) : x.number v n = (x, x.e) := by unfold Wst.number; rw [if_pos he]
theorem Rm.put {M : Nat} {y z : Pk} (h : Rm M y z) (he : z.x.e = 0) (l : List UInt8) : Rm M (y.putP l) (z.more l) := by
  rcases h with ⟨h1, rfl⟩ | ⟨h1, h2⟩
  · by_cases hf : z.x.b.length + l.length ≤ M
    · left
      refine ⟨by rw [Pk.more_b, List.length_append]; exact hf, ?_⟩
      show (⟨(({ z.x with most := (M : Int) } : Wst).put l).1, z.get⟩ : Pk) = _
      rw [Wst.put_ok (x := { z.x with most := (M : Int) }) he (by dsimp only; omega)]
      rfl
    · right
      refine ⟨by rw [Pk.more_b, List.length_append]; omega, ?_⟩
      show (({ z.x with most := (M : Int) } : Wst).put l).1.e = 3
      rw [Wst.put_no (x := { z.x with most := (M : Int) }) he (by dsimp only; omega)]
  · right
    refine ⟨by rw [Pk.more_b, List.length_append]; omega, ?_⟩
    unfold Pk.putP
    rw [Wst.put_err (by rw [h2]; decide)]
    exact h2
theorem numP_put {y : Pk} {v n : Int} (hf : fitsB v n = true) : y.numP v n = y.putP (octs v.toNat n.toNat) := by
  unfold Pk.numP Pk.putP
  by_cases he : y.x.e = 0
  · unfold Wst.number
    rw [if_neg (by simp [he]), if_pos hf]
  · rw [Wst.number_err he, Wst.put_err he]
theorem Rm.num {M : Nat} {y z : Pk} (h : Rm M y z) (he : z.x.e = 0) {v n : Int} (hf : fitsB v n = true) : Rm M (y.numP v n) (z.more (octs v.toNat n.toNat)) := by
  rw [numP_put hf]
  exact h.put he _
theorem Rm.nameB {M B : Nat} {y z : Pk} (h : Rm M y z) (hu : UGK K z B) (p : Bool) (n : ByteArray) (hn : ckN n = 0) (hB : B + 256 ≤ K) : Rm M (y.nameB p n) (z.nameB p n) := by
  obtain ⟨_, ⟨T, hT⟩, _, _⟩ := nameB_reads hu p n hn hB
  obtain ⟨c1, c2⟩ := ckN_ok hn
  have hTl : (z.nameB p n).x.b.length = z.x.b.length + T.length := by rw [hT, List.length_append]
  rcases h with ⟨h1, rfl⟩ | ⟨h1, h2⟩
  · cases p with
    | true =>
      have hpo := Wst.put_ok (x := z.x) (l := n.data.toList ++ [0]) hu.e (by rw [hu.most, List.length_append, size_l]; have := hu.len; simp; omega)
      have hr : z.nameB true n = ⟨{ z.x with b := z.x.b ++ (n.data.toList ++ [0]) }, z.get⟩ := by
        show (z.plain n).1 = _
        unfold Pk.plain
        rw [if_neg (by simp [hu.e]), if_neg (by simp [hn]), hpo]
      have hy : Pk.nameB ⟨{ z.x with most := (M : Int) }, z.get⟩ true n = Pk.putP ⟨{ z.x with most := (M : Int) }, z.get⟩ (n.data.toList ++ [0]) := by
        show (Pk.plain _ n).1 = _
        unfold Pk.plain Pk.putP
        rw [if_neg (by simp [hu.e]), if_neg (by simp [hn])]
      rw [hr, hy]
      exact Rm.put (.inl ⟨h1, rfl⟩) hu.e _
    | false =>
      have hz : z.nameB false n = ⟨{ z.x with b := (Rp.rest ⟨z.x.b, z.get⟩ n.data.toList).S }, (Rp.rest ⟨z.x.b, z.get⟩ n.data.toList).get⟩ := by
        show (z.name n).1 = _
        have hr : z.name n = z.rest n.data.toList := by unfold Pk.name; rw [if_neg (by simp [hu.e]), if_neg (by simp [hn])]
        rw [hr, Pk.rest_room z n.data.toList hu.e c2 (fun m a hm => (hu.good m a hm).2.1) (by rw [hu.most, size_l]; have := hu.len; omega)]
      have hy : Pk.nameB ⟨{ z.x with most := (M : Int) }, z.get⟩ false n = (Pk.rest ⟨{ z.x with most := (M : Int) }, z.get⟩ n.data.toList).1 := by
        show (Pk.name _ n).1 = _
        unfold Pk.name
        rw [if_neg (by simp [hu.e]), if_neg (by simp [hn])]
      obtain ⟨k1, k2⟩ := Pk.rest_most ⟨{ z.x with most := (M : Int) }, z.get⟩ n.data.toList hu.e c2 (fun m a hm => (hu.good m a hm).2.1)
      rw [hz, hy]
      dsimp only at k1 k2 ⊢
      by_cases hf : (Rp.rest ⟨z.x.b, z.get⟩ n.data.toList).S.length ≤ M
      · left
        exact ⟨hf, by rw [k1 (by omega)]⟩
      · right
        exact ⟨Nat.lt_of_not_le hf, (k2 (by omega)).2⟩
  · right
    refine ⟨by omega, ?_⟩
    have he : y.x.e ≠ 0 := by rw [h2]; decide
    cases p with
    | true =>
      show (y.plain n).1.x.e = 3
      unfold Pk.plain
      rw [if_pos he]
      exact h2
    | false =>
      show (y.name n).1.x.e = 3
      unfold Pk.name
      rw [if_pos he]
      exact h2
/-- The numbers, put one by one. -/
def Pk.numsP (y : Pk) (d : Dt) (wide : Nat) : Nat → Nat → Pk
  | _, 0 => y
  | j, k + 1 => Pk.numsP (y.numP (d.num j : Nat) (wide : Nat)) d wide (j + 1) k
theorem Rm.nums {M : Nat} (d : Dt) (wide : Nat) (hf : ∀ i, fitsB ((d.num i : Nat) : Int) ((wide : Nat) : Int) = true) : ∀ (k j : Nat) {y z : Pk}, Rm M y z → z.x.e = 0 → Rm M (y.numsP d wide j k) (z.more ((List.range' j k).flatMap fun i => octs (d.num i) wide))
  | 0, j, y, z, h, _ => by simpa [Pk.numsP, more_nil] using h
  | k + 1, j, y, z, h, he => by
    have h1 := h.num he (hf j)
    rw [Int.toNat_natCast, Int.toNat_natCast] at h1
    have h2 := Rm.nums d wide hf k (j + 1) h1 he
    have e : (z.more (octs (d.num j) wide)).more ((List.range' (j + 1) k).flatMap fun i => octs (d.num i) wide) = z.more ((List.range' j (k + 1)).flatMap fun i => octs (d.num i) wide) := by
      simp [Pk.more, List.range'_succ, List.append_assoc]
    rw [e] at h2
    exact h2
/-- The texts, put one by one. -/
def Pk.textsP (y : Pk) : List ByteArray → Pk
  | [] => y
  | x :: r => Pk.textsP ((y.numP (x.size : Nat) 1).putP x.data.toList) r
theorem Rm.texts {M : Nat} : ∀ (l : List ByteArray) {y z : Pk}, (∀ x ∈ l, x.size ≤ 255) → Rm M y z → z.x.e = 0 → Rm M (y.textsP l) (z.more (textsL l))
  | [], y, z, _, h, _ => by simpa [Pk.textsP, textsL, more_nil] using h
  | x :: r, y, z, hx, h, he => by
    have hx0 : x.size ≤ 255 := hx x (by simp)
    have hf : fitsB ((x.size : Nat) : Int) 1 = true := by
      simp only [fitsB, decide_eq_true_eq]
      refine ⟨by decide, by decide, ?_⟩
      show ((x.size : Nat) : Int) < 256 ^ 1
      omega
    have h1 := h.num he hf
    rw [Int.toNat_natCast, show (1 : Int).toNat = 1 from rfl] at h1
    have h2 := Rm.texts r (fun z hz => hx z (by simp [hz])) (h1.put he x.data.toList) he
    have e : ((z.more (octs x.size 1)).more x.data.toList).more (textsL r) = z.more (textsL (x :: r)) := by
      simp [Pk.more, textsL, List.append_assoc]
    rw [e] at h2
    exact h2
/-- Data, put as the program puts it. -/
def dputP (y : Pk) (w : Wh) (d : Dt) : Pk :=
  let y1 := if 0 < w.addr then y.putP (addrL d w) else y
  let y2 := if w.first = true then y1.numsP d w.wide 0 w.nums else y1
  let y3 := if 1 ≤ w.names then y2.nameB w.plain d.name else y2
  let y4 := if 2 ≤ w.names then y3.nameB w.plain d.mail else y3
  let y5 := if w.first = true then y4 else y4.numsP d w.wide 0 w.nums
  (y5.textsP d.texts).putP d.raw.data.toList
theorem nums_fit {d : Dt} {w : Wh} (hw : ∃ t, w = whatN t) (hd : d.ok) (hb : d.bare w) : w.nums = 0 ∨ ∀ i, fitsB ((d.num i : Nat) : Int) ((w.wide : Nat) : Int) = true := by
  obtain ⟨_, _, o3⟩ := hd
  obtain ⟨_, _, _, _, _, _, _, b8⟩ := hb
  obtain ⟨t, rfl⟩ := hw
  have f4 : ∀ v : Nat, v < 4294967296 → fitsB ((v : Nat) : Int) 4 = true := fun v hv => by
    simp only [fitsB, decide_eq_true_eq]
    refine ⟨by decide, by decide, ?_⟩
    show ((v : Nat) : Int) < 256 ^ 4
    omega
  have f2 : ∀ v : Nat, v ≤ 65535 → fitsB ((v : Nat) : Int) 2 = true := fun v hv => by
    simp only [fitsB, decide_eq_true_eq]
    refine ⟨by decide, by decide, ?_⟩
    show ((v : Nat) : Int) < 256 ^ 2
    omega
  rcases whatN_cases t with e | e | e | e | e | e | e | e <;> rw [e] at b8 ⊢
  · exact .inl rfl
  · exact .inl rfl
  · exact .inl rfl
  · exact .inr fun i => f4 _ (o3 i)
  · exact .inr fun i => f2 _ (num_all (b8 rfl) i)
  · exact .inr fun i => f2 _ (num_all (b8 rfl) i)
  · exact .inl rfl
  · exact .inl rfl
theorem Rm.numsB {M : Nat} {y z : Pk} {d : Dt} {w : Wh} (h : Rm M y z) (he : z.x.e = 0) (hn : w.nums = 0 ∨ ∀ i, fitsB ((d.num i : Nat) : Int) ((w.wide : Nat) : Int) = true) : Rm M (y.numsP d w.wide 0 w.nums) (z.more (numsL d w)) := by
  rcases hn with hn | hn
  · have e : numsL d w = [] := by unfold numsL; rw [hn]; rfl
    rw [e, more_nil, hn]
    exact h
  · have := Rm.nums d w.wide hn w.nums 0 h he
    unfold numsL
    rw [List.range_eq_range']
    exact this
theorem Rm.dput {M B : Nat} {y z : Pk} (h : Rm M y z) (hu : UGK K z B) {w : Wh} {d : Dt} (hw : ∃ t, w = whatN t) (hd : d.ok) (hb : d.bare w) (k1 : ckN d.name = 0) (k2 : ckN d.mail = 0) (k3 : ∀ x ∈ d.texts, x.size ≤ 255) (hB : B + 600 + d.size w ≤ K) :
    Rm M (dputP y w d) (dputB z w d) := by
  have hnf := nums_fit hw hd hb
  have hwa : w.addr = 0 ∨ w.addr = 4 ∨ w.addr = 16 := by
    obtain ⟨t, rfl⟩ := hw
    rcases whatN_cases t with e | e | e | e | e | e | e | e <;> rw [e] <;> simp
  have hla := addrL_length d w hwa
  have hln := numsL_length d w
  have hsz : w.addr + w.nums * w.wide ≤ d.size w := by unfold Dt.size; omega
  unfold dputB dputP
  dsimp only
  have s1 : Rm M (if 0 < w.addr then y.putP (addrL d w) else y) (z.more (addrL d w)) := by
    by_cases ha : 0 < w.addr
    · rw [if_pos ha]
      exact h.put hu.e _
    · rw [if_neg ha]
      have e : addrL d w = [] := List.eq_nil_of_length_eq_zero (by omega)
      rw [e, more_nil]
      exact h
  have u1 := hu.put (addrL d w)
  rw [hla] at u1
  generalize (if 0 < w.addr then y.putP (addrL d w) else y) = y1 at *
  generalize z.more (addrL d w) = z1 at *
  have s2 : Rm M (if w.first = true then y1.numsP d w.wide 0 w.nums else y1) (if w.first = true then z1.more (numsL d w) else z1) ∧ UGK K (if w.first = true then z1.more (numsL d w) else z1) (B + d.size w) := by
    by_cases hf : w.first = true
    · simp only [hf, if_true]
      have v := u1.put (numsL d w)
      rw [hln] at v
      exact ⟨s1.numsB u1.e hnf, v.more (by omega)⟩
    · simp only [hf]
      exact ⟨s1, u1.more (by omega)⟩
  obtain ⟨s2, u2⟩ := s2
  generalize (if w.first = true then y1.numsP d w.wide 0 w.nums else y1) = y2 at *
  generalize (if w.first = true then z1.more (numsL d w) else z1) = z2 at *
  have s3 : Rm M (if 1 ≤ w.names then y2.nameB w.plain d.name else y2) (if 1 ≤ w.names then z2.nameB w.plain d.name else z2) ∧ UGK K (if 1 ≤ w.names then z2.nameB w.plain d.name else z2) (B + d.size w + 256) := by
    by_cases hf : 1 ≤ w.names
    · simp only [hf, if_true]
      exact ⟨s2.nameB u2 w.plain d.name k1 (by omega), (nameB_reads u2 w.plain d.name k1 (by omega)).1⟩
    · simp only [hf, if_false]
      exact ⟨s2, u2.more (by omega)⟩
  obtain ⟨s3, u3⟩ := s3
  generalize (if 1 ≤ w.names then y2.nameB w.plain d.name else y2) = y3 at *
  generalize (if 1 ≤ w.names then z2.nameB w.plain d.name else z2) = z3 at *
  have s4 : Rm M (if 2 ≤ w.names then y3.nameB w.plain d.mail else y3) (if 2 ≤ w.names then z3.nameB w.plain d.mail else z3) ∧ (if 2 ≤ w.names then z3.nameB w.plain d.mail else z3).x.e = 0 := by
    by_cases hf : 2 ≤ w.names
    · simp only [hf, if_true]
      exact ⟨s3.nameB u3 w.plain d.mail k2 (by omega), (nameB_reads u3 w.plain d.mail k2 (by omega)).1.e⟩
    · simp only [hf, if_false]
      exact ⟨s3, u3.e⟩
  obtain ⟨s4, u4⟩ := s4
  generalize (if 2 ≤ w.names then y3.nameB w.plain d.mail else y3) = y4 at *
  generalize (if 2 ≤ w.names then z3.nameB w.plain d.mail else z3) = z4 at *
  have s5 : Rm M (if w.first = true then y4 else y4.numsP d w.wide 0 w.nums) (if w.first = true then z4 else z4.more (numsL d w)) ∧ (if w.first = true then z4 else z4.more (numsL d w)).x.e = 0 := by
    by_cases hf : w.first = true
    · simp only [hf, if_true]
      exact ⟨s4, u4⟩
    · simp only [hf]
      exact ⟨s4.numsB u4 hnf, u4⟩
  obtain ⟨s5, u5⟩ := s5
  exact (Rm.texts d.texts k3 s5 u5).put u5 _
/-- A name, a type, a class, as the program puts them. -/
def headP (y : Pk) (n : ByteArray) (t cl : Int) : Pk := ((y.nameB false n).numP t 2).numP cl 2
theorem fit2 {v : Int} (h : 0 ≤ v ∧ v ≤ 65535) : fitsB v 2 = true := by
  simp only [fitsB, decide_eq_true_eq]
  refine ⟨by decide, by decide, ?_⟩
  show v < 256 ^ 2
  omega
theorem Rm.head {M B : Nat} {y z : Pk} (h : Rm M y z) (hu : UGK K z B) {n : ByteArray} {t cl : Int} (hc : qcheck n t cl = 0) (hB : B + 300 ≤ K) : Rm M (headP y n t cl) (headB z n t cl) := by
  obtain ⟨hn, ht, hcl⟩ := qcheck_ok hc
  have u := (nameB_reads hu false n hn (by omega)).1
  exact ((h.nameB hu false n hn (by omega)).num u.e (fit2 ht)).num u.e (fit2 hcl)
/-- A record up to its data's end, as the program puts it. -/
def rc0P (y : Pk) (r : Rcd) : Pk := dputP (((headP y r.name r.t r.cl).numP (r.ttl : Nat) 4).numP 0 2) (whatN r.t) r.d
theorem Rm.recd {M B : Nat} {y z : Pk} (h : Rm M y z) (hu : UGK K z B) {r : Rcd} (hr : r.ok) (hc : r.check = 0) (hB : B + 1000 + r.d.size (whatN r.t) ≤ K) : Rm M (rc0P y r) (rc0 z r) := by
  obtain ⟨hq, hd⟩ := Rcd.check_ok hc
  obtain ⟨hn, ht, hcl⟩ := qcheck_ok hq
  obtain ⟨_, hb, k1, k2, k3, _⟩ := dcheck_ok hd
  obtain ⟨a1, _, _⟩ := headB_good hu r.t r.cl hn (by omega)
  have f4 : fitsB ((r.ttl : Nat) : Int) 4 = true := by
    simp only [fitsB, decide_eq_true_eq]
    refine ⟨by decide, by decide, ?_⟩
    show ((r.ttl : Nat) : Int) < 256 ^ 4
    have := hr.1
    omega
  have s1 := (h.head hu hq (by omega)).num a1.e f4
  have s2 := s1.num (v := 0) (n := 2) a1.e (fit2 (by decide))
  have u2 := (a1.put (octs r.ttl 4)).put [0, 0]
  rw [octs_length] at u2
  exact Rm.dput s2 (u2.more (show _ ≤ B + 270 by simp)) ⟨_, rfl⟩ hr.2 hb k1 k2 k3 (by omega)
theorem patch_most (x : Wst) (m a v n : Int) : ({ x with most := m } : Wst).patch a v n = ({ (x.patch a v n).1 with most := m }, (x.patch a v n).2) := by
  unfold Wst.patch
  by_cases h1 : x.e ≠ 0
  · rw [if_pos h1, if_pos h1]
  · rw [if_neg h1, if_neg h1]
    split <;> rfl
/-- The record is ended: in any room it is what stands in a great one, or the error stays. -/
theorem Rm.ended {M B : Nat} {y z : Pk} (h : Rm M y z) (hu : UGK K z B) {r : Rcd} (hr : r.ok) (hc : r.check = 0) (hB : B + 1000 + r.d.size (whatN r.t) ≤ K) :
    (M < (rputB z r).x.b.length ∧ (rc0P y r).x.e = 3) ∨
      ((rputB z r).x.b.length ≤ M ∧ (rc0P y r).x.e = 0 ∧ (rc0P y r).x.b.length = (rc0 z r).x.b.length ∧ (rc0 z r).x.b.length = (rputB z r).x.b.length ∧
        (rc0P y r).x.patch ((rc2 z r).x.b.length : Nat) (((rc0 z r).x.b.length - (rc2 z r).x.b.length - 2 : Nat) : Int) 2 = ({ (rputB z r).x with most := (M : Int) }, 0) ∧ (rc0P y r).get = (rputB z r).get) := by
  obtain ⟨u0, u1, ⟨T, t1, t2, t3⟩, tg, _⟩ := rput_facts hu hr hc hB
  have hlen : (rc0 z r).x.b.length = (rputB z r).x.b.length := by rw [t1, t2]; simp [octs_length]; omega
  rcases h.recd hu hr hc hB with ⟨h1, h2⟩ | ⟨h1, h2⟩
  · right
    have hp := rput_patch hu hr hc hB
    refine ⟨by omega, by rw [h2]; exact u0.e, by rw [h2], hlen, ?_, by rw [h2]; exact tg⟩
    rw [h2]
    dsimp only
    rw [patch_most, hp]
  · left
    exact ⟨by omega, h2⟩
end Go.Proofs.YtmbgejiahmhffaaGreat
