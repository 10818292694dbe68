/-
  TEXTS OF THIS CLAIM, TOGETHER: Crd, Rdq, Rdr, Rds, Rnv, Rnw.
-/
import Derived.Test.YtncfdfgcnblicaaBunI
import Derived.Test.YtncfdfgcnblicaaBunD
import Derived.Deep.RegionHeld3
import Derived.Test.YtncfdfgcnblicaaBunC
import Derived.Test.YtncfdfgcnblicaaBunG
/-
  LAYER 10: the cursor that reads a record's parts.
-/
namespace Go.Proofs.Ytncfdfgcnblicaa
set_option linter.unusedVariables false
set_option linter.unusedSimpArgs false
open Go.RowKit

section
variable {w w' : World} {p r : Nat} {s : ByteArray} {c : Cu}
end
def crAt (s : ByteArray) (a : Int) : Cu := if a < 0 ∨ (s.size : Int) < a then ⟨0, 2⟩ else ⟨a.toNat, 0⟩
/-- So many octets must be left. -/
def Cu.has (s : ByteArray) (c : Cu) (n : Nat) : Cu := if c.e = 0 ∧ s.size - c.at_ < n then ⟨c.at_, 8⟩ else c
theorem ext_all (s : ByteArray) : s.extract 0 s.size = s := by
  apply ByteArray.ext
  apply Array.ext'
  simp only [ByteArray.data_extract, Array.toList_extract, List.extract_eq_take_drop, List.drop_zero, Nat.sub_zero]
  rw [List.take_of_length_le]
  rw [Array.length_toList]
  exact Nat.le_refl _
theorem crnum_eq {s : ByteArray} {c : Cu} (h0 : c.e = 0) (ha : c.at_ ≤ s.size) {n : Nat} (h1 : 1 ≤ n) (h4 : n ≤ 4) :
    (Rst.mk s c.at_).number n = (Rst.mk s (c.number s.data.toList s.size n).2.at_, (((c.number s.data.toList s.size n).1 : Nat) : Int), (c.number s.data.toList s.size n).2.e) := by
  obtain ⟨t1, t2, t3⟩ := Cu.take_eq (Nat.le_refl s.size) h0 ha n
  rw [ext_all] at t1 t2 t3
  unfold Rst.number Cu.number
  rw [if_neg (by omega), t1, t2, t3]
theorem crnum_lt (s : ByteArray) (c : Cu) {n : Nat} (h4 : n ≤ 4) : (c.number s.data.toList s.size n).1 < 4294967296 := by
  unfold Cu.number
  have h := numOf_lt (c.take s.data.toList s.size n).1
  have hl : (c.take s.data.toList s.size n).1.length ≤ n := by
    unfold Cu.take
    split
    · simp
    · split
      · simp
      · simp; omega
  exact Nat.lt_of_lt_of_le h (Nat.le_trans (Nat.pow_le_pow_right (by decide) (Nat.le_trans hl h4)) (by decide))
/-- A name is read. -/
def Cu.rname (s : ByteArray) (c : Cu) : Cu := if c.e ≠ 0 then c else if (nameAt s c.at_ true).err ≠ 0 then ⟨c.at_, (nameAt s c.at_ true).err⟩ else ⟨(nameAt s c.at_ true).fin.toNat, 0⟩
theorem nameAt_ok {s : ByteArray} {a : Nat} (ha : a ≤ s.size) (h : (nameAt s a true).err = 0) : 0 ≤ (nameAt s a true).fin ∧ (nameAt s a true).fin ≤ s.size := by
  cases hu : nameAt s a true with
  | done z => exact nameAt_fin ha hu
  | bad e =>
    rw [hu] at h
    unfold nameAt at hu
    rw [if_neg (by omega)] at hu
    exact absurd h (uread_bad_ne hu)
  | on z => exact ⟨Int.le_refl _, by show (0 : Int) ≤ _; omega⟩
theorem Blk.set2 {w : World} {b p off j : Nat} {T U : TypeId} {cs ds : Array Value} (hb : Blk w b T cs) (hp : Blk w p U ds) (hne : b ≠ p) (u v : Value) :
    Blk ((w.setCell ⟨b, off, none⟩ u).setCell ⟨p, j, none⟩ v) b T (cs.setIfInBounds off u) ∧ Blk ((w.setCell ⟨b, off, none⟩ u).setCell ⟨p, j, none⟩ v) p U (ds.setIfInBounds j v) ∧
      Blk ((w.setCell ⟨p, j, none⟩ v).setCell ⟨b, off, none⟩ u) b T (cs.setIfInBounds off u) ∧ Blk ((w.setCell ⟨p, j, none⟩ v).setCell ⟨b, off, none⟩ u) p U (ds.setIfInBounds j v) :=
  ⟨(hb.set_ off u).far hne v, (hp.far (p := ⟨b, off, none⟩) (fun e => hne e.symm) u).set_ j v, (hb.far (p := ⟨p, j, none⟩) hne v).set_ off u, (hp.set_ j v).far (p := ⟨b, off, none⟩) (fun e => hne e.symm) u⟩
end Go.Proofs.Ytncfdfgcnblicaa

/-
  LAYER 10: ReadQuestion.
-/
namespace Go.Proofs.Ytncfdfgcnblicaa
set_option linter.unusedVariables false
set_option linter.unusedSimpArgs false
open Go.RowKit

/-! ### The cursor's states, in plain Lean -/
theorem Cu.number_err {S : List UInt8} {en n : Nat} {c : Cu} (h : c.e ≠ 0) : (c.number S en n).2 = c := by unfold Cu.number Cu.take; rw [if_pos h]
theorem Cu.number_ok {S : List UInt8} {en n : Nat} {c : Cu} (h : c.e = 0) (hl : n ≤ en - c.at_) : c.number S en n = (numAt S c.at_ n, ⟨c.at_ + n, 0⟩) := by
  unfold Cu.number Cu.take numAt
  rw [if_neg (by simp [h]), if_neg (by omega)]
theorem Cu.number_e {S : List UInt8} {en n : Nat} {c : Cu} (h : (c.number S en n).2.e = 0) : c.e = 0 := by
  apply Classical.byContradiction
  intro h0
  rw [Cu.number_err h0] at h
  exact h0 h
theorem Cu.has_err {s : ByteArray} {n : Nat} {c : Cu} (h : c.e ≠ 0) : c.has s n = c := by unfold Cu.has; rw [if_neg (fun g => h g.1)]
theorem Cu.has_e {s : ByteArray} {n : Nat} {c : Cu} (h : (c.has s n).e = 0) : c.e = 0 ∧ n ≤ s.size - c.at_ ∧ c.has s n = c := by
  unfold Cu.has at h ⊢
  by_cases g : c.e = 0 ∧ s.size - c.at_ < n
  · rw [if_pos g] at h
    cases h
  · rw [if_neg g] at h
    exact ⟨h, by omega, by rw [if_neg g]⟩
theorem Cu.rname_err {s : ByteArray} {c : Cu} (h : c.e ≠ 0) : c.rname s = c := by unfold Cu.rname; rw [if_pos h]
theorem Cu.rname_e {s : ByteArray} {c : Cu} (h : (c.rname s).e = 0) : c.e = 0 := by
  apply Classical.byContradiction
  intro h0
  rw [Cu.rname_err h0] at h
  exact h0 h

/-- What ReadQuestion tells. -/
def qreadC (s : ByteArray) (a : Int) : (ByteArray × Int × Int) × Int × Int :=
  if ((((((crAt s a).rname s).has s 4).number s.data.toList s.size 2).2.number s.data.toList s.size 2).2).e ≠ 0 then ((⟨#[]⟩, 0, 0), 0, ((((((crAt s a).rname s).has s 4).number s.data.toList s.size 2).2.number s.data.toList s.size 2).2).e)
  else (((nameAt s (crAt s a).at_ true).name, ((((((crAt s a).rname s).has s 4).number s.data.toList s.size 2).1 : Nat) : Int), (((((((crAt s a).rname s).has s 4).number s.data.toList s.size 2).2.number s.data.toList s.size 2).1 : Nat) : Int)), (((((((crAt s a).rname s).has s 4).number s.data.toList s.size 2).2.number s.data.toList s.size 2).2).at_ : Nat), 0)
theorem qreadC_eq (s : ByteArray) (a : Int) : qreadC s a = qreadN s.data.toList a := by
  have hl : s.data.toList.length = s.size := by rw [Array.length_toList]; rfl
  have herr : ∀ c2 : Cu, c2.e ≠ 0 → ((((c2.has s 4).number s.data.toList s.size 2).2.number s.data.toList s.size 2).2) = c2 := fun c2 h => by rw [Cu.has_err h, Cu.number_err h, Cu.number_err h]
  unfold qreadC qreadN
  rw [hl]
  by_cases h : a < 0 ∨ (s.size : Int) < a
  · have h1 : crAt s a = ⟨0, 2⟩ := by unfold crAt; rw [if_pos h]
    have h2 : (crAt s a).rname s = ⟨0, 2⟩ := by rw [h1]; exact Cu.rname_err (by decide)
    rw [if_pos h, h2, herr _ (by decide)]
    rfl
  · have h1 : crAt s a = ⟨a.toNat, 0⟩ := by unfold crAt; rw [if_neg h]
    rw [if_neg h]
    have hn : nameAt s ((a.toNat : Nat) : Int) true = uread s.data.toList true ⟨a.toNat, a.toNat, -1, 0, []⟩ := by
      unfold nameAt
      rw [if_neg (by omega), Int.toNat_natCast]
    have h3 : (nameAt s (crAt s a).at_ true).name = (nameAt s ((a.toNat : Nat) : Int) true).name := by rw [h1]
    rw [h3, hn]
    cases hu : uread s.data.toList true ⟨a.toNat, a.toNat, -1, 0, []⟩ with
    | done z =>
      have hf : 0 ≤ z.fin ∧ z.fin ≤ s.size := nameAt_fin (f := true) (a := a.toNat) (by omega) (hn.trans hu)
      have hc2 : (crAt s a).rname s = ⟨z.fin.toNat, 0⟩ := by
        rw [h1]
        unfold Cu.rname
        dsimp only
        rw [hn, hu]
        rfl
      rw [hc2]
      dsimp only [Ust.name]
      by_cases h4 : s.size - z.fin.toNat < 4
      · have h2 : (Cu.mk z.fin.toNat 0).has s 4 = ⟨z.fin.toNat, 8⟩ := by unfold Cu.has; rw [if_pos ⟨rfl, h4⟩]
        have h5 := herr ⟨z.fin.toNat, 8⟩ (show (8 : Int) ≠ 0 by decide)
        rw [Cu.has_err (show (Cu.mk z.fin.toNat 8).e ≠ 0 from (by decide : (8 : Int) ≠ 0))] at h5
        rw [h2, h5, if_pos (show (8 : Int) ≠ 0 by decide), if_pos h4]
      · have h2 : (Cu.mk z.fin.toNat 0).has s 4 = ⟨z.fin.toNat, 0⟩ := by unfold Cu.has; rw [if_neg (fun g => h4 g.2)]
        have h5 : (Cu.mk z.fin.toNat 0).number s.data.toList s.size 2 = (numAt s.data.toList z.fin.toNat 2, ⟨z.fin.toNat + 2, 0⟩) := Cu.number_ok rfl (by dsimp only; omega)
        have h6 : (Cu.mk (z.fin.toNat + 2) 0).number s.data.toList s.size 2 = (numAt s.data.toList (z.fin.toNat + 2) 2, ⟨z.fin.toNat + 2 + 2, 0⟩) := Cu.number_ok rfl (by dsimp only; omega)
        rw [h2, h5]
        dsimp only
        rw [h6]
        dsimp only
        rw [if_neg (show ¬ (0 : Int) ≠ 0 by simp), if_neg h4]
    | bad e =>
      have hne := uread_bad_ne hu
      have hc2 : (crAt s a).rname s = ⟨a.toNat, e⟩ := by
        rw [h1]
        unfold Cu.rname
        dsimp only
        rw [hn, hu]
        dsimp only [Ust.err]
        simp [hne]
      rw [hc2, herr ⟨a.toNat, e⟩ hne, if_pos hne]
    | on z =>
      rcases uread_cases s.data.toList true ⟨a.toNat, a.toNat, -1, 0, []⟩ with ⟨y, hy⟩ | ⟨e, hy⟩
      · rw [hu] at hy
        cases hy
      · rw [hu] at hy
        cases hy
end Go.Proofs.Ytncfdfgcnblicaa

/-
  LAYER 10: ReadQuestion, walked.
-/
namespace Go.Proofs.Ytncfdfgcnblicaa
set_option linter.unusedVariables false
set_option linter.unusedSimpArgs false
open Go.RowKit

/-- What ReadQuestion leaves. -/
def QrdPost (w : World) (s : ByteArray) (a : Int) (e : Ending) (w' : World) : Prop :=
  e = .returned (.tuple #[.agg #[.string (qreadC s a).1.1, .int .i64 (qreadC s a).1.2.1, .int .i64 (qreadC s a).1.2.2], .int .i64 (qreadC s a).2.1, .int .i64 (qreadC s a).2.2]) ∧ Fr (fun _ => False) w w'
section
variable {w w1 w' : World} {s : ByteArray} {p r : Nat} {c d : Cu} {T : TypeId} {cs : Array Value}
end
end Go.Proofs.Ytncfdfgcnblicaa

/-
  LAYER 10: record.Read, walked.
-/
namespace Go.Proofs.Ytncfdfgcnblicaa
set_option linter.unusedVariables false
set_option linter.unusedSimpArgs false
open Go.RowKit

/-- The states of the cursor as Read goes. -/
def rd_rc2 (s : ByteArray) (a : Int) : Cu := ((crAt s a).rname s).has s 10
def rd_rn3 (s : ByteArray) (a : Int) : Nat × Cu := (rd_rc2 s a).number s.data.toList s.size 2
def rd_rn4 (s : ByteArray) (a : Int) : Nat × Cu := (rd_rn3 s a).2.number s.data.toList s.size 2
def rd_rn5 (s : ByteArray) (a : Int) : Nat × Cu := (rd_rn4 s a).2.number s.data.toList s.size 4
def rd_rn6 (s : ByteArray) (a : Int) : Nat × Cu := (rd_rn5 s a).2.number s.data.toList s.size 2
def rd_rlen (s : ByteArray) (a : Int) : Nat := if (rd_rn5 s a).2.e = 0 then (rd_rn6 s a).1 else 0
def rd_rc7 (s : ByteArray) (a : Int) : Cu := (rd_rn6 s a).2.has s (rd_rlen s a)
/-- What Read tells. -/
def rreadC (s : ByteArray) (a : Int) : Rcd × Int × Int :=
  if (rd_rc7 s a).e ≠ 0 then (Rcd.zero, 0, (rd_rc7 s a).e)
  else if (dreadC s ((rd_rc7 s a).at_ : Nat) (((rd_rc7 s a).at_ : Nat) + ((rd_rn6 s a).1 : Nat)) ((rd_rn3 s a).1 : Nat)).2 ≠ 0 then (Rcd.zero, 0, (dreadC s ((rd_rc7 s a).at_ : Nat) (((rd_rc7 s a).at_ : Nat) + ((rd_rn6 s a).1 : Nat)) ((rd_rn3 s a).1 : Nat)).2)
  else (⟨(nameAt s (crAt s a).at_ true).name, ((rd_rn3 s a).1 : Nat), ((rd_rn4 s a).1 : Nat), (rd_rn5 s a).1, (dreadC s ((rd_rc7 s a).at_ : Nat) (((rd_rc7 s a).at_ : Nat) + ((rd_rn6 s a).1 : Nat)) ((rd_rn3 s a).1 : Nat)).1⟩, ((rd_rc7 s a).at_ : Nat) + ((rd_rn6 s a).1 : Nat), 0)
def RreadPost (w0 : World) (R : Rcd × Int × Int) (e : Ending) (w' : World) : Prop :=
  ∃ A cap, e = .returned (.tuple #[.agg (R.1.cells (.slice A R.1.d.texts.length cap)), .int .i64 R.2.1, .int .i64 R.2.2]) ∧ Strs w' A R.1.d.texts ∧ Fr (fun _ => False) w0 w' ∧ ∀ k, rowOf A k → w0.heap.size ≤ k ∧ k < w'.heap.size

section
variable {w w1 w' : World} {s : ByteArray} {p r : Nat} {c d : Cu} {cs ct cl : Array Value}
end
theorem blk_seta {w : World} {q : Nat} {t : TypeId} {a0 a1 a2 a3 a4 a5 a6 a7 a8 a9 a10 a11 a12 a13 a14 a15 u0 u1 u2 u3 u4 u5 u6 u7 u8 u9 u10 u11 : Value} (h : Blk w q t #[a0, a1, a2, a3, a4, a5, a6, a7, a8, a9, a10, a11, a12, a13, a14, a15]) : Blk ((((((((((((w.setCell ⟨q, 4, none⟩ u0).setCell ⟨q, 5, none⟩ u1).setCell ⟨q, 6, none⟩ u2).setCell ⟨q, 7, none⟩ u3).setCell ⟨q, 8, none⟩ u4).setCell ⟨q, 9, none⟩ u5).setCell ⟨q, 10, none⟩ u6).setCell ⟨q, 11, none⟩ u7).setCell ⟨q, 12, none⟩ u8).setCell ⟨q, 13, none⟩ u9).setCell ⟨q, 14, none⟩ u10).setCell ⟨q, 15, none⟩ u11) q t #[a0, a1, a2, a3, u0, u1, u2, u3, u4, u5, u6, u7, u8, u9, u10, u11] := by
  have h0 : Blk _ q t #[a0, a1, a2, a3, u0, a5, a6, a7, a8, a9, a10, a11, a12, a13, a14, a15] := h.set_ 4 u0
  have h1 : Blk _ q t #[a0, a1, a2, a3, u0, u1, a6, a7, a8, a9, a10, a11, a12, a13, a14, a15] := h0.set_ 5 u1
  have h2 : Blk _ q t #[a0, a1, a2, a3, u0, u1, u2, a7, a8, a9, a10, a11, a12, a13, a14, a15] := h1.set_ 6 u2
  have h3 : Blk _ q t #[a0, a1, a2, a3, u0, u1, u2, u3, a8, a9, a10, a11, a12, a13, a14, a15] := h2.set_ 7 u3
  have h4 : Blk _ q t #[a0, a1, a2, a3, u0, u1, u2, u3, u4, a9, a10, a11, a12, a13, a14, a15] := h3.set_ 8 u4
  have h5 : Blk _ q t #[a0, a1, a2, a3, u0, u1, u2, u3, u4, u5, a10, a11, a12, a13, a14, a15] := h4.set_ 9 u5
  have h6 : Blk _ q t #[a0, a1, a2, a3, u0, u1, u2, u3, u4, u5, u6, a11, a12, a13, a14, a15] := h5.set_ 10 u6
  have h7 : Blk _ q t #[a0, a1, a2, a3, u0, u1, u2, u3, u4, u5, u6, u7, a12, a13, a14, a15] := h6.set_ 11 u7
  have h8 : Blk _ q t #[a0, a1, a2, a3, u0, u1, u2, u3, u4, u5, u6, u7, u8, a13, a14, a15] := h7.set_ 12 u8
  have h9 : Blk _ q t #[a0, a1, a2, a3, u0, u1, u2, u3, u4, u5, u6, u7, u8, u9, a14, a15] := h8.set_ 13 u9
  have h10 : Blk _ q t #[a0, a1, a2, a3, u0, u1, u2, u3, u4, u5, u6, u7, u8, u9, u10, a15] := h9.set_ 14 u10
  have h11 : Blk _ q t #[a0, a1, a2, a3, u0, u1, u2, u3, u4, u5, u6, u7, u8, u9, u10, u11] := h10.set_ 15 u11
  exact h11
theorem fr_seta {w : World} {q : Nat} {u0 u1 u2 u3 u4 u5 u6 u7 u8 u9 u10 u11 : Value} : Fr (· = q) w ((((((((((((w.setCell ⟨q, 4, none⟩ u0).setCell ⟨q, 5, none⟩ u1).setCell ⟨q, 6, none⟩ u2).setCell ⟨q, 7, none⟩ u3).setCell ⟨q, 8, none⟩ u4).setCell ⟨q, 9, none⟩ u5).setCell ⟨q, 10, none⟩ u6).setCell ⟨q, 11, none⟩ u7).setCell ⟨q, 12, none⟩ u8).setCell ⟨q, 13, none⟩ u9).setCell ⟨q, 14, none⟩ u10).setCell ⟨q, 15, none⟩ u11) := (((((((((((((Fr.refl (· = q) w).setCell (p := ⟨q, 4, none⟩) (fun _ => rfl) u0).setCell (p := ⟨q, 5, none⟩) (fun _ => rfl) u1).setCell (p := ⟨q, 6, none⟩) (fun _ => rfl) u2).setCell (p := ⟨q, 7, none⟩) (fun _ => rfl) u3).setCell (p := ⟨q, 8, none⟩) (fun _ => rfl) u4).setCell (p := ⟨q, 9, none⟩) (fun _ => rfl) u5).setCell (p := ⟨q, 10, none⟩) (fun _ => rfl) u6).setCell (p := ⟨q, 11, none⟩) (fun _ => rfl) u7).setCell (p := ⟨q, 12, none⟩) (fun _ => rfl) u8).setCell (p := ⟨q, 13, none⟩) (fun _ => rfl) u9).setCell (p := ⟨q, 14, none⟩) (fun _ => rfl) u10).setCell (p := ⟨q, 15, none⟩) (fun _ => rfl) u11)
/-- The zero record's cells. -/
def zrec : List Value := [.string ⟨#[]⟩, .int .i64 0, .int .i64 0, .int .u32 0, .bool false, .int .u64 0, .int .u64 0, .string ⟨#[]⟩, .string ⟨#[]⟩, .int .u32 0, .int .u32 0, .int .u32 0, .int .u32 0, .int .u32 0, .slice none 0 0, .string ⟨#[]⟩]
theorem rread_zero (n m : Int) (w0 w' : World) (h : Fr (fun _ => False) w0 w') : RreadPost w0 (Rcd.zero, n, m) (.returned (.tuple #[.agg zrec.toArray, .int .i64 n, .int .i64 m])) w' :=
  ⟨none, 0, rfl, Strs.nil _ _, h, fun k hk => by obtain ⟨o, h1, _⟩ := hk; cases h1⟩
theorem rcells_eq (n : ByteArray) (t cl : Int) (ttl : Nat) (d : Dt) (v : Value) : (Rcd.mk n t cl ttl d).cells v = #[.string n, .int .i64 t, .int .i64 cl, .int .u32 ttl] ++ d.cells v := rfl
end Go.Proofs.Ytncfdfgcnblicaa

/-
  LAYER 10: the chapter's examples, read: in plain Lean.
-/
namespace Go.Proofs.Ytncfdfgcnblicaa
open Go.RowKit
theorem rn_e : rreadC ⟨#[0, 0, 1, 0, 1, 0, 0, 0, 5, 0, 5, 1, 2, 3, 4]⟩ 0 = (Rcd.zero, 0, 8) := by kernel_rfl
theorem rn_f : rreadC ⟨#[0, 0, 1, 0, 1, 0, 0, 0, 5, 0, 5, 1, 2, 3, 4, 5]⟩ 0 = (Rcd.zero, 0, 4) := by kernel_rfl
theorem rn_g : rreadC ⟨#[0, 0, 1, 0, 1, 0, 0, 0, 5, 0]⟩ 0 = (Rcd.zero, 0, 8) := by kernel_rfl
theorem rn_h : qreadC ⟨#[120, 1, 97, 0, 0, 28, 0, 1]⟩ 1 = ((⟨#[1, 97]⟩, 28, 1), 8, 0) := by kernel_rfl
theorem rn_i : qreadC ⟨#[0, 0, 28, 0]⟩ 0 = ((⟨#[]⟩, 0, 0), 0, 8) := by kernel_rfl
end Go.Proofs.Ytncfdfgcnblicaa

/-
  LAYER 10: RecordNames: the walk.
-/
namespace Go.Proofs.Ytncfdfgcnblicaa
set_option linter.unusedVariables false
set_option linter.unusedSimpArgs false
open Go.RowKit

theorem dz_in (w : World) : DtIn w none Dt.zero := ⟨by decide, by decide, fun i => by unfold Dt.num Dt.zero; dsimp only; split <;> decide, Strs.nil _ _, by decide, by decide⟩
theorem ck_q (w : World) : Calls Try.prog 45 #[.agg #[.string ⟨#[]⟩, .int .i64 0, .int .i64 (-1)]] w (IntPost w 2) :=
  (qcheck_any ⟨#[]⟩ 0 (-1) w).mono fun e w' h => by
    rw [show qcheck ⟨#[]⟩ 0 (-1) = 2 by kernel_rfl] at h
    exact h
/-- The three readings of records. -/
def ZrecPost (w : World) (m : Int) (e : Ending) (w' : World) : Prop :=
  ∃ A cap, e = .returned (.tuple #[.agg #[.string ⟨#[]⟩, .int .i64 0, .int .i64 0, .int .u32 0, .bool false, .int .u64 0, .int .u64 0, .string ⟨#[]⟩, .string ⟨#[]⟩, .int .u32 0, .int .u32 0, .int .u32 0, .int .u32 0, .int .u32 0, .slice A 0 cap, .string ⟨#[]⟩], .int .i64 0, .int .i64 m]) ∧ Fr (fun _ => False) w w'
def QvPost (w : World) (n : ByteArray) (t c m e0 : Int) (e : Ending) (w' : World) : Prop :=
  e = .returned (.tuple #[.agg #[.string n, .int .i64 t, .int .i64 c], .int .i64 m, .int .i64 e0]) ∧ Fr (fun _ => False) w w'
end Go.Proofs.Ytncfdfgcnblicaa
