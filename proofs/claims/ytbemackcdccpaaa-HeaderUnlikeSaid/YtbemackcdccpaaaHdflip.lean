/-
  LAYER 6, PLAIN: unlike headers have unlike octets; an octet that is turned tells another header.
-/
import Derived.Test.YtbemackcdccpaaaHdbits2
namespace Go.Proofs.Ytbemackcdccpaaa
open Go.RowKit

theorem bytes_nil (s : ByteArray) : s ++ ⟨#[]⟩ = s := by
  apply ByteArray.ext
  simp [ByteArray.data_append]
theorem put_inj {a b : Hd} (ha : a.ok) (hb : b.ok) (hma : a.may = true) (hmb : b.may = true) : a.put = b.put ↔ a = b := by
  refine ⟨fun h => ?_, fun h => by rw [h]⟩
  have h1 := read_put a ha hma ⟨#[]⟩
  have h2 := read_put b hb hmb ⟨#[]⟩
  rw [bytes_nil] at h1 h2
  rw [h, h2] at h1
  exact (Prod.mk.inj h1).1.symm

theorem Hd.put_size' {h : Hd} (hm : h.may = true) : h.put.size = 12 := by
  unfold Hd.put
  rw [if_pos hm]
  show (h.upto 4).toArray.size = 12
  rw [List.size_toArray, h.upto_length]
theorem xor_bit (x : UInt8) (j : Nat) (hj : j < 8) : (x ^^^ UInt8.ofNat (2 ^ j)).toNat / 64 % 2 = if j = 6 then 1 - x.toNat / 64 % 2 else x.toNat / 64 % 2 := by
  have e : (x ^^^ UInt8.ofNat (2 ^ j)).toNat.testBit 6 = (x.toNat.testBit 6).xor (decide (j = 6)) := by
    rw [UInt8.toNat_xor, Nat.testBit_xor]
    congr 1
    rcases (show j = 0 ∨ j = 1 ∨ j = 2 ∨ j = 3 ∨ j = 4 ∨ j = 5 ∨ j = 6 ∨ j = 7 by omega) with rfl | rfl | rfl | rfl | rfl | rfl | rfl | rfl <;> decide
  rw [Nat.testBit_eq_decide_div_mod_eq, Nat.testBit_eq_decide_div_mod_eq] at e
  have h1 : x.toNat / 2 ^ 6 % 2 = 0 ∨ x.toNat / 2 ^ 6 % 2 = 1 := by omega
  rw [show (64 : Nat) = 2 ^ 6 from rfl]
  by_cases hj6 : j = 6 <;> rcases h1 with h1 | h1 <;> simp [h1, hj6] at e ⊢ <;> exact e
theorem xor_ne (x : UInt8) (j : Nat) (hj : j < 8) : x ^^^ UInt8.ofNat (2 ^ j) ≠ x := by
  intro h
  have e := congrArg (fun y => (y ^^^ x).toNat) h
  simp only [UInt8.xor_comm, ← UInt8.xor_assoc, UInt8.xor_self, UInt8.zero_xor] at e
  rcases (show j = 0 ∨ j = 1 ∨ j = 2 ∨ j = 3 ∨ j = 4 ∨ j = 5 ∨ j = 6 ∨ j = 7 by omega) with rfl | rfl | rfl | rfl | rfl | rfl | rfl | rfl <;> simp at e

/-- The octets of a header that may be, one bit turned. -/
def flipped (s : ByteArray) (i j : Nat) : ByteArray := ⟨s.data.modify i fun x => x ^^^ UInt8.ofNat (2 ^ j)⟩
theorem word2_bit (s : ByteArray) (b0 b1 b2 b3 : UInt8) (r : List UInt8) (hs : s = ⟨(b0 :: b1 :: b2 :: b3 :: r).toArray⟩) : bitB (word s 2) 6 = (b3.toNat / 64 % 2 == 1) := by
  rw [hs, word_list]
  simp only [List.drop_succ_cons, List.drop_zero, List.take_succ_cons, List.take_zero, num_two]
  unfold bitB
  congr 1
  have := b3.toNat_lt
  omega
theorem modify_list (l : List UInt8) (i : Nat) (f : UInt8 → UInt8) : l.toArray.modify i f = (l.modify i f).toArray := by
  simp
theorem put_bit6 {a : Hd} (hok : a.ok) (hm : a.may = true) : bitB (word a.put 2) 6 = false := by
  have h1 := read_put a hok hm ⟨#[]⟩
  rw [bytes_nil] at h1
  by_cases h : bitB (word a.put 2) 6 = true
  · exfalso
    unfold readHd at h1
    rw [if_neg (by rw [Hd.put_size' hm]; omega), if_pos h] at h1
    simp at h1
  · simpa using h
theorem flipped_size (s : ByteArray) (i j : Nat) : (flipped s i j).size = s.size := by
  show (s.data.modify i _).size = s.data.size
  simp
theorem flipped_ne (s : ByteArray) (i j : Nat) (hi : i < s.size) (hj : j < 8) : flipped s i j ≠ s := by
  intro h
  have h1 : (s.data.modify i fun x => x ^^^ UInt8.ofNat (2 ^ j))[i]? = s.data[i]? := by rw [show (s.data.modify i fun x => x ^^^ UInt8.ofNat (2 ^ j)) = s.data from congrArg ByteArray.data h]
  have hi' : i < s.data.size := hi
  rw [Array.getElem?_modify, if_pos rfl, Array.getElem?_eq_getElem hi'] at h1
  simp only [Option.map_some, Option.some.injEq] at h1
  exact xor_ne _ j hj h1

set_option maxHeartbeats 1000000 in
theorem flip_bit {a : Hd} (hok : a.ok) (hm : a.may = true) (i j : Nat) (hi : i < 12) (hj : j < 8) : bitB (word (flipped a.put i j) 2) 6 = decide (i = 3 ∧ j = 6) := by
  obtain ⟨b0, b1, b2, b3, b4, b5, b6, b7, b8, b9, b10, b11, hput, _⟩ := put_bytes a hok hm
  have h6 := put_bit6 hok hm
  rw [word2_bit a.put b0 b1 b2 b3 [b4, b5, b6, b7, b8, b9, b10, b11] hput] at h6
  have hb3 : b3.toNat / 64 % 2 = 0 := by
    have : b3.toNat / 64 % 2 = 0 ∨ b3.toNat / 64 % 2 = 1 := by omega
    rcases this with h | h
    · exact h
    · rw [h] at h6; cases h6
  have hx := xor_bit b3 j hj
  rw [hput]
  have hm2 : flipped ⟨#[b0, b1, b2, b3, b4, b5, b6, b7, b8, b9, b10, b11]⟩ i j = ⟨(List.modify [b0, b1, b2, b3, b4, b5, b6, b7, b8, b9, b10, b11] i fun x => x ^^^ UInt8.ofNat (2 ^ j)).toArray⟩ := by
    unfold flipped
    rw [modify_list]
  rw [hm2]
  match i, hi with
  | 0, _ =>
    refine (word2_bit _ (b0 ^^^ UInt8.ofNat (2 ^ j)) b1 b2 b3 [b4, b5, b6, b7, b8, b9, b10, b11] rfl).trans ?_
    rw [hb3]
    simp
  | 1, _ =>
    refine (word2_bit _ b0 (b1 ^^^ UInt8.ofNat (2 ^ j)) b2 b3 [b4, b5, b6, b7, b8, b9, b10, b11] rfl).trans ?_
    rw [hb3]
    simp
  | 2, _ =>
    refine (word2_bit _ b0 b1 (b2 ^^^ UInt8.ofNat (2 ^ j)) b3 [b4, b5, b6, b7, b8, b9, b10, b11] rfl).trans ?_
    rw [hb3]
    simp
  | 3, _ =>
    refine (word2_bit _ b0 b1 b2 (b3 ^^^ UInt8.ofNat (2 ^ j)) [b4, b5, b6, b7, b8, b9, b10, b11] rfl).trans ?_
    rw [hx, hb3]
    by_cases hj6 : j = 6 <;> simp [hj6]
  | n + 4, _ =>
    refine (word2_bit _ b0 b1 b2 b3 (List.modify [b4, b5, b6, b7, b8, b9, b10, b11] n fun x => x ^^^ UInt8.ofNat (2 ^ j)) rfl).trans ?_
    rw [hb3]
    simp

theorem flip_read {a : Hd} (hok : a.ok) (hm : a.may = true) (i j : Nat) (hi : i < 12) (hj : j < 8) :
    (i = 3 ∧ j = 6 ∧ readHd (flipped a.put i j) = (Hd.zero, 4)) ∨ (¬ (i = 3 ∧ j = 6) ∧ ∃ y, readHd (flipped a.put i j) = (y, 0) ∧ y.ok ∧ y ≠ a) := by
  have hb := flip_bit hok hm i j hi hj
  have hsz : (flipped a.put i j).size = 12 := by rw [flipped_size, Hd.put_size' hm]
  by_cases h : i = 3 ∧ j = 6
  · refine .inl ⟨h.1, h.2, ?_⟩
    unfold readHd
    rw [if_neg (by omega), hb, decide_eq_true h]
    rfl
  · rw [decide_eq_false h] at hb
    obtain ⟨e1, e2, e3, e4⟩ := put_read _ (by omega) hb
    refine .inr ⟨h, (readHd (flipped a.put i j)).1, by rw [← e1], e3, fun he => ?_⟩
    rw [he] at e4
    refine flipped_ne a.put i j (by rw [Hd.put_size' hm]; exact hi) hj ?_
    have key : ∀ F : ByteArray, F.size = 12 → F.extract 0 12 = F := fun F hF => by rw [← hF]; simp
    exact (key _ hsz).symm.trans e4.symm
end Go.Proofs.Ytbemackcdccpaaa
