/-
  LAYER 8, PLAIN: a row of labels is read; pointers ahead, to the own run.
-/
import Derived.Test.YtbemackcdccpaaaUnpb
namespace Go.Proofs.Ytbemackcdccpaaa
open Go.RowKit

/-- Octets stand at a place. -/
def StandsAt (s : List UInt8) (p : Nat) (n : List UInt8) : Prop := (s.drop p).take n.length = n
theorem StandsAt.le {s : List UInt8} {p : Nat} {n : List UInt8} (h : StandsAt s p n) : n = [] ∨ p + n.length ≤ s.length := by
  unfold StandsAt at h
  have := congrArg List.length h
  rw [List.length_take, List.length_drop] at this
  rcases n with _ | ⟨a, n⟩
  · exact .inl rfl
  · right
    simp only [List.length_cons] at this ⊢
    omega
theorem StandsAt.oc {s : List UInt8} {p : Nat} {n : List UInt8} (h : StandsAt s p n) (i : Nat) (hi : i < n.length) : oc s (p + i) = oc n i := by
  unfold StandsAt at h
  rw [← h, oc_take _ _ _ hi, oc_drop]
theorem StandsAt.part {s : List UInt8} {p : Nat} {n : List UInt8} (h : StandsAt s p n) (a k : Nat) (hk : a + k ≤ n.length) : (s.drop (p + a)).take k = (n.drop a).take k := by
  unfold StandsAt at h
  rw [← h, List.drop_take, List.take_take, List.drop_drop, Nat.min_eq_left (by omega)]
theorem standsAt_app (a n b : List UInt8) : StandsAt (a ++ (n ++ b)) a.length n := by
  unfold StandsAt
  rw [List.drop_left, List.take_left]

/-- A row of labels that stands there is read. -/
theorem uread_labels {s : List UInt8} {f : Bool} {p : Nat} {n : List UInt8} (hs : StandsAt s p n) (b : Nat) (fin : Int) (j : Nat) (o : List UInt8) (ho : o.length + n.length ≤ 254) (a : Nat) (ha : a ≤ n.length) (hc : ckAt n a = 0) :
    uread s f ⟨p + a, b, fin, j, o ++ n.take a⟩ = uread s f ⟨p + n.length, b, fin, j, o ++ n⟩ := by
  generalize hm : n.length - a = m
  induction m using Nat.strongRecOn generalizing a with
  | _ m ih =>
    by_cases he : a = n.length
    · rw [he, List.take_length]
    · have hlt : a < n.length := by omega
      have hle : p + n.length ≤ s.length := by
        rcases hs.le with h | h
        · rw [h] at hlt; simp at hlt
        · exact h
      rw [ckAt, if_neg (by omega)] at hc
      split at hc
      · cases hc
      · rename_i hk
        have hoc := hs.oc a hlt
        have ht := hs.part a (1 + oc n a) (by omega)
        have hst : Un.step s f ⟨p + a, b, fin, j, o ++ n.take a⟩ = .on ⟨p + (a + 1 + oc n a), b, fin, j, o ++ n.take (a + 1 + oc n a)⟩ := by
          unfold Un.step Un.lab
          simp only [hoc]
          have hl : (o ++ n.take a).length = o.length + a := by rw [List.length_append, List.length_take]; omega
          rw [if_neg (by omega), if_neg (by omega), if_pos (by omega), if_neg (by omega), hl, if_neg (by omega), ht]
          have e : n.take (a + 1 + oc n a) = n.take a ++ (n.drop a).take (1 + oc n a) := by rw [Nat.add_assoc]; exact List.take_add
          rw [e, List.append_assoc, show p + a + 1 + oc n a = p + (a + 1 + oc n a) by omega]
        rw [uread_on hst]
        exact ih _ (by omega) _ (by omega) hc rfl

theorem uread_labels0 {s : List UInt8} {f : Bool} {p : Nat} {n : List UInt8} (hs : StandsAt s p n) (b : Nat) (fin : Int) (j : Nat) (o : List UInt8) (ho : o.length + n.length ≤ 254) (hc : ckAt n 0 = 0) :
    uread s f ⟨p, b, fin, j, o⟩ = uread s f ⟨p + n.length, b, fin, j, o ++ n⟩ := by
  have := uread_labels (f := f) hs b fin j o ho 0 (Nat.zero_le _) hc
  rw [List.take_zero, List.append_nil, Nat.add_zero] at this
  exact this

theorem size_list (s : ByteArray) : s.data.toList.length = s.size := by simp
theorem ckN_ok {n : ByteArray} (h : ckN n = 0) : n.size ≤ 254 ∧ ckAt n.data.toList 0 = 0 := by
  unfold ckN at h
  split at h
  · cases h
  · exact ⟨by omega, h⟩

/-- Two octets of a pointer. -/
def ptr (k : Nat) : List UInt8 := [UInt8.ofNat (192 + k / 256), UInt8.ofNat (k % 256)]
theorem ptr_oc (a b : List UInt8) (k : Nat) (hk : k < 16384) : oc (a ++ (ptr k ++ b)) a.length = 192 + k / 256 ∧ oc (a ++ (ptr k ++ b)) (a.length + 1) = k % 256 := by
  have h0 : oc (a ++ (ptr k ++ b)) (a.length + 0) = _ := oc_app_r a (ptr k ++ b) 0
  have h1 : oc (a ++ (ptr k ++ b)) (a.length + 1) = _ := oc_app_r a (ptr k ++ b) 1
  rw [Nat.add_zero] at h0
  rw [h0, h1]
  unfold oc ptr
  simp
  omega

theorem forward_self (ahead n : ByteArray) (far : Nat) (hn : ckN n = 0) (h1 : ahead.size ≤ far) (h2 : far < 16384) (s : ByteArray)
    (hs : s.data.toList = ahead.data.toList ++ (n.data.toList ++ (ptr far ++ [0]))) : (nameAt s ahead.size true).err = 4 := by
  obtain ⟨n1, n2⟩ := ckN_ok hn
  have hsz : s.size = ahead.size + (n.size + (2 + 1)) := by
    rw [← size_list, hs]
    simp [ptr]
  have hst : StandsAt s.data.toList ahead.size n.data.toList := by
    rw [hs, ← size_list ahead]
    exact standsAt_app _ _ _
  obtain ⟨o1, o2⟩ := ptr_oc (ahead.data.toList ++ n.data.toList) [0] far h2
  rw [List.append_assoc, ← hs, List.length_append, size_list, size_list] at o1 o2
  have hstep : Un.step s.data.toList true ⟨ahead.size + n.size, ahead.size, -1, 0, [] ++ n.data.toList⟩ = .bad 4 := by
    unfold Un.step Un.to
    simp only [o1, o2, size_list]
    rw [if_neg (by omega), if_neg (by omega), if_neg (by omega), if_pos ⟨by omega, trivial⟩, if_neg (by omega), if_pos (by omega)]
  unfold nameAt
  rw [if_neg (by omega), Int.toNat_natCast, uread_labels0 hst _ _ _ _ (by simp; omega) n2, size_list, uread_bad hstep]
  rfl

theorem forward_nought (ahead n : ByteArray) (hn : ckN n = 0) (h1 : ahead.size < 16384) (t : ByteArray)
    (ht : t.data.toList = ahead.data.toList ++ ([0] ++ (n.data.toList ++ ptr ahead.size))) :
    nameAt t ((ahead.size : Int) + 1) true = .done ⟨ahead.size, ahead.size, t.size, 1, n.data.toList⟩ := by
  obtain ⟨n1, n2⟩ := ckN_ok hn
  have hsz : t.size = ahead.size + (1 + (n.size + 2)) := by
    rw [← size_list, ht]
    simp [ptr]
    omega
  have hst : StandsAt t.data.toList (ahead.size + 1) n.data.toList := by
    have := standsAt_app (ahead.data.toList ++ [0]) n.data.toList (ptr ahead.size)
    rw [List.append_assoc, ← ht, List.length_append, size_list] at this
    exact this
  obtain ⟨o1, o2⟩ := ptr_oc (ahead.data.toList ++ ([0] ++ n.data.toList)) [] ahead.size h1
  rw [List.append_nil, List.append_assoc, List.append_assoc, ← ht] at o1 o2
  simp only [List.length_append, size_list, List.length_cons, List.length_nil] at o1 o2
  have o3 : oc t.data.toList (ahead.size + 0) = 0 := by
    rw [ht, ← size_list ahead, oc_app_r]
    rfl
  rw [Nat.add_zero] at o3
  have hstep : Un.step t.data.toList true ⟨ahead.size + 1 + n.size, ahead.size + 1, -1, 0, [] ++ n.data.toList⟩ = .on ⟨ahead.size, ahead.size, t.size, 1, n.data.toList⟩ := by
    have e1 : ahead.size + (0 + 1 + n.size) = ahead.size + 1 + n.size := by omega
    rw [e1] at o1 o2
    have hto : Un.to t.data.toList ⟨ahead.size + 1 + n.size, ahead.size + 1, -1, 0, [] ++ n.data.toList⟩ = ahead.size := by
      unfold Un.to
      simp only [o1, o2]
      omega
    have hlv : Un.leave ⟨ahead.size + 1 + n.size, ahead.size + 1, -1, 0, [] ++ n.data.toList⟩ 2 = t.size := by
      unfold Un.leave
      dsimp only
      rw [if_pos (by decide), hsz]
      omega
    unfold Un.step Un.jmp
    rw [hto, hlv]
    simp only [o1, size_list]
    rw [if_neg (by omega), if_neg (by omega), if_neg (by omega), if_pos ⟨by omega, trivial⟩, if_neg (by omega), if_neg (by omega)]
    rfl
  have hstep2 : Un.step t.data.toList true ⟨ahead.size, ahead.size, t.size, 1, n.data.toList⟩ = .done ⟨ahead.size, ahead.size, t.size, 1, n.data.toList⟩ := by
    unfold Un.step Un.leave
    simp only [o3, size_list]
    rw [if_neg (by omega), if_pos trivial, if_neg (by omega)]
  unfold nameAt
  rw [if_neg (by omega), show ((ahead.size : Int) + 1).toNat = ahead.size + 1 by omega, uread_labels0 hst _ _ _ _ (by simp; omega) n2, size_list, uread_on hstep, uread_done hstep2]
end Go.Proofs.Ytbemackcdccpaaa
