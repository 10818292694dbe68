/-
  LAYER 7, PLAIN: what names leave behind them, with pointers or without.
-/
import Derived.Test.YtbemackcdccpaaaUnpbk
namespace Go.Proofs.Ytbemackcdccpaaa
open Go.RowKit

/-- What holds of a packer with room for k names of 256 octets, behind a start. -/
structure UG (y : Pk) (B : Nat) : Prop where
  e : y.x.e = 0
  most : y.x.most = 65535
  good : (Rp.mk y.x.b y.get).good
  len : y.x.b.length ≤ B

/-- Labels that stand there are read step by step. -/
theorem rd8_labels {s : List UInt8} {p : Nat} {n : List UInt8} (hs : StandsAt s p n) (b : Nat) (fin : Int) (j : Nat) (o : List UInt8) (ho : o.length + n.length ≤ 254) (k : Nat) (y : Un) (hk : Rd8 s k ⟨p + n.length, b, fin, j, o ++ n⟩ y) (a : Nat) (ha : a ≤ n.length) (hc : ckAt n a = 0) :
    ∃ k', k' ≤ k + (n.length - a) ∧ Rd8 s k' ⟨p + a, b, fin, j, o ++ n.take a⟩ y := by
  generalize hm : n.length - a = m
  induction m using Nat.strongRecOn generalizing a with
  | _ m ih =>
    by_cases he : a = n.length
    · rw [he, List.take_length]
      exact ⟨k, by omega, hk⟩
    · have hlt : a < n.length := by omega
      have hle : p + n.length ≤ s.length := by
        rcases hs.le with h | h
        · rw [h] at hlt; simp at hlt
        · exact h
      rw [ckAt, if_neg (by omega)] at hc
      split at hc
      · cases hc
      · rename_i hkk
        have hoc := hs.oc a hlt
        have ht := hs.part a (1 + oc n a) (by omega)
        have hst : Un.step s true ⟨p + a, b, fin, j, o ++ n.take a⟩ = .on ⟨p + (a + 1 + oc n a), b, fin, j, o ++ n.take (a + 1 + oc n a)⟩ := by
          unfold Un.step Un.lab
          simp only [hoc]
          have hl : (o ++ n.take a).length = o.length + a := by rw [List.length_append, List.length_take]; omega
          rw [if_neg (by omega), if_neg (by omega), if_pos (by omega), if_neg (by omega), hl, if_neg (by omega), ht]
          have e : n.take (a + 1 + oc n a) = n.take a ++ (n.drop a).take (1 + oc n a) := by rw [Nat.add_assoc]; exact List.take_add
          rw [e, List.append_assoc, show p + a + 1 + oc n a = p + (a + 1 + oc n a) by omega]
        obtain ⟨k', h1, h2⟩ := ih (n.length - (a + 1 + oc n a)) (by omega) (a + 1 + oc n a) (by omega) hc rfl
        exact ⟨k' + 1, by omega, .on hst h2⟩

/-- A name without pointers reads where it stands. -/
theorem plain_reads (S n : List UInt8) (hc : ckAt n 0 = 0) (hn : n.length ≤ 254) : ∃ k y, k ≤ 255 ∧ Rd8 (S ++ (n ++ [0])) k ⟨S.length, S.length, -1, 0, []⟩ y ∧ y.out = n ∧ y.fin = ((S.length + n.length + 1 : Nat) : Int) := by
  have hst : StandsAt (S ++ (n ++ [0])) S.length n := standsAt_app S n [0]
  have h0 : oc (S ++ (n ++ [0])) (S.length + (n.length + 0)) = 0 := by
    rw [oc_app_r, oc_app_r]
    rfl
  have hend : Rd8 (S ++ (n ++ [0])) 1 ⟨S.length + n.length, S.length, -1, 0, [] ++ n⟩ ⟨S.length + n.length, S.length, ((S.length + n.length + 1 : Nat) : Int), 0, [] ++ n⟩ := by
    refine .done ?_
    rw [Nat.add_zero] at h0
    unfold Un.step Un.leave
    simp only [h0, List.length_append, List.length_cons, List.length_nil]
    rw [if_neg (by omega), if_pos trivial, if_pos (by decide)]
  obtain ⟨k', h1, h2⟩ := rd8_labels hst S.length (-1) 0 [] (by simpa using hn) 1 _ hend 0 (Nat.zero_le _) hc
  rw [List.take_zero, List.append_nil, Nat.add_zero] at h2
  exact ⟨k', _, by omega, h2, rfl, rfl⟩

theorem UG.name {y : Pk} {B : Nat} (h : UG y B) (n : ByteArray) (hn : ckN n = 0) (hB : B + 256 ≤ 65535) :
    (y.name n).2 = 0 ∧ UG (y.name n).1 (B + 256) ∧ (∃ T, (y.name n).1.x.b = y.x.b ++ T ∧ T ≠ [] ∧ T.length ≤ n.size + 2) ∧ ∃ k z, k ≤ 256 ∧ Rd8 (y.name n).1.x.b k ⟨y.x.b.length, y.x.b.length, -1, 0, []⟩ z ∧ z.out = n.data.toList ∧ z.fin = (y.name n).1.x.b.length := by
  obtain ⟨h1, h2⟩ := ckN_ok hn
  have hr : y.name n = y.rest n.data.toList := by unfold Pk.name; rw [if_neg (by simp [h.e]), if_neg (by simp [hn])]
  have hrm := Pk.rest_room y n.data.toList h.e h2 (fun m a hm => (h.good m a hm).2.1) (by rw [h.most, size_l]; have := h.len; omega)
  rw [hr, hrm]
  obtain ⟨g1, ⟨T, g2, g3, g4⟩, g5⟩ := rest_one h.good h2 (by rw [size_l]; exact h1)
  rw [size_l] at g4
  refine ⟨rfl, ⟨h.e, h.most, g1, ?_⟩, ⟨T, g2, g3, g4⟩, g5⟩
  have := h.len
  dsimp only at g2 ⊢
  rw [g2, List.length_append]
  omega
theorem UG.name_no {y : Pk} {B : Nat} (h : UG y B) (n : ByteArray) (hn : ckN n ≠ 0) : y.name n = (y, ckN n) := by
  unfold Pk.name
  rw [if_neg (by simp [h.e]), if_pos hn]
theorem UG.more {y : Pk} {B C : Nat} (h : UG y B) (hc : B ≤ C) : UG y C := ⟨h.e, h.most, h.good, Nat.le_trans h.len hc⟩
theorem UG.plain {y : Pk} {B : Nat} (h : UG y B) (n : ByteArray) (hn : ckN n = 0) (hB : B + 256 ≤ 65535) :
    (y.plain n).2 = 0 ∧ UG (y.plain n).1 (B + 256) ∧ (∃ T, (y.plain n).1.x.b = y.x.b ++ T ∧ T ≠ [] ∧ T.length ≤ n.size + 1) ∧ ∃ k z, k ≤ 256 ∧ Rd8 (y.plain n).1.x.b k ⟨y.x.b.length, y.x.b.length, -1, 0, []⟩ z ∧ z.out = n.data.toList ∧ z.fin = (y.plain n).1.x.b.length := by
  obtain ⟨h1, h2⟩ := ckN_ok hn
  have hpo := Wst.put_ok (x := y.x) (l := n.data.toList ++ [0]) h.e (by rw [h.most, List.length_append, size_l]; have := h.len; simp; omega)
  have hr : y.plain n = (⟨{ y.x with b := y.x.b ++ (n.data.toList ++ [0]) }, y.get⟩, 0) := by
    unfold Pk.plain
    rw [if_neg (by simp [h.e]), if_neg (by simp [hn]), hpo]
  rw [hr]
  obtain ⟨k, z, g1, g2, g3, g4⟩ := plain_reads y.x.b n.data.toList h2 (by rw [size_l]; exact h1)
  refine ⟨rfl, ⟨h.e, h.most, fun m a hm => ?_, ?_⟩, ⟨_, rfl, by simp, by rw [List.length_append, size_l]; simp⟩, k, z, by omega, g2, g3, ?_⟩
  · obtain ⟨r1, r2, r3⟩ := h.good m a hm
    dsimp only at r1
    exact ⟨by dsimp only; rw [List.length_append]; omega, r2, r3.app _⟩
  · have := h.len
    dsimp only
    rw [List.length_append, List.length_append, size_l]
    simp
    omega
  · rw [g4]
    dsimp only
    rw [List.length_append, List.length_append]
    simp
    omega
theorem UG.plain_no {y : Pk} {B : Nat} (h : UG y B) (n : ByteArray) (hn : ckN n ≠ 0) : y.plain n = (y, ckN n) := by
  unfold Pk.plain
  rw [if_neg (by simp [h.e]), if_pos hn]
theorem UG.start : UG ⟨⟨[], 65535, 0⟩, fun _ => none⟩ 0 := ⟨rfl, rfl, (fun m a h => by cases h), Nat.le_refl _⟩
end Go.Proofs.Ytbemackcdccpaaa
