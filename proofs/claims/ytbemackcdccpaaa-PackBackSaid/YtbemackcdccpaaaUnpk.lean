/-
  LAYER 8, PLAIN: what the reference's packer puts is read, name by name.
-/
import Derived.Test.YtbemackcdccpaaaUnpf
namespace Go.Proofs.Ytbemackcdccpaaa
open Go.RowKit

/-- Octets behind do not matter to what is read. -/
theorem step_app {S T : List UInt8} {f : Bool} {x : Un} (h : ∀ e, x.step S f ≠ .bad e) : x.step (S ++ T) f = x.step S f := by
  have hl : (S ++ T).length = S.length + T.length := List.length_append
  unfold Un.step at h ⊢
  by_cases h1 : S.length ≤ x.at_
  · rw [if_pos h1] at h
    exact absurd rfl (h 8)
  · have o1 : oc (S ++ T) x.at_ = oc S x.at_ := oc_app_l _ _ _ (by omega)
    rw [if_neg h1] at h ⊢
    rw [if_neg (by omega), o1]
    by_cases h2 : oc S x.at_ = 0
    · rw [if_pos h2, if_pos h2]
    · rw [if_neg h2] at h ⊢
      rw [if_neg h2]
      by_cases h3 : oc S x.at_ < 64
      · rw [if_pos h3] at h ⊢
        rw [if_pos h3]
        by_cases h4 : S.length < x.at_ + 1 + oc S x.at_
        · rw [if_pos h4] at h
          exact absurd rfl (h 8)
        · rw [if_neg h4]
          rw [if_neg (by omega)]
          by_cases h5 : 254 < x.out.length + (1 + oc S x.at_)
          · rw [if_pos h5, if_pos h5]
          · rw [if_neg h5, if_neg h5]
            unfold Un.lab
            rw [o1, List.drop_append_of_le_length (by omega), List.take_append_of_le_length (by rw [List.length_drop]; omega)]
      · rw [if_neg h3] at h ⊢
        rw [if_neg h3]
        by_cases h4 : 192 ≤ oc S x.at_ ∧ f = true
        · rw [if_pos h4] at h ⊢
          rw [if_pos h4]
          by_cases h5 : S.length < x.at_ + 2
          · rw [if_pos h5] at h
            exact absurd rfl (h 8)
          · have o2 : oc (S ++ T) (x.at_ + 1) = oc S (x.at_ + 1) := oc_app_l _ _ _ (by omega)
            rw [if_neg h5]
            rw [if_neg (by omega)]
            unfold Un.jmp Un.to
            rw [o1, o2]
        · rw [if_neg h4, if_neg h4]
/-- So many steps from here to the end. -/
inductive Rd8 (S : List UInt8) : Nat → Un → Un → Prop
  | done {x y : Un} (h : x.step S true = .done y) : Rd8 S 1 x y
  | on {k : Nat} {x y z : Un} (h : x.step S true = .on z) (r : Rd8 S k z y) : Rd8 S (k + 1) x y
theorem Rd8.uread {S : List UInt8} {k : Nat} {x y : Un} (h : Rd8 S k x y) : uread S true x = .done y := by
  induction h with
  | done h => exact uread_done h
  | on h _ ih => rw [uread_on h]; exact ih
theorem Rd8.app {S : List UInt8} {k : Nat} {x y : Un} (h : Rd8 S k x y) (T : List UInt8) : Rd8 (S ++ T) k x y := by
  induction h with
  | done h => exact .done ((step_app (by rw [h]; intro e he; cases he)).trans h)
  | on h _ ih => exact .on ((step_app (by rw [h]; intro e he; cases he)).trans h) ih

/-- A packer: what is written, where which rest of a name stands. -/
structure Rp where
  S : List UInt8
  get : List UInt8 → Option Nat

def updAt (g : List UInt8 → Option Nat) (n : List UInt8) (p : Nat) : List UInt8 → Option Nat := if p < 16384 then fun m => if m = n then some p else g m else g
theorem updAt_some {g : List UInt8 → Option Nat} {n m : List UInt8} {p a : Nat} (h : updAt g n p m = some a) : g m = some a ∨ (m = n ∧ a = p ∧ p < 16384) := by
  unfold updAt at h
  split at h
  · dsimp only at h
    split at h
    · injection h with h
      exact .inr ⟨by assumption, h.symm, by assumption⟩
    · exact .inl h
  · exact .inl h

def Rp.rest (x : Rp) (n : List UInt8) : Rp :=
  if _h : n = [] then { x with S := x.S ++ [0] }
  else match x.get n with
  | some a => { x with S := x.S ++ ptr a }
  | none => Rp.rest ⟨x.S ++ n.take (1 + oc n 0), updAt x.get n x.S.length⟩ (n.drop (1 + oc n 0))
termination_by n.length
decreasing_by
  rw [List.length_drop]
  have := List.length_pos_iff.2 (by assumption)
  omega
theorem rest_nil (x : Rp) : x.rest [] = { x with S := x.S ++ [0] } := by rw [Rp.rest]; rfl
theorem rest_some {x : Rp} {n : List UInt8} {a : Nat} (hn : n ≠ []) (h : x.get n = some a) : x.rest n = { x with S := x.S ++ ptr a } := by
  rw [Rp.rest, dif_neg hn, h]
theorem rest_none {x : Rp} {n : List UInt8} (hn : n ≠ []) (h : x.get n = none) : x.rest n = Rp.rest ⟨x.S ++ n.take (1 + oc n 0), updAt x.get n x.S.length⟩ (n.drop (1 + oc n 0)) := by
  rw [Rp.rest, dif_neg hn, h]

/-- At a place there stands a name for whoever is led there. -/
def Rds (S : List UInt8) (q : Nat) (r : List UInt8) : Prop :=
  ∀ (fin : Int) (j : Nat) (o : List UInt8), 0 ≤ fin → o.length + r.length ≤ 254 → ∃ k y, k ≤ r.length + 1 ∧ Rd8 S k ⟨q, q, fin, j, o⟩ y ∧ y.out = o ++ r ∧ y.fin = fin
theorem Rds.app {S : List UInt8} {q : Nat} {r : List UInt8} (h : Rds S q r) (T : List UInt8) : Rds (S ++ T) q r := fun fin j o h1 h2 => by
  obtain ⟨k, y, h0, h3, h4⟩ := h fin j o h1 h2
  exact ⟨k, y, h0, h3.app T, h4⟩

theorem ckAt_drop (n : List UInt8) (b : Nat) : ∀ a, ckAt (n.drop b) a = ckAt n (b + a) := by
  intro a
  generalize hm : n.length - (b + a) = m
  induction m using Nat.strongRecOn generalizing a with
  | _ m ih =>
    rw [ckAt]
    conv => rhs; rw [ckAt]
    rw [List.length_drop, oc_drop]
    by_cases h1 : n.length ≤ b + a
    · rw [if_pos (by omega), if_pos h1]
    · rw [if_neg (by omega), if_neg h1]
      by_cases h2 : oc n (b + a) < 1 ∨ 63 < oc n (b + a) ∨ n.length < b + a + 1 + oc n (b + a)
      · rw [if_pos (by omega), if_pos h2]
      · rw [if_neg (by omega), if_neg h2, ih _ (by omega) _ rfl]
        congr 1
        omega
theorem ckAt_first {n : List UInt8} (hn : n ≠ []) (h : ckAt n 0 = 0) : 1 ≤ oc n 0 ∧ oc n 0 ≤ 63 ∧ 1 + oc n 0 ≤ n.length ∧ ckAt (n.drop (1 + oc n 0)) 0 = 0 := by
  have hl := List.length_pos_iff.2 hn
  rw [ckAt, if_neg (by omega)] at h
  split at h
  · cases h
  · rw [ckAt_drop]
    refine ⟨by omega, by omega, by omega, ?_⟩
    rw [Nat.add_zero, ← h]

theorem rest_reads (x : Rp) (n : List UInt8) (base : Nat) (hb : base ≤ x.S.length) (hc : ckAt n 0 = 0)
    (hm : ∀ m a, x.get m = some a → m.length ≤ n.length → a < base ∧ a < 16384 ∧ Rds x.S a m) :
    (∃ T, (x.rest n).S = x.S ++ T ∧ T ≠ [] ∧ T.length ≤ n.length + 2) ∧
    (∀ (b : Nat) (fin : Int) (j : Nat) (o : List UInt8), base ≤ b → o.length + n.length ≤ 254 → ∃ k y, k ≤ n.length + 2 ∧ Rd8 (x.rest n).S k ⟨x.S.length, b, fin, j, o⟩ y ∧ y.out = o ++ n ∧ y.fin = if fin < 0 then ((x.rest n).S.length : Int) else fin) ∧
    (∀ m a, (x.rest n).get m = some a → x.get m = some a ∨ (a < (x.rest n).S.length ∧ a < 16384 ∧ Rds (x.rest n).S a m)) := by
  generalize hk : n.length = k
  induction k using Nat.strongRecOn generalizing x n with
  | _ k ih =>
    subst hk
    by_cases hn : n = []
    · subst hn
      rw [rest_nil]
      refine ⟨⟨[0], rfl, by simp, by simp⟩, fun b fin j o _ _ => ⟨1, ⟨x.S.length, b, if fin < 0 then ((x.S.length + 1 : Nat) : Int) else fin, j, o⟩, by simp, ?_, by simp, by simp⟩, fun m a h => .inl h⟩
      refine .done ?_
      have h0 : oc (x.S ++ [0]) (x.S.length + 0) = 0 := by rw [oc_app_r]; rfl
      rw [Nat.add_zero] at h0
      unfold Un.step Un.leave
      simp only [h0, List.length_append, List.length_cons, List.length_nil]
      rw [if_neg (by omega), if_pos trivial]
    · cases hkn : x.get n with
      | some a =>
        obtain ⟨hab, ha, hrd⟩ := hm _ _ hkn (Nat.le_refl _)
        rw [rest_some hn hkn]
        refine ⟨⟨ptr a, rfl, by simp [ptr], by simp [ptr]⟩, fun b fin j o hbb ho => ?_, fun m a h => .inl h⟩
        obtain ⟨o1, o2⟩ := ptr_oc x.S [] a ha
        rw [List.append_nil] at o1 o2
        have hst : Un.step (x.S ++ ptr a) true ⟨x.S.length, b, fin, j, o⟩ = .on ⟨a, a, if fin < 0 then ((x.S.length + 2 : Nat) : Int) else fin, j + 1, o⟩ := by
          have hl : (x.S ++ ptr a).length = x.S.length + 2 := by simp [ptr]
          have hto : Un.to (x.S ++ ptr a) ⟨x.S.length, b, fin, j, o⟩ = a := by
            unfold Un.to
            simp only [o1, o2]
            omega
          unfold Un.step Un.jmp Un.leave
          rw [hto]
          simp only [o1, hl]
          rw [if_neg (by omega), if_neg (by omega), if_neg (by omega), if_pos ⟨by omega, trivial⟩, if_neg (by omega), if_neg (by omega)]
        obtain ⟨k, y, h0, h1, h2, h3⟩ := (hrd.app (ptr a)) (if fin < 0 then ((x.S.length + 2 : Nat) : Int) else fin) (j + 1) o (by split <;> omega) ho
        refine ⟨k + 1, y, by omega, .on hst h1, h2, ?_⟩
        rw [h3]
        simp [ptr]
      | none =>
        obtain ⟨c1, c2, c3, c4⟩ := ckAt_first hn hc
        rw [rest_none hn hkn]
        have hlen : (n.take (1 + oc n 0)).length = 1 + oc n 0 := by rw [List.length_take]; omega
        have hdl : (n.drop (1 + oc n 0)).length = n.length - (1 + oc n 0) := List.length_drop
        obtain ⟨⟨T, hT, _, hT2⟩, hrd, hmk⟩ := ih (n.drop (1 + oc n 0)).length (by omega) ⟨x.S ++ n.take (1 + oc n 0), updAt x.get n x.S.length⟩ (n.drop (1 + oc n 0))
          (by dsimp only; rw [List.length_append]; omega) c4 (fun m a hmm hle => by
            dsimp only at hmm ⊢
            rcases updAt_some hmm with h | ⟨h, _⟩
            · obtain ⟨p1, p2, p3⟩ := hm m a h (by omega)
              exact ⟨p1, p2, p3.app _⟩
            · subst h
              omega) rfl
        dsimp only at hT hrd hmk
        generalize Rp.rest ⟨x.S ++ n.take (1 + oc n 0), updAt x.get n x.S.length⟩ (n.drop (1 + oc n 0)) = z at hT hrd hmk ⊢
        have hT' : z.S = x.S ++ (n.take (1 + oc n 0) ++ T) := by rw [hT, List.append_assoc]
        have hzl : z.S.length = x.S.length + (1 + oc n 0 + T.length) := by rw [hT', List.length_append, List.length_append, hlen]
        have key : ∀ (b : Nat) (fin : Int) (j : Nat) (o : List UInt8), base ≤ b → o.length + n.length ≤ 254 → ∃ k y, k ≤ n.length + 1 ∧ Rd8 z.S k ⟨x.S.length, b, fin, j, o⟩ y ∧ y.out = o ++ n ∧ y.fin = if fin < 0 then (z.S.length : Int) else fin := by
          intro b fin j o hbb ho
          obtain ⟨k, y, hk0, h1, h2, h3⟩ := hrd b fin j (o ++ n.take (1 + oc n 0)) hbb (by rw [List.length_append, hlen, hdl]; omega)
          refine ⟨k + 1, y, by omega, ?_, ?_, h3⟩
          · rw [List.length_append, hlen] at h1
            refine .on ?_ h1
            have h0 : oc z.S (x.S.length + 0) = oc n 0 := by
              rw [hT', oc_app_r, oc_app_l _ _ _ (by omega), oc_take _ _ _ (by omega)]
            have hd : (z.S.drop x.S.length).take (1 + oc n 0) = n.take (1 + oc n 0) := by
              rw [hT', List.drop_left]
              have := List.take_left (l₁ := n.take (1 + oc n 0)) (l₂ := T)
              rw [hlen] at this
              exact this
            rw [Nat.add_zero] at h0
            unfold Un.step Un.lab
            simp only [h0, hd]
            rw [if_neg (by omega), if_neg (by omega), if_pos (by omega), if_neg (by omega), if_neg (by omega), Nat.add_assoc]
          · rw [h2, List.append_assoc, List.take_append_drop]
        refine ⟨⟨_, hT', ?_, ?_⟩, fun b fin j o hbb ho => ?_, fun m a hmm => ?_⟩
        · intro h
          have := congrArg List.length h
          rw [List.length_append, hlen] at this
          simp at this
        · rw [List.length_append, hlen]
          omega
        · obtain ⟨k, y, h0, h1⟩ := key b fin j o hbb ho
          exact ⟨k, y, by omega, h1⟩
        · rcases hmk m a hmm with h | h
          · rcases updAt_some h with h | ⟨h, h', h''⟩
            · exact .inl h
            · subst h h'
              refine .inr ⟨by omega, h'', fun fin j o h1 h2 => ?_⟩
              obtain ⟨k, y, h0, h3, h4, h5⟩ := key x.S.length fin j o hb h2
              refine ⟨k, y, h0, h3, h4, ?_⟩
              rw [h5, if_neg (by omega)]
          · exact .inr h

/-- All that was marked is there. -/
def Rp.good (x : Rp) : Prop := ∀ m a, x.get m = some a → a < x.S.length ∧ a < 16384 ∧ Rds x.S a m

/-- A name that was put reads from where it was begun. -/
theorem rest_one {x : Rp} {n : List UInt8} (hg : x.good) (h1 : ckAt n 0 = 0) (h2 : n.length ≤ 254) :
    (x.rest n).good ∧ (∃ T, (x.rest n).S = x.S ++ T ∧ T ≠ [] ∧ T.length ≤ n.length + 2) ∧
      ∃ k y, k ≤ 256 ∧ Rd8 (x.rest n).S k ⟨x.S.length, x.S.length, -1, 0, []⟩ y ∧ y.out = n ∧ y.fin = (x.rest n).S.length := by
  obtain ⟨⟨T, hT, hT1, hT2⟩, hrd, hmk⟩ := rest_reads x n x.S.length (Nat.le_refl _) h1 fun m a hm _ => hg m a hm
  obtain ⟨k, y, h0, h3, h4, h5⟩ := hrd x.S.length (-1) 0 [] (Nat.le_refl _) (by simpa using h2)
  refine ⟨fun m a hm => ?_, ⟨T, hT, hT1, hT2⟩, k, y, by omega, h3, by rw [h4]; rfl, by rw [h5]; rfl⟩
  rcases hmk m a hm with h | h
  · obtain ⟨g1, g2, g3⟩ := hg m a h
    rw [hT]
    exact ⟨by rw [List.length_append]; omega, g2, g3.app T⟩
  · exact h

/-- From a place on there stand names, one behind the other. -/
def Chain (S : List UInt8) : Nat → List (List UInt8) → Nat → Prop
  | p, [], e => p = e
  | p, n :: l, e => ∃ k y q, Rd8 S k ⟨p, p, -1, 0, []⟩ y ∧ y.out = n ∧ y.fin = ((q : Nat) : Int) ∧ p ≤ S.length ∧ Chain S q l e
theorem Chain.app {S : List UInt8} (T : List UInt8) : ∀ {l : List (List UInt8)} {p e : Nat}, Chain S p l e → Chain (S ++ T) p l e
  | [], _, _, h => h
  | n :: l, p, e, ⟨k, y, q, h1, h2, h3, h4, h5⟩ => ⟨k, y, q, h1.app T, h2, h3, by rw [List.length_append]; omega, Chain.app T h5⟩
theorem Chain.snoc {S : List UInt8} {n : List UInt8} {q k : Nat} {y : Un} : ∀ {l : List (List UInt8)} {p e : Nat}, Chain S p l e → Rd8 S k ⟨e, e, -1, 0, []⟩ y → y.out = n → y.fin = ((q : Nat) : Int) → e ≤ S.length → Chain S p (l ++ [n]) q
  | [], p, e, h, h1, h2, h3, h4 => by
    have h : p = e := h
    subst h
    exact ⟨k, y, q, h1, h2, h3, h4, rfl⟩
  | m :: l, p, e, ⟨k', z, r, g1, g2, g3, g4, g5⟩, h1, h2, h3, h4 => ⟨k', z, r, g1, g2, g3, g4, Chain.snoc g5 h1 h2 h3 h4⟩

/-- One name more. -/
theorem rest_chain {x : Rp} {n : List UInt8} {l : List (List UInt8)} (hg : x.good) (hc : Chain x.S 0 l x.S.length) (h1 : ckAt n 0 = 0) (h2 : n.length ≤ 254) :
    (x.rest n).good ∧ Chain (x.rest n).S 0 (l ++ [n]) (x.rest n).S.length ∧ (x.rest n).S.length ≤ x.S.length + 256 := by
  obtain ⟨hg', ⟨T, hT, _, hT2⟩, k, y, _, h3, h4, h5⟩ := rest_one hg h1 h2
  refine ⟨hg', Chain.snoc (e := x.S.length) ?_ h3 h4 h5 ?_, ?_⟩
  · rw [hT]; exact hc.app T
  · rw [hT, List.length_append]; omega
  · rw [hT, List.length_append]
    omega
end Go.Proofs.Ytbemackcdccpaaa
