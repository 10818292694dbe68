/-
  LAYER 8, PLAIN: what is read may be, ends within the octets, where it is passed over.
-/
import Derived.Test.YtbemackcdccpaaaUnpp
namespace Go.Proofs.Ytbemackcdccpaaa
open Go.RowKit

theorem oc_app_l (l m : List UInt8) (i : Nat) (h : i < l.length) : oc (l ++ m) i = oc l i := by
  unfold oc
  rw [List.getD_eq_getElem?_getD, List.getD_eq_getElem?_getD, List.getElem?_append_left h]
theorem oc_app_r (l m : List UInt8) (i : Nat) : oc (l ++ m) (l.length + i) = oc m i := by
  unfold oc
  rw [List.getD_eq_getElem?_getD, List.getD_eq_getElem?_getD, List.getElem?_append_right (by omega), Nat.add_sub_cancel_left]
theorem oc_drop (l : List UInt8) (a i : Nat) : oc (l.drop a) i = oc l (a + i) := by
  unfold oc
  rw [List.getD_eq_getElem?_getD, List.getD_eq_getElem?_getD, List.getElem?_drop]
theorem oc_take (l : List UInt8) (n i : Nat) (h : i < n) : oc (l.take n) i = oc l i := by
  unfold oc
  rw [List.getD_eq_getElem?_getD, List.getD_eq_getElem?_getD, List.getElem?_take_of_lt h]

theorem ckAt_end (l : List UInt8) : ckAt l l.length = 0 := by rw [ckAt, if_pos (Nat.le_refl _)]
/-- What stands ahead of a place from which on all may be. -/
theorem ckAt_app (l m : List UInt8) (a : Nat) (ha : a ≤ l.length) (h : ckAt l a = 0) : ckAt (l ++ m) a = ckAt (l ++ m) l.length := by
  generalize hn : l.length - a = n
  induction n using Nat.strongRecOn generalizing a with
  | _ n ih =>
    by_cases he : a = l.length
    · rw [he]
    · have hlt : a < l.length := by omega
      rw [ckAt, if_neg (by omega)] at h
      split at h
      · cases h
      · rename_i hk
        rw [ckAt, if_neg (by rw [List.length_append]; omega), oc_app_l l m a hlt, if_neg (by rw [List.length_append]; omega)]
        exact ih (l.length - (a + 1 + oc l a)) (by omega) _ (by omega) h rfl
theorem ckAt_lab (l m : List UInt8) (h : ckAt l 0 = 0) (h1 : 1 ≤ oc m 0) (h2 : oc m 0 ≤ 63) (h3 : m.length = 1 + oc m 0) : ckAt (l ++ m) 0 = 0 := by
  rw [ckAt_app l m 0 (Nat.zero_le _) h]
  have h0 : oc (l ++ m) l.length = oc m 0 := oc_app_r l m 0
  rw [ckAt, List.length_append, if_neg (by omega), h0, if_neg (by omega), ckAt, if_pos (by rw [List.length_append]; omega)]

/-- What holds while a name is read that began at a0. -/
structure UInv (s : List UInt8) (a0 : Nat) (x : Un) : Prop where
  at_ : x.at_ ≤ s.length
  ck : ckAt x.out 0 = 0
  len : x.out.length ≤ 254
  jmp : x.jumps + x.begun ≤ a0
  none : x.jumps = 0 → x.fin = -1 ∧ a0 ≤ x.at_ ∧ skipL s a0 = skipL s x.at_ ∧ uread s false ⟨a0, a0, -1, 0, []⟩ = uread s false x
  some : 0 < x.jumps → (a0 : Int) < x.fin ∧ x.fin ≤ s.length ∧ skipL s a0 = (x.fin, 0) ∧ ∃ e, uread s false ⟨a0, a0, -1, 0, []⟩ = .bad e

theorem UInv.start (s : List UInt8) (a0 : Nat) (h : a0 ≤ s.length) : UInv s a0 ⟨a0, a0, -1, 0, []⟩ :=
  ⟨h, by rw [ckAt]; rfl, by simp, by simp, fun _ => ⟨rfl, Nat.le_refl _, rfl, rfl⟩, fun h => absurd h (by simp)⟩

theorem UInv.done {s : List UInt8} {a0 : Nat} {x y : Un} (h : UInv s a0 x) (hs : x.step s true = .done y) :
    ckAt y.out 0 = 0 ∧ y.out.length ≤ 254 ∧ (a0 : Int) < y.fin ∧ y.fin ≤ s.length ∧ skipL s a0 = (y.fin, 0) ∧ y.jumps ≤ a0 ∧
      (y.jumps = 0 → uread s false ⟨a0, a0, -1, 0, []⟩ = .done y) ∧ (0 < y.jumps → ∃ e, uread s false ⟨a0, a0, -1, 0, []⟩ = .bad e) := by
  have hsf : x.step s false = .done y := by
    unfold Un.step at hs ⊢
    split at hs
    · cases hs
    · split at hs
      · rw [if_neg (by assumption), if_pos (by assumption)]; exact hs
      · split at hs
        · split at hs
          · cases hs
          · split at hs <;> cases hs
        · split at hs
          · split at hs
            · cases hs
            · split at hs <;> cases hs
          · cases hs
  unfold Un.step at hs
  split at hs
  · cases hs
  · rename_i h1
    split at hs
    · rename_i h2
      injection hs with hs
      subst hs
      by_cases hj : x.jumps = 0
      · obtain ⟨n1, n2, n3, n4⟩ := h.none hj
        have hl : x.leave 1 = ((x.at_ + 1 : Nat) : Int) := by unfold Un.leave; rw [n1]; rfl
        have hk : skipL s x.at_ = (((x.at_ + 1 : Nat) : Int), 0) := by rw [skipL, if_neg h1, if_pos h2]
        refine ⟨h.ck, h.len, ?_, ?_, ?_, ?_, fun _ => ?_, fun h' => absurd h' (by dsimp only; omega)⟩
        · dsimp only; omega
        · dsimp only; omega
        · rw [n3, hk]; dsimp only; rw [hl]
        · have := h.jmp; dsimp only; omega
        · rw [n4]; exact uread_done hsf
      · obtain ⟨n1, n2, n3, n4⟩ := h.some (by omega)
        have hl : x.leave 1 = x.fin := by unfold Un.leave; rw [if_neg (by omega)]
        refine ⟨h.ck, h.len, ?_, ?_, ?_, ?_, fun h' => absurd h' hj, fun _ => n4⟩
        · dsimp only; omega
        · dsimp only; omega
        · dsimp only; rw [hl]; exact n3
        · have := h.jmp; dsimp only; omega
    · split at hs
      · split at hs
        · cases hs
        · split at hs <;> cases hs
      · split at hs
        · split at hs
          · cases hs
          · split at hs <;> cases hs
        · cases hs

theorem UInv.on {s : List UInt8} {a0 : Nat} {x y : Un} (h : UInv s a0 x) (hs : x.step s true = .on y) : UInv s a0 y := by
  unfold Un.step at hs
  split at hs
  · cases hs
  · rename_i h1
    split at hs
    · cases hs
    · rename_i h2
      split at hs
      · rename_i h3
        split at hs
        · cases hs
        · rename_i h4
          split at hs
          · cases hs
          · rename_i h5
            injection hs with hs
            have hst : x.step s false = .on y := by
              unfold Un.step
              rw [if_neg h1, if_neg h2, if_pos h3, if_neg h4, if_neg h5, hs]
            subst hs
            have hml : ((s.drop x.at_).take (1 + oc s x.at_)).length = 1 + oc s x.at_ := by rw [List.length_take, List.length_drop]; omega
            have hm0 : oc ((s.drop x.at_).take (1 + oc s x.at_)) 0 = oc s x.at_ := by rw [oc_take _ _ _ (by omega), oc_drop, Nat.add_zero]
            refine ⟨?_, ?_, ?_, h.jmp, fun hj => ?_, h.some⟩
            · show x.at_ + 1 + oc s x.at_ ≤ s.length
              omega
            · exact ckAt_lab _ _ h.ck (by omega) (by omega) (by omega)
            · show (x.out ++ _).length ≤ 254
              rw [List.length_append, hml]
              omega
            · obtain ⟨n1, n2, n3, n4⟩ := h.none hj
              refine ⟨n1, ?_, ?_, ?_⟩
              · show a0 ≤ x.at_ + 1 + oc s x.at_
                omega
              · show skipL s a0 = skipL s (x.at_ + 1 + oc s x.at_)
                rw [n3, skipL, if_neg h1, if_neg h2, if_neg (by omega), if_neg (by omega), if_neg h4]
              · rw [n4]; exact uread_on hst
      · rename_i h3
        split at hs
        · rename_i h4
          split at hs
          · cases hs
          · rename_i h5
            split at hs
            · cases hs
            · rename_i h6
              injection hs with hs
              subst hs
              have hj1 := h.jmp
              refine ⟨?_, h.ck, h.len, ?_, fun hj => absurd hj (by simp [Un.jmp]), fun _ => ?_⟩
              · show x.to s ≤ s.length
                by_cases hj : x.jumps = 0
                · have := (h.none hj).2.1
                  have := h.at_
                  omega
                · obtain ⟨n1, n2, _⟩ := h.some (by omega)
                  omega
              · show x.jumps + 1 + x.to s ≤ a0
                omega
              · show (a0 : Int) < x.leave 2 ∧ x.leave 2 ≤ s.length ∧ skipL s a0 = (x.leave 2, 0) ∧ _
                by_cases hj : x.jumps = 0
                · obtain ⟨n1, n2, n3, n4⟩ := h.none hj
                  have hl : x.leave 2 = ((x.at_ + 2 : Nat) : Int) := by unfold Un.leave; rw [n1]; rfl
                  have hk : skipL s x.at_ = (((x.at_ + 2 : Nat) : Int), 0) := by rw [skipL, if_neg h1, if_neg h2, if_pos h4.1, if_neg h5]
                  have hb : x.step s false = .bad 4 := by unfold Un.step; rw [if_neg h1, if_neg h2, if_neg h3, if_neg (by simp)]
                  refine ⟨by omega, by omega, ?_, 4, ?_⟩
                  · rw [n3, hk, hl]
                  · rw [n4]; exact uread_bad hb
                · obtain ⟨n1, n2, n3, n4⟩ := h.some (by omega)
                  have hl : x.leave 2 = x.fin := by unfold Un.leave; rw [if_neg (by omega)]
                  rw [hl]
                  exact ⟨n1, n2, n3, n4⟩
        · cases hs

theorem un_bounds {s : List UInt8} {a0 : Nat} {x y : Un} (h : UInv s a0 x) (hs : uread s true x = .done y) :
    ckAt y.out 0 = 0 ∧ y.out.length ≤ 254 ∧ (a0 : Int) < y.fin ∧ y.fin ≤ s.length ∧ skipL s a0 = (y.fin, 0) ∧ y.jumps ≤ a0 ∧
      (y.jumps = 0 → uread s false ⟨a0, a0, -1, 0, []⟩ = .done y) ∧ (0 < y.jumps → ∃ e, uread s false ⟨a0, a0, -1, 0, []⟩ = .bad e) := by
  generalize hm : x.mu s = m
  induction m using Nat.strongRecOn generalizing x with
  | _ m ih =>
    cases hx : x.step s true with
    | done z =>
      rw [uread_done hx] at hs
      injection hs with hs
      subst hs
      exact h.done hx
    | bad e =>
      rw [uread_bad hx] at hs
      cases hs
    | on z =>
      rw [uread_on hx] at hs
      exact ih (z.mu s) (hm ▸ Un.step_mu hx) (h.on hx) hs rfl

theorem skipL_bad (s : List UInt8) (a : Nat) : (skipL s a).2 = 0 ∨ (skipL s a).1 = 0 := by
  generalize hn : s.length - a = n
  induction n using Nat.strongRecOn generalizing a with
  | _ n ih =>
    rw [skipL]
    split
    · exact .inr rfl
    · split
      · exact .inl rfl
      · split
        · split
          · exact .inr rfl
          · exact .inl rfl
        · split
          · exact .inr rfl
          · split
            · exact .inr rfl
            · exact ih _ (by omega) _ rfl

theorem step_bad_ne {s : List UInt8} {f : Bool} {x : Un} {e : Int} (h : x.step s f = .bad e) : e ≠ 0 := by
  unfold Un.step at h
  split at h
  · injection h with h; omega
  · split at h
    · cases h
    · split at h
      · split at h
        · injection h with h; omega
        · split at h
          · injection h with h; omega
          · cases h
      · split at h
        · split at h
          · injection h with h; omega
          · split at h
            · injection h with h; omega
            · cases h
        · injection h with h; omega
theorem uread_bad_ne {s : List UInt8} {f : Bool} {x : Un} {e : Int} (h : uread s f x = .bad e) : e ≠ 0 := by
  generalize hm : x.mu s = m
  induction m using Nat.strongRecOn generalizing x with
  | _ m ih =>
    cases hx : x.step s f with
    | done z =>
      rw [uread_done hx] at h
      cases h
    | bad e' =>
      rw [uread_bad hx] at h
      injection h with h
      exact h ▸ step_bad_ne hx
    | on z =>
      rw [uread_on hx] at h
      exact ih _ (hm ▸ Un.step_mu hx) h rfl

/-- The law of layer 8's bounds: an error, and nothing is told; else all that is promised. -/
theorem name_bounds (s : ByteArray) (a : Int) :
    ((nameAt s a true).err ≠ 0 ∧ (nameAt s a true).name = ⟨#[]⟩ ∧ (nameAt s a true).fin = 0 ∧ (nameAt s a true).jumps = 0 ∧ ((skipAt s a).2 = 0 ∨ (skipAt s a).1 = 0)) ∨
    ((nameAt s a true).err = 0 ∧ ckN (nameAt s a true).name = 0 ∧ skipAt s a = ((nameAt s a true).fin, 0) ∧ a < (nameAt s a true).fin ∧ (nameAt s a true).fin ≤ s.size ∧ 0 ≤ (nameAt s a true).jumps ∧ (nameAt s a true).jumps ≤ a ∧
      (((nameAt s a true).jumps = 0 ∧ nameAt s a false = nameAt s a true) ∨ (0 < (nameAt s a true).jumps ∧ (nameAt s a false).err ≠ 0))) := by
  have hsz : s.data.toList.length = s.size := by simp
  by_cases ha : a < 0 ∨ (s.size : Int) < a
  · unfold nameAt skipAt
    rw [if_pos ha, if_pos ha]
    exact .inl ⟨by decide, rfl, rfl, rfl, .inr rfl⟩
  · unfold nameAt skipAt
    rw [if_neg ha, if_neg ha, if_neg ha]
    obtain ⟨n, rfl⟩ := Int.eq_ofNat_of_zero_le (show 0 ≤ a by omega)
    rw [Int.toNat_natCast]
    rcases uread_cases s.data.toList true ⟨n, n, -1, 0, []⟩ with ⟨y, hy⟩ | ⟨e, he⟩
    · right
      obtain ⟨b1, b2, b3, b4, b5, b6, b7, b8⟩ := un_bounds (UInv.start s.data.toList n (by omega)) hy
      rw [hy]
      refine ⟨rfl, ?_, b5, b3, by rw [← hsz]; exact b4, Int.natCast_nonneg _, Int.ofNat_le.2 b6, ?_⟩
      · show ckN ⟨y.out.toArray⟩ = 0
        unfold ckN
        rw [if_neg (by show ¬ 254 < y.out.toArray.size; rw [List.size_toArray]; omega)]
        exact b1
      · by_cases hj : y.jumps = 0
        · exact .inl ⟨by show ((y.jumps : Nat) : Int) = 0; omega, b7 hj⟩
        · refine .inr ⟨by show 0 < ((y.jumps : Nat) : Int); omega, ?_⟩
          obtain ⟨e, he⟩ := b8 (by omega)
          rw [he]
          exact uread_bad_ne he
    · left
      rw [he]
      exact ⟨uread_bad_ne he, rfl, rfl, rfl, skipL_bad _ _⟩
end Go.Proofs.Ytbemackcdccpaaa
