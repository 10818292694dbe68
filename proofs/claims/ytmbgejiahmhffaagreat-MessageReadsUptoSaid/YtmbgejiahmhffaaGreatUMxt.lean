/-
  LAYER 11, PLAIN: what is read stays read where octets follow; what was read may be. No program.
-/
import Derived.Test.YtmbgejiahmhffaaGreatUMra
import Derived.Test.YtmbgejiahmhffaaGreatUunG
namespace Go.Proofs.YtmbgejiahmhffaaGreat
open Go.RowKit
set_option linter.unusedVariables false
set_option linter.unusedSimpArgs false

theorem uread_app {S : List UInt8} {f : Bool} {x y : Un} (h : uread S f x = .done y) (T : List UInt8) : uread (S ++ T) f x = .done y := by
  generalize hm : x.mu S = m
  induction m using Nat.strongRecOn generalizing x with
  | _ m ih =>
    cases hst : x.step S f with
    | done z =>
      rw [uread_done hst] at h
      exact uread_done (((step_app (by rw [hst]; intro e he; cases he)).trans hst).trans (by injection h with h; rw [h]))
    | bad e => rw [uread_bad hst] at h; cases h
    | on z =>
      rw [uread_on hst] at h
      rw [uread_on ((step_app (by rw [hst]; intro e he; cases he)).trans hst)]
      exact ih _ (by rw [← hm]; exact Un.step_mu hst) h rfl
theorem cu_take_app {S : List UInt8} {en : Nat} (he : en ≤ S.length) (T : List UInt8) : Cu.take (S ++ T) en = Cu.take S en := by
  funext c n
  unfold Cu.take
  by_cases h0 : c.e = 0
  · by_cases h1 : en - c.at_ < n
    · simp [h0, h1]
    · by_cases hn : n = 0
      · subst hn
        simp [h0]
      · have e1 : ((S ++ T).drop c.at_).take n = (S.drop c.at_).take n := by
          rw [List.drop_append_of_le_length (by omega), List.take_append_of_le_length (by rw [List.length_drop]; omega)]
        simp [h0, h1, e1]
  · simp [h0]
theorem cu_number_app {S : List UInt8} {en : Nat} (he : en ≤ S.length) (T : List UInt8) : Cu.number (S ++ T) en = Cu.number S en := by
  funext c n
  unfold Cu.number
  rw [cu_take_app he T]
theorem cu_nums_app {S : List UInt8} {en : Nat} (he : en ≤ S.length) (T : List UInt8) (wide : Nat) : ∀ (k : Nat) (c : Cu), Cu.nums (S ++ T) en wide k c = Cu.nums S en wide k c
  | 0, c => rfl
  | k + 1, c => by
    unfold Cu.nums
    rw [cu_number_app he T, cu_nums_app he T wide k]
theorem cu_texts_app {S : List UInt8} {en : Nat} (he : en ≤ S.length) (T : List UInt8) : ∀ (f : Nat) (c : Cu), Cu.texts (S ++ T) en f c = Cu.texts S en f c
  | 0, c => rfl
  | f + 1, c => by
    unfold Cu.texts
    rw [cu_number_app he T, cu_take_app he T]
    simp only [cu_texts_app he T f]
theorem cu_name_app {S : List UInt8} {en : Nat} {p : Bool} {c : Cu} (h : (Cu.name S en p c).2.e = 0) (T : List UInt8) : Cu.name (S ++ T) en p c = Cu.name S en p c := by
  unfold Cu.name at h ⊢
  by_cases h0 : c.e = 0
  · rw [if_neg (by simp [h0])] at h
    rw [if_neg (by simp [h0]), if_neg (by simp [h0])]
    cases hu : uread S (!p) ⟨c.at_, c.at_, -1, 0, []⟩ with
    | done z => rw [uread_app hu T]
    | bad e =>
      rw [hu] at h
      exact absurd h (uread_bad_ne hu)
    | on z =>
      rcases uread_cases S (!p) ⟨c.at_, c.at_, -1, 0, []⟩ with ⟨y, hy⟩ | ⟨e, hy⟩
      · rw [hu] at hy; cases hy
      · rw [hu] at hy; cases hy
  · rw [if_pos h0] at h
    exact absurd h h0
theorem cu_take_e {S : List UInt8} {en n : Nat} {c : Cu} (h : (Cu.take S en c n).2.e = 0) : c.e = 0 := Classical.byContradiction fun g => by
  unfold Cu.take at h
  rw [if_pos g] at h
  exact g h
theorem cu_name_e {S : List UInt8} {en : Nat} {p : Bool} {c : Cu} (h : (Cu.name S en p c).2.e = 0) : c.e = 0 := Classical.byContradiction fun g => by
  unfold Cu.name at h
  rw [if_pos g] at h
  exact g h
theorem cu_nums_e {S : List UInt8} {en wide : Nat} : ∀ {k : Nat} {c : Cu}, (Cu.nums S en wide k c).2.e = 0 → c.e = 0
  | 0, c, h => h
  | k + 1, c, h => by
    unfold Cu.nums at h
    have h1 := cu_nums_e h
    exact cu_take_e h1
theorem cu_texts_e {S : List UInt8} {en : Nat} : ∀ {f : Nat} {c : Cu}, (Cu.texts S en f c).2.e = 0 → c.e = 0
  | 0, c, h => h
  | f + 1, c, h => Classical.byContradiction fun g => by
    unfold Cu.texts at h
    rw [if_pos g] at h
    exact g h
theorem dreadB_app {S : List UInt8} {en : Nat} (he : en ≤ S.length) {w : Wh} {a : Nat} (h : (dreadB S en w a).2.e = 0) (T : List UInt8) : dreadB (S ++ T) en w a = dreadB S en w a := by
  unfold dreadB at h ⊢
  simp only [cu_take_app he T, cu_nums_app he T, cu_texts_app he T]
  dsimp only at h ⊢
  generalize (if 0 < w.addr then Cu.take S en ⟨a, 0⟩ w.addr else ([], ⟨a, 0⟩)) = A at *
  generalize (if w.first = true then Cu.nums S en w.wide w.nums A.2 else ([], A.2)) = P at *
  obtain ⟨M, hM⟩ : ∃ M, M = (if 1 ≤ w.names then Cu.name S en w.plain P.2 else ([], P.2)) := ⟨_, rfl⟩
  obtain ⟨M', hM'⟩ : ∃ M, M = (if 1 ≤ w.names then Cu.name (S ++ T) en w.plain P.2 else ([], P.2)) := ⟨_, rfl⟩
  rw [← hM] at h
  rw [← hM, ← hM']
  obtain ⟨Q, hQ⟩ : ∃ Q, Q = (if 2 ≤ w.names then Cu.name S en w.plain M.2 else ([], M.2)) := ⟨_, rfl⟩
  obtain ⟨Q', hQ'⟩ : ∃ Q, Q = (if 2 ≤ w.names then Cu.name (S ++ T) en w.plain M'.2 else ([], M'.2)) := ⟨_, rfl⟩
  rw [← hQ] at h
  rw [← hQ, ← hQ']
  have hq : Q.2.e = 0 := by
    have h1 : (if w.texts = true then Cu.texts S en (en + 1) (if w.first = true then ([], Q.2) else Cu.nums S en w.wide w.nums Q.2).2 else ([], (if w.first = true then ([], Q.2) else Cu.nums S en w.wide w.nums Q.2).2)).2.e = 0 := by
      by_cases hr : w.raw = true
      · rw [if_pos hr] at h
        exact cu_take_e h
      · rw [if_neg hr] at h
        exact h
    have h2 : (if w.first = true then ([], Q.2) else Cu.nums S en w.wide w.nums Q.2).2.e = 0 := by
      by_cases ht : w.texts = true
      · rw [if_pos ht] at h1
        exact cu_texts_e h1
      · rw [if_neg ht] at h1
        exact h1
    by_cases hf : w.first = true
    · rw [if_pos hf] at h2
      exact h2
    · rw [if_neg hf] at h2
      exact cu_nums_e h2
  have hm : M.2.e = 0 := by
    by_cases h2 : 2 ≤ w.names
    · rw [if_pos h2] at hQ
      rw [hQ] at hq
      exact cu_name_e hq
    · rw [if_neg h2] at hQ
      rw [hQ] at hq
      exact hq
  have hMM : M' = M := by
    by_cases h1 : 1 ≤ w.names
    · rw [if_pos h1] at hM hM'
      rw [hM'] 
      rw [hM] at hm
      rw [cu_name_app hm T, hM]
    · rw [if_neg h1] at hM hM'
      rw [hM, hM']
  subst hMM
  have hQQ : Q' = Q := by
    by_cases h2 : 2 ≤ w.names
    · rw [if_pos h2] at hQ hQ'
      rw [hQ']
      rw [hQ] at hq
      rw [cu_name_app hq T, hQ]
    · rw [if_neg h2] at hQ hQ'
      rw [hQ, hQ']
  rw [hQQ]
theorem dreadN_app {S : List UInt8} {a e t : Int} (h : (dreadN S a e t).2 = 0) (T : List UInt8) : dreadN (S ++ T) a e t = dreadN S a e t := by
  unfold dreadN at h ⊢
  by_cases hc : a < 0 ∨ e < a ∨ (S.length : Int) < e ∨ ¬ (0 ≤ t ∧ t ≤ 65535)
  · rw [if_pos hc] at h
    cases h
  · rw [if_neg hc] at h
    rw [if_neg hc, if_neg (by rw [List.length_append]; omega)]
    dsimp only at h ⊢
    by_cases h1 : (dreadB S e.toNat (whatN t) a.toNat).2.e = 0
    · rw [dreadB_app (by omega) h1 T]
    · rw [if_pos h1] at h
      exact absurd h h1
theorem numAt_app2 {S : List UInt8} {p n : Nat} (h : p + n ≤ S.length) (T : List UInt8) : numAt (S ++ T) p n = numAt S p n := by
  unfold numAt
  rw [List.drop_append_of_le_length (by omega), List.take_append_of_le_length (by rw [List.length_drop]; omega)]
theorem numAt_lt (S : List UInt8) (p n : Nat) : numAt S p n < 256 ^ n := by
  unfold numAt
  refine Nat.lt_of_lt_of_le (numOf_lt _) (Nat.pow_le_pow_right (by decide) ?_)
  rw [List.length_take]
  omega
theorem uread_at {S : List UInt8} {a : Nat} (ha : a ≤ S.length) {z : Un} (h : uread S true ⟨a, a, -1, 0, []⟩ = .done z) : ckN ⟨z.out.toArray⟩ = 0 ∧ (a : Int) < z.fin ∧ z.fin ≤ S.length := by
  obtain ⟨b1, b2, b3, b4, _⟩ := un_bounds (UInv.start S a ha) h
  refine ⟨?_, b3, b4⟩
  unfold ckN
  rw [if_neg (by show ¬ 254 < z.out.toArray.size; rw [List.size_toArray]; omega)]
  simpa using b1
theorem qreadN_good {S : List UInt8} {a : Int} (h : (qreadN S a).2.2 = 0) : (∀ T, qreadN (S ++ T) a = qreadN S a) ∧ qchk (qreadN S a).1 = 0 := by
  unfold qreadN at h ⊢
  by_cases h0 : a < 0 ∨ (S.length : Int) < a
  · rw [if_pos h0] at h
    cases h
  · rw [if_neg h0] at h
    rw [if_neg h0]
    cases hu : uread S true ⟨a.toNat, a.toNat, -1, 0, []⟩ with
    | done z =>
      rw [hu] at h
      dsimp only at h ⊢
      obtain ⟨c1, c2, c3⟩ := uread_at (by omega) hu
      by_cases h1 : S.length - z.fin.toNat < 4
      · rw [if_pos h1] at h
        cases h
      · rw [if_neg h1]
        refine ⟨fun T => ?_, ?_⟩
        · rw [if_neg (by rw [List.length_append]; omega), uread_app hu T]
          dsimp only
          rw [if_neg (by rw [List.length_append]; omega), numAt_app2 (by omega), numAt_app2 (by omega)]
        · unfold qchk qcheck
          dsimp only
          have n1 := numAt_lt S z.fin.toNat 2
          have n2 := numAt_lt S (z.fin.toNat + 2) 2
          rw [if_neg (by simp [c1]), if_pos (by omega)]
    | bad e =>
      rw [hu] at h
      exact absurd h (uread_bad_ne hu)
    | on z =>
      rcases uread_cases S true ⟨a.toNat, a.toNat, -1, 0, []⟩ with ⟨y, hy⟩ | ⟨e, hy⟩
      · rw [hu] at hy; cases hy
      · rw [hu] at hy; cases hy
theorem rreadN_good {S : List UInt8} {a : Int} (h : (rreadN S a).2.2 = 0) : (∀ T, rreadN (S ++ T) a = rreadN S a) ∧ (rreadN S a).1.ok ∧ (rreadN S a).1.check = 0 := by
  unfold rreadN at h ⊢
  by_cases h0 : a < 0 ∨ (S.length : Int) < a
  · rw [if_pos h0] at h
    cases h
  · rw [if_neg h0] at h
    rw [if_neg h0]
    cases hu : uread S true ⟨a.toNat, a.toNat, -1, 0, []⟩ with
    | done z =>
      rw [hu] at h
      dsimp only at h ⊢
      obtain ⟨c1, c2, c3⟩ := uread_at (by omega) hu
      by_cases h1 : S.length - z.fin.toNat < 10
      · rw [if_pos h1] at h
        cases h
      · rw [if_neg h1] at h
        rw [if_neg h1]
        obtain ⟨n, hn⟩ : ∃ n, n = numAt S (z.fin.toNat + 8) 2 := ⟨_, rfl⟩
        rw [← hn] at h ⊢
        by_cases h2 : S.length - (z.fin.toNat + 10) < n
        · rw [if_pos h2] at h
          cases h
        · rw [if_neg h2] at h
          rw [if_neg h2]
          obtain ⟨D, hD⟩ : ∃ D, D = dreadN S ((z.fin.toNat + 10 : Nat) : Int) ((z.fin.toNat + 10 + n : Nat) : Int) (numAt S z.fin.toNat 2 : Nat) := ⟨_, rfl⟩
          rw [← hD] at h ⊢
          by_cases h3 : D.2 = 0
          · rw [if_neg (by simp [h3])]
            refine ⟨fun T => ?_, ?_, ?_⟩
            · rw [if_neg (by rw [List.length_append]; omega), uread_app hu T]
              dsimp only
              rw [if_neg (by rw [List.length_append]; omega), numAt_app2 (n := 2) (by omega), ← hn, if_neg (by rw [List.length_append]; omega), numAt_app2 (n := 2) (by omega), numAt_app2 (n := 2) (by omega), numAt_app2 (n := 4) (by omega),
                dreadN_app (by rw [← hD]; exact h3) T, ← hD, if_neg (by simp [h3])]
            · refine ⟨numAt_lt S (z.fin.toNat + 4) 4, ?_⟩
              show D.1.ok
              have hDB : D.1 = Dt.zero ∨ D.1 = (dreadB S (z.fin.toNat + 10 + n) (whatN ((numAt S z.fin.toNat 2 : Nat) : Int)) (z.fin.toNat + 10)).1 := by
                rw [hD]
                unfold dreadN
                split
                · exact .inl rfl
                · dsimp only
                  split
                  · exact .inl rfl
                  · split
                    · exact .inl rfl
                    · exact .inr rfl
              rcases hDB with e | e
              · rw [e]
                exact ⟨by decide, by decide, fun i => by unfold Dt.num; split <;> decide⟩
              · have hin := dreadB_in S (z.fin.toNat + 10 + n) (z.fin.toNat + 10) ((numAt S z.fin.toNat 2 : Nat) : Int) D.1 e
                exact ⟨hin.1, hin.2.1, hin.2.2.1⟩
            · show (if qcheck _ _ _ ≠ 0 then _ else _) = (0 : Int)
              have n1 := numAt_lt S z.fin.toNat 2
              have n2 := numAt_lt S (z.fin.toNat + 2) 2
              have hq : qcheck (⟨z.out.toArray⟩ : ByteArray) ((numAt S z.fin.toNat 2 : Nat) : Int) ((numAt S (z.fin.toNat + 2) 2 : Nat) : Int) = 0 := by
                unfold qcheck
                rw [if_neg (by simp [c1]), if_pos (by omega)]
              dsimp only
              rw [if_neg (by simp [hq])]
              have h3' := h3
              rw [hD] at h3' ⊢
              unfold dreadN at h3' ⊢
              by_cases hc : ((z.fin.toNat + 10 : Nat) : Int) < 0 ∨ ((z.fin.toNat + 10 + n : Nat) : Int) < ((z.fin.toNat + 10 : Nat) : Int) ∨ (S.length : Int) < ((z.fin.toNat + 10 + n : Nat) : Int) ∨ ¬ (0 ≤ ((numAt S z.fin.toNat 2 : Nat) : Int) ∧ ((numAt S z.fin.toNat 2 : Nat) : Int) ≤ 65535)
              · rw [if_pos hc] at h3'
                cases h3'
              · rw [if_neg hc] at h3' ⊢
                dsimp only at h3' ⊢
                split at h3'
                · exact absurd h3' (by assumption)
                · split at h3'
                  · cases h3'
                  · rename_i k1 k2
                    rw [if_neg k1, if_neg k2]
                    exact Classical.byContradiction fun g => k2 (.inr g)
          · rw [if_pos h3] at h
            exact absurd h h3
    | bad e =>
      rw [hu] at h
      exact absurd h (uread_bad_ne hu)
    | on z =>
      rcases uread_cases S true ⟨a.toNat, a.toNat, -1, 0, []⟩ with ⟨y, hy⟩ | ⟨e, hy⟩
      · rw [hu] at hy; cases hy
      · rw [hu] at hy; cases hy
theorem qaccN_app {s s' : ByteArray} {T : List UInt8} (hs : s'.data.toList = s.data.toList ++ T) {a : Int} : ∀ {n : Nat}, (qaccN s a n).2.2 = 0 → qaccN s' a n = qaccN s a n ∧ ∀ q ∈ (qaccN s a n).1, qchk q = 0
  | 0, _ => ⟨rfl, fun q hq => by cases hq⟩
  | n + 1, h => by
    by_cases h0 : (qaccN s a n).2.2 = 0
    · obtain ⟨e, hk⟩ := qaccN_app hs h0
      by_cases h1 : (qreadC s (qaccN s a n).2.1).2.2 = 0
      · have h1' := h1
        rw [qreadC_eq] at h1'
        obtain ⟨g1, g2⟩ := qreadN_good h1'
        have e2 : qreadC s' (qaccN s a n).2.1 = qreadC s (qaccN s a n).2.1 := by rw [qreadC_eq, qreadC_eq, hs]; exact g1 T
        refine ⟨?_, ?_⟩
        · rw [qaccN_ok h0 h1, qaccN_ok (by rw [e]; exact h0) (by rw [e, e2]; exact h1), e, e2]
        · rw [qaccN_ok h0 h1]
          intro q hq
          rcases List.mem_append.1 hq with hq | hq
          · exact hk q hq
          · rw [List.mem_singleton] at hq
            rw [hq, qreadC_eq]
            exact g2
      · rw [qaccN_no h0 h1] at h
        exact absurd h h1
    · rw [qaccN_stay h0 (n + 1) (by omega)] at h
      exact absurd h h0
theorem raccN_app {s s' : ByteArray} {T : List UInt8} (hs : s'.data.toList = s.data.toList ++ T) {a : Int} : ∀ {n : Nat}, (raccN s a n).2.2 = 0 → raccN s' a n = raccN s a n ∧ ∀ r ∈ (raccN s a n).1, r.ok ∧ r.check = 0
  | 0, _ => ⟨rfl, fun q hq => by cases hq⟩
  | n + 1, h => by
    by_cases h0 : (raccN s a n).2.2 = 0
    · obtain ⟨e, hk⟩ := raccN_app hs h0
      by_cases h1 : (rreadC s (raccN s a n).2.1).2.2 = 0
      · have h1' := h1
        rw [rreadC_eq] at h1'
        obtain ⟨g1, g2⟩ := rreadN_good h1'
        have e2 : rreadC s' (raccN s a n).2.1 = rreadC s (raccN s a n).2.1 := by rw [rreadC_eq, rreadC_eq, hs]; exact g1 T
        refine ⟨?_, ?_⟩
        · rw [raccN_ok h0 h1, raccN_ok (by rw [e]; exact h0) (by rw [e, e2]; exact h1), e, e2]
        · rw [raccN_ok h0 h1]
          intro q hq
          rcases List.mem_append.1 hq with hq | hq
          · exact hk q hq
          · rw [List.mem_singleton] at hq
            rw [hq, rreadC_eq]
            exact g2
      · rw [raccN_no h0 h1] at h
        exact absurd h h1
    · rw [raccN_stay h0 (n + 1) (by omega)] at h
      exact absurd h h0
theorem readHd_app {s s' : ByteArray} {T : List UInt8} (hs : s'.data.toList = s.data.toList ++ T) (h : (readHd s).2 = 0) : readHd s' = readHd s ∧ (readHd s).1.may = true ∧ (readHd s).1.ok ∧ 12 ≤ s.size := by
  rcases readHd_cases s with ⟨g, hg, e⟩ | ⟨h12, y, e, hm, hok, hp⟩
  · rw [e] at h
    rcases hg with rfl | rfl <;> cases h
  · rw [e]
    refine ⟨?_, hm, hok, h12⟩
    have hl : s.data.toList.length = s.size := by rw [Array.length_toList]; rfl
    have hpl : y.put.data.toList = s.data.toList.take 12 := by
      rw [hp]
      simp [ByteArray.extract, ByteArray.copySlice]
    have e2 : s' = y.put ++ (⟨(s.data.toList.drop 12 ++ T).toArray⟩ : ByteArray) := by
      apply arr_eq
      rw [hs]
      simp only [ByteArray.data_append, Array.toList_append, hpl, List.toList_toArray]
      rw [← List.append_assoc, List.take_append_drop]
    rw [e2]
    exact read_put y hok hm _
structure MGood (s : ByteArray) : Prop where
  sz : s.size ≤ 65535
  hd : (readHd s).2 = 0
  q : (mq s).2.2 = 0
  a : (ma s).2.2 = 0
  b : (mb s).2.2 = 0
  c : (mc s).2.2 = 0
  at_ : (mc s).2.1 = (s.size : Nat)
theorem mread_good {s : ByteArray} (h : mreadE s = 0) : MGood s := by
  unfold mreadE at h
  split at h
  · cases h
  · split at h
    · exact absurd h (by assumption)
    · split at h
      · exact absurd h (by assumption)
      · split at h
        · exact absurd h (by assumption)
        · split at h
          · exact absurd h (by assumption)
          · split at h
            · exact absurd h (by assumption)
            · split at h
              · cases h
              · exact ⟨by omega, Classical.not_not.1 (by assumption), Classical.not_not.1 (by assumption), Classical.not_not.1 (by assumption), Classical.not_not.1 (by assumption), Classical.not_not.1 (by assumption), Classical.not_not.1 (by assumption)⟩
/-- Octets behind a message: it is none. -/
theorem mread_more {s s' : ByteArray} {T : List UInt8} (hs : s'.data.toList = s.data.toList ++ T) (hT : T ≠ []) (hl : s'.size ≤ 65535) (h : mreadE s = 0) : mreadE s' = 4 := by
  have g := mread_good h
  obtain ⟨e0, _, _, _⟩ := readHd_app hs g.hd
  have eq : mq s' = mq s := by unfold mq; rw [e0]; exact (qaccN_app hs g.q).1
  have ea : ma s' = ma s := by unfold ma; rw [e0, eq]; exact (raccN_app hs g.a).1
  have eb : mb s' = mb s := by unfold mb; rw [e0, ea]; exact (raccN_app hs g.b).1
  have ec : mc s' = mc s := by unfold mc; rw [e0, eb]; exact (raccN_app hs g.c).1
  have h1 : s.data.toList.length = s.size := by rw [Array.length_toList]; rfl
  have h2 : s'.data.toList.length = s'.size := by rw [Array.length_toList]; rfl
  have h3 : 0 < T.length := List.length_pos_iff.2 hT
  rw [hs, List.length_append] at h2
  unfold mreadE
  rw [if_neg (by omega), e0, if_neg (by simp [g.hd]), eq, if_neg (by simp [g.q]), ea, if_neg (by simp [g.a]), eb, if_neg (by simp [g.b]), ec, if_neg (by simp [g.c]), if_pos (by rw [g.at_]; omega)]
theorem hd_countsN {s : ByteArray} (h1 : (readHd s).2 = 0) : 0 ≤ (readHd s).1.c0 ∧ 0 ≤ (readHd s).1.c1 ∧ 0 ≤ (readHd s).1.c2 ∧ 0 ≤ (readHd s).1.c3 := by
  have hs : s.data.toList = s.data.toList ++ [] := by simp
  obtain ⟨_, hm, _, _⟩ := readHd_app hs h1
  have := (Hd.may_parts hm).2.2
  exact ⟨(this 0).1, (this 1).1, (this 2).1, (this 3).1⟩
/-- What is read may be. -/
theorem mread_fine {s : ByteArray} (h : mreadE s = 0) : (mreadM s).fine ∧ 12 ≤ s.size := by
  have g := mread_good h
  have hs : s.data.toList = s.data.toList ++ [] := by simp
  obtain ⟨_, hm, hok, h12⟩ := readHd_app hs g.hd
  have cs := hd_countsN g.hd
  have c0 := qaccN_len g.q
  have c1 := raccN_len g.a
  have c2 := raccN_len g.b
  have c3 := raccN_len g.c
  refine ⟨⟨hok, hm, ⟨?_, ?_, ?_, ?_⟩, (qaccN_app hs g.q).2, (raccN_app hs g.a).2, (raccN_app hs g.b).2, (raccN_app hs g.c).2⟩, h12⟩
  · show (readHd s).1.c0 = (((mq s).1.length : Nat) : Int)
    have : (mq s).1.length = (readHd s).1.c0.toNat := c0
    have := cs.1
    omega
  · show (readHd s).1.c1 = (((ma s).1.length : Nat) : Int)
    have : (ma s).1.length = (readHd s).1.c1.toNat := c1
    have := cs.2.1
    omega
  · show (readHd s).1.c2 = (((mb s).1.length : Nat) : Int)
    have : (mb s).1.length = (readHd s).1.c2.toNat := c2
    have := cs.2.2.1
    omega
  · show (readHd s).1.c3 = (((mc s).1.length : Nat) : Int)
    have : (mc s).1.length = (readHd s).1.c3.toNat := c3
    have := cs.2.2.2
    omega
end Go.Proofs.YtmbgejiahmhffaaGreat
