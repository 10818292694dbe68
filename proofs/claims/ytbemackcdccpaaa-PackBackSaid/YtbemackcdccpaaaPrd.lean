/-
  LAYER 7, PLAIN: names put twice; THE WALK of the law's own reading.
-/
import Derived.Test.YtbemackcdccpaaaPgr
namespace Go.Proofs.Ytbemackcdccpaaa
open Go.RowKit Go.Maps

theorem rest_get_other (x : Rp) (m : List UInt8) : ∀ n : List UInt8, m.length < n.length → (x.rest m).get n = x.get n := by
  generalize hk : m.length = k
  induction k using Nat.strongRecOn generalizing x m with
  | _ k ih =>
    subst hk
    intro n hn
    by_cases hm : m = []
    · subst hm
      rw [rest_nil]
    · cases hg : x.get m with
      | some a => rw [rest_some hm hg]
      | none =>
        rw [rest_none hm hg]
        have hml := List.length_pos_iff.2 hm
        rw [ih (m.drop (1 + oc m 0)).length (by rw [List.length_drop]; omega) _ _ rfl n (by rw [List.length_drop]; omega)]
        unfold updAt
        dsimp only
        split
        · show (if n = m then some x.S.length else x.get n) = x.get n
          rw [if_neg (by rintro rfl; omega)]
        · rfl
theorem rest_get_self (x : Rp) (n : List UInt8) (hn : n ≠ []) (hp : x.S.length < 16384) : ∃ a, (x.rest n).get n = some a := by
  cases hg : x.get n with
  | some a => exact ⟨a, by rw [rest_some hn hg]; exact hg⟩
  | none =>
    have hnl := List.length_pos_iff.2 hn
    refine ⟨x.S.length, ?_⟩
    rw [rest_none hn hg, rest_get_other _ _ n (by rw [List.length_drop]; omega)]
    unfold updAt
    rw [if_pos hp]
    dsimp only
    rw [if_pos rfl]

/-- A name put twice. -/
theorem UG.twice {y : Pk} {B : Nat} (h : UG y B) (n : ByteArray) (hn : ckN n = 0) (hB : B + 600 ≤ 16384) :
    ∃ y1 y2 : Pk, y.name n = (y1, 0) ∧ y1.name n = (y2, 0) ∧ UG y1 (B + 256) ∧ UG y2 (B + 258) ∧ (∃ T, y1.x.b = y.x.b ++ T) ∧ (∃ T, y2.x.b = y1.x.b ++ T ∧ T.length ≤ n.size + 1 ∧ (n ≠ ⟨#[]⟩ → T.length = 2)) ∧
      ∃ k z, k ≤ 256 ∧ Rd8 y2.x.b k ⟨y1.x.b.length, y1.x.b.length, -1, 0, []⟩ z ∧ z.out = n.data.toList ∧ z.fin = y2.x.b.length := by
  obtain ⟨h1, h2⟩ := ckN_ok hn
  have hr : y.name n = y.rest n.data.toList := by unfold Pk.name; rw [if_neg (by simp [h.e]), if_neg (by simp [hn])]
  have hrm := Pk.rest_room y n.data.toList h.e h2 (fun m a hm => (h.good m a hm).2.1) (by rw [h.most, size_l]; have := h.len; omega)
  obtain ⟨a1, a2, ⟨T, a3, _, _⟩, _⟩ := h.name n hn (by omega)
  obtain ⟨b1, b2, ⟨T2, b3, b4, b5⟩, b6⟩ := a2.name n hn (by omega)
  have hlen2 : T2.length ≤ n.size + 1 ∧ (n ≠ ⟨#[]⟩ → T2.length = 2) := by
    by_cases hne : n = ⟨#[]⟩
    · subst hne
      have e : ((y.name ⟨#[]⟩).1.name ⟨#[]⟩).1.x.b = (y.name ⟨#[]⟩).1.x.b ++ [0] := by
        unfold Pk.name at *
        generalize (if y.x.e ≠ 0 then (y, y.x.e) else if ckN ⟨#[]⟩ ≠ 0 then (y, ckN ⟨#[]⟩) else y.rest (⟨#[]⟩ : ByteArray).data.toList).1 = y1 at *
        rw [if_neg (by simp [a2.e]), if_neg (by simp [hn])]
        show (Pk.rest y1 []).1.x.b = _
        rw [Pk.rest_nil]
        dsimp only
        rw [Wst.put_ok a2.e (by rw [a2.most]; have := a2.len; simp; omega)]
      rw [e] at b3
      have := List.append_cancel_left b3
      rw [← this]
      exact ⟨by simp, fun h => absurd rfl h⟩
    · obtain ⟨_, hnl, hns⟩ := nonempty_facts hne
      obtain ⟨a, ha⟩ := rest_get_self ⟨y.x.b, y.get⟩ n.data.toList hnl (by dsimp only; have := h.len; omega)
      have hget : (y.name n).1.get n.data.toList = some a := by
        rw [hr, hrm]
        exact ha
      have hr2 : (y.name n).1.name n = (y.name n).1.rest n.data.toList := by
        generalize (y.name n).1 = y1 at a2
        unfold Pk.name
        rw [if_neg (by simp [a2.e]), if_neg (by simp [hn])]
      have hrm2 := Pk.rest_room (y.name n).1 n.data.toList a2.e h2 (fun m c hm => (a2.good m c hm).2.1) (by rw [a2.most, size_l]; have := a2.len; omega)
      rw [hr2, hrm2] at b3
      dsimp only at b3
      rw [rest_some (x := ⟨(y.name n).1.x.b, (y.name n).1.get⟩) hnl hget] at b3
      have := List.append_cancel_left b3
      rw [← this]
      have hn2 : 2 ≤ n.size := by
        obtain ⟨c1, _, c3, _⟩ := ckAt_first hnl h2
        rw [size_l] at c3
        omega
      exact ⟨by simp [ptr]; omega, fun _ => by simp [ptr]⟩
  have hT1 : (y.name n).1.x.b.length ≤ B + 256 := a2.len
  refine ⟨(y.name n).1, ((y.name n).1.name n).1, Prod.ext rfl a1, Prod.ext rfl b1, a2, ⟨b2.e, b2.most, b2.good, ?_⟩, ⟨T, a3⟩, ⟨T2, b3, hlen2⟩, b6⟩
  rw [b3, List.length_append]
  by_cases hne : n = ⟨#[]⟩
  · have := hlen2.1
    rw [hne] at this
    have h0 : (⟨#[]⟩ : ByteArray).size = 0 := rfl
    rw [h0] at this
    omega
  · have := hlen2.2 hne
    omega

theorem step_done_inv {s : List UInt8} {x y : Un} (h : x.step s true = .done y) : x.at_ < s.length ∧ oc s x.at_ = 0 ∧ y = { x with fin := x.leave 1 } := by
  unfold Un.step at h
  split at h
  · cases h
  · split at h
    · injection h with h
      exact ⟨by omega, by assumption, h.symm⟩
    · split at h
      · split at h
        · cases h
        · split at h <;> cases h
      · split at h
        · split at h
          · cases h
          · split at h <;> cases h
        · cases h
theorem step_on_inv {s : List UInt8} {x z : Un} (h : x.step s true = .on z) :
    x.at_ < s.length ∧ ((oc s x.at_ ≠ 0 ∧ oc s x.at_ < 64 ∧ x.at_ + 1 + oc s x.at_ ≤ s.length ∧ x.out.length + (1 + oc s x.at_) ≤ 254 ∧ z = x.lab s) ∨ (192 ≤ oc s x.at_ ∧ x.at_ + 2 ≤ s.length ∧ x.to s < x.begun ∧ z = x.jmp s)) := by
  unfold Un.step at h
  split at h
  · cases h
  · split at h
    · cases h
    · split at h
      · split at h
        · cases h
        · split at h
          · cases h
          · injection h with h
            exact ⟨by omega, .inl ⟨by assumption, by assumption, by omega, by omega, h.symm⟩⟩
      · split at h
        · rename_i h4
          split at h
          · cases h
          · split at h
            · cases h
            · injection h with h
              exact ⟨by omega, .inr ⟨h4.1, by omega, by omega, h.symm⟩⟩
        · cases h

set_option maxRecDepth 100000 in
set_option maxHeartbeats 4000000 in
theorem read7_any (S : ByteArray) (a k : Nat) (y : Un) (w : World) (h : Rd8 S.data.toList k ⟨a, a, -1, 0, []⟩ y) (hk : k ≤ 400) (hS : S.size ≤ 1000000) (ha : a ≤ S.size) :
    Calls Try.prog 72 #[.string S, .int .i64 a] w fun e w' => e = .returned (.tuple #[.string ⟨y.out.toArray⟩, .int .i64 y.fin, .bool true]) ∧ w = w' := by
  have H := Lib.hid h
  clear h
  go_enter Try.func72, Try.ntmps72
  go_wp2_with fail
  go_loop [1, 7, 8, 9] (fun at_ out en i => ∃ (x : Un) (m j : Nat), j + m ≤ 400 ∧ i = .int .i64 j ∧ at_ = .int .i64 x.at_ ∧ out = .string ⟨x.out.toArray⟩ ∧ en = .int .i64 x.fin ∧ Rd8 S.data.toList m x y ∧ x.begun ≤ x.at_ ∧ x.at_ ≤ S.size ∧ x.out.length ≤ 254) (fun _ _ _ i => 400 - (intOf i).toNat)
  case atStart => exact ⟨⟨a, a, -1, 0, []⟩, k, 0, by omega, rfl, rfl, rfl, rfl, H.out, Nat.le_refl _, ha, Nat.zero_le _⟩
  case round =>
    obtain ⟨x, m, j, hjm, rfl, rfl, rfl, rfl, hrd, hb, hat, hout⟩ := hrel
    cases hrd with
    | done hst =>
      obtain ⟨i1, i2, rfl⟩ := step_done_inv hst
      rw [size_l] at i1
      have hix := run_index_oc S (x.at_ : Int) x.at_ rfl i1
      rw [i2] at hix
      have q1 : IntKind.i64.wrap ((x.at_ : Int) + 1) = (x.at_ : Int) + 1 := IntWalk.i64_in _ (by omega)
      clear hst H
      by_cases hf : x.fin < 0
      · have hl : x.leave 1 = (x.at_ : Int) + 1 := by unfold Un.leave; rw [if_pos hf]; omega
        rw [hl]
        go_wp2_with fail
        go_ret3
        exact ⟨rfl, rfl⟩
      · have hl : x.leave 1 = x.fin := by unfold Un.leave; rw [if_neg hf]
        rw [hl]
        go_wp2_with fail
        go_ret3
        exact ⟨rfl, rfl⟩
    | @on m' _ _ z hst hr =>
      obtain ⟨i1, hcase⟩ := step_on_inv hst
      rw [size_l] at i1 hcase
      have hix := run_index_oc S (x.at_ : Int) x.at_ rfl i1
      have hoc := oc_lt S.data.toList x.at_
      have HR := Lib.hid hr
      clear hst hr H
      have q1 : IntKind.i64.wrap ((x.at_ : Int) + 1) = (x.at_ : Int) + 1 := IntWalk.i64_in _ (by omega)
      rcases hcase with ⟨c0, c1, c2, c3, rfl⟩ | ⟨c1, c2, c3, rfl⟩
      · have q2 : IntKind.i64.wrap ((x.at_ : Int) + 1 + (oc S.data.toList x.at_ : Int)) = (x.at_ : Int) + 1 + (oc S.data.toList x.at_ : Int) := IntWalk.i64_in _ (by omega)
        have hex : (S.extract x.at_ (x.at_ + 1 + oc S.data.toList x.at_)).data.toList = (S.data.toList.drop x.at_).take (1 + oc S.data.toList x.at_) := by
          rw [extract_list]
          congr 1
          omega
        have hsl : ∀ w, (Instr.slice 9 (.string S) (some (.int .i64 (x.at_ : Int))) (some (.int .i64 ((x.at_ : Int) + 1 + (oc S.data.toList x.at_ : Int)))) none).run Try.prog w = .ok (.string (S.extract x.at_ (x.at_ + 1 + oc S.data.toList x.at_))) w := fun w => by
          rw [run_slice_string (P := Try.prog) w 9 S .i64 .i64 _ _ Try.underlying9 (by omega) (by omega) (by omega), show ((x.at_ : Int) + 1 + (oc S.data.toList x.at_ : Int)).toNat = x.at_ + 1 + oc S.data.toList x.at_ by omega, Int.toNat_natCast]
        have hadd : ∀ w, (Op.stringOp .add ⟨x.out.toArray⟩ (S.extract x.at_ (x.at_ + 1 + oc S.data.toList x.at_))).run Try.prog w = .ok (.string ⟨(x.lab S.data.toList).out.toArray⟩) w := fun w => by
          rw [run_string_add_sum w _ _ (by rw [sz_mk]; simp only [ByteArray.size_extract]; omega), str_app, hex]
          rfl
        have hlo : (x.lab S.data.toList).out.length ≤ 254 := by
          show (x.out ++ _).length ≤ 254
          rw [List.length_append, List.length_take]
          omega
        have hla : (x.lab S.data.toList).at_ = x.at_ + 1 + oc S.data.toList x.at_ := rfl
        have hlf : (x.lab S.data.toList).fin = x.fin := rfl
        have hlb : (x.lab S.data.toList).begun = x.begun := rfl
        clear hex
        generalize x.lab S.data.toList = z at *
        generalize oc S.data.toList x.at_ = c at *
        go_wp2_with fail
        go_round
        case rel => exact ⟨z, m', j + 1, by omega, by go_num, by rw [hla]; go_num, rfl, by rw [hlf], HR.out, by omega, by omega, hlo⟩
        case measure => simp [intOf]; omega
      · obtain ⟨n, hn⟩ : ∃ n, oc S.data.toList x.at_ = n + 192 := ⟨oc S.data.toList x.at_ - 192, by omega⟩
        have hix2 := run_index_oc S ((x.at_ : Int) + 1) (x.at_ + 1) (by omega) (by omega)
        have hoc2 := oc_lt S.data.toList (x.at_ + 1)
        have hto : x.to S.data.toList = n * 256 + oc S.data.toList (x.at_ + 1) := by unfold Un.to; rw [hn, Nat.add_sub_cancel]
        have hja : (x.jmp S.data.toList).at_ = n * 256 + oc S.data.toList (x.at_ + 1) := hto
        have hjb : (x.jmp S.data.toList).begun = n * 256 + oc S.data.toList (x.at_ + 1) := hto
        have hjf : (x.jmp S.data.toList).fin = x.leave 2 := rfl
        have hjo : (x.jmp S.data.toList).out = x.out := rfl
        rw [hto] at c3
        rw [hn] at hix hoc
        generalize x.jmp S.data.toList = z at *
        generalize oc S.data.toList (x.at_ + 1) = c at *
        have q2 : IntKind.i64.wrap (((n + 192 : Nat) : Int) - 192) = (n : Int) := by rw [IntWalk.i64_in _ (by omega)]; omega
        have q3 : ((n + 192 : Nat) : Int) - 192 = (n : Int) := by omega
        have q4 : IntKind.i64.wrap (256 * (n : Int)) = 256 * (n : Int) := IntWalk.i64_in _ (by omega)
        have q5 : IntKind.i64.wrap (256 * (n : Int) + (c : Int)) = 256 * (n : Int) + (c : Int) := IntWalk.i64_in _ (by omega)
        have q6 : IntKind.i64.wrap ((x.at_ : Int) + 2) = (x.at_ : Int) + 2 := IntWalk.i64_in _ (by omega)
        by_cases hf : x.fin < 0
        · have hl : x.leave 2 = (x.at_ : Int) + 2 := by unfold Un.leave; rw [if_pos hf]; omega
          rw [hl] at hjf
          go_wp2_with fail
          go_round
          case rel => exact ⟨z, m', j + 1, by omega, by go_num, by rw [hja]; go_num, by rw [hjo], by rw [hjf], HR.out, by omega, by omega, by rw [hjo]; exact hout⟩
          case measure => simp [intOf]; omega
        · have hl : x.leave 2 = x.fin := by unfold Un.leave; rw [if_neg hf]
          rw [hl] at hjf
          go_wp2_with fail
          go_round
          case rel => exact ⟨z, m', j + 1, by omega, by go_num, by rw [hja]; go_num, by rw [hjo], by rw [hjf], HR.out, by omega, by omega, by rw [hjo]; exact hout⟩
          case measure => simp [intOf]; omega
end Go.Proofs.Ytbemackcdccpaaa
