/-
  LAYER 2, AS FAR AS LAYER 7 REACHES IT: is a name one that may be?
-/
import Derived.Test.YtbemackcdccpaaaRpk
namespace Go.Proofs.Ytbemackcdccpaaa
open Go.RowKit

theorem empty_of {m : ByteArray} (h : m.data.toList = []) : m = ⟨#[]⟩ := ByteArray.ext (Array.toList_inj.1 h)
theorem nonempty_facts {m : ByteArray} (hm : m ≠ ⟨#[]⟩) : m.toList.isEmpty = false ∧ m.data.toList ≠ [] ∧ 0 < m.size := by
  have h : m.data.toList ≠ [] := fun h => hm (empty_of h)
  refine ⟨?_, h, ?_⟩
  · rw [ByteArray.toList_eq]
    cases hd : m.data.toList with
    | nil => exact absurd hd h
    | cons a b => rfl
  · rw [← size_l]
    exact List.length_pos_iff.2 h

/-- Is the first label none that may be? -/
def cutBad (m : ByteArray) : Prop := oc m.data.toList 0 < 1 ∨ 63 < oc m.data.toList 0 ∨ m.size ≤ oc m.data.toList 0

set_option maxRecDepth 100000 in
set_option maxHeartbeats 2000000 in
theorem cut_bad (m : ByteArray) (w : World) (hm : m ≠ ⟨#[]⟩) (hb : cutBad m) :
    Calls Try.prog 88 #[.string m] w fun e w' => e = .returned (.tuple #[.string ⟨#[]⟩, .string m, .bool false]) ∧ ∃ n, w' = w.drewN n := by
  obtain ⟨h1, _, h3⟩ := nonempty_facts hm
  have hix := run_index_oc' m (0 : Int) 0 rfl h3
  unfold cutBad at hb
  have hK := oc_lt m.data.toList 0
  generalize oc m.data.toList 0 = K at *
  by_cases b1 : K < 1
  · go_enter Try.func88, Try.ntmps88
    go_wp2_with fail
    go_ret3
    exact ⟨rfl, 0, rfl⟩
  · by_cases b2 : 63 < K
    · go_enter Try.func88, Try.ntmps88
      go_wp2_with fail
      go_ret3
      exact ⟨rfl, 0, rfl⟩
    · have b3 : m.size ≤ K := by omega
      go_enter Try.func88, Try.ntmps88
      go_wp2_with fail
      go_ret3
      exact ⟨rfl, 0, rfl⟩

set_option maxRecDepth 100000 in
set_option maxHeartbeats 2000000 in
theorem cut_ok (m : ByteArray) (w : World) (hm : m ≠ ⟨#[]⟩) (hb : ¬ cutBad m) :
    Calls Try.prog 88 #[.string m] w fun e w' => e = .returned (.tuple #[.string (m.extract 1 (1 + oc m.data.toList 0)), .string (m.extract (1 + oc m.data.toList 0) m.size), .bool true]) ∧ ∃ n, w' = w.drewN n := by
  obtain ⟨h1, _, h3⟩ := nonempty_facts hm
  have hix := run_index_oc' m (0 : Int) 0 rfl h3
  unfold cutBad at hb
  have hK := oc_lt m.data.toList 0
  generalize oc m.data.toList 0 = K at *
  have q1 : IntKind.i64.wrap (1 + (K : Int)) = 1 + (K : Int) := IntWalk.i64_in _ (by omega)
  have q2 : (1 + (K : Int)).toNat = 1 + K := by omega
  have hsl : ∀ w, (Instr.slice 64 (.string m) (some (.int .i64 1)) (some (.int .i64 (1 + (K : Int)))) none).run Try.prog w = .ok (.string (m.extract 1 (1 + K))) w := fun w => by
    rw [run_slice_string (P := Try.prog) w 64 m .i64 .i64 _ _ Try.underlying64 (by omega) (by omega) (by omega), q2]
    rfl
  have hsl2 : ∀ w, (Instr.slice 64 (.string m) (some (.int .i64 (1 + (K : Int)))) none none).run Try.prog w = .ok (.string (m.extract (1 + K) m.size)) w := fun w => by
    rw [run_slice_string_l (P := Try.prog) w 64 m Try.underlying64 .i64 _ (by omega) (by omega), q2]
  go_enter Try.func88, Try.ntmps88
  go_wp2_with fail
  go_quiet (fail)
  go_wp2_with fail
  go_ret3
  exact ⟨rfl, _, rfl⟩

set_option maxRecDepth 100000 in
set_option maxHeartbeats 2000000 in
theorem ncheck_any (s : ByteArray) (w : World) :
    Calls Try.prog 70 #[.string s] w fun e w' => e = .returned (.int .i64 (ckN s)) ∧ ∃ n, w' = w.drewN n := by
  by_cases h0 : 254 < s.size
  · have hr : ckN s = 3 := by unfold ckN; rw [if_pos h0]
    rw [hr]
    clear hr
    go_enter Try.func70, Try.ntmps70
    go_wp2_with fail
    go_ret
    exact ⟨rfl, 0, rfl⟩
  · have hr : ckN s = ckAt s.data.toList 0 := by unfold ckN; rw [if_neg h0]
    rw [hr]
    clear hr
    generalize hz : ckAt s.data.toList 0 = z
    have HZ := Lib.hid hz
    clear hz
    go_enter Try.func70, Try.ntmps70
    go_wp2_with fail
    go_loopg [0] s.size (fun g v wr => ∃ (m : ByteArray) (n : Nat), g = m.size ∧ v = .string m ∧ m.size ≤ s.size ∧ ckAt m.data.toList 0 = z ∧ wr = w.drewN n)
    case atStart => exact ⟨s, 0, rfl, rfl, Nat.le_refl _, HZ.out, rfl⟩
    case round =>
      obtain ⟨m, n, rfl, rfl, hm1, hm2, rfl⟩ := hrel
      by_cases hm : m = ⟨#[]⟩
      · subst hm
        have hz : z = 0 := by rw [← hm2, ckAt]; rfl
        subst hz
        clear HZ hm2
        go_wp2_with fail
        go_ret
        exact ⟨rfl, n, rfl⟩
      · obtain ⟨h1, h2, h3⟩ := nonempty_facts hm
        rw [ckAt, if_neg (by rw [size_l]; omega), size_l, Nat.zero_add] at hm2
        by_cases hb : cutBad m
        · have hz : z = 4 := by
            rw [if_pos (by unfold cutBad at hb; omega)] at hm2
            exact hm2.symm
          subst hz
          clear HZ hm2
          go_wp2_with fail
          refine (cut_bad m _ hm hb).mono ?_
          rintro e w' ⟨rfl, n2, rfl⟩
          go_wp2_with fail
          go_ret
          exact ⟨rfl, n + n2, rfl⟩
        · rw [if_neg (by unfold cutBad at hb; omega), show 1 + oc m.data.toList 0 = 1 + oc m.data.toList 0 + 0 from rfl, ← ckAt_drop, ← drop_list] at hm2
          have HM := Lib.hid hm2
          have hsz : (m.extract (1 + oc m.data.toList 0) m.size).size = m.size - (1 + oc m.data.toList 0) := by rw [ByteArray.size_extract, Nat.min_self]
          clear hm2
          go_wp2_with fail
          refine (cut_ok m _ hm hb).mono ?_
          rintro e w' ⟨rfl, n2, rfl⟩
          go_wp2_with fail
          go_roundg (m.size - (1 + oc m.data.toList 0))
          case measure => omega
          case rel => exact ⟨_, n + n2, hsz.symm, rfl, by omega, HM.out, rfl⟩
end Go.Proofs.Ytbemackcdccpaaa
