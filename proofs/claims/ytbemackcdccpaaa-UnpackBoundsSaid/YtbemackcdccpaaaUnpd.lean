/-
  LAYER 8: UnpackBounds.
-/
import Derived.Test.YtbemackcdccpaaaUnpl
namespace Go.Proofs.Ytbemackcdccpaaa
open Go.RowKit

set_option maxRecDepth 100000 in
set_option maxHeartbeats 8000000 in
theorem unpackBounds_walk (s : ByteArray) (a : Int) (w : World) (_hs : s.size ≤ maxLen) (_ha : -9223372036854775808 ≤ a ∧ a ≤ 9223372036854775807) :
    Calls Try.prog 14 #[.string s, .int .i64 a] w fun e w' => e = .returned (.bool true) ∧ Below w.heap.size w w' := by
  by_cases hl : 1500 < s.size
  · go_enter Try.func14, Try.ntmps14
    go_wp2_with fail
    refine (lives8_any _).mono ?_
    rintro e w1 ⟨rfl, f1⟩
    go_wp2_with fail
    go_ret
    exact ⟨rfl, f1.below (fun _ h => h.elim) (Nat.le_refl _)⟩
  · have hn := name8_any s a
    have hp := plain8_any s a
    have hj := jumps8_any s a
    have hk := skip8_any s a
    have hb := name_bounds s a
    generalize nameAt s a true = r at *
    generalize nameAt s a false = q at *
    generalize skipAt s a = k at *
    have HN := Lib.hid hn
    have HP := Lib.hid hp
    have HJ := Lib.hid hj
    have HK := Lib.hid hk
    clear hn hp hj hk
    rcases hb with ⟨b1, b2, b3, b4, b5⟩ | ⟨b1, b2, b3, b4, b5, b6, b7, b8⟩
    · have b1' : (r.err != 0) = true := by simp [b1]
      have hor : k.2 = 0 ∨ k.2 ≠ 0 ∧ k.1 = 0 := by omega
      clear b5
      go_enter Try.func14, Try.ntmps14
      go_wp2_with fail
      refine (lives8_any _).mono ?_
      rintro e w1 ⟨rfl, f1⟩
      have F1 := Lib.hid f1
      clear f1
      go_wp2_with fail
      refine (HN.out _ (by omega)).mono ?_
      rintro e w2 ⟨rfl, f2⟩
      have F2 := Lib.hid (F1.out.then f2)
      clear f2 F1
      go_wp2_with fail
      refine (HK.out _ (by omega)).mono ?_
      rintro e w' ⟨rfl, rfl⟩
      go_wp2_with fail
      refine (HJ.out _ (by omega)).mono ?_
      rintro e w3 ⟨rfl, f3⟩
      have F3 := Lib.hid (F2.out.then f3)
      clear f3 F2
      rcases hor with hor | ⟨hor, hor2⟩
      · go_wp2_with fail
        go_ret
        exact ⟨rfl, F3.out.below (fun _ h => h.elim) (Nat.le_refl _)⟩
      · go_wp2_with fail
        go_ret
        exact ⟨rfl, F3.out.below (fun _ h => h.elim) (Nat.le_refl _)⟩
    · subst b3
      go_enter Try.func14, Try.ntmps14
      go_wp2_with fail
      refine (lives8_any _).mono ?_
      rintro e w1 ⟨rfl, f1⟩
      have F1 := Lib.hid f1
      clear f1
      go_wp2_with fail
      refine (HN.out _ (by omega)).mono ?_
      rintro e w2 ⟨rfl, f2⟩
      have F2 := Lib.hid (F1.out.then f2)
      clear f2 F1
      go_wp2_with fail
      refine (HK.out _ (by omega)).mono ?_
      rintro e w' ⟨rfl, rfl⟩
      go_wp2_with fail
      refine (HJ.out _ (by omega)).mono ?_
      rintro e w3 ⟨rfl, f3⟩
      have F3 := Lib.hid (F2.out.then f3)
      clear f3 F2
      go_wp2_with fail
      refine (HP.out _ (by omega)).mono ?_
      rintro e w4 ⟨rfl, f4⟩
      have F4 := Lib.hid (F3.out.then f4)
      clear f4 F3
      rcases b8 with ⟨c1, c2⟩ | ⟨c1, c2⟩
      · subst c2
        have c3 : decide ((0 : Int) ≤ a) = true := decide_eq_true (by omega)
        have c4 : (0 : Int) ≤ a := by omega
        go_wp2_with fail
        refine (rcheck_any q.name _).mono ?_
        rintro e w' ⟨rfl, rfl⟩
        rw [b2]
        go_wp2_with fail
        go_ret
        exact ⟨rfl, F4.out.below (fun _ h => h.elim) (Nat.le_refl _)⟩
      · have c1' : (r.jumps == 0) = false := by simp; omega
        have c2' : (q.err == 0) = false := by simp [c2]
        have c2'' : (q.err != 0) = true := by simp [c2]
        go_wp2_with fail
        refine (rcheck_any r.name _).mono ?_
        rintro e w' ⟨rfl, rfl⟩
        rw [b2]
        go_wp2_with fail
        go_ret
        exact ⟨rfl, F4.out.below (fun _ h => h.elim) (Nat.le_refl _)⟩
end Go.Proofs.Ytbemackcdccpaaa
