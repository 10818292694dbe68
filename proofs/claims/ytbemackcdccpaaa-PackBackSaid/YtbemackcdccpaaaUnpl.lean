/-
  LAYER 8: the chapter's examples.
-/
import Derived.Test.YtbemackcdccpaaaUnpr
namespace Go.Proofs.Ytbemackcdccpaaa
open Go.RowKit

def ufuel (s : List UInt8) (f : Bool) : Nat → Un → Option Ust
  | 0, _ => none
  | k + 1, x => match x.step s f with
    | .on y => ufuel s f k y
    | .done y => some (.done y)
    | .bad e => some (.bad e)
theorem ufuel_eq {s : List UInt8} {f : Bool} : ∀ (k : Nat) {x : Un} {r : Ust}, ufuel s f k x = some r → uread s f x = r
  | 0, _, _, h => by cases h
  | k + 1, x, r, h => by
    rw [ufuel] at h
    split at h
    · rename_i y hx
      rw [uread_on hx]
      exact ufuel_eq k h
    · rename_i y hx
      injection h with h
      rw [uread_done hx, h]
    · rename_i e hx
      injection h with h
      rw [uread_bad hx, h]
theorem nameAt_eq (k : Nat) (s : ByteArray) (a : Int) (f : Bool) (r : Ust) (h0 : decide (a < 0 ∨ (s.size : Int) < a) = false) (h : ufuel s.data.toList f k ⟨a.toNat, a.toNat, -1, 0, []⟩ = some r) : nameAt s a f = r := by
  unfold nameAt
  rw [if_neg (of_decide_eq_false h0)]
  exact ufuel_eq k h

theorem ex1 : nameAt ⟨#[1, 97, 1, 98, 0, 1, 99, 192, 2]⟩ 5 true = .done ⟨4, 2, 9, 1, [1, 99, 1, 98]⟩ := nameAt_eq 9 _ _ _ _ (by kernel_rfl) (by kernel_rfl)
theorem ex2 : nameAt ⟨#[192, 0]⟩ 0 true = .bad 4 := nameAt_eq 9 _ _ _ _ (by kernel_rfl) (by kernel_rfl)
theorem ex3 : nameAt ⟨#[1, 97]⟩ 0 true = .bad 8 := nameAt_eq 9 _ _ _ _ (by kernel_rfl) (by kernel_rfl)
theorem ex4 : nameAt ⟨#[1, 97, 192]⟩ 0 true = .bad 8 := nameAt_eq 9 _ _ _ _ (by kernel_rfl) (by kernel_rfl)
theorem ex5 : nameAt ⟨#[64]⟩ 0 true = .bad 4 := nameAt_eq 9 _ _ _ _ (by kernel_rfl) (by kernel_rfl)
theorem ex6 : nameAt ⟨#[0]⟩ 2 true = .bad 2 := by unfold nameAt; rw [if_pos (.inr (by decide))]
theorem ex7 : nameAt ⟨#[1, 97, 192, 0]⟩ 0 true = .bad 4 := nameAt_eq 9 _ _ _ _ (by kernel_rfl) (by kernel_rfl)
theorem ex8 : nameAt ⟨#[120, 0, 192, 1]⟩ 2 true = .done ⟨1, 1, 4, 1, []⟩ := nameAt_eq 9 _ _ _ _ (by kernel_rfl) (by kernel_rfl)
theorem ex9 : nameAt ⟨#[0, 192, 0]⟩ 1 false = .bad 4 := nameAt_eq 9 _ _ _ _ (by kernel_rfl) (by kernel_rfl)
theorem ex10 : nameAt ⟨#[1, 97, 0]⟩ 0 false = .done ⟨2, 0, 3, 0, [1, 97]⟩ := nameAt_eq 9 _ _ _ _ (by kernel_rfl) (by kernel_rfl)
theorem ex11 : skipAt ⟨#[1, 97, 192, 9]⟩ 0 = (4, 0) := by
  unfold skipAt
  rw [if_neg (by decide), skipL, if_neg (by decide), if_neg (by decide), if_neg (by decide), if_neg (by decide), if_neg (by decide), skipL, if_neg (by decide), if_neg (by decide), if_pos (by decide), if_neg (by decide)]
  rfl
theorem ex12 : skipAt ⟨#[1, 97, 128]⟩ 0 = (0, 4) := by
  unfold skipAt
  rw [if_neg (by decide), skipL, if_neg (by decide), if_neg (by decide), if_neg (by decide), if_neg (by decide), if_neg (by decide), skipL, if_neg (by decide), if_neg (by decide), if_neg (by decide), if_pos (by decide)]

set_option maxRecDepth 100000 in
set_option maxHeartbeats 4000000 in
theorem lives8_any (w : World) :
    Calls Try.prog 45 #[] w fun e w' => e = .returned (.bool true) ∧ Fr (fun _ => False) w w' := by
  go_enter Try.func45, Try.ntmps45
  go_wp2_with fail
  refine (name8_any ⟨#[1, 97, 1, 98, 0, 1, 99, 192, 2]⟩ 5 _ (by decide)).mono ?_
  rintro e w1 ⟨rfl, f1⟩
  rw [ex1]
  simp only [Ust.name, Ust.fin, Ust.err]
  have F1 := Lib.hid f1
  clear f1
  go_wp2_with fail
  refine (name8_any ⟨#[192, 0]⟩ 0 _ (by decide)).mono ?_
  rintro e w2 ⟨rfl, f2⟩
  rw [ex2]
  simp only [Ust.name, Ust.fin, Ust.err]
  have F2 := Lib.hid (F1.out.then f2)
  clear f2 F1
  go_wp2_with fail
  go_ret
  exact ⟨rfl, F2.out⟩

set_option maxRecDepth 100000 in
set_option maxHeartbeats 8000000 in
theorem unpackNames_walk (w : World) :
    Calls Try.prog 13 #[] w fun e w' => e = .returned (.bool true) ∧ Below w.heap.size w w' := by
  go_enter Try.func13, Try.ntmps13
  go_wp2_with fail
  refine (lives8_any _).mono ?_
  rintro e w1 ⟨rfl, f1⟩
  have F1 := Lib.hid f1
  clear f1
  go_wp2_with fail
  refine (name8_any ⟨#[1, 97]⟩ 0 _ (by decide)).mono ?_
  rintro e w2 ⟨rfl, f2⟩
  rw [ex3]
  simp only [Ust.name, Ust.fin, Ust.err]
  have F2 := Lib.hid (F1.out.then f2)
  clear f2 F1
  go_wp2_with fail
  refine (name8_any ⟨#[1, 97, 192]⟩ 0 _ (by decide)).mono ?_
  rintro e w3 ⟨rfl, f3⟩
  rw [ex4]
  simp only [Ust.name, Ust.fin, Ust.err]
  have F3 := Lib.hid (F2.out.then f3)
  clear f3 F2
  go_wp2_with fail
  refine (name8_any ⟨#[64]⟩ 0 _ (by decide)).mono ?_
  rintro e w4 ⟨rfl, f4⟩
  rw [ex5]
  simp only [Ust.name, Ust.fin, Ust.err]
  have F4 := Lib.hid (F3.out.then f4)
  clear f4 F3
  go_wp2_with fail
  refine (name8_any ⟨#[0]⟩ 2 _ (by decide)).mono ?_
  rintro e w5 ⟨rfl, f5⟩
  rw [ex6]
  simp only [Ust.name, Ust.fin, Ust.err]
  have F5 := Lib.hid (F4.out.then f5)
  clear f5 F4
  go_wp2_with fail
  refine (name8_any ⟨#[1, 97, 192, 0]⟩ 0 _ (by decide)).mono ?_
  rintro e w6 ⟨rfl, f6⟩
  rw [ex7]
  simp only [Ust.name, Ust.fin, Ust.err]
  have F6 := Lib.hid (F5.out.then f6)
  clear f6 F5
  go_wp2_with fail
  refine (name8_any ⟨#[120, 0, 192, 1]⟩ 2 _ (by decide)).mono ?_
  rintro e w7 ⟨rfl, f7⟩
  rw [ex8]
  simp only [Ust.name, Ust.fin, Ust.err]
  have F7 := Lib.hid (F6.out.then f7)
  clear f7 F6
  go_wp2_with fail
  refine (skip8_any ⟨#[1, 97, 192, 9]⟩ 0 _ (by decide)).mono ?_
  rintro e w' ⟨rfl, rfl⟩
  rw [ex11]
  have F8 := F7
  clear F7
  go_wp2_with fail
  refine (skip8_any ⟨#[1, 97, 128]⟩ 0 _ (by decide)).mono ?_
  rintro e w' ⟨rfl, rfl⟩
  rw [ex12]
  have F9 := F8
  clear F8
  go_wp2_with fail
  refine (plain8_any ⟨#[0, 192, 0]⟩ 1 _ (by decide)).mono ?_
  rintro e w10 ⟨rfl, f10⟩
  rw [ex9]
  simp only [Ust.name, Ust.fin, Ust.err]
  have F10 := Lib.hid (F9.out.then f10)
  clear f10 F9
  go_wp2_with fail
  refine (plain8_any ⟨#[1, 97, 0]⟩ 0 _ (by decide)).mono ?_
  rintro e w11 ⟨rfl, f11⟩
  rw [ex10]
  simp only [Ust.name, Ust.fin, Ust.err]
  have F11 := Lib.hid (F10.out.then f11)
  clear f11 F10
  go_wp2_with fail
  refine (lives8_any _).mono ?_
  rintro e w12 ⟨rfl, f12⟩
  have F12 := Lib.hid (F11.out.then f12)
  clear f12 F11
  go_wp2_with fail
  refine (jumps8_any ⟨#[1, 97, 1, 98, 0, 1, 99, 192, 2]⟩ 5 _ (by decide)).mono ?_
  rintro e w13 ⟨rfl, f13⟩
  rw [ex1]
  simp only [Ust.jumps]
  have F13 := Lib.hid (F12.out.then f13)
  clear f13 F12
  go_wp2_with fail
  refine (jumps8_any ⟨#[192, 0]⟩ 0 _ (by decide)).mono ?_
  rintro e w14 ⟨rfl, f14⟩
  rw [ex2]
  simp only [Ust.jumps]
  have F14 := Lib.hid (F13.out.then f14)
  clear f14 F13
  go_wp2_with fail
  go_ret
  exact ⟨rfl, F14.out.below (fun _ h => h.elim) (Nat.le_refl _)⟩
end Go.Proofs.Ytbemackcdccpaaa
