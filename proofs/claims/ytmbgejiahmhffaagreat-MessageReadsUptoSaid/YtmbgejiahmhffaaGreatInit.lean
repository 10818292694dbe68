/-
  THE PROGRAM'S WORD OF HOW IT WAS MADE, AS A LIST: three closed facts of each row hang on it.
-/
import Derived.Test.YtmbgejiahmhffaaGreatRows
import Derived.JoinedOf
import Derived.KernelRfl
namespace Go.Proofs.YtmbgejiahmhffaaGreat

abbrev c (n : Nat) : Char := Char.ofNat n
def signs0 : List Char :=
  [c 104, c 97, c 114, c 110, c 101, c 115, c 115]
def signs1 : List Char :=
  [c 98, c 54, c 52, c 99, c 56, c 48, c 102, c 52, c 100, c 52, c 56, c 97, c 50, c 54, c 51, c 51, c 53, c 98, c 97, c 98, c 51, c 52, c 101, c 102, c 50, c 53, c 52, c 100, c
  56, c 54, c 97, c 57, c 101, c 50, c 99, c 57, c 56, c 49, c 56, c 55, c 55, c 101, c 99, c 51, c 100, c 98, c 51, c 49, c 57, c 57, c 97, c 55, c 99, c 54, c 101, c 51, c 50, c
  101, c 55, c 50, c 99, c 57, c 57, c 55]
def signs2 : List Char :=
  [c 99, c 117, c 116]
def signs3 : List Char :=
  [c 97, c 116, c 32, c 110, c 97, c 109, c 101, c 112, c 108, c 97, c 116, c 101, c 47, c 110, c 97, c 109, c 101, c 112, c 108, c 97, c 116, c 101, c 108, c 97, c 119, c 49, c
  49, c 46, c 77, c 101, c 115, c 115, c 97, c 103, c 101, c 78, c 97, c 109, c 101, c 115, c 83, c 116, c 97, c 110, c 100, c 32, c 110, c 97, c 109, c 101, c 112, c 108, c 97, c
  116, c 101, c 47, c 110, c 97, c 109, c 101, c 112, c 108, c 97, c 116, c 101, c 108, c 97, c 119, c 49, c 49, c 46, c 77, c 101, c 115, c 115, c 97, c 103, c 101, c 67, c 117, c
  116, c 115, c 32, c 110, c 97, c 109, c 101, c 112, c 108, c 97, c 116, c 101, c 47, c 110, c 97, c 109, c 101, c 112, c 108, c 97, c 116, c 101, c 108, c 97, c 119, c 49, c 49,
  c 46, c 77, c 101, c 115, c 115, c 97, c 103, c 101, c 71, c 114, c 111, c 119, c 115, c 32, c 110, c 97, c 109, c 101, c 112, c 108, c 97, c 116, c 101, c 47, c 110, c 97, c
  109, c 101, c 112, c 108, c 97, c 116, c 101, c 108, c 97, c 119, c 49, c 49, c 46, c 77, c 101, c 115, c 115, c 97, c 103, c 101, c 82, c 101, c 97, c 100, c 115, c 32, c 110, c
  97, c 109, c 101, c 112, c 108, c 97, c 116, c 101, c 47, c 110, c 97, c 109, c 101, c 112, c 108, c 97, c 116, c 101, c 108, c 97, c 119, c 49, c 49, c 46, c 77, c 101, c 115, c
  115, c 97, c 103, c 101, c 78, c 97, c 109, c 101, c 115, c 32, c 110, c 97, c 109, c 101, c 112, c 108, c 97, c 116, c 101, c 47, c 110, c 97, c 109, c 101, c 112, c 108, c 97,
  c 116, c 101, c 108, c 97, c 119, c 49, c 49, c 46, c 77, c 101, c 115, c 115, c 97, c 103, c 101, c 66, c 97, c 99, c 107]

theorem words_word (u r : List Char) (hu : (u.all fun x => x != c 32) = true) : wordsSigns (u ++ c 32 :: r) = u :: wordsSigns r := by
  induction u with
  | nil => rfl
  | cons x u ih =>
    simp only [List.all_cons, Bool.and_eq_true, bne_iff_ne, ne_eq] at hu
    have h1 := ih hu.2
    rw [List.cons_append]
    rw [wordsSigns.eq_3 x _ hu.1, h1]

theorem head_lifts_of {P : Program} {R : List (List Char)} (h : behindMainWord (wordsSigns P.initOrder.toList) = "cut".toList :: R) : P.headLifts = [] := by
  unfold Program.headLifts
  rw [h]
  rfl
theorem make_of {P : Program} {R : List (List Char)} (h : behindMainWord (wordsSigns P.initOrder.toList) = "cut".toList :: R) : P.make = some .cut := by
  unfold Program.make
  rw [h]
  rfl
theorem lifts_of {P : Program} {R : List (List Char)} (h : behindMainWord (wordsSigns P.initOrder.toList) = "cut".toList :: R) : P.liftsFinal = false := by
  unfold Program.liftsFinal
  rw [head_lifts_of h, h]
  rfl
theorem may_of {P : Program} {R : List (List Char)} (h : behindMainWord (wordsSigns P.initOrder.toList) = "cut".toList :: R) (h1 : P.laysLater = false) (h2 : P.bearsReflect = false) (h3 : P.doorFits [] = true) : P.mayEnter = true := by
  unfold Program.mayEnter
  rw [h]
  have e : stripLifts liftWords ("cut".toList :: R) = ([], "cut".toList :: R) := rfl
  simp only [e, h1, h2, h3]
  rfl

theorem init_eq : Tryz.pinned.checked.prog.initOrder = String.ofList (signs0 ++ c 32 :: (signs1 ++ c 32 :: (signs2 ++ c 32 :: signs3))) := by kernel_rfl
theorem init_words : behindMainWord (wordsSigns Tryz.pinned.checked.prog.initOrder.toList) = signs2 :: wordsSigns signs3 := by
  rw [init_eq, String.toList_ofList, words_word signs0 _ (by kernel_rfl), words_word signs1 _ (by kernel_rfl), words_word signs2 _ (by kernel_rfl)]
  generalize wordsSigns signs3 = R
  have h : ((signs0 == "harness".toList || signs0 == "ownmain".toList) && isSumSigns signs1) = true := by kernel_rfl
  show (if ((signs0 == "harness".toList || signs0 == "ownmain".toList) && isSumSigns signs1) = true then signs2 :: R else signs0 :: signs1 :: signs2 :: R) = _
  rw [if_pos h]
theorem signs2_cut : signs2 = "cut".toList := by kernel_rfl
theorem init_cut : behindMainWord (wordsSigns Tryz.pinned.checked.prog.initOrder.toList) = "cut".toList :: wordsSigns signs3 := by rw [init_words, signs2_cut]
theorem lays_later : Tryz.pinned.checked.prog.laysLater = false := by kernel_rfl
theorem bears_reflect : Tryz.pinned.checked.prog.bearsReflect = false := by kernel_rfl
theorem door_fits : Tryz.pinned.checked.prog.doorFits [] = true := by kernel_rfl
theorem may_enter : Tryz.pinned.checked.prog.mayEnter = true := may_of init_cut lays_later bears_reflect door_fits
theorem lifts_final : Tryz.pinned.checked.prog.liftsFinal = false := lifts_of init_cut
theorem make_cut : Tryz.pinned.checked.prog.make = some .cut := make_of init_cut
end Go.Proofs.YtmbgejiahmhffaaGreat
