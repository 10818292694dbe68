/-
  LAYER 8: UnpackForward.
-/
import Derived.Test.YtbemackcdccpaaaUnpl
import Derived.Test.YtbemackcdccpaaaPkp
import Derived.Test.YtbemackcdccpaaaLives3
namespace Go.Proofs.Ytbemackcdccpaaa
open Go.RowKit

theorem ptr_conv (k : Nat) (hk : k < 16384) : (u8s (ptr k)).toArray = #[.int .u8 (192 + (k : Int) / 256), .int .u8 ((k : Int) % 256)] ∧
    ∀ w : World, (convert 78 9 (.slice (some ⟨w.heap.size, 0, none⟩) 2 2)).run Try.prog (w.alloc (.cells #[.int .u8 (192 + (k : Int) / 256), .int .u8 ((k : Int) % 256)] 5)) =
      .ok (.string ⟨(ptr k).toArray⟩) (w.alloc (.cells #[.int .u8 (192 + (k : Int) / 256), .int .u8 ((k : Int) % 256)] 5)) := by
  have h : (u8s (ptr k)).toArray = #[.int .u8 (192 + (k : Int) / 256), .int .u8 ((k : Int) % 256)] := by
    simp [u8s, ptr]
    omega
  refine ⟨h, fun w => ?_⟩
  obtain ⟨v, hv⟩ : ∃ v, octs v 2 = ptr k := ⟨_, ptr_octs k hk⟩
  have := conv_octs v 2 (by decide) #[.int .u8 (192 + (k : Int) / 256), .int .u8 ((k : Int) % 256)] (by rw [hv]; exact h) w
  rw [hv] at this
  exact this

set_option maxRecDepth 100000 in
set_option maxHeartbeats 8000000 in
theorem unpackForward_walk (a n : ByteArray) (to : Int) (w : World) (_ha : a.size ≤ maxLen) (_hn : n.size ≤ maxLen) (_hto : -9223372036854775808 ≤ to ∧ to ≤ 9223372036854775807) :
    Calls Try.prog 10 #[.string a, .string n, .int .i64 to] w fun e w' => e = .returned (.bool true) ∧ Below w.heap.size w w' := by
  by_cases l1 : 300 < a.size
  · go_enter Try.func10, Try.ntmps10
    go_wp2_with fail
    refine (lives8_any _).mono ?_
    rintro e w1 ⟨rfl, f1⟩
    go_wp2_with fail
    go_ret
    exact ⟨rfl, f1.below (fun _ h => h.elim) (Nat.le_refl _)⟩
  · by_cases l2 : 400 < n.size
    · go_enter Try.func10, Try.ntmps10
      go_wp2_with fail
      refine (lives8_any _).mono ?_
      rintro e w1 ⟨rfl, f1⟩
      go_wp2_with fail
      go_ret
      exact ⟨rfl, f1.below (fun _ h => h.elim) (Nat.le_refl _)⟩
    · by_cases l3 : ckN n = 0
      · go_enter Try.func10, Try.ntmps10
        go_wp2_with fail
        refine (lives8_any _).mono ?_
        rintro e w1 ⟨rfl, f1⟩
        have F1 := Lib.hid f1
        clear f1
        go_wp2_with fail
        refine (rcheck_any n _).mono ?_
        rintro e w' ⟨rfl, rfl⟩
        rw [l3]
        go_wp2_with fail
        refine (pick_any to 8000 _ (by decide) (by decide)).mono ?_
        rintro e w' ⟨rfl, rfl⟩
        obtain ⟨p1, p2⟩ := pick_range to 8000 (by decide)
        obtain ⟨m, hm⟩ := Int.eq_ofNat_of_zero_le p1
        rw [hm] at p1 p2 ⊢
        clear hm p1
        have q1 : IntKind.i64.wrap ((a.size : Int) + (m : Int)) = ((a.size + m : Nat) : Int) := by rw [IntWalk.i64_in _ (by omega)]; omega
        have hfar : a.size ≤ a.size + m ∧ a.size + m < 16384 := by omega
        generalize a.size + m = far at *
        obtain ⟨hcs, hcv⟩ := ptr_conv far hfar.2
        obtain ⟨hcs2, hcv2⟩ := ptr_conv a.size (by omega)
        have hps : (⟨(ptr far).toArray⟩ : ByteArray).size = 2 := rfl
        have hps2 : (⟨(ptr a.size).toArray⟩ : ByteArray).size = 2 := rfl
        have hs := forward_self a n far l3 hfar.1 hfar.2 (a ++ n ++ ⟨(ptr far).toArray⟩ ++ ⟨#[0]⟩) (by simp [ByteArray.data_append])
        have ht := forward_nought a n l3 (by omega) (a ++ ⟨#[0]⟩ ++ n ++ ⟨(ptr a.size).toArray⟩) (by simp [ByteArray.data_append])
        generalize (⟨(ptr far).toArray⟩ : ByteArray) = P at *
        generalize (⟨(ptr a.size).toArray⟩ : ByteArray) = P2 at *
        have g1 : ∀ w, (Op.stringOp .add (a ++ n) P).run Try.prog w = .ok (.string (a ++ n ++ P)) w := fun w => run_string_add_sum w _ _ (by rw [ByteArray.size_append, hps]; omega)
        have g2 : ∀ w, (Op.stringOp .add (a ++ n ++ P) ⟨#[0]⟩).run Try.prog w = .ok (.string (a ++ n ++ P ++ ⟨#[0]⟩)) w := fun w => run_string_add_sum w _ _ (by rw [ByteArray.size_append, ByteArray.size_append, hps, show (⟨#[0]⟩ : ByteArray).size = 1 from rfl]; omega)
        have g3 : ∀ w, (Op.stringOp .add (a ++ ⟨#[0]⟩) n).run Try.prog w = .ok (.string (a ++ ⟨#[0]⟩ ++ n)) w := fun w => run_string_add_sum w _ _ (by rw [ByteArray.size_append, show (⟨#[0]⟩ : ByteArray).size = 1 from rfl]; omega)
        have g4 : ∀ w, (Op.stringOp .add (a ++ ⟨#[0]⟩ ++ n) P2).run Try.prog w = .ok (.string (a ++ ⟨#[0]⟩ ++ n ++ P2)) w := fun w => run_string_add_sum w _ _ (by rw [ByteArray.size_append, ByteArray.size_append, hps2, show (⟨#[0]⟩ : ByteArray).size = 1 from rfl]; omega)
        have z1 : (a ++ n ++ P ++ ⟨#[0]⟩).size ≤ 1000 := by rw [ByteArray.size_append, ByteArray.size_append, ByteArray.size_append, hps, show (⟨#[0]⟩ : ByteArray).size = 1 from rfl]; omega
        have z2 : (a ++ ⟨#[0]⟩ ++ n ++ P2).size ≤ 1000 := by rw [ByteArray.size_append, ByteArray.size_append, ByteArray.size_append, hps2, show (⟨#[0]⟩ : ByteArray).size = 1 from rfl]; omega
        generalize a ++ n ++ P ++ ⟨#[0]⟩ = s at *
        generalize a ++ ⟨#[0]⟩ ++ n ++ P2 = t at *
        have HS := Lib.hid (And.intro hs (And.intro z1 (And.intro ht z2)))
        have q2 : IntKind.i64.wrap ((a.size : Int) + 1) = (a.size : Int) + 1 := IntWalk.i64_in _ (by omega)
        clear hs ht z1 z2 hcs hcs2
        go_wp2_with fail
        have F2 : Hid (Fr (fun _ => False) w (w1.alloc (.cells #[.int .u8 (192 + (far : Int) / 256), .int .u8 ((far : Int) % 256)] 5))) := F1.out.alloc _
        clear F1
        refine (name8_any s _ _ (by have := HS.out.2.1; omega)).mono ?_
        rintro e w2 ⟨rfl, f2⟩
        have F3 := Lib.hid (F2.out.then f2)
        clear F2 f2
        rw [HS.out.1]
        generalize (nameAt s (a.size : Int) true).name = nm
        generalize (nameAt s (a.size : Int) true).fin = fn
        go_wp2_with fail
        have F4 := Lib.hid (F3.out.alloc (.cells #[.int .u8 (192 + (a.size : Int) / 256), .int .u8 ((a.size : Int) % 256)] 5))
        clear F3
        refine (name8_any t _ _ (by have := HS.out.2.2.2; omega)).mono ?_
        rintro e w3 ⟨rfl, f3⟩
        have F5 := Lib.hid (F4.out.then f3)
        clear F4 f3
        rw [HS.out.2.2.1]
        simp only [Ust.name, Ust.fin, Ust.err]
        rw [show (⟨n.data.toList.toArray⟩ : ByteArray) = n by simp]
        go_wp2_with fail
        refine (jumps8_any t _ _ (by have := HS.out.2.2.2; omega)).mono ?_
        rintro e w4 ⟨rfl, f4⟩
        have F6 := Lib.hid (F5.out.then f4)
        clear F5 f4
        rw [HS.out.2.2.1]
        simp only [Ust.jumps]
        go_wp2_with fail
        go_ret
        exact ⟨rfl, F6.out.below (fun _ h => h.elim) (Nat.le_refl _)⟩
      · have l3' : (ckN n != 0) = true := by simp [l3]
        go_enter Try.func10, Try.ntmps10
        go_wp2_with fail
        refine (lives8_any _).mono ?_
        rintro e w1 ⟨rfl, f1⟩
        have F1 := Lib.hid f1
        clear f1
        go_wp2_with fail
        refine (rcheck_any n _).mono ?_
        rintro e w' ⟨rfl, rfl⟩
        go_wp2_with fail
        go_ret
        exact ⟨rfl, F1.out.below (fun _ h => h.elim) (Nat.le_refl _)⟩
end Go.Proofs.Ytbemackcdccpaaa
