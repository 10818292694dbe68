/-
  THE CONTRACTS OF LAYER 6 (header).
-/
import Derived.Test.YtbemackcdccpaaaHdrp
import Derived.Test.YtbemackcdccpaaaPatch3
namespace Go.Proofs.Ytbemackcdccpaaa
open Go.RowKit

def Hd.count (h : Hd) : Nat → Int
  | 0 => h.c0 | 1 => h.c1 | 2 => h.c2 | _ => h.c3
def Hd.okTo (h : Hd) : Nat → Bool
  | 0 => four h.op && four h.rc
  | k + 1 => h.okTo k && sixteen (h.count k)
theorem Hd.okTo4 (h : Hd) : h.okTo 4 = h.may := by simp [Hd.okTo, Hd.may, Hd.count, Bool.and_assoc]
theorem Hd.ok_count {h : Hd} (hok : h.ok) (k : Nat) : -9223372036854775808 ≤ h.count k ∧ h.count k ≤ 9223372036854775807 := by
  obtain ⟨h1, h2, h3, h4, h5, h6, h7⟩ := hok
  unfold Hd.count
  split <;> assumption

set_option maxRecDepth 100000 in
set_option maxHeartbeats 4000000 in
theorem check_any (h : Hd) (w : World) :
    Calls Try.prog 40 #[h.val] w fun e w' => e = .returned (.int .i64 h.check) ∧ Fr (fun _ => False) w w' := by
  have hs : h.okTo 0 = (four h.op && four h.rc) := rfl
  have hend : (if h.okTo 4 = true then (0 : Int) else 2) = h.check := by rw [h.okTo4]; rfl
  have HE := Lib.hid hend
  have i0 : ∀ w, (Instr.index 43 (.agg #[.int .i64 h.c0, .int .i64 h.c1, .int .i64 h.c2, .int .i64 h.c3]) (.int .i64 0)).run Try.prog w = .ok (.int .i64 h.c0) w := fun _ => by kernel_rfl
  have i1 : ∀ w, (Instr.index 43 (.agg #[.int .i64 h.c0, .int .i64 h.c1, .int .i64 h.c2, .int .i64 h.c3]) (.int .i64 1)).run Try.prog w = .ok (.int .i64 h.c1) w := fun _ => by kernel_rfl
  have i2 : ∀ w, (Instr.index 43 (.agg #[.int .i64 h.c0, .int .i64 h.c1, .int .i64 h.c2, .int .i64 h.c3]) (.int .i64 2)).run Try.prog w = .ok (.int .i64 h.c2) w := fun _ => by kernel_rfl
  have i3 : ∀ w, (Instr.index 43 (.agg #[.int .i64 h.c0, .int .i64 h.c1, .int .i64 h.c2, .int .i64 h.c3]) (.int .i64 3)).run Try.prog w = .ok (.int .i64 h.c3) w := fun _ => by kernel_rfl
  have hst : ∀ k, h.okTo (k + 1) = (h.okTo k && sixteen (h.count k)) := fun _ => rfl
  have HS := Lib.hid (And.intro hs hst)
  clear hs hst hend
  go_enter Try.func40, Try.ntmps40
  rcases (show (0 ≤ h.op ∧ h.op ≤ 15 ∧ 0 ≤ h.rc ∧ h.rc ≤ 15) ∨ ¬ 0 ≤ h.op ∨ (0 ≤ h.op ∧ ¬ h.op ≤ 15) ∨ (0 ≤ h.op ∧ h.op ≤ 15 ∧ ¬ 0 ≤ h.rc) ∨ (0 ≤ h.op ∧ h.op ≤ 15 ∧ 0 ≤ h.rc ∧ ¬ h.rc ≤ 15) by omega)
    with ⟨a1, a2, a3, a4⟩ | a1 | ⟨a1, a2⟩ | ⟨a1, a2, a3⟩ | ⟨a1, a2, a3, a4⟩
  all_goals
    go_wp2_with fail
    go_loop [3, 26] (fun v i => ∃ k : Nat, k ≤ 4 ∧ i = .int .i64 k ∧ v = .bool (h.okTo k)) (fun _ i => 4 - (intOf i).toNat)
    case atStart => exact ⟨0, Nat.zero_le _, rfl, by rw [HS.out.1]; first | (simp [four, *]; done) | (simp [four]; omega)⟩
    case round =>
      obtain ⟨k, hk, rfl, rfl⟩ := hrel
      clear a1
      rcases (show k = 0 ∨ k = 1 ∨ k = 2 ∨ k = 3 ∨ k = 4 by omega) with rfl | rfl | rfl | rfl | rfl
      · rcases (show h.okTo 0 = false ∨ (h.okTo 0 = true ∧ ¬ 0 ≤ h.c0) ∨ (h.okTo 0 = true ∧ 0 ≤ h.c0 ∧ ¬ h.c0 ≤ 65535) ∨ (h.okTo 0 = true ∧ 0 ≤ h.c0 ∧ h.c0 ≤ 65535) by cases h.okTo 0 <;> simp <;> omega)
          with hb | ⟨hb, b1⟩ | ⟨hb, b1, b2⟩ | ⟨hb, b1, b2⟩
        all_goals
          have H1 := Lib.hid (HS.out.2 0)
          rw [hb]
          rw [hb] at H1
          clear hb
          go_wp2_with fail
          go_round
          case rel => exact ⟨1, by decide, rfl, by rw [H1.out]; simp [sixteen, Hd.count, *]⟩
          case measure => simp [intOf]
      · rcases (show h.okTo 1 = false ∨ (h.okTo 1 = true ∧ ¬ 0 ≤ h.c1) ∨ (h.okTo 1 = true ∧ 0 ≤ h.c1 ∧ ¬ h.c1 ≤ 65535) ∨ (h.okTo 1 = true ∧ 0 ≤ h.c1 ∧ h.c1 ≤ 65535) by cases h.okTo 1 <;> simp <;> omega)
          with hb | ⟨hb, b1⟩ | ⟨hb, b1, b2⟩ | ⟨hb, b1, b2⟩
        all_goals
          have H1 := Lib.hid (HS.out.2 1)
          rw [hb]
          rw [hb] at H1
          clear hb
          go_wp2_with fail
          go_round
          case rel => exact ⟨2, by decide, rfl, by rw [H1.out]; simp [sixteen, Hd.count, *]⟩
          case measure => simp [intOf]
      · rcases (show h.okTo 2 = false ∨ (h.okTo 2 = true ∧ ¬ 0 ≤ h.c2) ∨ (h.okTo 2 = true ∧ 0 ≤ h.c2 ∧ ¬ h.c2 ≤ 65535) ∨ (h.okTo 2 = true ∧ 0 ≤ h.c2 ∧ h.c2 ≤ 65535) by cases h.okTo 2 <;> simp <;> omega)
          with hb | ⟨hb, b1⟩ | ⟨hb, b1, b2⟩ | ⟨hb, b1, b2⟩
        all_goals
          have H1 := Lib.hid (HS.out.2 2)
          rw [hb]
          rw [hb] at H1
          clear hb
          go_wp2_with fail
          go_round
          case rel => exact ⟨3, by decide, rfl, by rw [H1.out]; simp [sixteen, Hd.count, *]⟩
          case measure => simp [intOf]
      · rcases (show h.okTo 3 = false ∨ (h.okTo 3 = true ∧ ¬ 0 ≤ h.c3) ∨ (h.okTo 3 = true ∧ 0 ≤ h.c3 ∧ ¬ h.c3 ≤ 65535) ∨ (h.okTo 3 = true ∧ 0 ≤ h.c3 ∧ h.c3 ≤ 65535) by cases h.okTo 3 <;> simp <;> omega)
          with hb | ⟨hb, b1⟩ | ⟨hb, b1, b2⟩ | ⟨hb, b1, b2⟩
        all_goals
          have H1 := Lib.hid (HS.out.2 3)
          rw [hb]
          rw [hb] at H1
          clear hb
          go_wp2_with fail
          go_round
          case rel => exact ⟨4, by decide, rfl, by rw [H1.out]; simp [sixteen, Hd.count, *]⟩
          case measure => simp [intOf]
      · cases hb : h.okTo 4
        all_goals
          rw [hb] at HE
          clear hb
          go_wp2_with fail
          go_ret
          exact ⟨ret_int HE.out, (Fr.refl _ _).alloc _⟩
end Go.Proofs.Ytbemackcdccpaaa
