/-
  THE REFERENCE OF LAYER 8: read with pointers followed.
-/
import Derived.Test.YtmbgejiahmhffaaGreatBunB
import Derived.WalkMore
import Derived.Deep.LoopGhost
import Derived.OwnWalk
namespace Go.Proofs.YtmbgejiahmhffaaGreat
open Go.RowKit
set_option linter.unusedVariables false
set_option linter.unusedSimpArgs false

theorem results_tmp4 {fn : Func} {t u v x : Tmp} (h : fn.results = #[.tmp t, .tmp u, .tmp v, .tmp x]) (tmps : Array Value) (P : Program) (w : World) :
    (results fn tmps).run P w = .ok (.tuple #[tmps.getD t undef, tmps.getD u undef, tmps.getD v undef, tmps.getD x undef]) w := by
  simp [results, h]
theorem cat_list (l : List UInt8) (m : ByteArray) : (⟨l.toArray⟩ : ByteArray) ++ m = ⟨(l ++ m.data.toList).toArray⟩ := by
  apply ByteArray.ext
  simp
def rr8 : Ust → Value
  | .done y => .tuple #[.string ⟨y.out.toArray⟩, .int .i64 y.fin, .int .i64 (y.jumps : Nat), .int .i64 0]
  | .bad k => .tuple #[.string ⟨#[]⟩, .int .i64 0, .int .i64 0, .int .i64 k]
  | .on _ => .tuple #[]
set_option maxRecDepth 100000 in
set_option maxHeartbeats 8000000 in
theorem rread8_any (s : ByteArray) (n : Nat) (w : World) (hs : s.size ≤ 140737488351232) (hn : n ≤ s.size) :
    Calls Tryz.prog 39 #[.string s, .int .i64 (n : Nat), .bool true] w fun e w' => e = .returned (rr8 (uread s.data.toList true ⟨n, n, -1, 0, []⟩)) ∧ w = w' := by
  obtain ⟨z, hz⟩ : ∃ z, uread s.data.toList true ⟨n, n, -1, 0, []⟩ = z := ⟨_, rfl⟩
  rw [hz]
  have HZ := Lib.hid hz
  clear hz
  have hsl : s.data.toList.length = s.size := size_l s
  have HSL := Lib.hid hsl
  clear hsl
  have hn1 : ¬ ((n : Int) < 0) := by omega
  have hn2 : ¬ (s.size < n) := by omega
  have hn3 : decide ((n : Int) < 0) = false := decide_eq_false hn1
  have hn4 : decide (s.size < n) = false := decide_eq_false hn2
  go_enter Tryz.func39, Tryz.ntmps39
  go_wp2_with fail
  go_loopg [1, 10, 11, 12, 13] ((⟨n, n, -1, 0, []⟩ : Un).mu s.data.toList) (fun gh v1 v10 v11 v12 v13 wr => ∃ x : Un, gh = x.mu s.data.toList ∧ v1 = .int .i64 (x.at_ : Nat) ∧ v10 = .string ⟨x.out.toArray⟩ ∧ v11 = .int .i64 x.fin ∧ v12 = .int .i64 (x.jumps : Nat) ∧ v13 = .int .i64 (x.begun : Nat) ∧ UOk s.data.toList x ∧ uread s.data.toList true x = z ∧ w = wr)
  case atStart => exact ⟨⟨n, n, -1, 0, []⟩, rfl, rfl, rfl, rfl, rfl, rfl, ⟨by rw [HSL.out]; exact hn, by rw [HSL.out]; simpa using hn, by simp⟩, HZ.out, rfl⟩
  case round =>
    obtain ⟨x, hgh, rfl, rfl, rfl, rfl, rfl, hok, hu, rfl⟩ := hrel
    obtain ⟨k, b, fin, j, out⟩ := x
    have HU := Lib.hid (And.intro hu (And.intro hok hgh))
    have hok1 : k ≤ s.size := by have := hok.1; rw [HSL.out] at this; exact this
    have hok2 : j + b ≤ s.size := by have := hok.2.1; rw [HSL.out] at this; exact this
    have hok3 : out.length ≤ 254 := hok.2.2
    clear hu hok hgh HZ
    dsimp only
    by_cases l1 : s.size ≤ k
    · have hst : (⟨k, b, fin, j, out⟩ : Un).step s.data.toList true = .bad 8 := by
        unfold Un.step
        dsimp only
        rw [if_pos (by rw [HSL.out]; exact l1)]
      have hz : z = .bad 8 := by rw [← HU.out.1, uread_bad hst]
      subst hz
      clear hst HU
      go_wp2_with fail
      (try simp only [Exit.inBlock, Exit.then])
      refine bodyPost_ret (results_tmp4 rfl _ _ _) rfl ?_
      exact ⟨rfl, rfl⟩
    · have hix := run_index_oc s (k : Int) k rfl (by omega)
      have hlt := oc_lt s.data.toList k
      obtain ⟨c, hc⟩ : ∃ c, c = oc s.data.toList k := ⟨_, rfl⟩
      rw [← hc] at hix hlt
      have HCC := Lib.hid hc
      have hl1 : ¬ s.data.toList.length ≤ k := by rw [HSL.out]; exact l1
      have HL1 := Lib.hid hl1
      clear hc hl1
      have q1 : IntKind.i64.wrap ((k : Int) + 1) = (k : Int) + 1 := IntWalk.i64_in _ (by omega)
      have q2 : IntKind.i64.wrap ((k : Int) + 1 + (c : Int)) = (k : Int) + 1 + (c : Int) := IntWalk.i64_in _ (by omega)
      have q3 : IntKind.i64.wrap ((k : Int) + 2) = (k : Int) + 2 := IntWalk.i64_in _ (by omega)
      by_cases z0 : c = 0
      · by_cases hf : fin < 0
        · have hst : (⟨k, b, fin, j, out⟩ : Un).step s.data.toList true = .done ⟨k, b, (k : Int) + 1, j, out⟩ := by
            unfold Un.step
            dsimp only
            rw [if_neg HL1.out, ← HCC.out, if_pos z0]
            simp [Un.leave, hf]
          have hz : z = .done ⟨k, b, (k : Int) + 1, j, out⟩ := by rw [← HU.out.1, uread_done hst]
          subst hz
          subst z0
          clear hst HU HCC
          go_wp2_with fail
          (try simp only [Exit.inBlock, Exit.then])
          refine bodyPost_ret (results_tmp4 rfl _ _ _) rfl ?_
          exact ⟨rfl, rfl⟩
        · have hst : (⟨k, b, fin, j, out⟩ : Un).step s.data.toList true = .done ⟨k, b, fin, j, out⟩ := by
            unfold Un.step
            dsimp only
            rw [if_neg HL1.out, ← HCC.out, if_pos z0]
            simp [Un.leave, hf]
          have hz : z = .done ⟨k, b, fin, j, out⟩ := by rw [← HU.out.1, uread_done hst]
          subst hz
          subst z0
          clear hst HU HCC
          go_wp2_with fail
          (try simp only [Exit.inBlock, Exit.then])
          refine bodyPost_ret (results_tmp4 rfl _ _ _) rfl ?_
          exact ⟨rfl, rfl⟩
      · by_cases z1 : c < 64
        · by_cases z2 : s.size < k + 1 + c
          · have hst : (⟨k, b, fin, j, out⟩ : Un).step s.data.toList true = .bad 8 := by
              unfold Un.step
              dsimp only
              rw [if_neg HL1.out, ← HCC.out, if_neg z0, if_pos z1, if_pos (by rw [HSL.out]; exact z2)]
            have hz : z = .bad 8 := by rw [← HU.out.1, uread_bad hst]
            subst hz
            clear hst HU HCC
            go_wp2_with fail
            (try simp only [Exit.inBlock, Exit.then])
            refine bodyPost_ret (results_tmp4 rfl _ _ _) rfl ?_
            exact ⟨rfl, rfl⟩
          · have hsl : ∀ w, (Instr.slice 9 (.string s) (some (.int .i64 (k : Int))) (some (.int .i64 ((k : Int) + 1 + (c : Int)))) none).run Tryz.prog w = .ok (.string (s.extract k (k + 1 + c))) w := fun w => by
              rw [run_slice_string (P := Tryz.prog) w 9 s .i64 .i64 _ _ Tryz.underlying9 (by omega) (by omega) (by omega), show ((k : Int) + 1 + (c : Int)).toNat = k + 1 + c by omega, Int.toNat_natCast]
            obtain ⟨m, hm⟩ : ∃ m, m = s.extract k (k + 1 + c) := ⟨_, rfl⟩
            rw [← hm] at hsl
            have hml : m.size = 1 + c := by rw [hm, ByteArray.size_extract]; omega
            have hex : m.data.toList = (s.data.toList.drop k).take (1 + c) := by
              rw [hm, extract_list]
              congr 1
              omega
            have HEX := Lib.hid hex
            clear hm hex
            by_cases z3 : 254 < out.length + (1 + c)
            · have hst : (⟨k, b, fin, j, out⟩ : Un).step s.data.toList true = .bad 3 := by
                unfold Un.step
                dsimp only
                rw [if_neg HL1.out, ← HCC.out, if_neg z0, if_pos z1, if_neg (by rw [HSL.out]; exact z2), if_pos z3]
              have hz : z = .bad 3 := by rw [← HU.out.1, uread_bad hst]
              subst hz
              clear hst HU HCC
              go_wp2_with fail
              (try simp only [Exit.inBlock, Exit.then])
              refine bodyPost_ret (results_tmp4 rfl _ _ _) rfl ?_
              exact ⟨rfl, rfl⟩
            · have hst : (⟨k, b, fin, j, out⟩ : Un).step s.data.toList true = .on ⟨k + 1 + c, b, fin, j, out ++ m.data.toList⟩ := by
                unfold Un.step Un.lab
                dsimp only
                rw [if_neg HL1.out, ← HCC.out, if_neg z0, if_pos z1, if_neg (by rw [HSL.out]; exact z2), if_neg z3, HEX.out]
              have HST := Lib.hid hst
              clear hst
              go_wp2_with fail
              go_roundg ((⟨k + 1 + c, b, fin, j, out ++ m.data.toList⟩ : Un).mu s.data.toList)
              case measure => rw [HU.out.2.2]; exact Un.step_mu HST.out
              case rel => exact ⟨⟨k + 1 + c, b, fin, j, out ++ m.data.toList⟩, rfl, by go_num, congrArg Value.string (cat_list _ _), rfl, rfl, rfl, HU.out.2.1.on HST.out, by rw [← uread_on HST.out]; exact HU.out.1, rfl⟩
        · by_cases z2 : c < 192
          · have hst : (⟨k, b, fin, j, out⟩ : Un).step s.data.toList true = .bad 4 := by
              unfold Un.step
              dsimp only
              rw [if_neg HL1.out, ← HCC.out, if_neg z0, if_neg z1, if_neg (by omega)]
            have hz : z = .bad 4 := by rw [← HU.out.1, uread_bad hst]
            subst hz
            clear hst HU HCC
            go_wp2_with fail
            (try simp only [Exit.inBlock, Exit.then])
            refine bodyPost_ret (results_tmp4 rfl _ _ _) rfl ?_
            exact ⟨rfl, rfl⟩
          · by_cases z3 : s.size < k + 2
            · have hst : (⟨k, b, fin, j, out⟩ : Un).step s.data.toList true = .bad 8 := by
                unfold Un.step
                dsimp only
                rw [if_neg HL1.out, ← HCC.out, if_neg z0, if_neg z1, if_pos ⟨by omega, rfl⟩, if_pos (by rw [HSL.out]; exact z3)]
              have hz : z = .bad 8 := by rw [← HU.out.1, uread_bad hst]
              subst hz
              clear hst HU HCC
              go_wp2_with fail
              (try simp only [Exit.inBlock, Exit.then])
              refine bodyPost_ret (results_tmp4 rfl _ _ _) rfl ?_
              exact ⟨rfl, rfl⟩
            · have hix1 := run_index_oc s ((k : Int) + 1) (k + 1) (by omega) (by omega)
              have hlt1 := oc_lt s.data.toList (k + 1)
              obtain ⟨d, hd⟩ : ∃ d, d = oc s.data.toList (k + 1) := ⟨_, rfl⟩
              rw [← hd] at hix1 hlt1
              have HDD := Lib.hid hd
              clear hd
              have q4 : IntKind.i64.wrap ((c : Int) - 192) = (c : Int) - 192 := IntWalk.i64_in _ (by omega)
              have q5 : IntKind.i64.wrap (256 * ((c : Int) - 192)) = 256 * ((c : Int) - 192) := IntWalk.i64_in _ (by omega)
              have q6 : IntKind.i64.wrap (256 * ((c : Int) - 192) + (d : Int)) = 256 * ((c : Int) - 192) + (d : Int) := IntWalk.i64_in _ (by omega)
              have q7 : IntKind.i64.wrap ((j : Int) + 1) = (j : Int) + 1 := IntWalk.i64_in _ (by omega)
              obtain ⟨to, hto⟩ : ∃ to : Nat, to = (c - 192) * 256 + d := ⟨_, rfl⟩
              have hti : 256 * ((c : Int) - 192) + (d : Int) = (to : Int) := by omega
              have hun : (⟨k, b, fin, j, out⟩ : Un).to s.data.toList = to := by show (oc s.data.toList k - 192) * 256 + oc s.data.toList (k + 1) = to; rw [← HCC.out, ← HDD.out, hto]
              have HUN := Lib.hid hun
              clear hto hun
              by_cases z4 : b ≤ to
              · have hst : (⟨k, b, fin, j, out⟩ : Un).step s.data.toList true = .bad 4 := by
                  unfold Un.step
                  dsimp only
                  rw [if_neg HL1.out, ← HCC.out, if_neg z0, if_neg z1, if_pos ⟨by omega, rfl⟩, if_neg (by rw [HSL.out]; exact z3), if_pos (by rw [HUN.out]; exact z4)]
                have hz : z = .bad 4 := by rw [← HU.out.1, uread_bad hst]
                subst hz
                clear hst HU HCC
                go_wp2_with fail
                (try simp only [Exit.inBlock, Exit.then])
                refine bodyPost_ret (results_tmp4 rfl _ _ _) rfl ?_
                exact ⟨rfl, rfl⟩
              · by_cases hf : fin < 0
                · have hst : (⟨k, b, fin, j, out⟩ : Un).step s.data.toList true = .on ⟨to, to, (k : Int) + 2, j + 1, out⟩ := by
                    unfold Un.step
                    dsimp only
                    rw [if_neg HL1.out, ← HCC.out, if_neg z0, if_neg z1, if_pos ⟨by omega, rfl⟩, if_neg (by rw [HSL.out]; exact z3), if_neg (by rw [HUN.out]; exact z4)]
                    simp [Un.jmp, Un.leave, hf, HUN.out]
                  have HST := Lib.hid hst
                  clear hst
                  go_wp2_with fail
                  go_roundg ((⟨to, to, (k : Int) + 2, j + 1, out⟩ : Un).mu s.data.toList)
                  case measure => rw [HU.out.2.2]; exact Un.step_mu HST.out
                  case rel => exact ⟨⟨to, to, (k : Int) + 2, j + 1, out⟩, rfl, by go_num, rfl, by go_num, by go_num, by go_num, HU.out.2.1.on HST.out, by rw [← uread_on HST.out]; exact HU.out.1, rfl⟩
                · have hst : (⟨k, b, fin, j, out⟩ : Un).step s.data.toList true = .on ⟨to, to, fin, j + 1, out⟩ := by
                    unfold Un.step
                    dsimp only
                    rw [if_neg HL1.out, ← HCC.out, if_neg z0, if_neg z1, if_pos ⟨by omega, rfl⟩, if_neg (by rw [HSL.out]; exact z3), if_neg (by rw [HUN.out]; exact z4)]
                    simp [Un.jmp, Un.leave, hf, HUN.out]
                  have HST := Lib.hid hst
                  clear hst
                  go_wp2_with fail
                  go_roundg ((⟨to, to, fin, j + 1, out⟩ : Un).mu s.data.toList)
                  case measure => rw [HU.out.2.2]; exact Un.step_mu HST.out
                  case rel => exact ⟨⟨to, to, fin, j + 1, out⟩, rfl, by go_num, rfl, by go_num, by go_num, by go_num, HU.out.2.1.on HST.out, by rw [← uread_on HST.out]; exact HU.out.1, rfl⟩
theorem rread8_done (s : ByteArray) (n : Nat) (w : World) (hs : s.size ≤ 140737488351232) (hn : n ≤ s.size) {y : Un} (hy : uread s.data.toList true ⟨n, n, -1, 0, []⟩ = .done y) :
    Calls Tryz.prog 39 #[.string s, .int .i64 (n : Nat), .bool true] w fun e w' => e = .returned (.tuple #[.string ⟨y.out.toArray⟩, .int .i64 y.fin, .int .i64 (y.jumps : Nat), .int .i64 0]) ∧ w = w' := by
  have := rread8_any s n w hs hn
  rw [hy] at this
  exact this
set_option maxRecDepth 100000 in
set_option maxHeartbeats 8000000 in
theorem rname8_done (s : ByteArray) (n : Nat) (w : World) (hs : s.size ≤ 140737488351232) (hn : n ≤ s.size) {y : Un} (hy : uread s.data.toList true ⟨n, n, -1, 0, []⟩ = .done y) :
    Calls Tryz.prog 13 #[.string s, .int .i64 (n : Nat)] w fun e w' => e = .returned (.tuple #[.string ⟨y.out.toArray⟩, .int .i64 y.fin, .int .i64 0]) ∧ w = w' := by
  have HY := Lib.hid (And.intro hs (And.intro hn hy))
  clear hs hn hy
  go_enter Tryz.func13, Tryz.ntmps13
  go_wp2_with (first
    | (go_at_call 39
       (with_reducible refine (rread8_done s n _ HY.out.1 HY.out.2.1 HY.out.2.2).mono ?_)
       rintro e w1 ⟨rfl, rfl⟩)
    | fail "no arm")
  go_ret3
  exact ⟨rfl, rfl⟩
end Go.Proofs.YtmbgejiahmhffaaGreat
