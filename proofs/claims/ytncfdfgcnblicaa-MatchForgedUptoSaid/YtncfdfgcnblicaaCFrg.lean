/-
  LAYER 25: MatchForged, walked.
-/
import Derived.Test.YtncfdfgcnblicaaBunQ
import Derived.Test.YtncfdfgcnblicaaBunP
import Derived.Test.YtncfdfgcnblicaaBunB
namespace Go.Proofs.Ytncfdfgcnblicaa
open Go.RowKit
set_option linter.unusedVariables false
set_option linter.unusedSimpArgs false

set_option maxRecDepth 100000 in
set_option maxHeartbeats 4000000 in
theorem forged_off (q : Pn) (A : Option Addr) (cap : Nat) (what by0 : Int) (s : ByteArray) (w : World) (hq : PnIn w A q)
    (hoff : ¬ (lightP q = true ∧ q.may 64 = true ∧ (q.ws.length : Int) ≤ 4 ∧ ckN s = 0)) :
    Calls Try.prog 3 #[.agg #[.int .u16 (q.id : Nat), .string q.q.1, .int .i64 q.q.2.1, .int .i64 q.q.2.2, .int .i64 q.sv, .int .i64 q.tr, .int .i64 q.dl, .slice A q.ws.length cap], .int .i64 what, .int .i64 by0, .string s] w (EqPost w true) := by
  obtain ⟨W, hW⟩ : ∃ W, W = w.alloc (.cells #[.int .u16 (q.id : Nat), .string q.q.1, .int .i64 q.q.2.1, .int .i64 q.q.2.2, .int .i64 q.sv, .int .i64 q.tr, .int .i64 q.dl, .slice A q.ws.length cap] 28) := ⟨_, rfl⟩
  have hb : Blk W w.heap.size 28 #[.int .u16 (q.id : Nat), .string q.q.1, .int .i64 q.q.2.1, .int .i64 q.q.2.2, .int .i64 q.sv, .int .i64 q.tr, .int .i64 q.dl, .slice A q.ws.length cap] := by rw [hW]; exact Blk.new _ _ _
  have hf : Fr (fun _ => False) w W := by rw [hW]; exact (Fr.refl _ _).alloc _
  obtain ⟨kl, hkl⟩ : ∃ k, k = lightP q := ⟨_, rfl⟩
  obtain ⟨kc, hkc⟩ : ∃ k : Int, k = if q.may 64 = true then 0 else 2 := ⟨_, rfl⟩
  obtain ⟨kn, hkn⟩ : ∃ k, k = ckN s := ⟨_, rfl⟩
  have hkc' : (kc == 0) = q.may 64 := by rw [hkc]; split <;> simp [*]
  have hoff' : ¬ (kl = true ∧ kc = 0 ∧ (q.ws.length : Int) ≤ 4 ∧ kn = 0) := by
    rw [hkl, hkn]
    intro ⟨h1, h2, h3, h4⟩
    exact hoff ⟨h1, by rw [← hkc', h2]; rfl, h3, h4⟩
  have HB := Lib.hid (And.intro hb (And.intro hf (hq.fr0 hf)))
  have HK := Lib.hid (And.intro hkl (And.intro hkc hkn))
  have HN := Lib.hid (And.intro hq.q.1 hq.len)
  have HW := Lib.hid hW
  clear hb hf hkl hkc hkn hkc' hoff hq hW
  by_cases h1 : kl = true
  · subst h1
    by_cases h2 : kc = 0
    · have e2 : (kc != 0) = false := by simp [h2]
      by_cases h3 : (q.ws.length : Int) ≤ 4
      · have e3 : ¬ (4 : Int) < (q.ws.length : Int) := by omega
        have h4 : kn ≠ 0 := fun h => hoff' ⟨rfl, h2, h3, h⟩
        have e4 : (kn != 0) = true := by simp [h4]
        clear hoff' h2 h3 h4
        go_enter Try.func3, Try.ntmps3
        go_upto_region 1 with fail
        rw [← HW.out]
        clear HW
        go_wp2_with (first
          | (go_at_call 6
             (with_reducible refine (lives25_any W).mono ?_)
             rintro e w1 ⟨rfl, f1⟩
             have H1 := Lib.hid (And.intro (HB.out.1.fr f1 id) (And.intro (HB.out.2.1.then f1) (HB.out.2.2.fr0 f1)))
             clear f1)
          | (refine wpList_load_blkg (by first | rfl | (simp [Region.wanted, yielded]; done)) 28 _ rfl w.heap.size (by rfl) 28 _ _ (by first | with_reducible exact H1.out.1 | with_reducible exact H2.out.1) Try.underlying28 rfl (by kernel_rfl) ?_)
          | (go_at_call 7
             (with_reducible refine (light25_any q A cap _ HN.out.1 HN.out.2).mono ?_)
             rintro e w2 ⟨rfl, f2⟩
             rw [← HK.out.1]
             have H2 := Lib.hid (And.intro (H1.out.1.fr f2 id) (And.intro (H1.out.2.1.then f2) (H1.out.2.2.fr0 f2)))
             clear f2)
          | (go_at_call 8
             (with_reducible refine (rpCheck_any q A cap _ H2.out.2.2).mono ?_)
             rintro e w3 ⟨rfl, f3⟩
             rw [← HK.out.2.1]
             have H3 := Lib.hid (And.intro (H2.out.1.fr f3 id) (And.intro (H2.out.2.1.then f3) ((H2.out.1.fr f3 id).cell 7)))
             clear f3
             have c7 := H3.out.2.2)
          | (go_at_call 9
             (with_reducible refine (rcheck_any s _).mono ?_)
             rintro e w4 ⟨rfl, rfl⟩
             rw [← HK.out.2.2])
          | fail "no arm")
        go_ret
        exact ⟨rfl, H3.out.2.1⟩
      · have e3 : (4 : Int) < (q.ws.length : Int) := by omega
        clear hoff' h2 h3
        go_enter Try.func3, Try.ntmps3
        go_upto_region 1 with fail
        rw [← HW.out]
        clear HW
        go_wp2_with (first
          | (go_at_call 6
             (with_reducible refine (lives25_any W).mono ?_)
             rintro e w1 ⟨rfl, f1⟩
             have H1 := Lib.hid (And.intro (HB.out.1.fr f1 id) (And.intro (HB.out.2.1.then f1) (HB.out.2.2.fr0 f1)))
             clear f1)
          | (refine wpList_load_blkg (by first | rfl | (simp [Region.wanted, yielded]; done)) 28 _ rfl w.heap.size (by rfl) 28 _ _ (by first | with_reducible exact H1.out.1 | with_reducible exact H2.out.1) Try.underlying28 rfl (by kernel_rfl) ?_)
          | (go_at_call 7
             (with_reducible refine (light25_any q A cap _ HN.out.1 HN.out.2).mono ?_)
             rintro e w2 ⟨rfl, f2⟩
             rw [← HK.out.1]
             have H2 := Lib.hid (And.intro (H1.out.1.fr f2 id) (And.intro (H1.out.2.1.then f2) (H1.out.2.2.fr0 f2)))
             clear f2)
          | (go_at_call 8
             (with_reducible refine (rpCheck_any q A cap _ H2.out.2.2).mono ?_)
             rintro e w3 ⟨rfl, f3⟩
             rw [← HK.out.2.1]
             have H3 := Lib.hid (And.intro (H2.out.1.fr f3 id) (And.intro (H2.out.2.1.then f3) ((H2.out.1.fr f3 id).cell 7)))
             clear f3
             have c7 := H3.out.2.2)
          | fail "no arm")
        go_ret
        exact ⟨rfl, H3.out.2.1⟩
    · have e2 : (kc != 0) = true := by simp [h2]
      clear hoff' h2
      go_enter Try.func3, Try.ntmps3
      go_upto_region 1 with fail
      rw [← HW.out]
      clear HW
      go_wp2_with (first
        | (go_at_call 6
           (with_reducible refine (lives25_any W).mono ?_)
           rintro e w1 ⟨rfl, f1⟩
           have H1 := Lib.hid (And.intro (HB.out.1.fr f1 id) (And.intro (HB.out.2.1.then f1) (HB.out.2.2.fr0 f1)))
           clear f1)
        | (refine wpList_load_blkg (by first | rfl | (simp [Region.wanted, yielded]; done)) 28 _ rfl w.heap.size (by rfl) 28 _ _ (by first | with_reducible exact H1.out.1 | with_reducible exact H2.out.1) Try.underlying28 rfl (by kernel_rfl) ?_)
        | (go_at_call 7
           (with_reducible refine (light25_any q A cap _ HN.out.1 HN.out.2).mono ?_)
           rintro e w2 ⟨rfl, f2⟩
           rw [← HK.out.1]
           have H2 := Lib.hid (And.intro (H1.out.1.fr f2 id) (And.intro (H1.out.2.1.then f2) (H1.out.2.2.fr0 f2)))
           clear f2)
        | (go_at_call 8
           (with_reducible refine (rpCheck_any q A cap _ H2.out.2.2).mono ?_)
           rintro e w3 ⟨rfl, f3⟩
           rw [← HK.out.2.1]
           have H3 := Lib.hid (And.intro (H2.out.1.fr f3 id) (And.intro (H2.out.2.1.then f3) ((H2.out.1.fr f3 id).cell 7)))
           clear f3
           have c7 := H3.out.2.2)
        | fail "no arm")
      go_ret
      exact ⟨rfl, H3.out.2.1⟩
  · have h1' : kl = false := by simpa using h1
    subst h1'
    clear hoff' h1
    go_enter Try.func3, Try.ntmps3
    go_upto_region 1 with fail
    rw [← HW.out]
    clear HW
    go_wp2_with (first
      | (go_at_call 6
         (with_reducible refine (lives25_any W).mono ?_)
         rintro e w1 ⟨rfl, f1⟩
         have H1 := Lib.hid (And.intro (HB.out.1.fr f1 id) (And.intro (HB.out.2.1.then f1) (HB.out.2.2.fr0 f1)))
         clear f1)
      | (refine wpList_load_blkg (by first | rfl | (simp [Region.wanted, yielded]; done)) 28 _ rfl w.heap.size (by rfl) 28 _ _ H1.out.1 Try.underlying28 rfl (by kernel_rfl) ?_)
      | (go_at_call 7
         (with_reducible refine (light25_any q A cap _ HN.out.1 HN.out.2).mono ?_)
         rintro e w2 ⟨rfl, f2⟩
         rw [← HK.out.1]
         have H2 := Lib.hid (And.intro (H1.out.1.fr f2 id) (And.intro (H1.out.2.1.then f2) (H1.out.2.2.fr0 f2)))
         clear f2)
      | fail "no arm")
    go_ret
    exact ⟨rfl, H2.out.2.1⟩
end Go.Proofs.Ytncfdfgcnblicaa
