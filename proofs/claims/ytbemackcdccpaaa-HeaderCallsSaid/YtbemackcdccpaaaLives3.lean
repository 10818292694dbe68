/-
  CHAPTER 3's OWN EXAMPLES ('lives') COME OUT; the remainder function of the kit.
-/
import Derived.Test.YtbemackcdccpaaaRefa
namespace Go.Proofs.Ytbemackcdccpaaa
open Go.RowKit

theorem Wr.lt {w : World} {p : Nat} {F : Nat → Prop} {x : Wst} (h : Wr w p F x) : ∀ k, F k → k < w.heap.size := by
  obtain ⟨A, cap, h1, h2, h3, h4, h5, h6⟩ := h
  exact h5
theorem Wr.ne {w : World} {p : Nat} {F : Nat → Prop} {x : Wst} (h : Wr w p F x) : F p := by
  obtain ⟨A, cap, h1, h2, h3, h4, h5, h6⟩ := h
  exact h3

/-- A new writer. -/
def NewPost (w : World) (m : Int) (e : Ending) (w' : World) : Prop :=
  ∃ p F, e = .returned (.pointer (some ⟨p, 0, none⟩)) ∧ Wr w' p F ⟨[], max 0 m, 0⟩ ∧ Fr (fun _ => False) w w' ∧ ∀ k, F k → w.heap.size ≤ k
theorem newWriter_c (m : Int) (hm : m ≤ 9223372036854775807) (w : World) : Calls Try.prog 25 #[.int .i64 m] w (NewPost w m) := by
  refine (newWriter_any m w).mono ?_
  rintro e w' ⟨rfl, rfl⟩
  exact ⟨w.heap.size, _, rfl, Wr.new m hm w, (Fr.refl _ _).alloc _, fun k hk => Nat.le_of_eq hk.symm⟩

def RNewPost (w : World) (m : Int) (e : Ending) (w' : World) : Prop :=
  ∃ p, e = .returned (.pointer (some ⟨p, 0, none⟩)) ∧ RWr w' p ⟨[], max 0 m, 0⟩ ∧ Fr (fun _ => False) w w' ∧ w.heap.size ≤ p
theorem rnew_c (m : Int) (hm : m ≤ 9223372036854775807) (w : World) : Calls Try.prog 26 #[.int .i64 m] w (RNewPost w m) := by
  refine (rnew_any m w).mono ?_
  rintro e w' ⟨rfl, rfl⟩
  exact ⟨w.heap.size, rfl, RWr.new m hm w, (Fr.refl _ _).alloc _, Nat.le_refl _⟩

/-- What holds of two writers behind a call of the first. -/
theorem two_step {w w' : World} {q : Nat} {F F' G : Nat → Prop} {y : Wst} {B : Nat} (hG : Wr w q G y) (hd : ∀ k, G k → ¬ F k) (hFB : ∀ k, F k → B ≤ k) (hBw : B ≤ w.heap.size)
    (hf : Fr F w w') (hsub : ∀ k, F' k → F k ∨ w.heap.size ≤ k) : Wr w' q G y ∧ (∀ k, G k → ¬ F' k) ∧ (∀ k, F' k → B ≤ k) ∧ B ≤ w'.heap.size ∧ Below B w w' :=
  ⟨hG.fr hf hd, fun k hg hf' => (hsub k hf').elim (hd k hg) fun h => by have := hG.lt k hg; omega, fun k hk => (hsub k hk).elim (hFB k) fun h => by omega, Nat.le_trans hBw hf.size, hf.below hFB hBw⟩

set_option maxRecDepth 100000 in
set_option maxHeartbeats 1000000 in
theorem lives3_any (w : World) :
    Calls Try.prog 24 #[] w fun e w' => e = .returned (.bool true) ∧ Below w.heap.size w w' := by
  go_enter Try.func24, Try.ntmps24
  go_wp2_with fail
  refine (newWriter_c 9 (by decide) _).mono ?_
  rintro e w1 ⟨p, F, rfl, h1, f1, b1⟩
  have H1 := Lib.hid h1
  clear h1
  have HB1 : Hid (Below w.heap.size w w1) := f1.below (fun _ h => h.elim) (Nat.le_refl _)
  have z1 := f1.size
  clear f1
  go_wp2_with fail
  refine (newWriter_c 1 (by decide) _).mono ?_
  rintro e w2 ⟨q, G, rfl, h2, f2, b2⟩
  have H2 := Lib.hid h2
  have H1' := Lib.hid (H1.out.fr f2 (fun _ _ h => h))
  have HB2 : Hid (Below w.heap.size w w2) := HB1.out.trans (f2.below (fun _ h => h.elim) z1)
  have hd : Hid (∀ k, F k → ¬ G k) := fun k hF hG => by have := b2 k hG; have := H1.out.lt k hF; omega
  have hc : Hid ((∀ k, F k → w.heap.size ≤ k) ∧ ∀ k, G k → w.heap.size ≤ k) := ⟨b1, fun k hG => Nat.le_trans z1 (b2 k hG)⟩
  have z2 : w.heap.size ≤ w2.heap.size := Nat.le_trans z1 f2.size
  clear h2 H1 HB1 z1 b1 b2 f2 w1
  go_wp2_with fail
  refine (number_any p F _ 258 2 _ H1'.out (by decide) (by decide) (by decide)).mono ?_
  rintro e w3 ⟨rfl, F', h3, f3, s3⟩
  have e3 : (Wst.mk [] (max 0 9) 0).number 258 2 = (⟨[1, 2], 9, 0⟩, 0) := rfl
  rw [e3] at h3
  simp only [e3]
  obtain ⟨g1, g2, g3, g4, g5⟩ := two_step H2.out (fun k hG hF => hd.out k hF hG) hc.out.1 z2 f3 s3
  have H3 := Lib.hid h3
  have H4 := Lib.hid g1
  have HB3 : Hid (Below w.heap.size w w3) := HB2.out.trans g5
  have hc3 : Hid ((∀ k, F' k → w.heap.size ≤ k) ∧ ∀ k, G k → w.heap.size ≤ k) := ⟨g3, hc.out.2⟩
  have hd3 := Lib.hid g2
  clear h3 g1 g2 g3 g5 e3 f3 s3 hc hd HB2 H1' H2 z2
  go_wp2_with fail
  refine (number_any q G _ 258 2 _ H4.out (by decide) (by decide) (by decide)).mono ?_
  rintro e w4 ⟨rfl, G', h3, f3, s3⟩
  have e3 : (Wst.mk [] (max 0 1) 0).number 258 2 = (⟨[], 1, 3⟩, 3) := rfl
  rw [e3] at h3
  simp only [e3]
  obtain ⟨g1, g2, g3, g4, g5⟩ := two_step H3.out (fun k hF hG => hd3.out k hG hF) hc3.out.2 g4 f3 s3
  have H5 := Lib.hid h3
  have H6 := Lib.hid g1
  have HB4 : Hid (Below w.heap.size w w4) := HB3.out.trans g5
  have hc4 : Hid ((∀ k, F' k → w.heap.size ≤ k) ∧ ∀ k, G' k → w.heap.size ≤ k) := ⟨hc3.out.1, g3⟩
  have hd4 := Lib.hid g2
  clear h3 g1 g2 g3 g5 e3 f3 s3 hc3 hd3 HB3 H3 H4
  go_wp2_with fail
  refine (number_any q G' _ 1 1 _ H5.out (by decide) (by decide) (by decide)).mono ?_
  rintro e w5 ⟨rfl, G, h3, f3, s3⟩
  have e3 : (Wst.mk [] 1 3).number 1 1 = (⟨[], 1, 3⟩, 3) := rfl
  rw [e3] at h3
  simp only [e3]
  obtain ⟨g1, g2, g3, g4, g5⟩ := two_step H6.out (fun k hF hG => hd4.out k hF hG) hc4.out.2 g4 f3 s3
  have H7 := Lib.hid g1
  have HB5 : Hid (Below w.heap.size w w5) := HB4.out.trans g5
  clear h3 g1 g2 g3 g5 e3 f3 s3 hc4 hd4 HB4 H5 H6
  go_wp2_with (first | (go_at_call 34; refine (text_any p _ _ _ H7.out).mono ?_; rintro e w' ⟨rfl, rfl⟩))
  go_ret
  exact ⟨rfl, HB5.out⟩

/-- The remainder, from nought on. -/
def pick (n m : Int) : Int := if n.tmod m < 0 then n.tmod m + m else n.tmod m

set_option maxRecDepth 100000 in
set_option maxHeartbeats 1000000 in
theorem pick_any (n m : Int) (w : World) (hm : 1 ≤ m) (hm' : m ≤ 1000000) :
    Calls Try.prog 27 #[.int .i64 n, .int .i64 m] w fun e w' => e = .returned (.int .i64 (pick n m)) ∧ w = w' := by
  have h1 : n.tmod m < m := Int.tmod_lt_of_pos _ (by omega)
  have h2 : -m < n.tmod m := by have := Int.lt_tmod_of_pos n (show 0 < m by omega); omega
  unfold pick
  by_cases hc : n.tmod m < 0
  · rw [if_pos hc]
    go_enter Try.func27, Try.ntmps27
    go_wp2
    go_ret
    exact ⟨rfl, rfl⟩
  · rw [if_neg hc]
    go_enter Try.func27, Try.ntmps27
    go_wp2
    go_ret
    exact ⟨rfl, rfl⟩
theorem pick_range (n m : Int) (hm : 1 ≤ m) : 0 ≤ pick n m ∧ pick n m < m := by
  have h1 : n.tmod m < m := Int.tmod_lt_of_pos _ (by omega)
  have h2 : -m < n.tmod m := by have := Int.lt_tmod_of_pos n (show 0 < m by omega); omega
  unfold pick
  split <;> omega
end Go.Proofs.Ytbemackcdccpaaa
