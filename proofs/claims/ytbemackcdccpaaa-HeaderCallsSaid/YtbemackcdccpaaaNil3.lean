/-
  WALKS: 'OctetsNil', 'OctetsNames', 'OctetsPatches', 'OctetsBack', 'OctetsRead' of chapter 3.
-/
import Derived.Test.YtbemackcdccpaaaLives3
import Derived.Test.YtbemackcdccpaaaRead3
namespace Go.Proofs.Ytbemackcdccpaaa
open Go.RowKit

set_option maxRecDepth 100000 in
set_option maxHeartbeats 2000000 in
theorem octetsNil_walk (v n : Int) (s : ByteArray) (w : World) (_b0 : 0 ≤ v ∧ v ≤ 4294967295) (_b1 : -9223372036854775808 ≤ n ∧ n ≤ 9223372036854775807) (_b2 : s.size ≤ maxLen) :
    Calls Try.prog 11 #[.int .u32 v, .int .i64 n, .string s] w fun e w' => e = .returned (.bool true) ∧ Below w.heap.size w w' := by
  go_enter Try.func11, Try.ntmps11
  go_wp2_with fail
  refine (lives3_any _).mono ?_
  rintro e w1 ⟨rfl, hb1⟩
  have HB := Lib.hid hb1
  clear hb1
  go_wp2
  go_ret
  exact ⟨rfl, HB.out⟩

/-- A reader at p, a writer at q, both made since there were B blocks. -/
def RW (B : Nat) (w0 w : World) (p : Nat) (x : Rst) (q : Nat) (F : Nat → Prop) (y : Wst) : Prop :=
  Rd w p x ∧ Wr w q F y ∧ ¬ F p ∧ (∀ k, F k → B ≤ k) ∧ B ≤ p ∧ Below B w0 w
theorem RW.read {B : Nat} {w0 w w' : World} {p q : Nat} {x x' : Rst} {F : Nat → Prop} {y : Wst} (h : RW B w0 w p x q F y) (h' : Rd w' p x') (f : Fr (· = p) w w') : RW B w0 w' p x' q F y := by
  obtain ⟨h1, h2, h3, h4, h5, h6⟩ := h
  exact ⟨h', h2.fr f (fun k hk e => h3 (e ▸ hk)), h3, h4, h5, h6.trans (f.below (fun k e => by omega) (Nat.le_trans h5 (Nat.le_of_lt h1.1.lt)))⟩
theorem RW.write {B : Nat} {w0 w w' : World} {p q : Nat} {x : Rst} {F F' : Nat → Prop} {y y' : Wst} (h : RW B w0 w p x q F y) (h' : Wr w' q F' y') (f : Fr F w w') (s : ∀ k, F' k → F k ∨ w.heap.size ≤ k) :
    RW B w0 w' p x q F' y' := by
  obtain ⟨h1, h2, h3, h4, h5, h6⟩ := h
  have hs := h1.1.lt
  exact ⟨h1.fr f h3, h', fun hp => (s p hp).elim h3 fun h => by omega, fun k hk => (s k hk).elim (h4 k) fun h => by omega, h5, h6.trans (f.below h4 (by omega))⟩
theorem RW.drewN {B : Nat} {w0 w : World} {p q : Nat} {x : Rst} {F : Nat → Prop} {y : Wst} (h : RW B w0 w p x q F y) (n : Nat) : RW B w0 (w.drewN n) p x q F y :=
  h.read (h.1.fr (S := fun _ => False) ((Fr.refl _ _).drewN n) id) ((Fr.refl _ _).drewN n)

set_option maxRecDepth 100000 in
set_option maxHeartbeats 4000000 in
theorem octetsNames_walk (w : World) :
    Calls Try.prog 12 #[] w fun e w' => e = .returned (.bool true) ∧ Below w.heap.size w w' := by
  go_enter Try.func12, Try.ntmps12
  go_wp2_with fail
  refine (lives3_any _).mono ?_
  rintro e w1 ⟨rfl, hb1⟩
  have HB := Lib.hid hb1
  clear hb1
  go_wp2_with fail
  refine (newReader_c _ (by decide) _).mono ?_
  rintro e w2 ⟨p, rfl, h2, f2, b2⟩
  have H2 := Lib.hid (And.intro h2 (And.intro f2 b2))
  clear h2 f2 b2
  go_wp2_with fail
  refine (newWriter_c 4 (by decide) _).mono ?_
  rintro e w3 ⟨q, F, rfl, h3, f3, b3⟩
  have K0 : Hid (RW w.heap.size w w3 p ⟨⟨#[1, 2, 3, 4, 5]⟩, 0⟩ q F ⟨[], 4, 0⟩) := by
    obtain ⟨h2, f2, b2⟩ := H2.out
    have z1 := HB.out.size
    have z2 := h2.1.lt
    exact ⟨h2.fr f3 id, h3, fun hF => by have := b3 p hF; omega, fun k hk => Nat.le_trans (Nat.le_trans z1 f2.size) (b3 k hk), Nat.le_trans z1 b2,
      (HB.out.trans (f2.below (fun _ h => h.elim) z1)).trans (f3.below (fun _ h => h.elim) (Nat.le_trans z1 f2.size))⟩
  clear h3 f3 b3 H2 HB
  go_wp2_with fail
  refine (rdnumber_any p _ 4 _ K0.out.1).mono ?_
  rintro e v1 ⟨rfl, h, f⟩
  have e1 : (Rst.mk ⟨#[1, 2, 3, 4, 5]⟩ 0).number 4 = (⟨⟨#[1, 2, 3, 4, 5]⟩, 4⟩, 16909060, 0) := by kernel_rfl
  rw [e1] at h
  simp only [e1]
  have K1 := Lib.hid (K0.out.read h f)
  clear h f e1 K0
  go_wp2_with fail
  refine (rdnumber_any p _ 2 _ K1.out.1).mono ?_
  rintro e v2 ⟨rfl, h, f⟩
  have e1 : (Rst.mk ⟨#[1, 2, 3, 4, 5]⟩ 4).number 2 = (⟨⟨#[1, 2, 3, 4, 5]⟩, 4⟩, 0, 8) := by kernel_rfl
  rw [e1] at h
  simp only [e1]
  have K2 := Lib.hid (K1.out.read h f)
  clear h f e1 K1
  go_wp2_with fail
  refine (rdnumber_any p _ 5 _ K2.out.1).mono ?_
  rintro e v3 ⟨rfl, h, f⟩
  have e1 : (Rst.mk ⟨#[1, 2, 3, 4, 5]⟩ 4).number 5 = (⟨⟨#[1, 2, 3, 4, 5]⟩, 4⟩, 0, 2) := by kernel_rfl
  rw [e1] at h
  simp only [e1]
  have K3 := Lib.hid (K2.out.read h f)
  clear h f e1 K2
  go_wp2_with fail
  refine (take_any p _ 1 _ K3.out.1).mono ?_
  rintro e v4 ⟨rfl, h, f⟩
  have e1 : (Rst.mk ⟨#[1, 2, 3, 4, 5]⟩ 4).take 1 = (⟨⟨#[1, 2, 3, 4, 5]⟩, 5⟩, ⟨#[5]⟩, 0) := by kernel_rfl
  rw [e1] at h
  simp only [e1]
  have K4 := Lib.hid (K3.out.read h f)
  clear h f e1 K3
  go_wp2_with fail
  refine (take_any p _ (-1) _ K4.out.1).mono ?_
  rintro e v5 ⟨rfl, h, f⟩
  have e1 : (Rst.mk ⟨#[1, 2, 3, 4, 5]⟩ 5).take (-1) = (⟨⟨#[1, 2, 3, 4, 5]⟩, 5⟩, ⟨#[]⟩, 2) := by kernel_rfl
  rw [e1] at h
  simp only [e1]
  have K5 := Lib.hid (K4.out.read h f)
  clear h f e1 K4
  go_wp2_with fail
  refine (seek_any p _ 6 _ K5.out.1).mono ?_
  rintro e v6 ⟨rfl, h, f⟩
  have e1 : (Rst.mk ⟨#[1, 2, 3, 4, 5]⟩ 5).seek 6 = (⟨⟨#[1, 2, 3, 4, 5]⟩, 5⟩, 2) := by kernel_rfl
  rw [e1] at h
  simp only [e1]
  have K6 := Lib.hid (K5.out.read h f)
  clear h f e1 K5
  go_wp2_with fail
  refine (seek_any p _ 1 _ K6.out.1).mono ?_
  rintro e v7 ⟨rfl, h, f⟩
  have e1 : (Rst.mk ⟨#[1, 2, 3, 4, 5]⟩ 5).seek 1 = (⟨⟨#[1, 2, 3, 4, 5]⟩, 1⟩, 0) := by kernel_rfl
  rw [e1] at h
  simp only [e1]
  have K7 := Lib.hid (K6.out.read h f)
  clear h f e1 K6
  go_wp2_with fail
  refine (number_any q _ _ 256 1 _ K7.out.2.1 (by decide) (by decide) (by decide)).mono ?_
  rintro e v8 ⟨rfl, G8, h, f, s⟩
  have e1 : (Wst.mk [] 4 0).number 256 1 = (⟨[], 4, 0⟩, 2) := by kernel_rfl
  rw [e1] at h
  simp only [e1]
  have K8 := Lib.hid (K7.out.write h f s)
  clear h f s e1 K7
  go_wp2_with fail
  refine (put_any q _ _ ⟨#[97, 98, 99]⟩ _ K8.out.2.1 (by decide)).mono ?_
  rintro e v9 ⟨rfl, G9, h, f, s⟩
  have e1 : (Wst.mk [] 4 0).put [97, 98, 99] = (⟨[97, 98, 99], 4, 0⟩, 0) := by kernel_rfl
  rw [e1] at h
  simp only [e1]
  have K9 := Lib.hid (K8.out.write h f s)
  clear h f s e1 K8
  go_wp2_with fail
  refine (patch_any q _ _ 1 7 2 _ K9.out.2.1 (by decide) (by decide) (by decide) (by decide) (by decide)).mono ?_
  rintro e v10 ⟨rfl, G10, h, f, s⟩
  have e1 : (Wst.mk [97, 98, 99] 4 0).patch 1 7 2 = (⟨[97, 0, 7], 4, 0⟩, 0) := by kernel_rfl
  rw [e1] at h
  simp only [e1]
  have K10 := Lib.hid (K9.out.write h f s)
  clear h f s e1 K9
  go_wp2_with fail
  refine (patch_any q _ _ 2 7 2 _ K10.out.2.1 (by decide) (by decide) (by decide) (by decide) (by decide)).mono ?_
  rintro e v11 ⟨rfl, G11, h, f, s⟩
  have e1 : (Wst.mk [97, 0, 7] 4 0).patch 2 7 2 = (⟨[97, 0, 7], 4, 0⟩, 2) := by kernel_rfl
  rw [e1] at h
  simp only [e1]
  have K11 := Lib.hid (K10.out.write h f s)
  clear h f s e1 K10
  go_wp2_with fail
  refine (put_any q _ _ ⟨#[100, 101]⟩ _ K11.out.2.1 (by decide)).mono ?_
  rintro e v12 ⟨rfl, G12, h, f, s⟩
  have e1 : (Wst.mk [97, 0, 7] 4 0).put [100, 101] = (⟨[97, 0, 7], 4, 3⟩, 3) := by kernel_rfl
  rw [e1] at h
  simp only [e1]
  have K12 := Lib.hid (K11.out.write h f s)
  clear h f s e1 K11
  go_wp2_with fail
  refine (at_any p _ _ K12.out.1).mono ?_
  rintro e w' ⟨rfl, rfl⟩
  go_wp2_with fail
  refine (left_any p _ _ K12.out.1).mono ?_
  rintro e w' ⟨rfl, nq, rfl⟩
  have K13 := Lib.hid (K12.out.drewN nq)
  clear K12
  go_wp2_with fail
  refine (err_any q _ _ _ K13.out.2.1).mono ?_
  rintro e w' ⟨rfl, rfl⟩
  go_wp2_with fail
  refine (text_any q _ _ _ K13.out.2.1).mono ?_
  rintro e w' ⟨rfl, rfl⟩
  go_wp2_with fail
  refine (len_any q _ _ _ K13.out.2.1).mono ?_
  rintro e w' ⟨rfl, rfl⟩
  go_wp2_with fail
  refine (patch_any q _ _ 0 1 1 _ K13.out.2.1 (by decide) (by decide) (by decide) (by decide) (by decide)).mono ?_
  rintro e v14 ⟨rfl, G14, h, f, s⟩
  have e1 : (Wst.mk [97, 0, 7] 4 3).patch 0 1 1 = (⟨[97, 0, 7], 4, 3⟩, 3) := by kernel_rfl
  rw [e1] at h
  simp only [e1]
  have K14 := Lib.hid (K13.out.write h f s)
  clear h f s e1 K13
  go_wp2_with fail
  refine (newWriter_c (-1) (by decide) _).mono ?_
  rintro e v15 ⟨p', F', rfl, h, f, b⟩
  have K15 := Lib.hid (And.intro h (And.intro f b))
  clear h f b
  go_wp2_with fail
  refine (put_any p' _ _ _ _ K15.out.1 (by decide)).mono ?_
  rintro e v16 ⟨rfl, G16, h, f, s⟩
  have e1 : (Wst.mk [] (max 0 (-1)) 0).put [] = (⟨[], 0, 0⟩, 0) := by kernel_rfl
  simp only [e1]
  have hb : Hid (Below w.heap.size w v16) := by
    obtain ⟨g1, g2, g3⟩ := K15.out
    have z := K14.out.1.1.lt
    have z2 := K14.out.2.2.2.2.1
    have z3 := g2.size
    exact (K14.out.2.2.2.2.2.trans (g2.below (fun _ h => h.elim) (by omega))).trans (f.below (fun k hk => by have := g3 k hk; omega) (by omega))
  clear h f s e1 K14 K15
  go_wp2_with fail
  go_ret
  exact ⟨rfl, hb.out⟩
end Go.Proofs.Ytbemackcdccpaaa
