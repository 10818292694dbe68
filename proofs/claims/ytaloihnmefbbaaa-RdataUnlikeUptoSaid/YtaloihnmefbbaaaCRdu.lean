/-
  LAYER 9: RdataUnlike.
-/
import Derived.Test.YtaloihnmefbbaaaBunH
import Derived.Deep.RegionHeld3
namespace Go.Proofs.Ytaloihnmefbbaaa
set_option linter.unusedVariables false
set_option linter.unusedSimpArgs false
open Go.RowKit

theorem PPk.drew_ {w : World} {q : Nat} {F : Nat → Prop} {y : Pk} {bg : List Int} (h : PPk w q F y bg) : PPk w.drew q F y bg := h.fr (S := fun _ => False) ((Fr.refl _ w).drew) fun _ _ h => h
def valA (d : Dt) (A : Option Addr) (c : Nat) : Array Value := d.cells (.slice A d.texts.length c)

set_option maxRecDepth 100000 in
set_option maxHeartbeats 16000000 in
theorem rdataUnlike_walk (t : Int) (a : Dt) (A : Option Addr) (c1 : Nat) (b : Dt) (B : Option Addr) (c2 : Nat) (w : World) (ht : -9223372036854775808 ≤ t ∧ t ≤ 9223372036854775807) (ha : DtIn w A a ∧ a.light ≤ 1048576) (hb : DtIn w B b ∧ b.light ≤ 1048576) :
    Calls Try.prog 6 #[.int .i64 t, a.val (.slice A a.texts.length c1), b.val (.slice B b.texts.length c2)] w fun e w' => e = .returned (.bool true) ∧ Below w.heap.size w w' := by
  have b1 := (Blk.new w 30 (a.cells (.slice A a.texts.length c1))).alloc (.cells (b.cells (.slice B b.texts.length c2)) 30)
  have b2 := Blk.new (w.alloc (.cells (a.cells (.slice A a.texts.length c1)) 30)) 30 (b.cells (.slice B b.texts.length c2))
  rw [World.size_alloc] at b2
  have hf : Fr (fun _ => False) w ((w.alloc (.cells (a.cells (.slice A a.texts.length c1)) 30)).alloc (.cells (b.cells (.slice B b.texts.length c2)) 30)) := ((Fr.refl _ _).alloc _).alloc _
  obtain ⟨W, hW⟩ : ∃ W, W = (w.alloc (.cells (a.cells (.slice A a.texts.length c1)) 30)).alloc (.cells (b.cells (.slice B b.texts.length c2)) 30) := ⟨_, rfl⟩
  rw [← hW] at b1 b2 hf
  have H := Lib.hid (And.intro b1 (And.intro b2 hf))
  have HA := Lib.hid (And.intro ha hb)
  have HT := Lib.hid ht
  unfold Dt.val
  unfold Dt.cells at hW ⊢
  have HW := Lib.hid hW
  have HWs := Lib.hid hW
  clear b1 b2 hf ha hb ht hW
  go_enter Try.func6, Try.ntmps6
  go_upto_region 1 with fail
  rw [← HW.out]
  clear HW
  go_wp2_with fail
  refine (lives9_any _).mono ?_
  rintro e w1 ⟨rfl, f1⟩
  have H1 := Lib.hid (And.intro (H.out.1.fr f1 id) (And.intro (H.out.2.1.fr f1 id) (And.intro (H.out.2.2.then f1) (And.intro (HA.out.1.1.fr0 (H.out.2.2.then f1)) (HA.out.2.1.fr0 (H.out.2.2.then f1))))))
  clear f1 H
  obtain ⟨c0, c1_, c2_, c3, c4, c5, c6, c7, c8, c9, c10, c11⟩ := dcells H1.out.1
  obtain ⟨d0, d1, d2, d3, d4, d5, d6, d7, d8, d9, d10, d11⟩ := dcells H1.out.2.1
  by_cases hla : a.light ≤ 2000
  rotate_left
  · have hd : decide (a.light ≤ 2000) = false := decide_eq_false hla
    have HD := Lib.hid hd
    clear hd hla
    go_wp2_with (first
      | (go_at_call 27
         (with_reducible refine (light_any a A c1 _ H1.out.2.2.2.1 (by have := HA.out.1.2; omega)).mono ?_)
         rintro e w2 ⟨rfl, f2⟩
         rw [HD.out]
         have H2 := Lib.hid f2
         clear f2))
    go_ret
    exact ⟨rfl, (H1.out.2.2.1.then H2.out).below (fun _ h => h.elim) (Nat.le_refl _)⟩
  by_cases hlb : b.light ≤ 2000
  rotate_left
  · have hda : decide (a.light ≤ 2000) = true := decide_eq_true hla
    have hd : decide (b.light ≤ 2000) = false := decide_eq_false hlb
    have HD := Lib.hid (And.intro hda hd)
    clear hda hd hla hlb
    go_wp2_with (first
      | (go_at_call 27
         (with_reducible refine (light_any a A c1 _ H1.out.2.2.2.1 (by have := HA.out.1.2; omega)).mono ?_)
         rintro e w2 ⟨rfl, f2⟩
         rw [HD.out.1]
         have H2 := Lib.hid (And.intro f2 (And.intro (H1.out.2.1.fr f2 id) (H1.out.2.2.2.2.fr0 f2)))
         clear f2 c0 c1_ c2_ c3 c4 c5 c6 c7 c8 c9 c10 c11 d0 d1 d2 d3 d4 d5 d6 d7 d8 d9 d10 d11
         obtain ⟨d0, d1, d2, d3, d4, d5, d6, d7, d8, d9, d10, d11⟩ := dcells H2.out.2.1)
      | (go_at_call 27
         (with_reducible refine (light_any b B c2 _ H2.out.2.2 (by have := HA.out.2.2; omega)).mono ?_)
         rintro e w3 ⟨rfl, f3⟩
         rw [HD.out.2]
         have H3 := Lib.hid f3
         clear f3))
    go_ret
    exact ⟨rfl, (H1.out.2.2.1.then (H2.out.1.then H3.out)).below (fun _ h => h.elim) (Nat.le_refl _)⟩
  have hda : decide (a.light ≤ 2000) = true := decide_eq_true hla
  have hdb : decide (b.light ≤ 2000) = true := decide_eq_true hlb
  have HD := Lib.hid (And.intro hda (And.intro hdb (And.intro hla hlb)))
  clear hda hdb hla hlb
  go_upto_region 6 with (first
      | (go_at_call 27
         (with_reducible refine (light_any a A c1 _ H1.out.2.2.2.1 (by have := HA.out.1.2; omega)).mono ?_)
         rintro e w2 ⟨rfl, f2⟩
         rw [HD.out.1]
         have H2 := Lib.hid (And.intro (H1.out.1.fr f2 id) (And.intro (H1.out.2.1.fr f2 id) (And.intro (H1.out.2.2.1.then f2) (And.intro (H1.out.2.2.2.1.fr0 f2) (H1.out.2.2.2.2.fr0 f2)))))
         clear f2 c0 c1_ c2_ c3 c4 c5 c6 c7 c8 c9 c10 c11 d0 d1 d2 d3 d4 d5 d6 d7 d8 d9 d10 d11
         obtain ⟨d0, d1, d2, d3, d4, d5, d6, d7, d8, d9, d10, d11⟩ := dcells H2.out.2.1)
      | (go_at_call 27
         (with_reducible refine (light_any b B c2 _ H2.out.2.2.2.2 (by have := HA.out.2.2; omega)).mono ?_)
         rintro e w3 ⟨rfl, f3⟩
         rw [HD.out.2.1]
         have H3 := Lib.hid (And.intro (H2.out.1.fr f3 id) (And.intro (H2.out.2.1.fr f3 id) (And.intro (H2.out.2.2.1.then f3) (And.intro (H2.out.2.2.2.1.fr0 f3) (H2.out.2.2.2.2.fr0 f3)))))
         clear f3 d0 d1 d2 d3 d4 d5 d6 d7 d8 d9 d10 d11)
      | (go_at_call 12
         (with_reducible refine (pnew_any 65535 (by decide) w3).mono ?_)
         rintro e w4 ⟨p, F, rfl, g1, g2, g3⟩
         rw [show max (0 : Int) 65535 = 65535 from rfl] at g1
         have H4 := Lib.hid (And.intro g1 (And.intro g2 g3))
         clear g1 g2 g3)
      | (go_at_call 12
         (with_reducible refine (pnew_any 65535 (by decide) w4).mono ?_)
         rintro e w5 ⟨q, G, rfl, g1, g2, g3⟩
         rw [show max (0 : Int) 65535 = 65535 from rfl] at g1
         have H5 := Lib.hid (And.intro (H4.out.1.fr (S := fun _ => False) g2 (fun _ _ => id)) (And.intro g1 (And.intro (H4.out.2.1.then g2) (And.intro (fun k hk => g3 k hk) (And.intro g2.size H4.out.1.lt)))))
         clear g1 g2 g3))
  have hW3 : ∀ k, F k → w3.heap.size ≤ k := H4.out.2.2
  have hfa : ∀ k, rowT A a.texts k → ¬ F k := fun k hk hF => by
    have h1 := H3.out.2.2.2.1.txt.ltT hk
    have h2 := hW3 k hF
    omega
  have hfb : ∀ k, rowT B b.texts k → k < w3.heap.size := fun k hk => H3.out.2.2.2.2.txt.ltT hk
  have hbw : W.heap.size = w.heap.size + 2 := by
    rw [HWs.out]
    simp
  have l3 : w.heap.size + 1 < w3.heap.size := H3.out.2.1.lt
  have l4 : w3.heap.size ≤ w4.heap.size := H4.out.2.1.size
  have l5 : w4.heap.size ≤ w5.heap.size := H5.out.2.2.2.2.1
  have f35 : Fr (fun _ => False) w3 w5 := H5.out.2.2.1
  have hda5 : DtIn w5 A a := H3.out.2.2.2.1.fr0 f35
  have hdb5 : DtIn w5 B b := H3.out.2.2.2.2.fr0 f35
  obtain ⟨y0, hy0⟩ : ∃ y0 : Pk, y0 = ⟨⟨[], 65535, 0⟩, fun _ => none⟩ := ⟨_, rfl⟩
  have hu : UG y0 0 := by rw [hy0]; exact UG.start
  have hp5 : PPk w5 p F y0 [] := by rw [hy0]; exact H5.out.1
  have hq5 : PPk w5 q G y0 [] := by rw [hy0]; exact H5.out.2.1
  have hra : dputR y0 t a = if dcheck t a ≠ 0 then (y0, dcheck t a) else (dputB y0 (whatN t) a, 0) := dputR_good hu HA.out.1.1.ok (by have := HD.out.2.2.1; omega)
  have hrb : dputR y0 t b = if dcheck t b ≠ 0 then (y0, dcheck t b) else (dputB y0 (whatN t) b, 0) := dputR_good hu HA.out.2.1.ok (by have := HD.out.2.2.2; omega)
  have HR := Lib.hid (And.intro hra (And.intro hrb (And.intro hy0 hu)))
  have H6 := Lib.hid (And.intro hp5 (And.intro hq5 (And.intro hda5 (And.intro hdb5 (And.intro (H3.out.1.fr f35 id) (H3.out.2.1.fr f35 id))))))
  have HL := Lib.hid (And.intro hW3 (And.intro hfa (And.intro l3 (And.intro l4 l5))))
  have HFB := Lib.hid hfb
  clear hfb
  have hfr5 : Fr (fun _ => False) w w5 := H3.out.2.2.1.then f35
  have HF := Lib.hid hfr5
  have hfit : y0.fit := hu.fit (by decide)
  have HFIT := Lib.hid hfit
  have hG4 : ∀ k, G k → w4.heap.size ≤ k := H5.out.2.2.2.1
  have hF4 : ∀ k, F k → k < w4.heap.size := H5.out.2.2.2.2.2
  have HG := Lib.hid (And.intro hG4 hF4)
  clear hra hrb hy0 hu hp5 hq5 hda5 hdb5 hW3 hfa l3 l4 l5 f35 hbw hfr5 hfit hG4 hF4
  obtain ⟨c0, c1_, c2_, c3, c4, c5, c6, c7, c8, c9, c10, c11⟩ := dcells H6.out.2.2.2.2.1
  have hset : ∀ k, F k → w.heap.size ≤ k := fun k hk => by have := HL.out.1 k hk; have := HL.out.2.2.1; omega
  have HSET := Lib.hid hset
  clear hset
  by_cases hca : dcheck t a = 0
  rotate_left
  · have hne : (dcheck t a != 0) = true := by simp [hca]
    have HC := Lib.hid hca
    clear hca
    go_wp2_with (first
      | (go_at_call 24
         (with_reducible refine (dput_any p F y0 [] t a A c1 _ H6.out.1 HFIT.out H6.out.2.2.1 HL.out.2.1 HT.out).mono ?_)
         rintro e w6 ⟨rfl, F6, g1, g2, g3⟩
         rw [HR.out.1, if_pos HC.out]
         have H7 := Lib.hid g2
         clear g1 g2 g3))
    go_ret
    exact ⟨rfl, (HF.out.step H7.out (fun k hk => .inr (HSET.out k hk))).below (fun _ h => h.elim) (Nat.le_refl _)⟩
  have HC := Lib.hid hca
  clear hca
  by_cases hcb : dcheck t b = 0
  rotate_left
  · have hne : (dcheck t b != 0) = true := by simp [hcb]
    have HCB := Lib.hid hcb
    clear hcb
    go_wp2_with (first
      | (go_at_call 24
         (with_reducible refine (dput_any p F y0 [] t a A c1 w5 H6.out.1 HFIT.out H6.out.2.2.1 HL.out.2.1 HT.out).mono ?_)
         rintro e w6 ⟨rfl, F6, g1, g2, g3⟩
         rw [HR.out.1, if_neg (by simp [HC.out])] at g1 ⊢
         have hgf : ∀ k, G k → ¬ F k := fun k h1 h2 => by have := HG.out.1 k h1; have := HG.out.2 k h2; omega
         have hqb : PPk w6 q G y0 [] := H6.out.2.1.fr g2 hgf
         have hdb6 : DtIn w6 B b := H6.out.2.2.2.1.frT g2 (fun k hk h2 => by have h1 := HFB.out k hk; have := HL.out.1 k h2; omega)
         have hda6 : DtIn w6 A a := H6.out.2.2.1.frT g2 HL.out.2.1
         have n1 : ¬ F w.heap.size := fun h => by have := HL.out.1 _ h; have := HL.out.2.2.1; omega
         have n2 : ¬ F (w.heap.size + 1) := fun h => by have := HL.out.1 _ h; have := HL.out.2.2.1; omega
         have H7 := Lib.hid (And.intro g1 (And.intro hqb (And.intro hda6 (And.intro hdb6 (And.intro (H6.out.2.2.2.2.1.fr g2 n1) (And.intro (H6.out.2.2.2.2.2.fr g2 n2) (And.intro (HF.out.step g2 (fun k hk => .inr (HSET.out k hk))) (And.intro (fun k hk => (show (F k ∨ w5.heap.size ≤ k) from g3 k hk)) (And.intro g2.size hgf)))))))))
         clear g1 g2 g3 hqb hdb6 hda6 n1 n2 hgf c0 c1_ c2_ c3 c4 c5 c6 c7 c8 c9 c10 c11
         obtain ⟨d0, d1, d2, d3, d4, d5, d6, d7, d8, d9, d10, d11⟩ := dcells H7.out.2.2.2.2.2.1)
      | (go_at_call 24
         (with_reducible refine (dput_any q G y0 [] t b B c2 w6 H7.out.2.1 HFIT.out H7.out.2.2.2.1 (fun k hk h2 => by have h1 := HFB.out k hk; have := HG.out.1 k h2; have := HL.out.2.2.2.1; omega) HT.out).mono ?_)
         rintro e w7 ⟨rfl, F7, g1, g2, g3⟩
         rw [HR.out.2.1, if_pos HCB.out]
         have H8 := Lib.hid g2
         clear g1 g2 g3))
    go_ret
    exact ⟨rfl, (H7.out.2.2.2.2.2.2.1.step H8.out (fun k hk => .inr (by have := HG.out.1 k hk; have := HL.out.2.2.2.1; have := HL.out.2.2.1; omega))).below (fun _ h => h.elim) (Nat.le_refl _)⟩
  have HCB := Lib.hid hcb
  clear hcb
  go_upto_region 8 with (first
      | (go_at_call 24
         (with_reducible refine (dput_any p F y0 [] t a A c1 w5 H6.out.1 HFIT.out H6.out.2.2.1 HL.out.2.1 HT.out).mono ?_)
         rintro e w6 ⟨rfl, F6, g1, g2, g3⟩
         rw [HR.out.1, if_neg (by simp [HC.out])] at g1 ⊢
         have hgf : ∀ k, G k → ¬ F k := fun k h1 h2 => by have := HG.out.1 k h1; have := HG.out.2 k h2; omega
         have hqb : PPk w6 q G y0 [] := H6.out.2.1.fr g2 hgf
         have hdb6 : DtIn w6 B b := H6.out.2.2.2.1.frT g2 (fun k hk h2 => by have h1 := HFB.out k hk; have := HL.out.1 k h2; omega)
         have hda6 : DtIn w6 A a := H6.out.2.2.1.frT g2 HL.out.2.1
         have n1 : ¬ F w.heap.size := fun h => by have := HL.out.1 _ h; have := HL.out.2.2.1; omega
         have n2 : ¬ F (w.heap.size + 1) := fun h => by have := HL.out.1 _ h; have := HL.out.2.2.1; omega
         have H7 := Lib.hid (And.intro g1 (And.intro hqb (And.intro hda6 (And.intro hdb6 (And.intro (H6.out.2.2.2.2.1.fr g2 n1) (And.intro (H6.out.2.2.2.2.2.fr g2 n2) (And.intro (HF.out.step g2 (fun k hk => .inr (HSET.out k hk))) (And.intro (fun k hk => (show (F k ∨ w5.heap.size ≤ k) from g3 k hk)) (And.intro g2.size hgf)))))))))
         clear g1 g2 g3 hqb hdb6 hda6 n1 n2 hgf c0 c1_ c2_ c3 c4 c5 c6 c7 c8 c9 c10 c11
         obtain ⟨d0, d1, d2, d3, d4, d5, d6, d7, d8, d9, d10, d11⟩ := dcells H7.out.2.2.2.2.2.1)
      | (go_at_call 24
         (with_reducible refine (dput_any q G y0 [] t b B c2 w6 H7.out.2.1 HFIT.out H7.out.2.2.2.1 (fun k hk h2 => by have h1 := HFB.out k hk; have := HG.out.1 k h2; have := HL.out.2.2.2.1; omega) HT.out).mono ?_)
         rintro e w7 ⟨rfl, G7, g1, g2, g3⟩
         rw [HR.out.2.1, if_neg (by simp [HCB.out])] at g1 ⊢
         have hpb : PPk w7 p F6 (dputB y0 (whatN t) a) [] := H7.out.1.fr g2 (fun k h1 h2 => by
           rcases H7.out.2.2.2.2.2.2.2.1 k h1 with h | h
           · exact H7.out.2.2.2.2.2.2.2.2.2 k h2 h
           · have h3 := H7.out.2.1.lt k h2
             have := H6.out.2.1.lt k h2
             omega)
         have hdb7 : DtIn w7 B b := H7.out.2.2.2.1.frT g2 (fun k hk h2 => by have h1 := HFB.out k hk; have := HG.out.1 k h2; have := HL.out.2.2.2.1; omega)
         have hda7 : DtIn w7 A a := H7.out.2.2.1.frT g2 (fun k hk h2 => by have h1 := H3.out.2.2.2.1.txt.ltT hk; have := HG.out.1 k h2; have := HL.out.2.2.2.1; omega)
         have n1 : ¬ G w.heap.size := fun h => by have := HG.out.1 _ h; have := HL.out.2.2.1; have := HL.out.2.2.2.1; omega
         have n2 : ¬ G (w.heap.size + 1) := fun h => by have := HG.out.1 _ h; have := HL.out.2.2.1; have := HL.out.2.2.2.1; omega
         have H8 := Lib.hid (And.intro hpb (And.intro g1 (And.intro hda7 (And.intro hdb7 (And.intro (H7.out.2.2.2.2.1.fr g2 n1) (And.intro (H7.out.2.2.2.2.2.1.fr g2 n2) (H7.out.2.2.2.2.2.2.1.step g2 (fun k hk => .inr (by have := HG.out.1 k hk; have := HL.out.2.2.2.1; have := HL.out.2.2.1; omega)))))))))
         clear g1 g2 g3 hpb hdb7 hda7 n1 n2 d0 d1 d2 d3 d4 d5 d6 d7 d8 d9 d10 d11))
  obtain ⟨c0, c1_, c2_, c3, c4, c5, c6, c7, c8, c9, c10, c11⟩ := dcells H8.out.2.2.2.2.1
  obtain ⟨d0, d1, d2, d3, d4, d5, d6, d7, d8, d9, d10, d11⟩ := dcells H8.out.2.2.2.2.2.1
  have HU := Lib.hid (unlike_9 (t := t) HA.out.1.1.ok HA.out.2.1.ok HD.out.2.2.1 HD.out.2.2.2 HC.out HCB.out)
  rw [← HR.out.2.2.1] at HU
  obtain ⟨X, hX⟩ : ∃ X, X = (dputB y0 (whatN t) a) := ⟨_, rfl⟩
  obtain ⟨Y, hY⟩ : ∃ Y, Y = (dputB y0 (whatN t) b) := ⟨_, rfl⟩
  rw [← hX, ← hY] at HU H8
  have HXY := Lib.hid (And.intro hX hY)
  clear hX hY
  go_region_held3 (fun w' => w'.cell? ⟨w.heap.size, 0, none⟩ = some (.bool a.six) ∧ w'.cell? ⟨w.heap.size, 1, none⟩ = some (.int .u64 a.hi) ∧ w'.cell? ⟨w.heap.size, 2, none⟩ = some (.int .u64 a.lo) ∧ w'.cell? ⟨w.heap.size, 3, none⟩ = some (.string a.name) ∧ w'.cell? ⟨w.heap.size, 4, none⟩ = some (.string a.mail) ∧ w'.cell? ⟨w.heap.size, 5, none⟩ = some (.int .u32 a.n0) ∧ w'.cell? ⟨w.heap.size, 6, none⟩ = some (.int .u32 a.n1) ∧ w'.cell? ⟨w.heap.size, 7, none⟩ = some (.int .u32 a.n2) ∧ w'.cell? ⟨w.heap.size, 8, none⟩ = some (.int .u32 a.n3) ∧ w'.cell? ⟨w.heap.size, 9, none⟩ = some (.int .u32 a.n4) ∧ w'.cell? ⟨w.heap.size, 10, none⟩ = some (.slice A a.texts.length c1) ∧ w'.cell? ⟨w.heap.size, 11, none⟩ = some (.string a.raw) ∧ w'.cell? ⟨(w.heap.size + 1), 0, none⟩ = some (.bool b.six) ∧ w'.cell? ⟨(w.heap.size + 1), 1, none⟩ = some (.int .u64 b.hi) ∧ w'.cell? ⟨(w.heap.size + 1), 2, none⟩ = some (.int .u64 b.lo) ∧ w'.cell? ⟨(w.heap.size + 1), 3, none⟩ = some (.string b.name) ∧ w'.cell? ⟨(w.heap.size + 1), 4, none⟩ = some (.string b.mail) ∧ w'.cell? ⟨(w.heap.size + 1), 5, none⟩ = some (.int .u32 b.n0) ∧ w'.cell? ⟨(w.heap.size + 1), 6, none⟩ = some (.int .u32 b.n1) ∧ w'.cell? ⟨(w.heap.size + 1), 7, none⟩ = some (.int .u32 b.n2) ∧ w'.cell? ⟨(w.heap.size + 1), 8, none⟩ = some (.int .u32 b.n3) ∧ w'.cell? ⟨(w.heap.size + 1), 9, none⟩ = some (.int .u32 b.n4) ∧ w'.cell? ⟨(w.heap.size + 1), 10, none⟩ = some (.slice B b.texts.length c2) ∧ w'.cell? ⟨(w.heap.size + 1), 11, none⟩ = some (.string b.raw))
    (first | exact ⟨c0, c1_, c2_, c3, c4, c5, c6, c7, c8, c9, c10, c11, d0, d1, d2, d3, d4, d5, d6, d7, d8, d9, d10, d11⟩ | exact ⟨k0, k1_, k2_, k3, k4, k5, k6, k7, k8, k9, k10, k11, m0, m1, m2, m3, m4, m5, m6, m7, m8, m9, m10, m11⟩)
    (first
    | (go_at_call 15
       (first
        | (with_reducible refine (ptext_any p F6 X [] w7.drew H8.out.1.drew_).mono ?_)
        | (with_reducible refine (ptext_any q G7 Y [] w7.drew H8.out.2.1.drew_).mono ?_)
        | (with_reducible refine (ptext_any p F6 X [] w9 H9.out.1).mono ?_)
        | (with_reducible refine (ptext_any q G7 Y [] w9 H9.out.2.1).mono ?_))
       rintro e w' ⟨rfl, rfl⟩)
    | (go_at_call 28
       (with_reducible refine (dsame_any a b A B c1 c2 _ (H8.out.2.2.1.fr0 ((Fr.refl _ _).drew)) (H8.out.2.2.2.1.fr0 ((Fr.refl _ _).drew))).mono ?_)
       rintro e w9 ⟨rfl, f9⟩
       have H9 := Lib.hid (And.intro (H8.out.1.fr f9.fromD (fun _ _ => id)) (And.intro (H8.out.2.1.fr f9.fromD (fun _ _ => id)) (H8.out.2.2.2.2.2.2.then f9.fromD)))
       obtain ⟨k0, k1_, k2_, k3, k4, k5, k6, k7, k8, k9, k10, k11⟩ := dcells (H8.out.2.2.2.2.1.fr f9.fromD id)
       obtain ⟨m0, m1, m2, m3, m4, m5, m6, m7, m8, m9, m10, m11⟩ := dcells (H8.out.2.2.2.2.2.1.fr f9.fromD id)
       clear f9)
    | fail "no arm")
  all_goals
    go_wp2_with fail
    go_ret
    refine ⟨ret_bool ?_, H9.out.2.2.below (fun _ h => h.elim) (Nat.le_refl _)⟩
    have hu := HU.out
    have hs := sameB_iff a b
    rw [beq_iff_eq, Bool.eq_iff_iff, beq_iff_eq]
    exact hu.trans hs.symm
end Go.Proofs.Ytaloihnmefbbaaa
