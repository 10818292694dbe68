/-
  LAYER 9: RdataBack.
-/
import Derived.Test.YtaloihnmefbbaaaBunH
namespace Go.Proofs.Ytaloihnmefbbaaa
set_option linter.unusedVariables false
set_option linter.unusedSimpArgs false
open Go.RowKit

set_option maxRecDepth 100000 in
set_option maxHeartbeats 4000000 in
theorem dknown_any (t : Int) (ht : -9223372036854775808 ≤ t ∧ t ≤ 9223372036854775807) (w : World) :
    Calls Try.prog 31 #[.int .i64 t] w fun e w' => e = .returned (.bool (knownN t)) ∧ Fr (fun _ => False) w w' := by
  go_enter Try.func31, Try.ntmps31
  go_wp2_with fail
  refine (types_any _).mono ?_
  rintro e w1 ⟨b, n, rfl, o1, f1⟩
  have hl : (Instr.lookup 119 (.map (some b)) (.int .i64 t) true).run Try.prog w1 = .ok (.tuple #[.agg #[.string (textN t), .int .i64 ((whatN0 t).addr : Nat), .int .i64 ((whatN0 t).names : Nat), .bool (whatN0 t).plain, .bool (whatN0 t).first, .int .i64 ((whatN0 t).nums : Nat), .int .i64 ((whatN0 t).wide : Nat), .bool (whatN0 t).texts, .bool (whatN0 t).raw], .bool (knownN t)]) w1 := types_look o1 t ht
  have HB := Lib.hid f1
  clear o1 f1
  go_wp2_with fail
  go_ret
  exact ⟨rfl, HB.out.alloc _⟩

theorem dsize_ok {t : Int} {d : Dt} (h : dcheck t d = 0) : dsizeB t d = (d.size (whatN t) : Nat) := by
  have h0 : dcheckB0 t d = 0 := by
    rw [dcheckB0_eq]
    unfold dcheck at h
    split at h
    · exact absurd h (by assumption)
    · exact Classical.not_not.1 (by assumption)
  unfold dsizeB
  rw [if_pos h0]
/-- Which of the three kinds a type is of. -/
theorem kinds9 (t : Int) : ((whatN t).texts = true ∧ (whatN t).raw = false ∧ knownN t = true ∧ t = 16) ∨ ((whatN t) = ⟨0, 0, false, false, 0, 0, false, true⟩ ∧ (knownN t = false ∨ t = 41) ∧ t ≠ 16) ∨ ((whatN t).texts = false ∧ (whatN t).raw = false ∧ knownN t = true ∧ t ≠ 16 ∧ t ≠ 41) := by
  unfold knownN
  by_cases h1 : t = 1
  · subst h1; exact .inr (.inr (by decide))
  by_cases h2 : t = 28
  · subst h2; exact .inr (.inr (by decide))
  by_cases h3 : t = 2
  · subst h3; exact .inr (.inr (by decide))
  by_cases h4 : t = 5
  · subst h4; exact .inr (.inr (by decide))
  by_cases h5 : t = 12
  · subst h5; exact .inr (.inr (by decide))
  by_cases h6 : t = 6
  · subst h6; exact .inr (.inr (by decide))
  by_cases h7 : t = 15
  · subst h7; exact .inr (.inr (by decide))
  by_cases h8 : t = 33
  · subst h8; exact .inr (.inr (by decide))
  by_cases h9 : t = 16
  · subst h9; exact .inl (by decide)
  refine .inr (.inl ⟨?_, ?_, h9⟩)
  · unfold whatN
    rw [if_neg h1, if_neg h2, if_neg (by omega), if_neg h6, if_neg h7, if_neg h8, if_neg h9]
  · by_cases h10 : t = 41
    · exact .inr h10
    · left
      simp [typesL]
      omega
/-- The packer behind a name that was put, or was not. -/
theorem ahead_9 (n : ByteArray) : UG (Pk.name ⟨⟨[], 65535, 0⟩, fun _ => none⟩ n).1 256 := by
  by_cases h : ckN n = 0
  · exact (UG.start.name n h (by decide)).2.1
  · rw [UG.start.name_no n h]
    exact UG.start.more (by decide)
/-- All that the law asks of the three readings. -/
theorem back_9 (n : ByteArray) {t : Int} {d : Dt} (hd : d.ok) (hl : d.light ≤ 2000) (hc : dcheck t d = 0) (y z : Pk) (hy : y = (Pk.name ⟨⟨[], 65535, 0⟩, fun _ => none⟩ n).1) (hz : z = dputB y (whatN t) d) (S : ByteArray) (hS : S = (⟨z.x.b.toArray⟩ : ByteArray) ++ ⟨#[0]⟩) :
    UG y 256 ∧ UG z 3000 ∧ dputR y t d = (z, 0) ∧ y.x.b.length ≤ z.x.b.length ∧ z.x.b.length ≤ y.x.b.length + d.size (whatN t) ∧ S.size = z.x.b.length + 1 ∧
    dreadC S (y.x.b.length : Nat) (z.x.b.length : Nat) t = (d, 0) ∧
    ((whatN t).texts = false → (whatN t).raw = false → (∃ D, dreadC S (y.x.b.length : Nat) ((z.x.b.length : Nat) + 1) t = (D, 4)) ∧ (dreadC S (y.x.b.length : Nat) ((z.x.b.length : Nat) - 1) t).2 ≠ 0) ∧
    ((whatN t).raw = false → y.x.b.length < z.x.b.length) ∧
    (whatN t = ⟨0, 0, false, false, 0, 0, false, true⟩ → ∃ D, dreadC S (y.x.b.length : Nat) ((z.x.b.length : Nat) + 1) t = (D, 0)) := by
  have hsz := size_light t d
  have hu : UG y 256 := hy ▸ ahead_9 n
  have hSl : S.data.toList = z.x.b ++ [0] := by rw [hS]; simp [ByteArray.data_append]
  have hSz : S.size = z.x.b.length + 1 := by
    have : S.data.toList.length = S.size := by rw [Array.length_toList]; rfl
    rw [← this, hSl]
    simp
  have hR := dputR_good (t := t) hu hd (by omega)
  rw [if_neg (by simp [hc]), ← hz] at hR
  have hb := back_ok hu hd hc (by omega) [0]
  have hg := dputB_good (t := t) hu hd (by omega) hc
  rw [← hz] at hb hg
  obtain ⟨ht, hba, k1, k2, k3, _⟩ := dcheck_ok hc
  obtain ⟨_, ⟨T, g2⟩, g3, _⟩ := read_dput hu ⟨t, rfl⟩ hd hba k1 k2 k3 (by omega) [] _ (Nat.le_refl _) (fun _ => rfl)
  rw [← hz] at g2 g3
  refine ⟨hu, hg.more (by omega), hR, by rw [g2, List.length_append]; omega, g3, hSz, by rw [dreadC_eq, hSl]; exact hb, fun e1 e2 => ⟨⟨Dt.zero, ?_⟩, ?_⟩, fun e => ?_, fun e => ?_⟩
  · have := back_more hu hd hc (by omega) 0 [] e1 e2
    rw [← hz] at this
    rw [dreadC_eq, hSl]
    exact this
  · have := back_less hu hd hc (by omega) [0] e1 e2 (dput_longer hu hd hc (by omega) e2)
    rw [← hz] at this
    rw [dreadC_eq, hSl]
    exact this
  · rw [hz]
    exact dput_longer hu hd hc (by omega) e
  · have hlen := hg.len
    have := raw_reads S.data.toList y.x.b.length (z.x.b.length + 1) (by rw [g2, List.length_append]; omega) (by rw [hSl]; simp) (by omega) t ht e
    rw [dreadC_eq]
    exact ⟨_, this⟩

set_option maxRecDepth 100000 in
set_option maxHeartbeats 16000000 in
theorem rdataBack_walk (t : Int) (d : Dt) (A : Option Addr) (cap : Nat) (n : ByteArray) (w : World) (ht : -9223372036854775808 ≤ t ∧ t ≤ 9223372036854775807) (hd : DtIn w A d ∧ d.light ≤ 1048576) (hn : n.size ≤ 1048576) :
    Calls Try.prog 7 #[.int .i64 t, d.val (.slice A d.texts.length cap), .string n] w fun e w' => e = .returned (.bool true) ∧ Below w.heap.size w w' := by
  have b1 := Blk.new w 30 (d.cells (.slice A d.texts.length cap))
  have hf : Fr (fun _ => False) w (w.alloc (.cells (d.cells (.slice A d.texts.length cap)) 30)) := (Fr.refl _ _).alloc _
  obtain ⟨W, hW⟩ : ∃ W, W = w.alloc (.cells (d.cells (.slice A d.texts.length cap)) 30) := ⟨_, rfl⟩
  rw [← hW] at b1 hf
  have H := Lib.hid (And.intro b1 hf)
  have HA := Lib.hid hd
  have HT := Lib.hid ht
  unfold Dt.val
  unfold Dt.cells at hW ⊢
  have HW := Lib.hid hW
  clear b1 hf hd ht hW
  go_enter Try.func7, Try.ntmps7
  go_upto_region 1 with fail
  rw [← HW.out]
  clear HW
  go_wp2_with fail
  refine (lives9_any _).mono ?_
  rintro e w1 ⟨rfl, f1⟩
  have H1 := Lib.hid (And.intro (H.out.1.fr f1 id) (And.intro (H.out.2.then f1) (HA.out.1.fr0 (H.out.2.then f1))))
  clear f1 H
  obtain ⟨c0, c1, c2, c3, c4, c5, c6, c7, c8, c9, c10, c11⟩ := dcells H1.out.1
  by_cases hla : d.light ≤ 2000
  rotate_left
  · have hdl : decide (d.light ≤ 2000) = false := decide_eq_false hla
    have HD := Lib.hid hdl
    clear hdl hla
    go_wp2_with (first
      | (go_at_call 27
         (with_reducible refine (light_any d A cap _ H1.out.2.2 (by have := HA.out.2; omega)).mono ?_)
         rintro e w2 ⟨rfl, f2⟩
         rw [HD.out]
         have H2 := Lib.hid f2
         clear f2))
    go_ret
    exact ⟨rfl, (H1.out.2.1.then H2.out).below (fun _ h => h.elim) (Nat.le_refl _)⟩
  have hdl : decide (d.light ≤ 2000) = true := decide_eq_true hla
  have HD := Lib.hid (And.intro hdl hla)
  clear hdl hla
  by_cases hn4 : 400 < n.size
  · go_wp2_with (first
      | (go_at_call 27
         (with_reducible refine (light_any d A cap _ H1.out.2.2 (by have := HA.out.2; omega)).mono ?_)
         rintro e w2 ⟨rfl, f2⟩
         rw [HD.out.1]
         have H2 := Lib.hid f2
         clear f2))
    go_ret
    exact ⟨rfl, (H1.out.2.1.then H2.out).below (fun _ h => h.elim) (Nat.le_refl _)⟩
  by_cases hck : dcheckB t d = 0
  rotate_left
  · have HCK := Lib.hid hck
    have hne : (dcheckB t d != 0) = true := by simp [hck]
    clear hck
    go_wp2_with (first
      | (go_at_call 27
         (with_reducible refine (light_any d A cap _ H1.out.2.2 (by have := HA.out.2; omega)).mono ?_)
         rintro e w2 ⟨rfl, f2⟩
         rw [HD.out.1]
         have H2 := Lib.hid (And.intro (H1.out.1.fr f2 id) (And.intro (H1.out.2.1.then f2) (H1.out.2.2.fr0 f2)))
         clear f2 c0 c1 c2 c3 c4 c5 c6 c7 c8 c9 c10 c11
         obtain ⟨c0, c1, c2, c3, c4, c5, c6, c7, c8, c9, c10, c11⟩ := dcells H2.out.1)
      | (go_at_call 23
         (with_reducible refine (dCheck_any t d A cap _ H2.out.2.2 HT.out).mono ?_)
         rintro e w3 ⟨rfl, f3⟩
         have H3 := Lib.hid (H2.out.2.1.then f3)
         clear f3))
    go_ret
    exact ⟨rfl, H3.out.below (fun _ h => h.elim) (Nat.le_refl _)⟩
  have HCK := Lib.hid hck
  have hdc : dcheck t d = 0 := by rw [← dcheckB_eq]; exact hck
  clear hck
  obtain ⟨y, hy⟩ : ∃ y, y = (Pk.name ⟨⟨[], 65535, 0⟩, fun _ => none⟩ n).1 := ⟨_, rfl⟩
  obtain ⟨z, hz⟩ : ∃ z, z = dputB y (whatN t) d := ⟨_, rfl⟩
  obtain ⟨S, hS⟩ : ∃ S, S = (⟨z.x.b.toArray⟩ : ByteArray) ++ ⟨#[0]⟩ := ⟨_, rfl⟩
  have hB := back_9 n (t := t) HA.out.1.ok HD.out.2 hdc y z hy hz S hS
  have HS := Lib.hid hS
  have HY := Lib.hid hy
  have hsz := dsize_ok hdc
  have hsl := size_light t d
  obtain ⟨sz, hszq⟩ : ∃ sz, sz = d.size (whatN t) := ⟨_, rfl⟩
  rw [← hszq] at hsz hsl hB
  obtain ⟨a, ha⟩ : ∃ a, a = y.x.b.length := ⟨_, rfl⟩
  obtain ⟨b, hb⟩ : ∃ b, b = z.x.b.length := ⟨_, rfl⟩
  rw [← ha, ← hb] at hB
  have HAB := Lib.hid (And.intro ha hb)
  have HSZ := Lib.hid hsz
  have i1 : a ≤ b := hB.2.2.2.1
  have i2 : b ≤ a + sz := hB.2.2.2.2.1
  have i3 : sz ≤ 2040 := by have := HD.out.2; omega
  have i4 : a ≤ 256 := by have := hB.1.len; rw [← ha] at this; exact this
  have HB := Lib.hid hB
  clear hB hdc hy hz hS hsz hsl hszq ha hb
  have hSS := HB.out.2.2.2.2.2.1
  have i5 : S.size ≤ 3000 := by omega
  clear hSS
  have i6 : z.x.b.length ≤ 3000 := HB.out.2.1.len
  have hcat : ((⟨z.x.b.toArray⟩ : ByteArray) ++ ⟨#[0]⟩) = S := HS.out.symm
  go_upto_region 14 with (first
    | (go_at_call 27
       (with_reducible refine (light_any d A cap _ H1.out.2.2 (by have := HA.out.2; omega)).mono ?_)
       rintro e w2 ⟨rfl, f2⟩
       rw [HD.out.1]
       have H2 := Lib.hid (And.intro (H1.out.1.fr f2 id) (And.intro (H1.out.2.1.then f2) (H1.out.2.2.fr0 f2)))
       clear f2 c0 c1 c2 c3 c4 c5 c6 c7 c8 c9 c10 c11
       obtain ⟨c0, c1, c2, c3, c4, c5, c6, c7, c8, c9, c10, c11⟩ := dcells H2.out.1)
    | (go_at_call 23
       (with_reducible refine (dCheck_any t d A cap _ H2.out.2.2 HT.out).mono ?_)
       rintro e w3 ⟨rfl, f3⟩
       rw [HCK.out]
       have H3 := Lib.hid (And.intro (H2.out.1.fr f3 id) (And.intro (H2.out.2.1.then f3) (H2.out.2.2.fr0 f3)))
       clear f3 c0 c1 c2 c3 c4 c5 c6 c7 c8 c9 c10 c11)
    | (go_at_call 12
       (with_reducible refine (pnew_pd _).mono ?_)
       rintro e w4 ⟨p, F, rfl, g1⟩
       have H4 := Lib.hid g1
       clear g1)
    | (go_at_call 29
       (with_reducible refine (name_pd H4.out n (by decide)).mono ?_)
       rintro e w5 ⟨rfl, F5, g1⟩
       rw [← HY.out] at g1
       have H5 := Lib.hid g1
       clear g1)
    | (go_at_call 30
       (with_reducible refine (len_pd H6.out).mono ?_)
       rintro e w' ⟨rfl, rfl⟩
       rw [← HAB.out.2])
    | (go_at_call 30
       (with_reducible refine (len_pd H5.out).mono ?_)
       rintro e w' ⟨rfl, rfl⟩
       rw [← HAB.out.1]
       obtain ⟨c0, c1, c2, c3, c4, c5, c6, c7, c8, c9, c10, c11⟩ := dcells (H3.out.1.fr H5.out.fr id))
    | (go_at_call 24
       (with_reducible refine (dput_pd H5.out t d A cap (HB.out.1.fit (by decide)) H3.out.2.2 HT.out).mono ?_)
       rintro e w6 ⟨rfl, F6, g1, _, _⟩
       rw [HB.out.2.2.1] at g1 ⊢
       have H6 := Lib.hid g1
       clear g1 c0 c1 c2 c3 c4 c5 c6 c7 c8 c9 c10 c11
       obtain ⟨c0, c1, c2, c3, c4, c5, c6, c7, c8, c9, c10, c11⟩ := dcells (H3.out.1.fr H6.out.fr id))
    | (go_at_call 26
       (with_reducible refine (dSize_any t d A cap _ (H3.out.2.2.fr0 H6.out.fr) HT.out).mono ?_)
       rintro e w7 ⟨rfl, f7⟩
       rw [HSZ.out]
       have H7 := Lib.hid (H6.out.quiet f7)
       clear f7 c0 c1 c2 c3 c4 c5 c6 c7 c8 c9 c10 c11)
    | (go_at_call 15
       (with_reducible refine (text_pd H7.out).mono ?_)
       rintro e w' ⟨rfl, rfl⟩))
  go_upto_region 17 with (first
    | (go_at_call 25
       (with_reducible refine (read_any S a b t _ (by omega) HT.out).mono ?_)
       rintro e w8 ⟨A8, cap8, rfl, hs8, hf8, hr8⟩
       rw [HB.out.2.2.2.2.2.2.1] at hs8 ⊢
       have H8 := Lib.hid (And.intro (H7.out.quiet hf8) hs8)
       clear hs8 hf8 hr8
       unfold Dt.cells)
    | (refine wpList_store_part rfl 30 _ _ rfl w8.heap.size 0 (by rfl) _ (by rfl) 30 _ (Blk.new _ _ _) (by kernel_rfl) (by simp [Value.oneCell']) (by simp) (d.cells (.slice A8 d.texts.length cap8)) (by rfl) ?_
       intro w9 b9 f9
       have f9' : Fr (fun _ => False) w8 w9 := ((Fr.refl (fun _ => False) w8).alloc _).new f9 (fun i hi => by subst hi; exact Nat.le_refl _)
       have H9 := Lib.hid (And.intro b9 (And.intro (H8.out.1.quiet f9') (H8.out.2.fr0 f9')))
       obtain ⟨m0, m1, m2, m3, m4, m5, m6, m7, m8, m9, m10, m11⟩ := dcells b9
       clear b9 f9 f9'
       obtain ⟨c0, c1, c2, c3, c4, c5, c6, c7, c8, c9, c10, c11⟩ := dcells (H3.out.1.fr H9.out.2.1.fr id))
    | (go_at_call 28
       (with_reducible refine (dsame_any d d A8 A cap8 cap _ ⟨HA.out.1.hi, HA.out.1.lo, HA.out.1.num, H9.out.2.2, HA.out.1.len, HA.out.1.raw⟩ (H3.out.2.2.fr0 H9.out.2.1.fr)).mono ?_)
       rintro e w10 ⟨rfl, f10⟩
       rw [(sameB_iff d d).2 rfl]
       have H10 := Lib.hid (H9.out.2.1.quiet f10)
       clear f10 m0 m1 m2 m3 m4 m5 m6 m7 m8 m9 m10 m11 c0 c1 c2 c3 c4 c5 c6 c7 c8 c9 c10 c11))
  have hsz10 : w3.heap.size ≤ w10.heap.size := H10.out.fr.size
  obtain ⟨R2, hR2⟩ : ∃ R2, R2 = dreadC S (a : Nat) ((b : Nat) + 1) t := ⟨_, rfl⟩
  obtain ⟨R3, hR3⟩ : ∃ R3, R3 = dreadC S (a : Nat) ((b : Nat) - 1) t := ⟨_, rfl⟩
  have hk2 : (∃ D, dreadC S (a : Nat) ((b : Nat) + 1) t = (D, 4)) → R2.2 = 4 := by rintro ⟨D, hD⟩; rw [hR2, hD]
  have hk3 : (∃ D, dreadC S (a : Nat) ((b : Nat) + 1) t = (D, 0)) → R2.2 = 0 := by rintro ⟨D, hD⟩; rw [hR2, hD]
  have hk4 : (dreadC S (a : Nat) ((b : Nat) - 1) t).2 ≠ 0 → R3.2 ≠ 0 := by rw [hR3]; exact id
  have HK := Lib.hid (And.intro hk2 (And.intro hk3 hk4))
  have HR := Lib.hid (And.intro hR2 hR3)
  clear hk2 hk3 hk4 hR2 hR3
  have hw1 : IntKind.i64.wrap ((b : Int) + 1) = (b : Int) + 1 := IntWalk.i64_in _ (by omega)
  have hw2 : IntKind.i64.wrap ((b : Int) - 1) = (b : Int) - 1 := IntWalk.i64_in _ (by omega)
  have HWR := Lib.hid (And.intro hw1 hw2)
  clear hw1 hw2
  have fin := H3.out.2.1
  have HFIN := Lib.hid fin
  clear fin
  rcases kinds9 t with ⟨k1, k2, k3, k4⟩ | ⟨k1, k2, k3⟩ | ⟨k1, k2, k3, k4, k5⟩
  · have hab : a < b := HB.out.2.2.2.2.2.2.2.2.1 k2
    have hq : ((b : Int) == a) = false := by rw [beq_eq_false_iff_ne]; omega
    have hq1 : ¬ (b : Int) = a := by omega
    have HK3 := Lib.hid k3
    have ht16 : (t == 16) = true := by simp [k4]
    have ht41 : (t == 41) = false := by rw [beq_eq_false_iff_ne]; omega
    have htn : (t != 16) = false := by simp [k4]
    clear k1 k2 k3 k4
    go_wp2_with (first
      | (go_at_call 25
         (try rw [HWR.out.1])
         (with_reducible refine (read_any S a ((b : Int) + 1) t w10 (by omega) HT.out).mono ?_)
         rintro e w12 ⟨A12, cap12, rfl, hs12, hf12, hr12⟩
         rw [← HR.out.1]
         skip
         have H12 := Lib.hid (H10.out.quiet hf12)
         clear hs12 hf12 hr12
         unfold Dt.cells)
      | (refine wpList_store_part rfl 30 _ _ rfl w12.heap.size 0 (by rfl) _ (by rfl) 30 _ (Blk.new _ _ _) (by kernel_rfl) (by simp [Value.oneCell']) (by simp) (R2.1.cells (.slice A12 R2.1.texts.length cap12)) (by rfl) ?_
         intro w13 b13 f13
         have H13 := Lib.hid (H12.out.quiet (((Fr.refl (fun _ => False) w12).alloc _).new f13 (fun i hi => by subst hi; exact Nat.le_refl _)))
         clear b13 f13)
      | (go_at_call 31
         (with_reducible refine (dknown_any t HT.out _).mono ?_)
         rintro e w14 ⟨rfl, f14⟩
         rw [HK3.out]
         have H14 := Lib.hid (H13.out.quiet f14)
         clear f14)
      | (go_at_call 25
         (try rw [HWR.out.2])
         (with_reducible refine (read_any S a ((b : Int) - 1) t w14 (by omega) HT.out).mono ?_)
         rintro e w16 ⟨A16, cap16, rfl, hs16, hf16, hr16⟩
         rw [← HR.out.2]
         have H16 := Lib.hid (H14.out.quiet hf16)
         clear hs16 hf16 hr16
         unfold Dt.cells)
      | (refine wpList_store_part rfl 30 _ _ rfl w16.heap.size 0 (by rfl) _ (by rfl) 30 _ (Blk.new _ _ _) (by kernel_rfl) (by simp [Value.oneCell']) (by simp) (R3.1.cells (.slice A16 R3.1.texts.length cap16)) (by rfl) ?_
         intro w17 b17 f17
         have H15 := Lib.hid (H16.out.quiet (((Fr.refl (fun _ => False) w16).alloc _).new f17 (fun i hi => by subst hi; exact Nat.le_refl _)))
         clear b17 f17))
    go_ret
    exact ⟨rfl, (HFIN.out.then H15.out.fr).below (fun _ h => h.elim) (Nat.le_refl _)⟩
  · have he := HK.out.2.1 (HB.out.2.2.2.2.2.2.2.2.2 k1)
    have hne : (t != 16) = true := by simp [k3]
    have heq : (t == 16) = false := by simp [k3]
    have HE := Lib.hid he
    have HK1 := Lib.hid k1
    clear k1 he k3
    rcases k2 with k2 | k2
    · have HK3 := Lib.hid k2
      clear k2
      go_wp2_with (first
        | (go_at_call 25
           (try rw [HWR.out.1])
           (with_reducible refine (read_any S a ((b : Int) + 1) t w10 (by omega) HT.out).mono ?_)
           rintro e w12 ⟨A12, cap12, rfl, hs12, hf12, hr12⟩
           rw [← HR.out.1]
           rw [HE.out]
           have H12 := Lib.hid (H10.out.quiet hf12)
           clear hs12 hf12 hr12
           unfold Dt.cells)
        | (refine wpList_store_part rfl 30 _ _ rfl w12.heap.size 0 (by rfl) _ (by rfl) 30 _ (Blk.new _ _ _) (by kernel_rfl) (by simp [Value.oneCell']) (by simp) (R2.1.cells (.slice A12 R2.1.texts.length cap12)) (by rfl) ?_
           intro w13 b13 f13
           have H13 := Lib.hid (H12.out.quiet (((Fr.refl (fun _ => False) w12).alloc _).new f13 (fun i hi => by subst hi; exact Nat.le_refl _)))
           clear b13 f13)
        | (go_at_call 31
           (with_reducible refine (dknown_any t HT.out _).mono ?_)
           rintro e w14 ⟨rfl, f14⟩
           rw [HK3.out]
           have H14 := Lib.hid (H13.out.quiet f14)
           clear f14)
        | (go_at_call 25
           (try rw [HWR.out.2])
           (with_reducible refine (read_any S a ((b : Int) - 1) t w14 (by omega) HT.out).mono ?_)
           rintro e w16 ⟨A16, cap16, rfl, hs16, hf16, hr16⟩
           rw [← HR.out.2]
           have H16 := Lib.hid (H14.out.quiet hf16)
           clear hs16 hf16 hr16
           unfold Dt.cells)
        | (refine wpList_store_part rfl 30 _ _ rfl w16.heap.size 0 (by rfl) _ (by rfl) 30 _ (Blk.new _ _ _) (by kernel_rfl) (by simp [Value.oneCell']) (by simp) (R3.1.cells (.slice A16 R3.1.texts.length cap16)) (by rfl) ?_
           intro w17 b17 f17
           have H15 := Lib.hid (H16.out.quiet (((Fr.refl (fun _ => False) w16).alloc _).new f17 (fun i hi => by subst hi; exact Nat.le_refl _)))
           clear b17 f17))
      all_goals
        go_ret
        exact ⟨rfl, (HFIN.out.then H14.out.fr).below (fun _ h => h.elim) (Nat.le_refl _)⟩
    · have k3 : knownN t = true := by rw [k2]; decide
      have HK3 := Lib.hid k3
      have ht41 : (t == 41) = true := by simp [k2]
      clear k2 k3
      go_wp2_with (first
        | (go_at_call 25
           (try rw [HWR.out.1])
           (with_reducible refine (read_any S a ((b : Int) + 1) t w10 (by omega) HT.out).mono ?_)
           rintro e w12 ⟨A12, cap12, rfl, hs12, hf12, hr12⟩
           rw [← HR.out.1]
           rw [HE.out]
           have H12 := Lib.hid (H10.out.quiet hf12)
           clear hs12 hf12 hr12
           unfold Dt.cells)
        | (refine wpList_store_part rfl 30 _ _ rfl w12.heap.size 0 (by rfl) _ (by rfl) 30 _ (Blk.new _ _ _) (by kernel_rfl) (by simp [Value.oneCell']) (by simp) (R2.1.cells (.slice A12 R2.1.texts.length cap12)) (by rfl) ?_
           intro w13 b13 f13
           have H13 := Lib.hid (H12.out.quiet (((Fr.refl (fun _ => False) w12).alloc _).new f13 (fun i hi => by subst hi; exact Nat.le_refl _)))
           clear b13 f13)
        | (go_at_call 31
           (with_reducible refine (dknown_any t HT.out _).mono ?_)
           rintro e w14 ⟨rfl, f14⟩
           rw [HK3.out]
           have H14 := Lib.hid (H13.out.quiet f14)
           clear f14)
        | (go_at_call 25
           (try rw [HWR.out.2])
           (with_reducible refine (read_any S a ((b : Int) - 1) t w14 (by omega) HT.out).mono ?_)
           rintro e w16 ⟨A16, cap16, rfl, hs16, hf16, hr16⟩
           rw [← HR.out.2]
           have H16 := Lib.hid (H14.out.quiet hf16)
           clear hs16 hf16 hr16
           unfold Dt.cells)
        | (refine wpList_store_part rfl 30 _ _ rfl w16.heap.size 0 (by rfl) _ (by rfl) 30 _ (Blk.new _ _ _) (by kernel_rfl) (by simp [Value.oneCell']) (by simp) (R3.1.cells (.slice A16 R3.1.texts.length cap16)) (by rfl) ?_
           intro w17 b17 f17
           have H15 := Lib.hid (H16.out.quiet (((Fr.refl (fun _ => False) w16).alloc _).new f17 (fun i hi => by subst hi; exact Nat.le_refl _)))
           clear b17 f17))
      all_goals
        go_ret
        exact ⟨rfl, (HFIN.out.then H14.out.fr).below (fun _ h => h.elim) (Nat.le_refl _)⟩
  · have hab : a < b := HB.out.2.2.2.2.2.2.2.2.1 k2
    have hq : ((b : Int) == a) = false := by rw [beq_eq_false_iff_ne]; omega
    have hq1 : ¬ (b : Int) = a := by omega
    have HK3 := Lib.hid k3
    have hh := HB.out.2.2.2.2.2.2.2.1 k1 k2
    have HE := Lib.hid (And.intro (HK.out.1 hh.1) (HK.out.2.2 hh.2))
    have hr3 : (R3.2 != 0) = true := by simp [HE.out.2]
    have ht41 : (t == 41) = false := by rw [beq_eq_false_iff_ne]; omega
    have ht16 : (t == 16) = false := by rw [beq_eq_false_iff_ne]; omega
    have htn : (t != 16) = true := by simp [k4]
    clear k1 k2 k3 k4 k5 hh
    go_wp2_with (first
      | (go_at_call 25
         (try rw [HWR.out.1])
         (with_reducible refine (read_any S a ((b : Int) + 1) t w10 (by omega) HT.out).mono ?_)
         rintro e w12 ⟨A12, cap12, rfl, hs12, hf12, hr12⟩
         rw [← HR.out.1]
         rw [HE.out.1]
         have H12 := Lib.hid (H10.out.quiet hf12)
         clear hs12 hf12 hr12
         unfold Dt.cells)
      | (refine wpList_store_part rfl 30 _ _ rfl w12.heap.size 0 (by rfl) _ (by rfl) 30 _ (Blk.new _ _ _) (by kernel_rfl) (by simp [Value.oneCell']) (by simp) (R2.1.cells (.slice A12 R2.1.texts.length cap12)) (by rfl) ?_
         intro w13 b13 f13
         have H13 := Lib.hid (H12.out.quiet (((Fr.refl (fun _ => False) w12).alloc _).new f13 (fun i hi => by subst hi; exact Nat.le_refl _)))
         clear b13 f13)
      | (go_at_call 31
         (with_reducible refine (dknown_any t HT.out _).mono ?_)
         rintro e w14 ⟨rfl, f14⟩
         rw [HK3.out]
         have H14 := Lib.hid (H13.out.quiet f14)
         clear f14)
      | (go_at_call 25
         (try rw [HWR.out.2])
         (with_reducible refine (read_any S a ((b : Int) - 1) t w14 (by omega) HT.out).mono ?_)
         rintro e w16 ⟨A16, cap16, rfl, hs16, hf16, hr16⟩
         rw [← HR.out.2]
         have H16 := Lib.hid (H14.out.quiet hf16)
         clear hs16 hf16 hr16
         unfold Dt.cells)
      | (refine wpList_store_part rfl 30 _ _ rfl w16.heap.size 0 (by rfl) _ (by rfl) 30 _ (Blk.new _ _ _) (by kernel_rfl) (by simp [Value.oneCell']) (by simp) (R3.1.cells (.slice A16 R3.1.texts.length cap16)) (by rfl) ?_
         intro w17 b17 f17
         have H15 := Lib.hid (H16.out.quiet (((Fr.refl (fun _ => False) w16).alloc _).new f17 (fun i hi => by subst hi; exact Nat.le_refl _)))
         clear b17 f17))
    go_ret
    exact ⟨rfl, (HFIN.out.then H15.out.fr).below (fun _ h => h.elim) (Nat.le_refl _)⟩
end Go.Proofs.Ytaloihnmefbbaaa
