/-
  THE WALK OF 'OctetsPatches' (chapter 3).
-/
import Derived.Test.YtbemackcdccpaaaNil3
namespace Go.Proofs.Ytbemackcdccpaaa
open Go.RowKit

theorem numOf_octs (v n : Nat) (h : v < 256 ^ n) : ∀ a : Nat, (octs v n).foldl (fun v b => v * 256 + b.toNat) a = a * 256 ^ n + v := by
  have key : ∀ (n v a : Nat), (octs v n).foldl (fun v b => v * 256 + b.toNat) a = a * 256 ^ n + v % 256 ^ n := by
    intro n
    induction n with
    | zero => intro v a; simp [octs, Nat.mod_one]
    | succ n ih =>
      intro v a
      rw [octs, List.foldl_cons, ih]
      have e1 : (UInt8.ofNat (v / 256 ^ n)).toNat = v / 256 ^ n % 256 := by simp
      rw [e1, Nat.pow_succ, Nat.mod_mul, Nat.add_mul, Nat.mul_assoc, Nat.mul_comm 256, Nat.add_assoc, Nat.mul_comm (v / 256 ^ n % 256), Nat.add_comm (256 ^ n * _)]
  intro a
  rw [key, Nat.mod_eq_of_lt h]

/-- What a patch has turned. -/
structure Patched (s T : ByteArray) (k N u : Nat) : Prop where
  size : T.size = s.size
  pre : T.extract 0 k = s.extract 0 k
  num : numOf (T.extract k (k + N)).data.toList = u
  post : T.extract (k + N) T.size = s.extract (k + N) s.size

theorem str_self (s : ByteArray) : (⟨s.data.toList.toArray⟩ : ByteArray) = s := by
  apply ByteArray.ext
  simp

theorem patched (s : ByteArray) (k N u : Nat) (hk : k + N ≤ s.size) (hu : u < 256 ^ N) :
    Patched s ⟨(s.data.toList.take k ++ (octs u N ++ s.data.toList.drop (k + N))).toArray⟩ k N u := by
  have hl : s.data.toList.length = s.size := by simp
  have hz : (⟨(s.data.toList.take k ++ (octs u N ++ s.data.toList.drop (k + N))).toArray⟩ : ByteArray).size = s.size := by
    show (List.toArray _).size = _
    simp [octs_length]
    omega
  have hs : s.extract 0 k = (⟨s.data.toList.toArray⟩ : ByteArray).extract 0 k := by rw [str_self]
  have hs2 : s.extract (k + N) s.size = (⟨s.data.toList.toArray⟩ : ByteArray).extract (k + N) s.size := by rw [str_self]
  refine ⟨hz, ?_, ?_, ?_⟩
  · rw [hs, str_sub, str_sub]
    congr 2
    rw [List.drop_zero, List.drop_zero, Nat.sub_zero, List.take_append_of_le_length (by simp; omega), List.take_take, Nat.min_self]
  · rw [str_sub]
    have e : ((s.data.toList.take k ++ (octs u N ++ s.data.toList.drop (k + N))).drop k).take (k + N - k) = octs u N := by
      rw [List.drop_append_of_le_length (by simp; omega), List.drop_take, Nat.sub_self, List.take_zero, List.nil_append, Nat.add_sub_cancel_left, List.take_append_of_le_length (by rw [octs_length]; exact Nat.le_refl _), List.take_of_length_le (by rw [octs_length]; exact Nat.le_refl _)]
    rw [e]
    have := numOf_octs u N hu 0
    simpa [numOf] using this
  · rw [hz, hs2, str_sub, str_sub]
    congr 2
    rw [← List.append_assoc, List.drop_append_of_le_length (by simp [octs_length]; omega), List.drop_of_length_le (by simp [octs_length]; omega), List.nil_append]

theorem put_new (s : ByteArray) (hs : s.size ≤ 200) : (Wst.mk [] (max 0 200) 0).put s.data.toList = (⟨s.data.toList, 200, 0⟩, 0) := by
  have hl : s.data.toList.length = s.size := by simp
  unfold Wst.put
  rw [if_neg (by simp), if_neg (by dsimp only; rw [hl]; simp; omega)]
  rfl
theorem patch_new (l : List UInt8) (k N u : Nat) (hf : fitsB u N = true) (hk : k + N ≤ l.length) : (Wst.mk l 200 0).patch k u N = (⟨l.take k ++ (octs u N ++ l.drop (k + N)), 200, 0⟩, 0) := by
  unfold Wst.patch
  rw [if_neg (by simp), if_pos ⟨hf, by omega, by dsimp only; omega⟩]
  rfl
theorem patch_bad (l : List UInt8) (a u n : Int) (h : a < 0 ∨ (l.length : Int) - n < a) : (Wst.mk l 200 0).patch a u n = (⟨l, 200, 0⟩, 2) := by
  unfold Wst.patch
  rw [if_neg (by simp), if_neg (by dsimp only; omega)]

set_option maxRecDepth 100000 in
set_option maxHeartbeats 4000000 in
theorem octetsPatches_1n (s : ByteArray) (at_ v n : Int) (w : World) (hs : s.size ≤ 200) (b1 : -9223372036854775808 ≤ at_) (b1' : at_ ≤ 9223372036854775807) (b2 : 0 ≤ v) (b2' : v ≤ 4294967295) (hc : pick n 4 = 0)
    (ha : at_ < 0) :
    Calls Try.prog 6 #[.string s, .int .i64 at_, .int .u32 v, .int .i64 n] w fun e w' => e = .returned (.bool true) ∧ Below w.heap.size w w' := by
  have HC := Lib.hid hc
  clear hc
  have hl : s.data.toList.length = s.size := by simp
  have HLN := Lib.hid hl
  clear hl
  have hu : 0 ≤ v % 256 ∧ v % 256 < 256 := by omega
  obtain ⟨u0, u1⟩ := hu
  go_enter Try.func6, Try.ntmps6
  go_wp2_with fail
  refine (lives3_any _).mono ?_
  rintro e w1 ⟨rfl, hb1⟩
  have HB := Lib.hid hb1
  clear hb1
  go_wp2_with fail
  refine (pick_any n 4 _ (by decide) (by decide)).mono ?_
  rintro e w' ⟨rfl, rfl⟩
  rw [HC.out]
  go_wp2_with fail
  refine (newWriter_c 200 (by decide) _).mono ?_
  rintro e w2 ⟨q, F, rfl, h2, f2, b2q⟩
  have H2 : Hid (Wr w2 q F ⟨[], max 0 200, 0⟩ ∧ (∀ k, F k → w.heap.size ≤ k) ∧ Below w.heap.size w w2) := ⟨h2, fun k hk => Nat.le_trans HB.out.size (b2q k hk), HB.out.trans (f2.below (fun _ h => h.elim) HB.out.size)⟩
  clear h2 f2 b2q
  go_wp2_with fail
  refine (put_any q F _ s _ H2.out.1 (by simp; omega)).mono ?_
  rintro e w3 ⟨rfl, G, h3, f3, s3⟩
  rw [put_new s hs] at h3
  simp only [put_new s hs]
  have H3 : Hid (Wr w3 q G ⟨s.data.toList, 200, 0⟩ ∧ (∀ k, G k → w.heap.size ≤ k) ∧ Below w.heap.size w w3) :=
    ⟨h3, fun k hk => (s3 k hk).elim (H2.out.2.1 k) fun h => Nat.le_trans H2.out.2.2.size h, H2.out.2.2.trans (f3.below H2.out.2.1 H2.out.2.2.size)⟩
  clear h3 f3 s3 H2
  go_wp2_with fail
  refine (patch_any q G _ at_ (v % 256) 1 _ H3.out.1 u0 (by omega) b1' b1 (by rw [HLN.out]; omega)).mono ?_
  rintro e w4 ⟨rfl, F', h4, f4, s4⟩
  have e4 := patch_bad s.data.toList at_ (v % 256) 1 (by rw [HLN.out]; omega)
  rw [e4] at h4
  simp only [e4]
  have H4 : Hid (Wr w4 q F' ⟨s.data.toList, 200, 0⟩ ∧ Below w.heap.size w w4) := ⟨h4, H3.out.2.2.trans (f4.below H3.out.2.1 H3.out.2.2.size)⟩
  clear h4 f4 s4 e4
  go_wp2_with fail
  refine (text_any q F' _ _ H4.out.1).mono ?_
  rintro e w' ⟨rfl, rfl⟩
  rw [str_self]
  go_wp2_with fail
  go_ret
  exact ⟨rfl, H4.out.2⟩

set_option maxRecDepth 100000 in
set_option maxHeartbeats 4000000 in
theorem octetsPatches_1l (s : ByteArray) (at_ v n : Int) (w : World) (hs : s.size ≤ 200) (b1 : -9223372036854775808 ≤ at_) (b1' : at_ ≤ 9223372036854775807) (b2 : 0 ≤ v) (b2' : v ≤ 4294967295) (hc : pick n 4 = 0)
    (ha0 : 0 ≤ at_) (ha : (s.size : Int) - 1 < at_) :
    Calls Try.prog 6 #[.string s, .int .i64 at_, .int .u32 v, .int .i64 n] w fun e w' => e = .returned (.bool true) ∧ Below w.heap.size w w' := by
  have HC := Lib.hid hc
  clear hc
  have hl : s.data.toList.length = s.size := by simp
  have HLN := Lib.hid hl
  clear hl
  have hu : 0 ≤ v % 256 ∧ v % 256 < 256 := by omega
  obtain ⟨u0, u1⟩ := hu
  go_enter Try.func6, Try.ntmps6
  go_wp2_with fail
  refine (lives3_any _).mono ?_
  rintro e w1 ⟨rfl, hb1⟩
  have HB := Lib.hid hb1
  clear hb1
  go_wp2_with fail
  refine (pick_any n 4 _ (by decide) (by decide)).mono ?_
  rintro e w' ⟨rfl, rfl⟩
  rw [HC.out]
  go_wp2_with fail
  refine (newWriter_c 200 (by decide) _).mono ?_
  rintro e w2 ⟨q, F, rfl, h2, f2, b2q⟩
  have H2 : Hid (Wr w2 q F ⟨[], max 0 200, 0⟩ ∧ (∀ k, F k → w.heap.size ≤ k) ∧ Below w.heap.size w w2) := ⟨h2, fun k hk => Nat.le_trans HB.out.size (b2q k hk), HB.out.trans (f2.below (fun _ h => h.elim) HB.out.size)⟩
  clear h2 f2 b2q
  go_wp2_with fail
  refine (put_any q F _ s _ H2.out.1 (by simp; omega)).mono ?_
  rintro e w3 ⟨rfl, G, h3, f3, s3⟩
  rw [put_new s hs] at h3
  simp only [put_new s hs]
  have H3 : Hid (Wr w3 q G ⟨s.data.toList, 200, 0⟩ ∧ (∀ k, G k → w.heap.size ≤ k) ∧ Below w.heap.size w w3) :=
    ⟨h3, fun k hk => (s3 k hk).elim (H2.out.2.1 k) fun h => Nat.le_trans H2.out.2.2.size h, H2.out.2.2.trans (f3.below H2.out.2.1 H2.out.2.2.size)⟩
  clear h3 f3 s3 H2
  go_wp2_with fail
  refine (patch_any q G _ at_ (v % 256) 1 _ H3.out.1 u0 (by omega) b1' b1 (by rw [HLN.out]; omega)).mono ?_
  rintro e w4 ⟨rfl, F', h4, f4, s4⟩
  have e4 := patch_bad s.data.toList at_ (v % 256) 1 (by rw [HLN.out]; omega)
  rw [e4] at h4
  simp only [e4]
  have H4 : Hid (Wr w4 q F' ⟨s.data.toList, 200, 0⟩ ∧ Below w.heap.size w w4) := ⟨h4, H3.out.2.2.trans (f4.below H3.out.2.1 H3.out.2.2.size)⟩
  clear h4 f4 s4 e4
  go_wp2_with fail
  refine (text_any q F' _ _ H4.out.1).mono ?_
  rintro e w' ⟨rfl, rfl⟩
  rw [str_self]
  go_wp2_with fail
  go_ret
  exact ⟨rfl, H4.out.2⟩

set_option maxRecDepth 100000 in
set_option maxHeartbeats 4000000 in
theorem octetsPatches_1y (s : ByteArray) (at_ v n : Int) (w : World) (hs : s.size ≤ 200) (b1 : -9223372036854775808 ≤ at_) (b1' : at_ ≤ 9223372036854775807) (b2 : 0 ≤ v) (b2' : v ≤ 4294967295) (hc : pick n 4 = 0)
    (ha0 : 0 ≤ at_) (ha : at_ ≤ (s.size : Int) - 1) :
    Calls Try.prog 6 #[.string s, .int .i64 at_, .int .u32 v, .int .i64 n] w fun e w' => e = .returned (.bool true) ∧ Below w.heap.size w w' := by
  have HC := Lib.hid hc
  clear hc
  have hl : s.data.toList.length = s.size := by simp
  have HLN := Lib.hid hl
  clear hl
  have hu : 0 ≤ v % 256 ∧ v % 256 < 256 := by omega
  obtain ⟨u0, u1⟩ := hu
  go_enter Try.func6, Try.ntmps6
  go_wp2_with fail
  refine (lives3_any _).mono ?_
  rintro e w1 ⟨rfl, hb1⟩
  have HB := Lib.hid hb1
  clear hb1
  go_wp2_with fail
  refine (pick_any n 4 _ (by decide) (by decide)).mono ?_
  rintro e w' ⟨rfl, rfl⟩
  rw [HC.out]
  go_wp2_with fail
  refine (newWriter_c 200 (by decide) _).mono ?_
  rintro e w2 ⟨q, F, rfl, h2, f2, b2q⟩
  have H2 : Hid (Wr w2 q F ⟨[], max 0 200, 0⟩ ∧ (∀ k, F k → w.heap.size ≤ k) ∧ Below w.heap.size w w2) := ⟨h2, fun k hk => Nat.le_trans HB.out.size (b2q k hk), HB.out.trans (f2.below (fun _ h => h.elim) HB.out.size)⟩
  clear h2 f2 b2q
  go_wp2_with fail
  refine (put_any q F _ s _ H2.out.1 (by simp; omega)).mono ?_
  rintro e w3 ⟨rfl, G, h3, f3, s3⟩
  rw [put_new s hs] at h3
  simp only [put_new s hs]
  have H3 : Hid (Wr w3 q G ⟨s.data.toList, 200, 0⟩ ∧ (∀ k, G k → w.heap.size ≤ k) ∧ Below w.heap.size w w3) :=
    ⟨h3, fun k hk => (s3 k hk).elim (H2.out.2.1 k) fun h => Nat.le_trans H2.out.2.2.size h, H2.out.2.2.trans (f3.below H2.out.2.1 H2.out.2.2.size)⟩
  clear h3 f3 s3 H2
  go_wp2_with fail
  obtain ⟨k, rfl⟩ := Int.eq_ofNat_of_zero_le ha0
  obtain ⟨u, hu⟩ := Int.eq_ofNat_of_zero_le u0
  have HU := Lib.hid hu
  rw [hu] at u0 u1 ⊢
  clear hu
  refine (patch_any q G _ k u 1 _ H3.out.1 u0 (by omega) b1' b1 (by rw [HLN.out]; omega)).mono ?_
  rintro e w4 ⟨rfl, F', h4, f4, s4⟩
  have e4 : (Wst.mk s.data.toList 200 0).patch (k : Int) u 1 = _ := patch_new s.data.toList k 1 u (by simp [fitsB]; omega) (by rw [HLN.out]; omega)
  rw [e4] at h4
  simp only [e4]
  have H4 : Hid (Wr w4 q F' ⟨s.data.toList.take k ++ (octs u 1 ++ s.data.toList.drop (k + 1)), 200, 0⟩ ∧ Below w.heap.size w w4) := ⟨h4, H3.out.2.2.trans (f4.below H3.out.2.1 H3.out.2.2.size)⟩
  clear h4 f4 s4 e4
  go_wp2_with fail
  refine (text_any q F' _ _ H4.out.1).mono ?_
  rintro e w' ⟨rfl, rfl⟩
  have hP := Lib.hid (patched s k 1 u (by omega) (by omega))
  generalize (⟨(s.data.toList.take k ++ (octs u 1 ++ s.data.toList.drop (k + 1))).toArray⟩ : ByteArray) = T at *
  have hT : T.size ≤ 200 := by rw [hP.out.size]; exact hs
  clear u0 u1
  go_wp2_with fail
  refine (newReader_c T (by omega) _).mono ?_
  rintro e w5 ⟨p, rfl, h5, f5, b5⟩
  have H5 : Hid (Rd w5 p ⟨T, 0⟩ ∧ w.heap.size ≤ p ∧ Below w.heap.size w w5) := ⟨h5, Nat.le_trans H4.out.2.size b5, H4.out.2.trans (f5.below (fun _ h => h.elim) H4.out.2.size)⟩
  clear h5 f5 b5
  go_wp2_with fail
  refine (take_any p _ k _ H5.out.1).mono ?_
  rintro e w6 ⟨rfl, h6, f6⟩
  have e6 : (Rst.mk T 0).take k = (⟨T, k⟩, s.extract 0 k, 0) := by
    unfold Rst.take
    rw [if_neg (by omega), if_neg (by dsimp only; rw [hP.out.size]; omega)]
    simp [hP.out.pre]
  rw [e6] at h6
  simp only [e6]
  have H6 : Hid (Rd w6 p ⟨T, k⟩ ∧ Below w.heap.size w w6) := ⟨h6, H5.out.2.2.trans (f6.below (fun i hi => by have := H5.out.2.1; omega) H5.out.2.2.size)⟩
  clear h6 f6 e6
  go_wp2_with fail
  refine (rdnumber_any p _ 1 _ H6.out.1).mono ?_
  rintro e w7 ⟨rfl, h7, f7⟩
  have e7 : (Rst.mk T k).number 1 = (⟨T, k + 1⟩, (u : Int), 0) := by
    have et : (Rst.mk T k).take 1 = (⟨T, k + 1⟩, T.extract k (k + 1), 0) := by
      unfold Rst.take
      rw [if_neg (by omega), if_neg (by dsimp only; rw [hP.out.size]; omega)]
      rfl
    unfold Rst.number
    rw [if_neg (by omega), et]
    simp only [hP.out.num]
  rw [e7] at h7
  simp only [e7]
  have H7 : Hid (Rd w7 p ⟨T, k + 1⟩ ∧ Below w.heap.size w w7) := ⟨h7, H6.out.2.trans (f7.below (fun i hi => by have := H5.out.2.1; omega) H6.out.2.size)⟩
  clear h7 f7 e7
  go_wp2_with fail
  refine (take_any p _ _ _ H7.out.1).mono ?_
  rintro e w8 ⟨rfl, h8, f8⟩
  have e8 : (Rst.mk T (k + 1)).take ((s.size : Int) - k - 1) = (⟨T, T.size⟩, s.extract (k + 1) s.size, 0) := by
    unfold Rst.take
    rw [if_neg (by omega), if_neg (by dsimp only; rw [hP.out.size]; omega)]
    have ez : k + 1 + ((s.size : Int) - k - 1).toNat = T.size := by rw [hP.out.size]; omega
    dsimp only
    rw [ez, hP.out.post]
  rw [e8] at h8
  simp only [e8]
  have H8 : Hid (Rd w8 p ⟨T, T.size⟩ ∧ Below w.heap.size w w8) := ⟨h8, H7.out.2.trans (f8.below (fun i hi => by have := H5.out.2.1; omega) H7.out.2.size)⟩
  clear h8 f8 e8
  have k3 : k + 1 ≤ s.size := by omega
  have k4 : (k : Int) + 1 ≤ s.size := by omega
  go_wp2_with fail
  refine (left_any p _ _ H8.out.1).mono ?_
  rintro e w' ⟨rfl, nq, rfl⟩
  go_wp2_with fail
  go_ret
  exact ⟨rfl, H8.out.2.drewN' _⟩

set_option maxRecDepth 100000 in
set_option maxHeartbeats 4000000 in
theorem octetsPatches_2n (s : ByteArray) (at_ v n : Int) (w : World) (hs : s.size ≤ 200) (b1 : -9223372036854775808 ≤ at_) (b1' : at_ ≤ 9223372036854775807) (b2 : 0 ≤ v) (b2' : v ≤ 4294967295) (hc : pick n 4 = 1)
    (ha : at_ < 0) :
    Calls Try.prog 6 #[.string s, .int .i64 at_, .int .u32 v, .int .i64 n] w fun e w' => e = .returned (.bool true) ∧ Below w.heap.size w w' := by
  have HC := Lib.hid hc
  clear hc
  have hl : s.data.toList.length = s.size := by simp
  have HLN := Lib.hid hl
  clear hl
  have hu : 0 ≤ v % 65536 ∧ v % 65536 < 65536 := by omega
  obtain ⟨u0, u1⟩ := hu
  go_enter Try.func6, Try.ntmps6
  go_wp2_with fail
  refine (lives3_any _).mono ?_
  rintro e w1 ⟨rfl, hb1⟩
  have HB := Lib.hid hb1
  clear hb1
  go_wp2_with fail
  refine (pick_any n 4 _ (by decide) (by decide)).mono ?_
  rintro e w' ⟨rfl, rfl⟩
  rw [HC.out]
  go_wp2_with fail
  refine (newWriter_c 200 (by decide) _).mono ?_
  rintro e w2 ⟨q, F, rfl, h2, f2, b2q⟩
  have H2 : Hid (Wr w2 q F ⟨[], max 0 200, 0⟩ ∧ (∀ k, F k → w.heap.size ≤ k) ∧ Below w.heap.size w w2) := ⟨h2, fun k hk => Nat.le_trans HB.out.size (b2q k hk), HB.out.trans (f2.below (fun _ h => h.elim) HB.out.size)⟩
  clear h2 f2 b2q
  go_wp2_with fail
  refine (put_any q F _ s _ H2.out.1 (by simp; omega)).mono ?_
  rintro e w3 ⟨rfl, G, h3, f3, s3⟩
  rw [put_new s hs] at h3
  simp only [put_new s hs]
  have H3 : Hid (Wr w3 q G ⟨s.data.toList, 200, 0⟩ ∧ (∀ k, G k → w.heap.size ≤ k) ∧ Below w.heap.size w w3) :=
    ⟨h3, fun k hk => (s3 k hk).elim (H2.out.2.1 k) fun h => Nat.le_trans H2.out.2.2.size h, H2.out.2.2.trans (f3.below H2.out.2.1 H2.out.2.2.size)⟩
  clear h3 f3 s3 H2
  go_wp2_with fail
  refine (patch_any q G _ at_ (v % 65536) 2 _ H3.out.1 u0 (by omega) b1' b1 (by rw [HLN.out]; omega)).mono ?_
  rintro e w4 ⟨rfl, F', h4, f4, s4⟩
  have e4 := patch_bad s.data.toList at_ (v % 65536) 2 (by rw [HLN.out]; omega)
  rw [e4] at h4
  simp only [e4]
  have H4 : Hid (Wr w4 q F' ⟨s.data.toList, 200, 0⟩ ∧ Below w.heap.size w w4) := ⟨h4, H3.out.2.2.trans (f4.below H3.out.2.1 H3.out.2.2.size)⟩
  clear h4 f4 s4 e4
  go_wp2_with fail
  refine (text_any q F' _ _ H4.out.1).mono ?_
  rintro e w' ⟨rfl, rfl⟩
  rw [str_self]
  go_wp2_with fail
  go_ret
  exact ⟨rfl, H4.out.2⟩

set_option maxRecDepth 100000 in
set_option maxHeartbeats 4000000 in
theorem octetsPatches_2l (s : ByteArray) (at_ v n : Int) (w : World) (hs : s.size ≤ 200) (b1 : -9223372036854775808 ≤ at_) (b1' : at_ ≤ 9223372036854775807) (b2 : 0 ≤ v) (b2' : v ≤ 4294967295) (hc : pick n 4 = 1)
    (ha0 : 0 ≤ at_) (ha : (s.size : Int) - 2 < at_) :
    Calls Try.prog 6 #[.string s, .int .i64 at_, .int .u32 v, .int .i64 n] w fun e w' => e = .returned (.bool true) ∧ Below w.heap.size w w' := by
  have HC := Lib.hid hc
  clear hc
  have hl : s.data.toList.length = s.size := by simp
  have HLN := Lib.hid hl
  clear hl
  have hu : 0 ≤ v % 65536 ∧ v % 65536 < 65536 := by omega
  obtain ⟨u0, u1⟩ := hu
  go_enter Try.func6, Try.ntmps6
  go_wp2_with fail
  refine (lives3_any _).mono ?_
  rintro e w1 ⟨rfl, hb1⟩
  have HB := Lib.hid hb1
  clear hb1
  go_wp2_with fail
  refine (pick_any n 4 _ (by decide) (by decide)).mono ?_
  rintro e w' ⟨rfl, rfl⟩
  rw [HC.out]
  go_wp2_with fail
  refine (newWriter_c 200 (by decide) _).mono ?_
  rintro e w2 ⟨q, F, rfl, h2, f2, b2q⟩
  have H2 : Hid (Wr w2 q F ⟨[], max 0 200, 0⟩ ∧ (∀ k, F k → w.heap.size ≤ k) ∧ Below w.heap.size w w2) := ⟨h2, fun k hk => Nat.le_trans HB.out.size (b2q k hk), HB.out.trans (f2.below (fun _ h => h.elim) HB.out.size)⟩
  clear h2 f2 b2q
  go_wp2_with fail
  refine (put_any q F _ s _ H2.out.1 (by simp; omega)).mono ?_
  rintro e w3 ⟨rfl, G, h3, f3, s3⟩
  rw [put_new s hs] at h3
  simp only [put_new s hs]
  have H3 : Hid (Wr w3 q G ⟨s.data.toList, 200, 0⟩ ∧ (∀ k, G k → w.heap.size ≤ k) ∧ Below w.heap.size w w3) :=
    ⟨h3, fun k hk => (s3 k hk).elim (H2.out.2.1 k) fun h => Nat.le_trans H2.out.2.2.size h, H2.out.2.2.trans (f3.below H2.out.2.1 H2.out.2.2.size)⟩
  clear h3 f3 s3 H2
  go_wp2_with fail
  refine (patch_any q G _ at_ (v % 65536) 2 _ H3.out.1 u0 (by omega) b1' b1 (by rw [HLN.out]; omega)).mono ?_
  rintro e w4 ⟨rfl, F', h4, f4, s4⟩
  have e4 := patch_bad s.data.toList at_ (v % 65536) 2 (by rw [HLN.out]; omega)
  rw [e4] at h4
  simp only [e4]
  have H4 : Hid (Wr w4 q F' ⟨s.data.toList, 200, 0⟩ ∧ Below w.heap.size w w4) := ⟨h4, H3.out.2.2.trans (f4.below H3.out.2.1 H3.out.2.2.size)⟩
  clear h4 f4 s4 e4
  go_wp2_with fail
  refine (text_any q F' _ _ H4.out.1).mono ?_
  rintro e w' ⟨rfl, rfl⟩
  rw [str_self]
  go_wp2_with fail
  go_ret
  exact ⟨rfl, H4.out.2⟩

set_option maxRecDepth 100000 in
set_option maxHeartbeats 4000000 in
theorem octetsPatches_2y (s : ByteArray) (at_ v n : Int) (w : World) (hs : s.size ≤ 200) (b1 : -9223372036854775808 ≤ at_) (b1' : at_ ≤ 9223372036854775807) (b2 : 0 ≤ v) (b2' : v ≤ 4294967295) (hc : pick n 4 = 1)
    (ha0 : 0 ≤ at_) (ha : at_ ≤ (s.size : Int) - 2) :
    Calls Try.prog 6 #[.string s, .int .i64 at_, .int .u32 v, .int .i64 n] w fun e w' => e = .returned (.bool true) ∧ Below w.heap.size w w' := by
  have HC := Lib.hid hc
  clear hc
  have hl : s.data.toList.length = s.size := by simp
  have HLN := Lib.hid hl
  clear hl
  have hu : 0 ≤ v % 65536 ∧ v % 65536 < 65536 := by omega
  obtain ⟨u0, u1⟩ := hu
  go_enter Try.func6, Try.ntmps6
  go_wp2_with fail
  refine (lives3_any _).mono ?_
  rintro e w1 ⟨rfl, hb1⟩
  have HB := Lib.hid hb1
  clear hb1
  go_wp2_with fail
  refine (pick_any n 4 _ (by decide) (by decide)).mono ?_
  rintro e w' ⟨rfl, rfl⟩
  rw [HC.out]
  go_wp2_with fail
  refine (newWriter_c 200 (by decide) _).mono ?_
  rintro e w2 ⟨q, F, rfl, h2, f2, b2q⟩
  have H2 : Hid (Wr w2 q F ⟨[], max 0 200, 0⟩ ∧ (∀ k, F k → w.heap.size ≤ k) ∧ Below w.heap.size w w2) := ⟨h2, fun k hk => Nat.le_trans HB.out.size (b2q k hk), HB.out.trans (f2.below (fun _ h => h.elim) HB.out.size)⟩
  clear h2 f2 b2q
  go_wp2_with fail
  refine (put_any q F _ s _ H2.out.1 (by simp; omega)).mono ?_
  rintro e w3 ⟨rfl, G, h3, f3, s3⟩
  rw [put_new s hs] at h3
  simp only [put_new s hs]
  have H3 : Hid (Wr w3 q G ⟨s.data.toList, 200, 0⟩ ∧ (∀ k, G k → w.heap.size ≤ k) ∧ Below w.heap.size w w3) :=
    ⟨h3, fun k hk => (s3 k hk).elim (H2.out.2.1 k) fun h => Nat.le_trans H2.out.2.2.size h, H2.out.2.2.trans (f3.below H2.out.2.1 H2.out.2.2.size)⟩
  clear h3 f3 s3 H2
  go_wp2_with fail
  obtain ⟨k, rfl⟩ := Int.eq_ofNat_of_zero_le ha0
  obtain ⟨u, hu⟩ := Int.eq_ofNat_of_zero_le u0
  have HU := Lib.hid hu
  rw [hu] at u0 u1 ⊢
  clear hu
  refine (patch_any q G _ k u 2 _ H3.out.1 u0 (by omega) b1' b1 (by rw [HLN.out]; omega)).mono ?_
  rintro e w4 ⟨rfl, F', h4, f4, s4⟩
  have e4 : (Wst.mk s.data.toList 200 0).patch (k : Int) u 2 = _ := patch_new s.data.toList k 2 u (by simp [fitsB]; omega) (by rw [HLN.out]; omega)
  rw [e4] at h4
  simp only [e4]
  have H4 : Hid (Wr w4 q F' ⟨s.data.toList.take k ++ (octs u 2 ++ s.data.toList.drop (k + 2)), 200, 0⟩ ∧ Below w.heap.size w w4) := ⟨h4, H3.out.2.2.trans (f4.below H3.out.2.1 H3.out.2.2.size)⟩
  clear h4 f4 s4 e4
  go_wp2_with fail
  refine (text_any q F' _ _ H4.out.1).mono ?_
  rintro e w' ⟨rfl, rfl⟩
  have hP := Lib.hid (patched s k 2 u (by omega) (by omega))
  generalize (⟨(s.data.toList.take k ++ (octs u 2 ++ s.data.toList.drop (k + 2))).toArray⟩ : ByteArray) = T at *
  have hT : T.size ≤ 200 := by rw [hP.out.size]; exact hs
  clear u0 u1
  go_wp2_with fail
  refine (newReader_c T (by omega) _).mono ?_
  rintro e w5 ⟨p, rfl, h5, f5, b5⟩
  have H5 : Hid (Rd w5 p ⟨T, 0⟩ ∧ w.heap.size ≤ p ∧ Below w.heap.size w w5) := ⟨h5, Nat.le_trans H4.out.2.size b5, H4.out.2.trans (f5.below (fun _ h => h.elim) H4.out.2.size)⟩
  clear h5 f5 b5
  go_wp2_with fail
  refine (take_any p _ k _ H5.out.1).mono ?_
  rintro e w6 ⟨rfl, h6, f6⟩
  have e6 : (Rst.mk T 0).take k = (⟨T, k⟩, s.extract 0 k, 0) := by
    unfold Rst.take
    rw [if_neg (by omega), if_neg (by dsimp only; rw [hP.out.size]; omega)]
    simp [hP.out.pre]
  rw [e6] at h6
  simp only [e6]
  have H6 : Hid (Rd w6 p ⟨T, k⟩ ∧ Below w.heap.size w w6) := ⟨h6, H5.out.2.2.trans (f6.below (fun i hi => by have := H5.out.2.1; omega) H5.out.2.2.size)⟩
  clear h6 f6 e6
  go_wp2_with fail
  refine (rdnumber_any p _ 2 _ H6.out.1).mono ?_
  rintro e w7 ⟨rfl, h7, f7⟩
  have e7 : (Rst.mk T k).number 2 = (⟨T, k + 2⟩, (u : Int), 0) := by
    have et : (Rst.mk T k).take 2 = (⟨T, k + 2⟩, T.extract k (k + 2), 0) := by
      unfold Rst.take
      rw [if_neg (by omega), if_neg (by dsimp only; rw [hP.out.size]; omega)]
      rfl
    unfold Rst.number
    rw [if_neg (by omega), et]
    simp only [hP.out.num]
  rw [e7] at h7
  simp only [e7]
  have H7 : Hid (Rd w7 p ⟨T, k + 2⟩ ∧ Below w.heap.size w w7) := ⟨h7, H6.out.2.trans (f7.below (fun i hi => by have := H5.out.2.1; omega) H6.out.2.size)⟩
  clear h7 f7 e7
  go_wp2_with fail
  refine (take_any p _ _ _ H7.out.1).mono ?_
  rintro e w8 ⟨rfl, h8, f8⟩
  have e8 : (Rst.mk T (k + 2)).take ((s.size : Int) - k - 2) = (⟨T, T.size⟩, s.extract (k + 2) s.size, 0) := by
    unfold Rst.take
    rw [if_neg (by omega), if_neg (by dsimp only; rw [hP.out.size]; omega)]
    have ez : k + 2 + ((s.size : Int) - k - 2).toNat = T.size := by rw [hP.out.size]; omega
    dsimp only
    rw [ez, hP.out.post]
  rw [e8] at h8
  simp only [e8]
  have H8 : Hid (Rd w8 p ⟨T, T.size⟩ ∧ Below w.heap.size w w8) := ⟨h8, H7.out.2.trans (f8.below (fun i hi => by have := H5.out.2.1; omega) H7.out.2.size)⟩
  clear h8 f8 e8
  have k3 : k + 2 ≤ s.size := by omega
  have k4 : (k : Int) + 2 ≤ s.size := by omega
  go_wp2_with fail
  refine (left_any p _ _ H8.out.1).mono ?_
  rintro e w' ⟨rfl, nq, rfl⟩
  go_wp2_with fail
  go_ret
  exact ⟨rfl, H8.out.2.drewN' _⟩

set_option maxRecDepth 100000 in
set_option maxHeartbeats 4000000 in
theorem octetsPatches_3n (s : ByteArray) (at_ v n : Int) (w : World) (hs : s.size ≤ 200) (b1 : -9223372036854775808 ≤ at_) (b1' : at_ ≤ 9223372036854775807) (b2 : 0 ≤ v) (b2' : v ≤ 4294967295) (hc : pick n 4 = 2)
    (ha : at_ < 0) :
    Calls Try.prog 6 #[.string s, .int .i64 at_, .int .u32 v, .int .i64 n] w fun e w' => e = .returned (.bool true) ∧ Below w.heap.size w w' := by
  have HC := Lib.hid hc
  clear hc
  have hl : s.data.toList.length = s.size := by simp
  have HLN := Lib.hid hl
  clear hl
  have hu : 0 ≤ v % 16777216 ∧ v % 16777216 < 16777216 := by omega
  obtain ⟨u0, u1⟩ := hu
  go_enter Try.func6, Try.ntmps6
  go_wp2_with fail
  refine (lives3_any _).mono ?_
  rintro e w1 ⟨rfl, hb1⟩
  have HB := Lib.hid hb1
  clear hb1
  go_wp2_with fail
  refine (pick_any n 4 _ (by decide) (by decide)).mono ?_
  rintro e w' ⟨rfl, rfl⟩
  rw [HC.out]
  go_wp2_with fail
  refine (newWriter_c 200 (by decide) _).mono ?_
  rintro e w2 ⟨q, F, rfl, h2, f2, b2q⟩
  have H2 : Hid (Wr w2 q F ⟨[], max 0 200, 0⟩ ∧ (∀ k, F k → w.heap.size ≤ k) ∧ Below w.heap.size w w2) := ⟨h2, fun k hk => Nat.le_trans HB.out.size (b2q k hk), HB.out.trans (f2.below (fun _ h => h.elim) HB.out.size)⟩
  clear h2 f2 b2q
  go_wp2_with fail
  refine (put_any q F _ s _ H2.out.1 (by simp; omega)).mono ?_
  rintro e w3 ⟨rfl, G, h3, f3, s3⟩
  rw [put_new s hs] at h3
  simp only [put_new s hs]
  have H3 : Hid (Wr w3 q G ⟨s.data.toList, 200, 0⟩ ∧ (∀ k, G k → w.heap.size ≤ k) ∧ Below w.heap.size w w3) :=
    ⟨h3, fun k hk => (s3 k hk).elim (H2.out.2.1 k) fun h => Nat.le_trans H2.out.2.2.size h, H2.out.2.2.trans (f3.below H2.out.2.1 H2.out.2.2.size)⟩
  clear h3 f3 s3 H2
  go_wp2_with fail
  refine (patch_any q G _ at_ (v % 16777216) 3 _ H3.out.1 u0 (by omega) b1' b1 (by rw [HLN.out]; omega)).mono ?_
  rintro e w4 ⟨rfl, F', h4, f4, s4⟩
  have e4 := patch_bad s.data.toList at_ (v % 16777216) 3 (by rw [HLN.out]; omega)
  rw [e4] at h4
  simp only [e4]
  have H4 : Hid (Wr w4 q F' ⟨s.data.toList, 200, 0⟩ ∧ Below w.heap.size w w4) := ⟨h4, H3.out.2.2.trans (f4.below H3.out.2.1 H3.out.2.2.size)⟩
  clear h4 f4 s4 e4
  go_wp2_with fail
  refine (text_any q F' _ _ H4.out.1).mono ?_
  rintro e w' ⟨rfl, rfl⟩
  rw [str_self]
  go_wp2_with fail
  go_ret
  exact ⟨rfl, H4.out.2⟩

set_option maxRecDepth 100000 in
set_option maxHeartbeats 4000000 in
theorem octetsPatches_3l (s : ByteArray) (at_ v n : Int) (w : World) (hs : s.size ≤ 200) (b1 : -9223372036854775808 ≤ at_) (b1' : at_ ≤ 9223372036854775807) (b2 : 0 ≤ v) (b2' : v ≤ 4294967295) (hc : pick n 4 = 2)
    (ha0 : 0 ≤ at_) (ha : (s.size : Int) - 3 < at_) :
    Calls Try.prog 6 #[.string s, .int .i64 at_, .int .u32 v, .int .i64 n] w fun e w' => e = .returned (.bool true) ∧ Below w.heap.size w w' := by
  have HC := Lib.hid hc
  clear hc
  have hl : s.data.toList.length = s.size := by simp
  have HLN := Lib.hid hl
  clear hl
  have hu : 0 ≤ v % 16777216 ∧ v % 16777216 < 16777216 := by omega
  obtain ⟨u0, u1⟩ := hu
  go_enter Try.func6, Try.ntmps6
  go_wp2_with fail
  refine (lives3_any _).mono ?_
  rintro e w1 ⟨rfl, hb1⟩
  have HB := Lib.hid hb1
  clear hb1
  go_wp2_with fail
  refine (pick_any n 4 _ (by decide) (by decide)).mono ?_
  rintro e w' ⟨rfl, rfl⟩
  rw [HC.out]
  go_wp2_with fail
  refine (newWriter_c 200 (by decide) _).mono ?_
  rintro e w2 ⟨q, F, rfl, h2, f2, b2q⟩
  have H2 : Hid (Wr w2 q F ⟨[], max 0 200, 0⟩ ∧ (∀ k, F k → w.heap.size ≤ k) ∧ Below w.heap.size w w2) := ⟨h2, fun k hk => Nat.le_trans HB.out.size (b2q k hk), HB.out.trans (f2.below (fun _ h => h.elim) HB.out.size)⟩
  clear h2 f2 b2q
  go_wp2_with fail
  refine (put_any q F _ s _ H2.out.1 (by simp; omega)).mono ?_
  rintro e w3 ⟨rfl, G, h3, f3, s3⟩
  rw [put_new s hs] at h3
  simp only [put_new s hs]
  have H3 : Hid (Wr w3 q G ⟨s.data.toList, 200, 0⟩ ∧ (∀ k, G k → w.heap.size ≤ k) ∧ Below w.heap.size w w3) :=
    ⟨h3, fun k hk => (s3 k hk).elim (H2.out.2.1 k) fun h => Nat.le_trans H2.out.2.2.size h, H2.out.2.2.trans (f3.below H2.out.2.1 H2.out.2.2.size)⟩
  clear h3 f3 s3 H2
  go_wp2_with fail
  refine (patch_any q G _ at_ (v % 16777216) 3 _ H3.out.1 u0 (by omega) b1' b1 (by rw [HLN.out]; omega)).mono ?_
  rintro e w4 ⟨rfl, F', h4, f4, s4⟩
  have e4 := patch_bad s.data.toList at_ (v % 16777216) 3 (by rw [HLN.out]; omega)
  rw [e4] at h4
  simp only [e4]
  have H4 : Hid (Wr w4 q F' ⟨s.data.toList, 200, 0⟩ ∧ Below w.heap.size w w4) := ⟨h4, H3.out.2.2.trans (f4.below H3.out.2.1 H3.out.2.2.size)⟩
  clear h4 f4 s4 e4
  go_wp2_with fail
  refine (text_any q F' _ _ H4.out.1).mono ?_
  rintro e w' ⟨rfl, rfl⟩
  rw [str_self]
  go_wp2_with fail
  go_ret
  exact ⟨rfl, H4.out.2⟩

set_option maxRecDepth 100000 in
set_option maxHeartbeats 4000000 in
theorem octetsPatches_3y (s : ByteArray) (at_ v n : Int) (w : World) (hs : s.size ≤ 200) (b1 : -9223372036854775808 ≤ at_) (b1' : at_ ≤ 9223372036854775807) (b2 : 0 ≤ v) (b2' : v ≤ 4294967295) (hc : pick n 4 = 2)
    (ha0 : 0 ≤ at_) (ha : at_ ≤ (s.size : Int) - 3) :
    Calls Try.prog 6 #[.string s, .int .i64 at_, .int .u32 v, .int .i64 n] w fun e w' => e = .returned (.bool true) ∧ Below w.heap.size w w' := by
  have HC := Lib.hid hc
  clear hc
  have hl : s.data.toList.length = s.size := by simp
  have HLN := Lib.hid hl
  clear hl
  have hu : 0 ≤ v % 16777216 ∧ v % 16777216 < 16777216 := by omega
  obtain ⟨u0, u1⟩ := hu
  go_enter Try.func6, Try.ntmps6
  go_wp2_with fail
  refine (lives3_any _).mono ?_
  rintro e w1 ⟨rfl, hb1⟩
  have HB := Lib.hid hb1
  clear hb1
  go_wp2_with fail
  refine (pick_any n 4 _ (by decide) (by decide)).mono ?_
  rintro e w' ⟨rfl, rfl⟩
  rw [HC.out]
  go_wp2_with fail
  refine (newWriter_c 200 (by decide) _).mono ?_
  rintro e w2 ⟨q, F, rfl, h2, f2, b2q⟩
  have H2 : Hid (Wr w2 q F ⟨[], max 0 200, 0⟩ ∧ (∀ k, F k → w.heap.size ≤ k) ∧ Below w.heap.size w w2) := ⟨h2, fun k hk => Nat.le_trans HB.out.size (b2q k hk), HB.out.trans (f2.below (fun _ h => h.elim) HB.out.size)⟩
  clear h2 f2 b2q
  go_wp2_with fail
  refine (put_any q F _ s _ H2.out.1 (by simp; omega)).mono ?_
  rintro e w3 ⟨rfl, G, h3, f3, s3⟩
  rw [put_new s hs] at h3
  simp only [put_new s hs]
  have H3 : Hid (Wr w3 q G ⟨s.data.toList, 200, 0⟩ ∧ (∀ k, G k → w.heap.size ≤ k) ∧ Below w.heap.size w w3) :=
    ⟨h3, fun k hk => (s3 k hk).elim (H2.out.2.1 k) fun h => Nat.le_trans H2.out.2.2.size h, H2.out.2.2.trans (f3.below H2.out.2.1 H2.out.2.2.size)⟩
  clear h3 f3 s3 H2
  go_wp2_with fail
  obtain ⟨k, rfl⟩ := Int.eq_ofNat_of_zero_le ha0
  obtain ⟨u, hu⟩ := Int.eq_ofNat_of_zero_le u0
  have HU := Lib.hid hu
  rw [hu] at u0 u1 ⊢
  clear hu
  refine (patch_any q G _ k u 3 _ H3.out.1 u0 (by omega) b1' b1 (by rw [HLN.out]; omega)).mono ?_
  rintro e w4 ⟨rfl, F', h4, f4, s4⟩
  have e4 : (Wst.mk s.data.toList 200 0).patch (k : Int) u 3 = _ := patch_new s.data.toList k 3 u (by simp [fitsB]; omega) (by rw [HLN.out]; omega)
  rw [e4] at h4
  simp only [e4]
  have H4 : Hid (Wr w4 q F' ⟨s.data.toList.take k ++ (octs u 3 ++ s.data.toList.drop (k + 3)), 200, 0⟩ ∧ Below w.heap.size w w4) := ⟨h4, H3.out.2.2.trans (f4.below H3.out.2.1 H3.out.2.2.size)⟩
  clear h4 f4 s4 e4
  go_wp2_with fail
  refine (text_any q F' _ _ H4.out.1).mono ?_
  rintro e w' ⟨rfl, rfl⟩
  have hP := Lib.hid (patched s k 3 u (by omega) (by omega))
  generalize (⟨(s.data.toList.take k ++ (octs u 3 ++ s.data.toList.drop (k + 3))).toArray⟩ : ByteArray) = T at *
  have hT : T.size ≤ 200 := by rw [hP.out.size]; exact hs
  clear u0 u1
  go_wp2_with fail
  refine (newReader_c T (by omega) _).mono ?_
  rintro e w5 ⟨p, rfl, h5, f5, b5⟩
  have H5 : Hid (Rd w5 p ⟨T, 0⟩ ∧ w.heap.size ≤ p ∧ Below w.heap.size w w5) := ⟨h5, Nat.le_trans H4.out.2.size b5, H4.out.2.trans (f5.below (fun _ h => h.elim) H4.out.2.size)⟩
  clear h5 f5 b5
  go_wp2_with fail
  refine (take_any p _ k _ H5.out.1).mono ?_
  rintro e w6 ⟨rfl, h6, f6⟩
  have e6 : (Rst.mk T 0).take k = (⟨T, k⟩, s.extract 0 k, 0) := by
    unfold Rst.take
    rw [if_neg (by omega), if_neg (by dsimp only; rw [hP.out.size]; omega)]
    simp [hP.out.pre]
  rw [e6] at h6
  simp only [e6]
  have H6 : Hid (Rd w6 p ⟨T, k⟩ ∧ Below w.heap.size w w6) := ⟨h6, H5.out.2.2.trans (f6.below (fun i hi => by have := H5.out.2.1; omega) H5.out.2.2.size)⟩
  clear h6 f6 e6
  go_wp2_with fail
  refine (rdnumber_any p _ 3 _ H6.out.1).mono ?_
  rintro e w7 ⟨rfl, h7, f7⟩
  have e7 : (Rst.mk T k).number 3 = (⟨T, k + 3⟩, (u : Int), 0) := by
    have et : (Rst.mk T k).take 3 = (⟨T, k + 3⟩, T.extract k (k + 3), 0) := by
      unfold Rst.take
      rw [if_neg (by omega), if_neg (by dsimp only; rw [hP.out.size]; omega)]
      rfl
    unfold Rst.number
    rw [if_neg (by omega), et]
    simp only [hP.out.num]
  rw [e7] at h7
  simp only [e7]
  have H7 : Hid (Rd w7 p ⟨T, k + 3⟩ ∧ Below w.heap.size w w7) := ⟨h7, H6.out.2.trans (f7.below (fun i hi => by have := H5.out.2.1; omega) H6.out.2.size)⟩
  clear h7 f7 e7
  go_wp2_with fail
  refine (take_any p _ _ _ H7.out.1).mono ?_
  rintro e w8 ⟨rfl, h8, f8⟩
  have e8 : (Rst.mk T (k + 3)).take ((s.size : Int) - k - 3) = (⟨T, T.size⟩, s.extract (k + 3) s.size, 0) := by
    unfold Rst.take
    rw [if_neg (by omega), if_neg (by dsimp only; rw [hP.out.size]; omega)]
    have ez : k + 3 + ((s.size : Int) - k - 3).toNat = T.size := by rw [hP.out.size]; omega
    dsimp only
    rw [ez, hP.out.post]
  rw [e8] at h8
  simp only [e8]
  have H8 : Hid (Rd w8 p ⟨T, T.size⟩ ∧ Below w.heap.size w w8) := ⟨h8, H7.out.2.trans (f8.below (fun i hi => by have := H5.out.2.1; omega) H7.out.2.size)⟩
  clear h8 f8 e8
  have k3 : k + 3 ≤ s.size := by omega
  have k4 : (k : Int) + 3 ≤ s.size := by omega
  go_wp2_with fail
  refine (left_any p _ _ H8.out.1).mono ?_
  rintro e w' ⟨rfl, nq, rfl⟩
  go_wp2_with fail
  go_ret
  exact ⟨rfl, H8.out.2.drewN' _⟩

set_option maxRecDepth 100000 in
set_option maxHeartbeats 4000000 in
theorem octetsPatches_4n (s : ByteArray) (at_ v n : Int) (w : World) (hs : s.size ≤ 200) (b1 : -9223372036854775808 ≤ at_) (b1' : at_ ≤ 9223372036854775807) (b2 : 0 ≤ v) (b2' : v ≤ 4294967295) (hc : pick n 4 = 3)
    (ha : at_ < 0) :
    Calls Try.prog 6 #[.string s, .int .i64 at_, .int .u32 v, .int .i64 n] w fun e w' => e = .returned (.bool true) ∧ Below w.heap.size w w' := by
  have HC := Lib.hid hc
  clear hc
  have hl : s.data.toList.length = s.size := by simp
  have HLN := Lib.hid hl
  clear hl
  have hu : 0 ≤ v ∧ v < 4294967296 := by omega
  obtain ⟨u0, u1⟩ := hu
  go_enter Try.func6, Try.ntmps6
  go_wp2_with fail
  refine (lives3_any _).mono ?_
  rintro e w1 ⟨rfl, hb1⟩
  have HB := Lib.hid hb1
  clear hb1
  go_wp2_with fail
  refine (pick_any n 4 _ (by decide) (by decide)).mono ?_
  rintro e w' ⟨rfl, rfl⟩
  rw [HC.out]
  go_wp2_with fail
  refine (newWriter_c 200 (by decide) _).mono ?_
  rintro e w2 ⟨q, F, rfl, h2, f2, b2q⟩
  have H2 : Hid (Wr w2 q F ⟨[], max 0 200, 0⟩ ∧ (∀ k, F k → w.heap.size ≤ k) ∧ Below w.heap.size w w2) := ⟨h2, fun k hk => Nat.le_trans HB.out.size (b2q k hk), HB.out.trans (f2.below (fun _ h => h.elim) HB.out.size)⟩
  clear h2 f2 b2q
  go_wp2_with fail
  refine (put_any q F _ s _ H2.out.1 (by simp; omega)).mono ?_
  rintro e w3 ⟨rfl, G, h3, f3, s3⟩
  rw [put_new s hs] at h3
  simp only [put_new s hs]
  have H3 : Hid (Wr w3 q G ⟨s.data.toList, 200, 0⟩ ∧ (∀ k, G k → w.heap.size ≤ k) ∧ Below w.heap.size w w3) :=
    ⟨h3, fun k hk => (s3 k hk).elim (H2.out.2.1 k) fun h => Nat.le_trans H2.out.2.2.size h, H2.out.2.2.trans (f3.below H2.out.2.1 H2.out.2.2.size)⟩
  clear h3 f3 s3 H2
  go_wp2_with fail
  refine (patch_any q G _ at_ (v) 4 _ H3.out.1 u0 (by omega) b1' b1 (by rw [HLN.out]; omega)).mono ?_
  rintro e w4 ⟨rfl, F', h4, f4, s4⟩
  have e4 := patch_bad s.data.toList at_ (v) 4 (by rw [HLN.out]; omega)
  rw [e4] at h4
  simp only [e4]
  have H4 : Hid (Wr w4 q F' ⟨s.data.toList, 200, 0⟩ ∧ Below w.heap.size w w4) := ⟨h4, H3.out.2.2.trans (f4.below H3.out.2.1 H3.out.2.2.size)⟩
  clear h4 f4 s4 e4
  go_wp2_with fail
  refine (text_any q F' _ _ H4.out.1).mono ?_
  rintro e w' ⟨rfl, rfl⟩
  rw [str_self]
  go_wp2_with fail
  go_ret
  exact ⟨rfl, H4.out.2⟩

set_option maxRecDepth 100000 in
set_option maxHeartbeats 4000000 in
theorem octetsPatches_4l (s : ByteArray) (at_ v n : Int) (w : World) (hs : s.size ≤ 200) (b1 : -9223372036854775808 ≤ at_) (b1' : at_ ≤ 9223372036854775807) (b2 : 0 ≤ v) (b2' : v ≤ 4294967295) (hc : pick n 4 = 3)
    (ha0 : 0 ≤ at_) (ha : (s.size : Int) - 4 < at_) :
    Calls Try.prog 6 #[.string s, .int .i64 at_, .int .u32 v, .int .i64 n] w fun e w' => e = .returned (.bool true) ∧ Below w.heap.size w w' := by
  have HC := Lib.hid hc
  clear hc
  have hl : s.data.toList.length = s.size := by simp
  have HLN := Lib.hid hl
  clear hl
  have hu : 0 ≤ v ∧ v < 4294967296 := by omega
  obtain ⟨u0, u1⟩ := hu
  go_enter Try.func6, Try.ntmps6
  go_wp2_with fail
  refine (lives3_any _).mono ?_
  rintro e w1 ⟨rfl, hb1⟩
  have HB := Lib.hid hb1
  clear hb1
  go_wp2_with fail
  refine (pick_any n 4 _ (by decide) (by decide)).mono ?_
  rintro e w' ⟨rfl, rfl⟩
  rw [HC.out]
  go_wp2_with fail
  refine (newWriter_c 200 (by decide) _).mono ?_
  rintro e w2 ⟨q, F, rfl, h2, f2, b2q⟩
  have H2 : Hid (Wr w2 q F ⟨[], max 0 200, 0⟩ ∧ (∀ k, F k → w.heap.size ≤ k) ∧ Below w.heap.size w w2) := ⟨h2, fun k hk => Nat.le_trans HB.out.size (b2q k hk), HB.out.trans (f2.below (fun _ h => h.elim) HB.out.size)⟩
  clear h2 f2 b2q
  go_wp2_with fail
  refine (put_any q F _ s _ H2.out.1 (by simp; omega)).mono ?_
  rintro e w3 ⟨rfl, G, h3, f3, s3⟩
  rw [put_new s hs] at h3
  simp only [put_new s hs]
  have H3 : Hid (Wr w3 q G ⟨s.data.toList, 200, 0⟩ ∧ (∀ k, G k → w.heap.size ≤ k) ∧ Below w.heap.size w w3) :=
    ⟨h3, fun k hk => (s3 k hk).elim (H2.out.2.1 k) fun h => Nat.le_trans H2.out.2.2.size h, H2.out.2.2.trans (f3.below H2.out.2.1 H2.out.2.2.size)⟩
  clear h3 f3 s3 H2
  go_wp2_with fail
  refine (patch_any q G _ at_ (v) 4 _ H3.out.1 u0 (by omega) b1' b1 (by rw [HLN.out]; omega)).mono ?_
  rintro e w4 ⟨rfl, F', h4, f4, s4⟩
  have e4 := patch_bad s.data.toList at_ (v) 4 (by rw [HLN.out]; omega)
  rw [e4] at h4
  simp only [e4]
  have H4 : Hid (Wr w4 q F' ⟨s.data.toList, 200, 0⟩ ∧ Below w.heap.size w w4) := ⟨h4, H3.out.2.2.trans (f4.below H3.out.2.1 H3.out.2.2.size)⟩
  clear h4 f4 s4 e4
  go_wp2_with fail
  refine (text_any q F' _ _ H4.out.1).mono ?_
  rintro e w' ⟨rfl, rfl⟩
  rw [str_self]
  go_wp2_with fail
  go_ret
  exact ⟨rfl, H4.out.2⟩

set_option maxRecDepth 100000 in
set_option maxHeartbeats 4000000 in
theorem octetsPatches_4y (s : ByteArray) (at_ v n : Int) (w : World) (hs : s.size ≤ 200) (b1 : -9223372036854775808 ≤ at_) (b1' : at_ ≤ 9223372036854775807) (b2 : 0 ≤ v) (b2' : v ≤ 4294967295) (hc : pick n 4 = 3)
    (ha0 : 0 ≤ at_) (ha : at_ ≤ (s.size : Int) - 4) :
    Calls Try.prog 6 #[.string s, .int .i64 at_, .int .u32 v, .int .i64 n] w fun e w' => e = .returned (.bool true) ∧ Below w.heap.size w w' := by
  have HC := Lib.hid hc
  clear hc
  have hl : s.data.toList.length = s.size := by simp
  have HLN := Lib.hid hl
  clear hl
  have hu : 0 ≤ v ∧ v < 4294967296 := by omega
  obtain ⟨u0, u1⟩ := hu
  go_enter Try.func6, Try.ntmps6
  go_wp2_with fail
  refine (lives3_any _).mono ?_
  rintro e w1 ⟨rfl, hb1⟩
  have HB := Lib.hid hb1
  clear hb1
  go_wp2_with fail
  refine (pick_any n 4 _ (by decide) (by decide)).mono ?_
  rintro e w' ⟨rfl, rfl⟩
  rw [HC.out]
  go_wp2_with fail
  refine (newWriter_c 200 (by decide) _).mono ?_
  rintro e w2 ⟨q, F, rfl, h2, f2, b2q⟩
  have H2 : Hid (Wr w2 q F ⟨[], max 0 200, 0⟩ ∧ (∀ k, F k → w.heap.size ≤ k) ∧ Below w.heap.size w w2) := ⟨h2, fun k hk => Nat.le_trans HB.out.size (b2q k hk), HB.out.trans (f2.below (fun _ h => h.elim) HB.out.size)⟩
  clear h2 f2 b2q
  go_wp2_with fail
  refine (put_any q F _ s _ H2.out.1 (by simp; omega)).mono ?_
  rintro e w3 ⟨rfl, G, h3, f3, s3⟩
  rw [put_new s hs] at h3
  simp only [put_new s hs]
  have H3 : Hid (Wr w3 q G ⟨s.data.toList, 200, 0⟩ ∧ (∀ k, G k → w.heap.size ≤ k) ∧ Below w.heap.size w w3) :=
    ⟨h3, fun k hk => (s3 k hk).elim (H2.out.2.1 k) fun h => Nat.le_trans H2.out.2.2.size h, H2.out.2.2.trans (f3.below H2.out.2.1 H2.out.2.2.size)⟩
  clear h3 f3 s3 H2
  go_wp2_with fail
  obtain ⟨k, rfl⟩ := Int.eq_ofNat_of_zero_le ha0
  obtain ⟨u, hu⟩ := Int.eq_ofNat_of_zero_le u0
  have HU := Lib.hid hu
  rw [hu] at u0 u1 ⊢
  clear hu
  refine (patch_any q G _ k u 4 _ H3.out.1 u0 (by omega) b1' b1 (by rw [HLN.out]; omega)).mono ?_
  rintro e w4 ⟨rfl, F', h4, f4, s4⟩
  have e4 : (Wst.mk s.data.toList 200 0).patch (k : Int) u 4 = _ := patch_new s.data.toList k 4 u (by simp [fitsB]; omega) (by rw [HLN.out]; omega)
  rw [e4] at h4
  simp only [e4]
  have H4 : Hid (Wr w4 q F' ⟨s.data.toList.take k ++ (octs u 4 ++ s.data.toList.drop (k + 4)), 200, 0⟩ ∧ Below w.heap.size w w4) := ⟨h4, H3.out.2.2.trans (f4.below H3.out.2.1 H3.out.2.2.size)⟩
  clear h4 f4 s4 e4
  go_wp2_with fail
  refine (text_any q F' _ _ H4.out.1).mono ?_
  rintro e w' ⟨rfl, rfl⟩
  have hP := Lib.hid (patched s k 4 u (by omega) (by omega))
  generalize (⟨(s.data.toList.take k ++ (octs u 4 ++ s.data.toList.drop (k + 4))).toArray⟩ : ByteArray) = T at *
  have hT : T.size ≤ 200 := by rw [hP.out.size]; exact hs
  clear u0 u1
  go_wp2_with fail
  refine (newReader_c T (by omega) _).mono ?_
  rintro e w5 ⟨p, rfl, h5, f5, b5⟩
  have H5 : Hid (Rd w5 p ⟨T, 0⟩ ∧ w.heap.size ≤ p ∧ Below w.heap.size w w5) := ⟨h5, Nat.le_trans H4.out.2.size b5, H4.out.2.trans (f5.below (fun _ h => h.elim) H4.out.2.size)⟩
  clear h5 f5 b5
  go_wp2_with fail
  refine (take_any p _ k _ H5.out.1).mono ?_
  rintro e w6 ⟨rfl, h6, f6⟩
  have e6 : (Rst.mk T 0).take k = (⟨T, k⟩, s.extract 0 k, 0) := by
    unfold Rst.take
    rw [if_neg (by omega), if_neg (by dsimp only; rw [hP.out.size]; omega)]
    simp [hP.out.pre]
  rw [e6] at h6
  simp only [e6]
  have H6 : Hid (Rd w6 p ⟨T, k⟩ ∧ Below w.heap.size w w6) := ⟨h6, H5.out.2.2.trans (f6.below (fun i hi => by have := H5.out.2.1; omega) H5.out.2.2.size)⟩
  clear h6 f6 e6
  go_wp2_with fail
  refine (rdnumber_any p _ 4 _ H6.out.1).mono ?_
  rintro e w7 ⟨rfl, h7, f7⟩
  have e7 : (Rst.mk T k).number 4 = (⟨T, k + 4⟩, (u : Int), 0) := by
    have et : (Rst.mk T k).take 4 = (⟨T, k + 4⟩, T.extract k (k + 4), 0) := by
      unfold Rst.take
      rw [if_neg (by omega), if_neg (by dsimp only; rw [hP.out.size]; omega)]
      rfl
    unfold Rst.number
    rw [if_neg (by omega), et]
    simp only [hP.out.num]
  rw [e7] at h7
  simp only [e7]
  have H7 : Hid (Rd w7 p ⟨T, k + 4⟩ ∧ Below w.heap.size w w7) := ⟨h7, H6.out.2.trans (f7.below (fun i hi => by have := H5.out.2.1; omega) H6.out.2.size)⟩
  clear h7 f7 e7
  go_wp2_with fail
  refine (take_any p _ _ _ H7.out.1).mono ?_
  rintro e w8 ⟨rfl, h8, f8⟩
  have e8 : (Rst.mk T (k + 4)).take ((s.size : Int) - k - 4) = (⟨T, T.size⟩, s.extract (k + 4) s.size, 0) := by
    unfold Rst.take
    rw [if_neg (by omega), if_neg (by dsimp only; rw [hP.out.size]; omega)]
    have ez : k + 4 + ((s.size : Int) - k - 4).toNat = T.size := by rw [hP.out.size]; omega
    dsimp only
    rw [ez, hP.out.post]
  rw [e8] at h8
  simp only [e8]
  have H8 : Hid (Rd w8 p ⟨T, T.size⟩ ∧ Below w.heap.size w w8) := ⟨h8, H7.out.2.trans (f8.below (fun i hi => by have := H5.out.2.1; omega) H7.out.2.size)⟩
  clear h8 f8 e8
  have k3 : k + 4 ≤ s.size := by omega
  have k4 : (k : Int) + 4 ≤ s.size := by omega
  go_wp2_with fail
  refine (left_any p _ _ H8.out.1).mono ?_
  rintro e w' ⟨rfl, nq, rfl⟩
  go_wp2_with fail
  go_ret
  exact ⟨rfl, H8.out.2.drewN' _⟩

set_option maxRecDepth 100000 in
set_option maxHeartbeats 1000000 in
theorem octetsPatches_walk (s : ByteArray) (at_ v n : Int) (w : World) (b0 : s.size ≤ maxLen) (b1 : -9223372036854775808 ≤ at_ ∧ at_ ≤ 9223372036854775807) (b2 : 0 ≤ v ∧ v ≤ 4294967295) (_b3 : -9223372036854775808 ≤ n ∧ n ≤ 9223372036854775807) :
    Calls Try.prog 6 #[.string s, .int .i64 at_, .int .u32 v, .int .i64 n] w fun e w' => e = .returned (.bool true) ∧ Below w.heap.size w w' := by
  unfold maxLen at b0
  by_cases hs : s.size ≤ 200
  · obtain ⟨c0, c1⟩ := pick_range n 4 (by decide)
    rcases (show pick n 4 = 0 ∨ pick n 4 = 1 ∨ pick n 4 = 2 ∨ pick n 4 = 3 by omega) with hc | hc | hc | hc
    · by_cases h1 : at_ < 0
      · exact octetsPatches_1n s at_ v n w hs b1.1 b1.2 b2.1 b2.2 hc h1
      · by_cases h2 : (s.size : Int) - 1 < at_
        · exact octetsPatches_1l s at_ v n w hs b1.1 b1.2 b2.1 b2.2 hc (by omega) h2
        · exact octetsPatches_1y s at_ v n w hs b1.1 b1.2 b2.1 b2.2 hc (by omega) (by omega)
    · by_cases h1 : at_ < 0
      · exact octetsPatches_2n s at_ v n w hs b1.1 b1.2 b2.1 b2.2 hc h1
      · by_cases h2 : (s.size : Int) - 2 < at_
        · exact octetsPatches_2l s at_ v n w hs b1.1 b1.2 b2.1 b2.2 hc (by omega) h2
        · exact octetsPatches_2y s at_ v n w hs b1.1 b1.2 b2.1 b2.2 hc (by omega) (by omega)
    · by_cases h1 : at_ < 0
      · exact octetsPatches_3n s at_ v n w hs b1.1 b1.2 b2.1 b2.2 hc h1
      · by_cases h2 : (s.size : Int) - 3 < at_
        · exact octetsPatches_3l s at_ v n w hs b1.1 b1.2 b2.1 b2.2 hc (by omega) h2
        · exact octetsPatches_3y s at_ v n w hs b1.1 b1.2 b2.1 b2.2 hc (by omega) (by omega)
    · by_cases h1 : at_ < 0
      · exact octetsPatches_4n s at_ v n w hs b1.1 b1.2 b2.1 b2.2 hc h1
      · by_cases h2 : (s.size : Int) - 4 < at_
        · exact octetsPatches_4l s at_ v n w hs b1.1 b1.2 b2.1 b2.2 hc (by omega) h2
        · exact octetsPatches_4y s at_ v n w hs b1.1 b1.2 b2.1 b2.2 hc (by omega) (by omega)
  · go_enter Try.func6, Try.ntmps6
    go_wp2_with fail
    refine (lives3_any _).mono ?_
    rintro e w1 ⟨rfl, hb1⟩
    go_wp2_with fail
    go_ret
    exact ⟨rfl, hb1⟩
end Go.Proofs.Ytbemackcdccpaaa
