/-
  LAYER 6, PLAIN: what was put is read; what is read is put.
-/
import Derived.Test.YtmbgejiahmhffaaGreatUHdrread
namespace Go.Proofs.YtmbgejiahmhffaaGreat
open Go.RowKit

theorem word_list (l : List UInt8) (a : Nat) : word ⟨l.toArray⟩ a = numOf ((l.drop a).take 2) := by
  unfold word
  rw [str_sub, Nat.add_sub_cancel_left]
theorem num_two (x y : UInt8) : numOf [x, y] = x.toNat * 256 + y.toNat := by simp [numOf]
theorem octs_pair (v : Nat) : octs v 2 = [UInt8.ofNat (v / 256), UInt8.ofNat v] := by simp [octs]
theorem pair_octs (v : Nat) (h : v < 65536) : (UInt8.ofNat (v / 256)).toNat * 256 + (UInt8.ofNat v).toNat = v := by
  simp
  omega
theorem octs_of_pair (x y : UInt8) : octs (x.toNat * 256 + y.toNat) 2 = [x, y] := by
  have hx := x.toNat_lt
  have hy := y.toNat_lt
  rw [octs_pair]
  congr 1
  · apply UInt8.toNat_inj.1
    simp
    omega
  · congr 1
    apply UInt8.toNat_inj.1
    simp
theorem twelveH {α : Type} : ∀ l : List α, 12 ≤ l.length → ∃ b0 b1 b2 b3 b4 b5 b6 b7 b8 b9 b10 b11 r, l = b0 :: b1 :: b2 :: b3 :: b4 :: b5 :: b6 :: b7 :: b8 :: b9 :: b10 :: b11 :: r
  | b0 :: b1 :: b2 :: b3 :: b4 :: b5 :: b6 :: b7 :: b8 :: b9 :: b10 :: b11 :: r, _ => ⟨b0, b1, b2, b3, b4, b5, b6, b7, b8, b9, b10, b11, r, rfl⟩
theorem bitB_b01 {n j : Nat} {b : Bool} (h : n / 2 ^ j % 2 = b01 b) : bitB n j = b := by
  unfold bitB
  rw [h]
  cases b <;> rfl
theorem b01_bitB (n j : Nat) : b01 (bitB n j) = n / 2 ^ j % 2 := by
  unfold bitB b01
  have : n / 2 ^ j % 2 = 0 ∨ n / 2 ^ j % 2 = 1 := by omega
  rcases this with h | h <;> simp [h]
theorem Hd.bits_eq (h : Hd) : h.bits = h.op.toNat * 2048 + h.rc.toNat + 32768 * b01 h.resp + 1024 * b01 h.aa + 512 * b01 h.tc + 256 * b01 h.rd + 128 * b01 h.ra + 32 * b01 h.ad + 16 * b01 h.cd := by
  simp [Hd.bits, Hd.bitsTo]
set_option maxHeartbeats 2000000 in
theorem read_put (h : Hd) (hok : h.ok) (hm : h.may = true) (behind : ByteArray) : readHd (h.put ++ behind) = (h, 0) := by
  obtain ⟨⟨o1, o2⟩, ⟨r1, r2⟩, hc⟩ := Hd.may_parts hm
  obtain ⟨i1, i2⟩ := hok.1
  have hb := h.bits_eq
  have q0 := b01_le h.resp; have q1 := b01_le h.aa; have q2 := b01_le h.tc; have q3 := b01_le h.rd; have q4 := b01_le h.ra; have q5 := b01_le h.ad; have q6 := b01_le h.cd
  have hlt : h.bits < 65536 := by omega
  have d0 := hc 0; have d1 := hc 1; have d2 := hc 2; have d3 := hc 3
  simp only [Hd.count] at d0 d1 d2 d3
  have hput : h.put ++ behind = ⟨(h.upto 4 ++ behind.data.toList).toArray⟩ := by
    unfold Hd.put
    rw [if_pos hm, str_app]
  have hl : (h.upto 4).length = 12 := h.upto_length 4
  have hsz : ¬ (h.put ++ behind).size < 12 := by
    rw [hput]
    show ¬ (h.upto 4 ++ behind.data.toList).toArray.size < 12
    rw [List.size_toArray, List.length_append, hl]
    omega
  have hup : h.upto 4 = octs h.id.toNat 2 ++ octs h.bits 2 ++ octs h.c0.toNat 2 ++ octs h.c1.toNat 2 ++ octs h.c2.toNat 2 ++ octs h.c3.toNat 2 := rfl
  have w0 : word (h.put ++ behind) 0 = h.id.toNat := by
    rw [hput, word_list, hup]
    simp only [octs_pair, List.cons_append, List.nil_append, List.drop_zero, List.take_succ_cons, List.take_zero, num_two]
    exact pair_octs _ (by omega)
  have w2 : word (h.put ++ behind) 2 = h.bits := by
    rw [hput, word_list, hup]
    simp only [octs_pair, List.cons_append, List.nil_append, List.drop_succ_cons, List.drop_zero, List.take_succ_cons, List.take_zero, num_two]
    exact pair_octs _ (by omega)
  have w4 : word (h.put ++ behind) 4 = h.c0.toNat := by
    rw [hput, word_list, hup]
    simp only [octs_pair, List.cons_append, List.nil_append, List.drop_succ_cons, List.drop_zero, List.take_succ_cons, List.take_zero, num_two]
    exact pair_octs _ (by omega)
  have w6 : word (h.put ++ behind) 6 = h.c1.toNat := by
    rw [hput, word_list, hup]
    simp only [octs_pair, List.cons_append, List.nil_append, List.drop_succ_cons, List.drop_zero, List.take_succ_cons, List.take_zero, num_two]
    exact pair_octs _ (by omega)
  have w8 : word (h.put ++ behind) 8 = h.c2.toNat := by
    rw [hput, word_list, hup]
    simp only [octs_pair, List.cons_append, List.nil_append, List.drop_succ_cons, List.drop_zero, List.take_succ_cons, List.take_zero, num_two]
    exact pair_octs _ (by omega)
  have w10 : word (h.put ++ behind) 10 = h.c3.toNat := by
    rw [hput, word_list, hup]
    simp only [octs_pair, List.cons_append, List.nil_append, List.drop_succ_cons, List.drop_zero, List.take_succ_cons, List.take_zero, num_two]
    exact pair_octs _ (by omega)
  have h6 : bitB h.bits 6 = false := bitB_b01 (b := false) (by rw [hb]; show _ = 0; omega)
  have t15 : bitB h.bits 15 = h.resp := bitB_b01 (by rw [hb]; omega)
  have t10 : bitB h.bits 10 = h.aa := bitB_b01 (by rw [hb]; omega)
  have t9 : bitB h.bits 9 = h.tc := bitB_b01 (by rw [hb]; omega)
  have t8 : bitB h.bits 8 = h.rd := bitB_b01 (by rw [hb]; omega)
  have t7 : bitB h.bits 7 = h.ra := bitB_b01 (by rw [hb]; omega)
  have t5 : bitB h.bits 5 = h.ad := bitB_b01 (by rw [hb]; omega)
  have t4 : bitB h.bits 4 = h.cd := bitB_b01 (by rw [hb]; omega)
  have e1 : (h.bits : Int) / 2048 % 16 = h.op := by rw [hb]; omega
  have e2 : (h.bits : Int) % 16 = h.rc := by rw [hb]; omega
  unfold readHd
  rw [if_neg hsz, w2, h6]
  simp only [Bool.false_eq_true, if_false, hdC, hdF, w0, w4, w6, w8, w10, t15, t10, t9, t8, t7, t5, t4, e1, e2]
  obtain ⟨id, resp, op, aa, tc, rd, ra, ad, cd, rc, c0, c1, c2, c3⟩ := h
  simp only [Prod.mk.injEq, Hd.mk.injEq] at *
  simp [*]
  omega
abbrev mkHd (id f c0 c1 c2 c3 : Nat) : Hd :=
  ⟨id, bitB f 15, (f : Int) / 2048 % 16, bitB f 10, bitB f 9, bitB f 8, bitB f 7, bitB f 5, bitB f 4, (f : Int) % 16, c0, c1, c2, c3⟩
theorem mkHd_may (id f c0 c1 c2 c3 : Nat) (h0 : c0 < 65536) (h1 : c1 < 65536) (h2 : c2 < 65536) (h3 : c3 < 65536) : (mkHd id f c0 c1 c2 c3).may = true := by
  simp only [Hd.may, four, sixteen, Bool.and_eq_true, decide_eq_true_eq]
  omega
theorem mkHd_ok (id f c0 c1 c2 c3 : Nat) (hi : id < 65536) (h0 : c0 < 65536) (h1 : c1 < 65536) (h2 : c2 < 65536) (h3 : c3 < 65536) : (mkHd id f c0 c1 c2 c3).ok := by
  refine ⟨⟨?_, ?_⟩, ⟨?_, ?_⟩, ⟨?_, ?_⟩, ⟨?_, ?_⟩, ⟨?_, ?_⟩, ⟨?_, ?_⟩, ⟨?_, ?_⟩⟩ <;> simp only <;> omega
theorem mkHd_bits (id f c0 c1 c2 c3 : Nat) (hf : f < 65536) (h6 : f / 64 % 2 = 0) : (mkHd id f c0 c1 c2 c3).bits = f := by
  rw [Hd.bits_eq]
  simp only [b01_bitB]
  omega
set_option maxHeartbeats 2000000 in
theorem put_read (s : ByteArray) (hs : 12 ≤ s.size) (h6 : bitB (word s 2) 6 = false) :
    (readHd s).2 = 0 ∧ (readHd s).1.may = true ∧ (readHd s).1.ok ∧ (readHd s).1.put = s.extract 0 12 := by
  obtain ⟨b0, b1, b2, b3, b4, b5, b6, b7, b8, b9, b10, b11, r, hl⟩ := twelveH s.data.toList (by simpa using hs)
  have hS : s = ⟨(b0 :: b1 :: b2 :: b3 :: b4 :: b5 :: b6 :: b7 :: b8 :: b9 :: b10 :: b11 :: r).toArray⟩ := by
    apply ByteArray.ext
    rw [← hl]
  have w0 : word s 0 = b0.toNat * 256 + b1.toNat := by rw [hS, word_list]; simp only [List.drop_zero, List.take_succ_cons, List.take_zero, num_two]
  have w2 : word s 2 = b2.toNat * 256 + b3.toNat := by rw [hS, word_list]; simp only [List.drop_succ_cons, List.drop_zero, List.take_succ_cons, List.take_zero, num_two]
  have w4 : word s 4 = b4.toNat * 256 + b5.toNat := by rw [hS, word_list]; simp only [List.drop_succ_cons, List.drop_zero, List.take_succ_cons, List.take_zero, num_two]
  have w6 : word s 6 = b6.toNat * 256 + b7.toNat := by rw [hS, word_list]; simp only [List.drop_succ_cons, List.drop_zero, List.take_succ_cons, List.take_zero, num_two]
  have w8 : word s 8 = b8.toNat * 256 + b9.toNat := by rw [hS, word_list]; simp only [List.drop_succ_cons, List.drop_zero, List.take_succ_cons, List.take_zero, num_two]
  have w10 : word s 10 = b10.toNat * 256 + b11.toNat := by rw [hS, word_list]; simp only [List.drop_succ_cons, List.drop_zero, List.take_succ_cons, List.take_zero, num_two]
  have l0 := word_lt s 0; have l2 := word_lt s 2; have l4 := word_lt s 4; have l6 := word_lt s 6; have l8 := word_lt s 8; have l10 := word_lt s 10
  have hr : readHd s = (hdC (word s 0) (word s 2) (fun k => word s (4 + 2 * k)) 4, 0) := by
    unfold readHd
    rw [if_neg (by omega), h6]
    rfl
  have hy : hdC (word s 0) (word s 2) (fun k => word s (4 + 2 * k)) 4 = ⟨word s 0, bitB (word s 2) 15, (word s 2 : Int) / 2048 % 16, bitB (word s 2) 10, bitB (word s 2) 9, bitB (word s 2) 8, bitB (word s 2) 7, bitB (word s 2) 5, bitB (word s 2) 4, (word s 2 : Int) % 16, word s 4, word s 6, word s 8, word s 10⟩ := rfl
  have hb6 := b01_bitB (word s 2) 6
  rw [h6] at hb6
  have hz : b01 false = 0 := rfl
  rw [hz] at hb6
  rw [hr, hy]
  have hmay := mkHd_may (word s 0) (word s 2) (word s 4) (word s 6) (word s 8) (word s 10) l4 l6 l8 l10
  refine ⟨rfl, hmay, mkHd_ok _ _ _ _ _ _ l0 l4 l6 l8 l10, ?_⟩
  have hbits := mkHd_bits (word s 0) (word s 2) (word s 4) (word s 6) (word s 8) (word s 10) l2 hb6.symm
  have hup : (mkHd (word s 0) (word s 2) (word s 4) (word s 6) (word s 8) (word s 10)).upto 4 = octs (word s 0) 2 ++ octs (mkHd (word s 0) (word s 2) (word s 4) (word s 6) (word s 8) (word s 10)).bits 2 ++ octs (word s 4) 2 ++ octs (word s 6) 2 ++ octs (word s 8) 2 ++ octs (word s 10) 2 := rfl
  have hput : (mkHd (word s 0) (word s 2) (word s 4) (word s 6) (word s 8) (word s 10)).put = ⟨((mkHd (word s 0) (word s 2) (word s 4) (word s 6) (word s 8) (word s 10)).upto 4).toArray⟩ := by
    unfold Hd.put
    rw [if_pos hmay]
  refine hput.trans ?_
  rw [hup, hbits, w0, w2, w4, w6, w8, w10]
  simp only [octs_of_pair, List.cons_append, List.nil_append]
  rw [hS, str_sub]
  rfl
end Go.Proofs.YtmbgejiahmhffaaGreat
