/-
  LAYER 6: HeaderBits.
-/
import Derived.Test.YtbemackcdccpaaaHdrlaw
import Derived.Test.YtbemackcdccpaaaHdrrep
namespace Go.Proofs.Ytbemackcdccpaaa
open Go.RowKit

theorem put_bytes (h : Hd) (hok : h.ok) (hm : h.may = true) : ∃ b0 b1 b2 b3 b4 b5 b6 b7 b8 b9 b10 b11 : UInt8, h.put = ⟨#[b0, b1, b2, b3, b4, b5, b6, b7, b8, b9, b10, b11]⟩ ∧
    (b0.toNat * 256 + b1.toNat : Int) = h.id ∧ (b2.toNat * 256 + b3.toNat : Int) = (h.bits : Int) ∧ (b4.toNat * 256 + b5.toNat : Int) = h.c0 ∧ (b6.toNat * 256 + b7.toNat : Int) = h.c1 ∧
    (b8.toNat * 256 + b9.toNat : Int) = h.c2 ∧ (b10.toNat * 256 + b11.toNat : Int) = h.c3 := by
  obtain ⟨⟨o1, o2⟩, ⟨r1, r2⟩, hc⟩ := Hd.may_parts hm
  obtain ⟨i1, i2⟩ := hok.1
  have hlt : h.bits < 65536 := h.bits_lt (by omega) (by omega) 7
  have d0 := hc 0; have d1 := hc 1; have d2 := hc 2; have d3 := hc 3
  simp only [Hd.count] at d0 d1 d2 d3
  have hup : h.upto 4 = octs h.id.toNat 2 ++ octs h.bits 2 ++ octs h.c0.toNat 2 ++ octs h.c1.toNat 2 ++ octs h.c2.toNat 2 ++ octs h.c3.toNat 2 := rfl
  have g0 := pair_octs h.id.toNat (by omega)
  have g1 := pair_octs h.bits hlt
  have g2 := pair_octs h.c0.toNat (by omega)
  have g3 := pair_octs h.c1.toNat (by omega)
  have g4 := pair_octs h.c2.toNat (by omega)
  have g5 := pair_octs h.c3.toNat (by omega)
  have hput : h.put = ⟨#[UInt8.ofNat (h.id.toNat / 256), UInt8.ofNat h.id.toNat, UInt8.ofNat (h.bits / 256), UInt8.ofNat h.bits, UInt8.ofNat (h.c0.toNat / 256), UInt8.ofNat h.c0.toNat, UInt8.ofNat (h.c1.toNat / 256), UInt8.ofNat h.c1.toNat, UInt8.ofNat (h.c2.toNat / 256), UInt8.ofNat h.c2.toNat, UInt8.ofNat (h.c3.toNat / 256), UInt8.ofNat h.c3.toNat]⟩ := by
    unfold Hd.put
    rw [if_pos hm, hup]
    simp only [octs_pair, List.cons_append, List.nil_append]
  exact ⟨_, _, _, _, _, _, _, _, _, _, _, _, hput, by omega, by omega, by omega, by omega, by omega, by omega⟩

theorem two_octets (a b : UInt8) (n : Int) (h : (a.toNat * 256 + b.toNat : Int) = n) : wrap64 (wrap64 (wrap64 (a.toNat : Int) * 256) + wrap64 (b.toNat : Int)) = n := by
  have := a.toNat_lt
  have := b.toNat_lt
  unfold wrap64
  omega
theorem i64_and1 (n : Int) : bits .and .i64 n 1 = n % 2 := by
  show IntKind.i64.wrap ((BitVec.ofInt 64 n &&& BitVec.ofInt 64 1).toNat : Int) = _
  have e : (BitVec.ofInt 64 1).toNat = 2 ^ 1 - 1 := rfl
  rw [BitVec.toNat_and, e, Nat.and_two_pow_sub_one_eq_mod, BitVec.toNat_ofInt, IntKind.wrap_i64]
  omega

set_option maxRecDepth 100000 in
set_option maxHeartbeats 4000000 in
theorem headerBits_walk (h : Hd) (w : World) (hok : h.ok) :
    Calls Try.prog 4 #[h.val] w fun e w' => e = .returned (.bool true) ∧ Below w.heap.size w w' := by
  have HK := Lib.hid hok
  clear hok
  go_enter Try.func4, Try.ntmps4
  go_wp2_with fail
  refine (lives6_any _).mono ?_
  rintro e w1 ⟨rfl, f1⟩
  have hb : Blk w1 w.heap.size 45 h.cells.toArray := (Blk.new w 45 _).fr f1 id
  have HF : Hid (Fr (fun _ => False) w w1) := ((Fr.refl _ _).alloc _).then f1
  generalize hp : w.heap.size = p at hb ⊢
  have HP := Lib.hid hp
  have HB := Lib.hid hb
  clear f1 hb hp
  have c0 : w1.cell? ⟨p, 0, none⟩ = some (.int .u16 h.id) := HB.out.cell 0
  have c1 : w1.cell? ⟨p, 1, none⟩ = some (.bool h.resp) := HB.out.cell 1
  have c2 : w1.cell? ⟨p, 2, none⟩ = some (.int .i64 h.op) := HB.out.cell 2
  have c3 : w1.cell? ⟨p, 3, none⟩ = some (.bool h.aa) := HB.out.cell 3
  have c4 : w1.cell? ⟨p, 4, none⟩ = some (.bool h.tc) := HB.out.cell 4
  have c5 : w1.cell? ⟨p, 5, none⟩ = some (.bool h.rd) := HB.out.cell 5
  have c6 : w1.cell? ⟨p, 6, none⟩ = some (.bool h.ra) := HB.out.cell 6
  have c7 : w1.cell? ⟨p, 7, none⟩ = some (.bool h.ad) := HB.out.cell 7
  have c8 : w1.cell? ⟨p, 8, none⟩ = some (.bool h.cd) := HB.out.cell 8
  have c9 : w1.cell? ⟨p, 9, none⟩ = some (.int .i64 h.rc) := HB.out.cell 9
  have c10 : w1.cell? ⟨p, 10, none⟩ = some (.int .i64 h.c0) := HB.out.cell 10
  have c11 : w1.cell? ⟨p, 11, none⟩ = some (.int .i64 h.c1) := HB.out.cell 11
  have c12 : w1.cell? ⟨p, 12, none⟩ = some (.int .i64 h.c2) := HB.out.cell 12
  have c13 : w1.cell? ⟨p, 13, none⟩ = some (.int .i64 h.c3) := HB.out.cell 13
  go_wp2_with fail
  refine (put_hd h _ HK.out).mono ?_
  rintro e w2 ⟨rfl, f2⟩
  replace HB := Lib.hid (HB.out.fr f2 id)
  replace HF := Lib.hid (HF.out.then f2)
  clear c0 c1 c2 c3 c4 c5 c6 c7 c8 c9 c10 c11 c12 c13 f2
  rcases (show h.may = false ∨ h.may = true by cases h.may <;> simp) with hm | hm
  · have hc : h.check = 2 := by unfold Hd.check; rw [hm]; rfl
    rw [hc]
    clear hc hm
    go_wp2_with fail
    go_ret
    exact ⟨rfl, HF.out.below (fun _ h => h.elim) (Nat.le_of_eq (by rw [HP.out]))⟩
  · have hc : h.check = 0 := by unfold Hd.check; rw [hm]; rfl
    obtain ⟨b0, b1, b2, b3, b4, b5, b6, b7, b8, b9, b10, b11, hput, e0, e2, e4, e6, e8, e10⟩ := put_bytes h HK.out hm
    have HE := Lib.hid (And.intro e0 (And.intro e2 (And.intro e4 (And.intro e6 (And.intro e8 e10)))))
    have HM := Lib.hid hm
    rw [hc, hput]
    clear hc hm hput e0 e2 e4 e6 e8 e10
    go_wp2_with fail
    go_quiet (fail)
    have x0 : wrap64 (wrap64 (wrap64 (((⟨#[b0, b1, b2, b3, b4, b5, b6, b7, b8, b9, b10, b11]⟩ : ByteArray)[2]'(by decide : 2 < 12)).toNat : Int) * 256) + wrap64 (((⟨#[b0, b1, b2, b3, b4, b5, b6, b7, b8, b9, b10, b11]⟩ : ByteArray)[3]'(by decide : 3 < 12)).toNat : Int)) = (h.bits : Int) := by
      show wrap64 (wrap64 (wrap64 (b2.toNat : Int) * 256) + wrap64 (b3.toNat : Int)) = (h.bits : Int)
      exact two_octets b2 b3 _ HE.out.2.1
    simp only [x0]
    clear x0
    replace HB := Lib.hid (HB.out.drewN nq)
    replace HF := Lib.hid (HF.out.drewN nq)
    generalize w2.drewN nq = w3 at HB HF ⊢
    have c0 : w3.cell? ⟨p, 0, none⟩ = some (.int .u16 h.id) := HB.out.cell 0
    have c1 : w3.cell? ⟨p, 1, none⟩ = some (.bool h.resp) := HB.out.cell 1
    have c2 : w3.cell? ⟨p, 2, none⟩ = some (.int .i64 h.op) := HB.out.cell 2
    have c3 : w3.cell? ⟨p, 3, none⟩ = some (.bool h.aa) := HB.out.cell 3
    have c4 : w3.cell? ⟨p, 4, none⟩ = some (.bool h.tc) := HB.out.cell 4
    have c5 : w3.cell? ⟨p, 5, none⟩ = some (.bool h.rd) := HB.out.cell 5
    have c6 : w3.cell? ⟨p, 6, none⟩ = some (.bool h.ra) := HB.out.cell 6
    have c7 : w3.cell? ⟨p, 7, none⟩ = some (.bool h.ad) := HB.out.cell 7
    have c8 : w3.cell? ⟨p, 8, none⟩ = some (.bool h.cd) := HB.out.cell 8
    have c9 : w3.cell? ⟨p, 9, none⟩ = some (.int .i64 h.rc) := HB.out.cell 9
    have c10 : w3.cell? ⟨p, 10, none⟩ = some (.int .i64 h.c0) := HB.out.cell 10
    have c11 : w3.cell? ⟨p, 11, none⟩ = some (.int .i64 h.c1) := HB.out.cell 11
    have c12 : w3.cell? ⟨p, 12, none⟩ = some (.int .i64 h.c2) := HB.out.cell 12
    have c13 : w3.cell? ⟨p, 13, none⟩ = some (.int .i64 h.c3) := HB.out.cell 13
    go_wp2_with fail
    clear c0 c1 c2 c3 c4 c5 c6 c7 c8 c9 c10 c11 c12 c13
    have hq := (Blk.new w3 4 #[.bool h.resp, .bool h.aa, .bool h.tc, .bool h.rd, .bool h.ra, .bool h.ad, .bool h.cd]).alloc (.cells #[.int .i64 15, .int .i64 10, .int .i64 9, .int .i64 8, .int .i64 7, .int .i64 5, .int .i64 4] 3)
    have hr := Blk.new (w3.alloc (.cells #[.bool h.resp, .bool h.aa, .bool h.tc, .bool h.rd, .bool h.ra, .bool h.ad, .bool h.cd] 4)) 3 #[.int .i64 15, .int .i64 10, .int .i64 9, .int .i64 8, .int .i64 7, .int .i64 5, .int .i64 4]
    rw [show (w3.alloc (.cells #[.bool h.resp, .bool h.aa, .bool h.tc, .bool h.rd, .bool h.ra, .bool h.ad, .bool h.cd] 4)).heap.size = w3.heap.size + 1 by simp] at hr
    have HQ := Lib.hid (And.intro hq hr)
    replace HB := Lib.hid ((HB.out.alloc (.cells #[.bool h.resp, .bool h.aa, .bool h.tc, .bool h.rd, .bool h.ra, .bool h.ad, .bool h.cd] 4)).alloc (.cells #[.int .i64 15, .int .i64 10, .int .i64 9, .int .i64 8, .int .i64 7, .int .i64 5, .int .i64 4] 3))
    replace HF := Lib.hid ((HF.out.alloc (.cells #[.bool h.resp, .bool h.aa, .bool h.tc, .bool h.rd, .bool h.ra, .bool h.ad, .bool h.cd] 4)).alloc (.cells #[.int .i64 15, .int .i64 10, .int .i64 9, .int .i64 8, .int .i64 7, .int .i64 5, .int .i64 4] 3))
    clear hq hr
    generalize (w3.alloc (.cells #[.bool h.resp, .bool h.aa, .bool h.tc, .bool h.rd, .bool h.ra, .bool h.ad, .bool h.cd] 4)).alloc (.cells #[.int .i64 15, .int .i64 10, .int .i64 9, .int .i64 8, .int .i64 7, .int .i64 5, .int .i64 4] 3) = W at *
    generalize w3.heap.size = q at *
    have HZ : Hid (0 ≤ h.op ∧ h.op ≤ 15 ∧ 0 ≤ h.rc ∧ h.rc ≤ 15) := by
      have hm := Hd.may_parts HM.out
      exact ⟨hm.1.1, hm.1.2, hm.2.1.1, hm.2.1.2⟩
    go_loopg [8] 7 (fun g i wr => ∃ k : Nat, g = 7 - k ∧ k ≤ 7 ∧ i = .int .i64 k ∧ ∃ n, wr = W.drewN n)
    case atStart => exact ⟨0, rfl, Nat.zero_le _, rfl, 0, rfl⟩
    case round =>
      obtain ⟨k, hg, hk, rfl, n, rfl⟩ := hrel
      have HH := Lib.hid hg
      clear hg
      rcases (show k = 0 ∨ k = 1 ∨ k = 2 ∨ k = 3 ∨ k = 4 ∨ k = 5 ∨ k = 6 ∨ k = 7 by omega) with rfl | rfl | rfl | rfl | rfl | rfl | rfl | rfl
      · have c : W.cell? ⟨q + 1, 0, none⟩ = some (.int .i64 15) := HQ.out.2.cell 0
        have d : W.cell? ⟨q, 0, none⟩ = some (.bool h.resp) := HQ.out.1.cell 0
        have hx : (bits .and .i64 ((h.bits : Int) / 32768) 1 == 1) = h.resp := by
          obtain ⟨z1, z2, z3, z4⟩ := HZ.out
          have q0 := b01_le h.resp; have q1 := b01_le h.aa; have q2 := b01_le h.tc; have q3 := b01_le h.rd; have q4 := b01_le h.ra; have q5 := b01_le h.ad; have q6 := b01_le h.cd
          have hb := h.bits_eq
          have e : bits .and .i64 ((h.bits : Int) / 32768) 1 = (b01 h.resp : Int) := by
            rw [i64_and1]
            omega
          rw [e]
          cases h.resp <;> rfl
        have HX := Lib.hid hx
        clear hx
        go_wp2_with fail
        go_quiet (fail)
        simp only [HX.out, beq_self_eq_true, Bool.not_true]
        go_wp2_with fail
        go_roundg (7 - 1)
        case measure => rw [HH.out]; decide
        case rel => exact ⟨1, rfl, by decide, by go_num, _, rfl⟩
      · have c : W.cell? ⟨q + 1, 1, none⟩ = some (.int .i64 10) := HQ.out.2.cell 1
        have d : W.cell? ⟨q, 1, none⟩ = some (.bool h.aa) := HQ.out.1.cell 1
        have hx : (bits .and .i64 ((h.bits : Int) / 1024) 1 == 1) = h.aa := by
          obtain ⟨z1, z2, z3, z4⟩ := HZ.out
          have q0 := b01_le h.resp; have q1 := b01_le h.aa; have q2 := b01_le h.tc; have q3 := b01_le h.rd; have q4 := b01_le h.ra; have q5 := b01_le h.ad; have q6 := b01_le h.cd
          have hb := h.bits_eq
          have e : bits .and .i64 ((h.bits : Int) / 1024) 1 = (b01 h.aa : Int) := by
            rw [i64_and1]
            omega
          rw [e]
          cases h.aa <;> rfl
        have HX := Lib.hid hx
        clear hx
        go_wp2_with fail
        go_quiet (fail)
        simp only [HX.out, beq_self_eq_true, Bool.not_true]
        go_wp2_with fail
        go_roundg (7 - 2)
        case measure => rw [HH.out]; decide
        case rel => exact ⟨2, rfl, by decide, by go_num, _, rfl⟩
      · have c : W.cell? ⟨q + 1, 2, none⟩ = some (.int .i64 9) := HQ.out.2.cell 2
        have d : W.cell? ⟨q, 2, none⟩ = some (.bool h.tc) := HQ.out.1.cell 2
        have hx : (bits .and .i64 ((h.bits : Int) / 512) 1 == 1) = h.tc := by
          obtain ⟨z1, z2, z3, z4⟩ := HZ.out
          have q0 := b01_le h.resp; have q1 := b01_le h.aa; have q2 := b01_le h.tc; have q3 := b01_le h.rd; have q4 := b01_le h.ra; have q5 := b01_le h.ad; have q6 := b01_le h.cd
          have hb := h.bits_eq
          have e : bits .and .i64 ((h.bits : Int) / 512) 1 = (b01 h.tc : Int) := by
            rw [i64_and1]
            omega
          rw [e]
          cases h.tc <;> rfl
        have HX := Lib.hid hx
        clear hx
        go_wp2_with fail
        go_quiet (fail)
        simp only [HX.out, beq_self_eq_true, Bool.not_true]
        go_wp2_with fail
        go_roundg (7 - 3)
        case measure => rw [HH.out]; decide
        case rel => exact ⟨3, rfl, by decide, by go_num, _, rfl⟩
      · have c : W.cell? ⟨q + 1, 3, none⟩ = some (.int .i64 8) := HQ.out.2.cell 3
        have d : W.cell? ⟨q, 3, none⟩ = some (.bool h.rd) := HQ.out.1.cell 3
        have hx : (bits .and .i64 ((h.bits : Int) / 256) 1 == 1) = h.rd := by
          obtain ⟨z1, z2, z3, z4⟩ := HZ.out
          have q0 := b01_le h.resp; have q1 := b01_le h.aa; have q2 := b01_le h.tc; have q3 := b01_le h.rd; have q4 := b01_le h.ra; have q5 := b01_le h.ad; have q6 := b01_le h.cd
          have hb := h.bits_eq
          have e : bits .and .i64 ((h.bits : Int) / 256) 1 = (b01 h.rd : Int) := by
            rw [i64_and1]
            omega
          rw [e]
          cases h.rd <;> rfl
        have HX := Lib.hid hx
        clear hx
        go_wp2_with fail
        go_quiet (fail)
        simp only [HX.out, beq_self_eq_true, Bool.not_true]
        go_wp2_with fail
        go_roundg (7 - 4)
        case measure => rw [HH.out]; decide
        case rel => exact ⟨4, rfl, by decide, by go_num, _, rfl⟩
      · have c : W.cell? ⟨q + 1, 4, none⟩ = some (.int .i64 7) := HQ.out.2.cell 4
        have d : W.cell? ⟨q, 4, none⟩ = some (.bool h.ra) := HQ.out.1.cell 4
        have hx : (bits .and .i64 ((h.bits : Int) / 128) 1 == 1) = h.ra := by
          obtain ⟨z1, z2, z3, z4⟩ := HZ.out
          have q0 := b01_le h.resp; have q1 := b01_le h.aa; have q2 := b01_le h.tc; have q3 := b01_le h.rd; have q4 := b01_le h.ra; have q5 := b01_le h.ad; have q6 := b01_le h.cd
          have hb := h.bits_eq
          have e : bits .and .i64 ((h.bits : Int) / 128) 1 = (b01 h.ra : Int) := by
            rw [i64_and1]
            omega
          rw [e]
          cases h.ra <;> rfl
        have HX := Lib.hid hx
        clear hx
        go_wp2_with fail
        go_quiet (fail)
        simp only [HX.out, beq_self_eq_true, Bool.not_true]
        go_wp2_with fail
        go_roundg (7 - 5)
        case measure => rw [HH.out]; decide
        case rel => exact ⟨5, rfl, by decide, by go_num, _, rfl⟩
      · have c : W.cell? ⟨q + 1, 5, none⟩ = some (.int .i64 5) := HQ.out.2.cell 5
        have d : W.cell? ⟨q, 5, none⟩ = some (.bool h.ad) := HQ.out.1.cell 5
        have hx : (bits .and .i64 ((h.bits : Int) / 32) 1 == 1) = h.ad := by
          obtain ⟨z1, z2, z3, z4⟩ := HZ.out
          have q0 := b01_le h.resp; have q1 := b01_le h.aa; have q2 := b01_le h.tc; have q3 := b01_le h.rd; have q4 := b01_le h.ra; have q5 := b01_le h.ad; have q6 := b01_le h.cd
          have hb := h.bits_eq
          have e : bits .and .i64 ((h.bits : Int) / 32) 1 = (b01 h.ad : Int) := by
            rw [i64_and1]
            omega
          rw [e]
          cases h.ad <;> rfl
        have HX := Lib.hid hx
        clear hx
        go_wp2_with fail
        go_quiet (fail)
        simp only [HX.out, beq_self_eq_true, Bool.not_true]
        go_wp2_with fail
        go_roundg (7 - 6)
        case measure => rw [HH.out]; decide
        case rel => exact ⟨6, rfl, by decide, by go_num, _, rfl⟩
      · have c : W.cell? ⟨q + 1, 6, none⟩ = some (.int .i64 4) := HQ.out.2.cell 6
        have d : W.cell? ⟨q, 6, none⟩ = some (.bool h.cd) := HQ.out.1.cell 6
        have hx : (bits .and .i64 ((h.bits : Int) / 16) 1 == 1) = h.cd := by
          obtain ⟨z1, z2, z3, z4⟩ := HZ.out
          have q0 := b01_le h.resp; have q1 := b01_le h.aa; have q2 := b01_le h.tc; have q3 := b01_le h.rd; have q4 := b01_le h.ra; have q5 := b01_le h.ad; have q6 := b01_le h.cd
          have hb := h.bits_eq
          have e : bits .and .i64 ((h.bits : Int) / 16) 1 = (b01 h.cd : Int) := by
            rw [i64_and1]
            omega
          rw [e]
          cases h.cd <;> rfl
        have HX := Lib.hid hx
        clear hx
        go_wp2_with fail
        go_quiet (fail)
        simp only [HX.out, beq_self_eq_true, Bool.not_true]
        go_wp2_with fail
        go_roundg (7 - 7)
        case measure => rw [HH.out]; decide
        case rel => exact ⟨7, rfl, by decide, by go_num, _, rfl⟩
      · go_wp2_with fail
        replace HB := Lib.hid (HB.out.drewN n)
        replace HF := Lib.hid (HF.out.drewN n)
        generalize W.drewN n = V at *
        clear HH HQ
        go_loopg [9] 4 (fun g i wr => ∃ k : Nat, g = 4 - k ∧ k ≤ 4 ∧ i = .int .i64 k ∧ ∃ n, wr = V.drewN n)
        case atStart => exact ⟨0, rfl, Nat.zero_le _, rfl, 0, rfl⟩
        case round =>
          obtain ⟨k, hg, hk, rfl, n, rfl⟩ := hrel
          have HH := Lib.hid hg
          clear hg
          rcases (show k = 0 ∨ k = 1 ∨ k = 2 ∨ k = 3 ∨ k = 4 by omega) with rfl | rfl | rfl | rfl | rfl
          · have c : V.cell? ⟨p, 10, none⟩ = some (.int .i64 h.c0) := HB.out.cell 10
            have xk : wrap64 (wrap64 (wrap64 (((⟨#[b0, b1, b2, b3, b4, b5, b6, b7, b8, b9, b10, b11]⟩ : ByteArray)[4]'(by decide : 4 < 12)).toNat : Int) * 256) + wrap64 (((⟨#[b0, b1, b2, b3, b4, b5, b6, b7, b8, b9, b10, b11]⟩ : ByteArray)[5]'(by decide : 5 < 12)).toNat : Int)) = h.c0 := by
              show wrap64 (wrap64 (wrap64 (b4.toNat : Int) * 256) + wrap64 (b5.toNat : Int)) = h.c0
              exact two_octets b4 b5 _ HE.out.2.2.1
            have XK := Lib.hid xk
            clear xk
            go_wp2_with fail
            go_quiet (fail)
            simp only [XK.out, bne_self_eq_false]
            go_wp2_with fail
            go_roundg (4 - 1)
            case measure => rw [HH.out]; decide
            case rel => exact ⟨1, rfl, by decide, by go_num, _, rfl⟩
          · have c : V.cell? ⟨p, 11, none⟩ = some (.int .i64 h.c1) := HB.out.cell 11
            have xk : wrap64 (wrap64 (wrap64 (((⟨#[b0, b1, b2, b3, b4, b5, b6, b7, b8, b9, b10, b11]⟩ : ByteArray)[6]'(by decide : 6 < 12)).toNat : Int) * 256) + wrap64 (((⟨#[b0, b1, b2, b3, b4, b5, b6, b7, b8, b9, b10, b11]⟩ : ByteArray)[7]'(by decide : 7 < 12)).toNat : Int)) = h.c1 := by
              show wrap64 (wrap64 (wrap64 (b6.toNat : Int) * 256) + wrap64 (b7.toNat : Int)) = h.c1
              exact two_octets b6 b7 _ HE.out.2.2.2.1
            have XK := Lib.hid xk
            clear xk
            go_wp2_with fail
            go_quiet (fail)
            simp only [XK.out, bne_self_eq_false]
            go_wp2_with fail
            go_roundg (4 - 2)
            case measure => rw [HH.out]; decide
            case rel => exact ⟨2, rfl, by decide, by go_num, _, rfl⟩
          · have c : V.cell? ⟨p, 12, none⟩ = some (.int .i64 h.c2) := HB.out.cell 12
            have xk : wrap64 (wrap64 (wrap64 (((⟨#[b0, b1, b2, b3, b4, b5, b6, b7, b8, b9, b10, b11]⟩ : ByteArray)[8]'(by decide : 8 < 12)).toNat : Int) * 256) + wrap64 (((⟨#[b0, b1, b2, b3, b4, b5, b6, b7, b8, b9, b10, b11]⟩ : ByteArray)[9]'(by decide : 9 < 12)).toNat : Int)) = h.c2 := by
              show wrap64 (wrap64 (wrap64 (b8.toNat : Int) * 256) + wrap64 (b9.toNat : Int)) = h.c2
              exact two_octets b8 b9 _ HE.out.2.2.2.2.1
            have XK := Lib.hid xk
            clear xk
            go_wp2_with fail
            go_quiet (fail)
            simp only [XK.out, bne_self_eq_false]
            go_wp2_with fail
            go_roundg (4 - 3)
            case measure => rw [HH.out]; decide
            case rel => exact ⟨3, rfl, by decide, by go_num, _, rfl⟩
          · have c : V.cell? ⟨p, 13, none⟩ = some (.int .i64 h.c3) := HB.out.cell 13
            have xk : wrap64 (wrap64 (wrap64 (((⟨#[b0, b1, b2, b3, b4, b5, b6, b7, b8, b9, b10, b11]⟩ : ByteArray)[10]'(by decide : 10 < 12)).toNat : Int) * 256) + wrap64 (((⟨#[b0, b1, b2, b3, b4, b5, b6, b7, b8, b9, b10, b11]⟩ : ByteArray)[11]'(by decide : 11 < 12)).toNat : Int)) = h.c3 := by
              show wrap64 (wrap64 (wrap64 (b10.toNat : Int) * 256) + wrap64 (b11.toNat : Int)) = h.c3
              exact two_octets b10 b11 _ HE.out.2.2.2.2.2
            have XK := Lib.hid xk
            clear xk
            go_wp2_with fail
            go_quiet (fail)
            simp only [XK.out, bne_self_eq_false]
            go_wp2_with fail
            go_roundg (4 - 4)
            case measure => rw [HH.out]; decide
            case rel => exact ⟨4, rfl, by decide, by go_num, _, rfl⟩
          · have c0 : V.cell? ⟨p, 0, none⟩ = some (.int .u16 h.id) := HB.out.cell 0
            have c2 : V.cell? ⟨p, 2, none⟩ = some (.int .i64 h.op) := HB.out.cell 2
            have c9 : V.cell? ⟨p, 9, none⟩ = some (.int .i64 h.rc) := HB.out.cell 9
            have hb := h.bits_eq
            obtain ⟨z1, z2, z3, z4⟩ := HZ.out
            have q0 := b01_le h.resp; have q1 := b01_le h.aa; have q2 := b01_le h.tc; have q3 := b01_le h.rd; have q4 := b01_le h.ra; have q5 := b01_le h.ad; have q6 := b01_le h.cd
            have y1 : bits .and .i64 ((h.bits : Int) / 2048) 15 = h.op := by rw [i64_and15]; omega
            have y2 : bits .and .i64 (h.bits : Int) 15 = h.rc := by rw [i64_and15]; omega
            have y3 : bits .and .i64 ((h.bits : Int) / 64) 1 = 0 := by rw [i64_and1]; omega
            clear hb q0 q1 q2 q3 q4 q5 q6 z1 z2 z3 z4
            have hid := HK.out.1
            have xk : wrap64 (wrap64 (wrap64 (((⟨#[b0, b1, b2, b3, b4, b5, b6, b7, b8, b9, b10, b11]⟩ : ByteArray)[0]'(by decide : 0 < 12)).toNat : Int) * 256) + wrap64 (((⟨#[b0, b1, b2, b3, b4, b5, b6, b7, b8, b9, b10, b11]⟩ : ByteArray)[1]'(by decide : 1 < 12)).toNat : Int)) = h.id := by
              show wrap64 (wrap64 (wrap64 (b0.toNat : Int) * 256) + wrap64 (b1.toNat : Int)) = h.id
              exact two_octets b0 b1 _ HE.out.1
            have XK := Lib.hid xk
            clear xk
            go_wp2_with fail
            go_quiet (fail)
            simp only [XK.out]
            go_wp2_with fail
            go_ret
            exact ⟨ret_bool (by simp), (HF.out.drewN n).drewN nq |>.below (fun _ h => h.elim) (Nat.le_of_eq (by rw [HP.out]))⟩
end Go.Proofs.Ytbemackcdccpaaa
