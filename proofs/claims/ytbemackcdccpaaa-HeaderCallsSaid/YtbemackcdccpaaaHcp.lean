/-
  THE REFERENCE OF LAYER 6: Put.
-/
import Derived.Test.YtbemackcdccpaaaHcr
import Derived.Deep.LoopGhost
namespace Go.Proofs.Ytbemackcdccpaaa
open Go.RowKit

/-- The reference's writer of twelve octets, while a header lies at block p. -/
def HdV (w0 w : World) (p q : Nat) (cs : Array Value) (b : List UInt8) : Prop :=
  RWr w q ⟨b, 12, 0⟩ ∧ p ≠ q ∧ w0.heap.size ≤ q ∧ Fr (fun _ => False) w0 w ∧ Blk w p 45 cs
theorem HdV.step {w0 w w' : World} {p q : Nat} {cs : Array Value} {b b' : List UInt8} (h : HdV w0 w p q cs b) (h4 : RWr w' q ⟨b', 12, 0⟩) (f4 : Fr (· = q) w w') : HdV w0 w' p q cs b' :=
  ⟨h4, h.2.1, h.2.2.1, h.2.2.2.1.trans f4 (fun i hi hF => by have := h.2.2.1; omega), h.2.2.2.2.fr f4 h.2.1⟩

set_option maxRecDepth 100000 in
set_option maxHeartbeats 12000000 in
theorem rput_hd (h : Hd) (w : World) (hok : h.ok) :
    Calls Try.prog 65 #[h.val] w fun e w' => e = .returned (.tuple #[.string h.put, .int .i64 h.check]) ∧ Fr (fun _ => False) w w' := by
  have HP : Hid (h.put = if h.may = true then ⟨(h.upto 4).toArray⟩ else ⟨#[]⟩) := rfl
  have HC : Hid (h.check = if h.may = true then (0 : Int) else 2) := rfl
  have HK := Lib.hid hok
  have hid : 0 ≤ h.id ∧ h.id ≤ 65535 := hok.1
  clear hok
  go_enter Try.func65, Try.ntmps65
  go_wp2_with fail
  refine (rcheck6_any h _).mono ?_
  rintro e w1 ⟨rfl, f1⟩
  have hb : Blk w1 w.heap.size 45 h.cells.toArray := (Blk.new w 45 _).fr f1 id
  have HF : Hid (Fr (fun _ => False) w w1) := ((Fr.refl _ _).alloc _).then f1
  generalize hp : w.heap.size = p at hb ⊢
  have HG := Lib.hid (Nat.le_of_eq hp)
  have HB := Lib.hid hb
  clear f1 hb hp
  cases hm : h.may
  · have hz : h.put = ⟨#[]⟩ := by rw [HP.out, hm]; rfl
    have hc : h.check = 2 := by rw [HC.out, hm]; rfl
    rw [hc]
    have HZ := Lib.hid hz
    have HC2 := Lib.hid hc
    clear hz hc HP HC
    go_wp2_with fail
    go_ret2
    exact ⟨by rw [HZ.out, HC2.out]; rfl, HF.out⟩
  · have hc : h.check = 0 := by rw [HC.out, hm]; rfl
    have hz : h.put = ⟨(h.upto 4).toArray⟩ := by rw [HP.out, hm]; rfl
    rw [hc]
    have HZ := Lib.hid hz
    have HC2 := Lib.hid hc
    clear hz hc HP HC
    obtain ⟨m1, m2, m3⟩ := Hd.may_parts hm
    have HM := Lib.hid m3
    have c0 : w1.cell? ⟨p, 0, none⟩ = some (.int .u16 h.id) := HB.out.cell 0
    have c1 : w1.cell? ⟨p, 1, none⟩ = some (.bool h.resp) := HB.out.cell 1
    have c2 : w1.cell? ⟨p, 2, none⟩ = some (.int .i64 h.op) := HB.out.cell 2
    have c3 : w1.cell? ⟨p, 3, none⟩ = some (.bool h.aa) := HB.out.cell 3
    have c4 : w1.cell? ⟨p, 4, none⟩ = some (.bool h.tc) := HB.out.cell 4
    have c5 : w1.cell? ⟨p, 5, none⟩ = some (.bool h.rd) := HB.out.cell 5
    have c6 : w1.cell? ⟨p, 6, none⟩ = some (.bool h.ra) := HB.out.cell 6
    have c7 : w1.cell? ⟨p, 7, none⟩ = some (.bool h.ad) := HB.out.cell 7
    have c8 : w1.cell? ⟨p, 8, none⟩ = some (.bool h.cd) := HB.out.cell 8
    have c9 : w1.cell? ⟨p, 9, none⟩ = some (.int .i64 h.rc) := HB.out.cell 9
    clear hm m3
    go_wp2_with fail
    go_quiet (first
      | (go_at_call 87; exact flag_q h.resp 15 32768 (by decide) _ _)
      | (go_at_call 87; exact flag_q h.aa 10 1024 (by decide) _ _)
      | (go_at_call 87; exact flag_q h.tc 9 512 (by decide) _ _)
      | (go_at_call 87; exact flag_q h.rd 8 256 (by decide) _ _)
      | (go_at_call 87; exact flag_q h.ra 7 128 (by decide) _ _)
      | (go_at_call 87; exact flag_q h.ad 5 32 (by decide) _ _)
      | (go_at_call 87; exact flag_q h.cd 4 16 (by decide) _ _))
    have hsum : ((32768 * (b01 h.resp : Int) + h.op * 2048 + 1024 * (b01 h.aa : Int) + 512 * (b01 h.tc : Int) + 256 * (b01 h.rd : Int) + 128 * (b01 h.ra : Int) + 32 * (b01 h.ad : Int) + 16 * (b01 h.cd : Int)) % 4294967296 + h.rc) = (h.bits : Int) := by
      have := b01_le h.resp; have := b01_le h.aa; have := b01_le h.tc; have := b01_le h.rd; have := b01_le h.ra; have := b01_le h.ad; have := b01_le h.cd
      have hb := h.bits_eq
      omega
    have HS := Lib.hid hsum
    have HBL : Hid (h.bits < 65536) := h.bits_lt (by omega) (by omega) 7
    clear hsum
    go_wp2_with fail
    rw [HS.out]
    clear HS
    have HB3 := Lib.hid (HB.out.drewN nq)
    have HF3 := Lib.hid (HF.out.drewN nq)
    have HLT : Hid (p < (w1.drewN nq).heap.size) := HB3.out.lt
    clear c0 c1 c2 c3 c4 c5 c6 c7 c8 c9 HB HF
    generalize w1.drewN nq = W at *
    refine (rnew_any 12 _).mono ?_
    rintro e w3 ⟨rfl, rfl⟩
    have HW : Hid (HdV w (W.alloc (.cells #[.string ⟨#[]⟩, .int .i64 (max 0 12), .int .i64 0] 38)) p W.heap.size h.cells.toArray []) :=
      ⟨RWr.new 12 (by decide) W, by have := HLT.out; omega, HF3.out.size, HF3.out.alloc _, HB3.out.alloc _⟩
    generalize W.alloc (.cells #[.string ⟨#[]⟩, .int .i64 (max 0 12), .int .i64 0] 38) = w3 at *
    generalize W.heap.size = q at *
    clear HB3 HF3 HLT
    have c0 : w3.cell? ⟨p, 0, none⟩ = some (.int .u16 h.id) := HW.out.2.2.2.2.cell 0
    go_wp2_with fail
    refine (rnumber_any q _ h.id 2 _ HW.out.1 (by omega) (by omega) (by decide)).mono ?_
    rintro e w4 ⟨rfl, h4, f4⟩
    have e4 := Wst.number_two [] 12 h.id (by decide) (by omega)
    rw [e4] at h4
    simp only [e4]
    have HW4 := Lib.hid (HW.out.step h4 f4)
    clear h4 f4 e4 HW c0 hid
    go_wp2_with fail
    refine (rnumber_any q _ h.bits 2 _ HW4.out.1 (by omega) (by have := HBL.out; omega) (by show (octs h.id.toNat 2).length + 4 ≤ _; rw [octs_two]; decide)).mono ?_
    rintro e w5 ⟨rfl, h5, f5⟩
    have e5 := Wst.number_two ([] ++ octs h.id.toNat 2) 12 h.bits (by rw [List.nil_append, octs_two]; decide) (by have := HBL.out; omega)
    rw [e5] at h5
    simp only [e5]
    have HW5 : Hid (HdV w w5 p q h.cells.toArray (h.upto 0)) := HW4.out.step h5 f5
    clear h5 f5 e5 HW4
    go_wp2_with fail
    go_loopg [7] 4 (fun g i wr => ∃ (k : Nat), g = 4 - k ∧ k ≤ 4 ∧ i = .int .i64 k ∧ HdV w wr p q h.cells.toArray (h.upto k))
    case atStart => exact ⟨0, rfl, Nat.zero_le _, rfl, HW5.out⟩
    case round =>
      clear HW5
      obtain ⟨k, hg, hk, rfl, hw⟩ := hrel
      have HW := Lib.hid hw
      have HH := Lib.hid hg
      clear hg hw
      rcases (show k = 0 ∨ k = 1 ∨ k = 2 ∨ k = 3 ∨ k = 4 by omega) with rfl | rfl | rfl | rfl | rfl
      · obtain ⟨b1, b2⟩ : 0 ≤ h.c0 ∧ h.c0 ≤ 65535 := HM.out 0
        have c10 : wr.cell? ⟨p, 10, none⟩ = some (.int .i64 h.c0) := HW.out.2.2.2.2.cell 10
        go_wp2_with fail
        refine (rnumber_any q _ h.c0 2 _ HW.out.1 (by omega) (by omega) (by show (h.upto 0).length + 4 ≤ _; rw [h.upto_length]; decide)).mono ?_
        rintro e w6 ⟨rfl, h6, f6⟩
        have e6 := Wst.number_two (h.upto 0) 12 h.c0 (by rw [h.upto_length]; decide) (by omega)
        rw [e6] at h6
        simp only [e6]
        have HW6 : Hid (HdV w w6 p q h.cells.toArray (h.upto 1)) := HW.out.step h6 f6
        clear h6 f6 e6
        go_wp2_with fail
        go_roundg (4 - 1)
        case measure => rw [HH.out]; decide
        case rel => exact ⟨1, rfl, by decide, by go_num, HW6.out⟩
      · obtain ⟨b1, b2⟩ : 0 ≤ h.c1 ∧ h.c1 ≤ 65535 := HM.out 1
        have c11 : wr.cell? ⟨p, 11, none⟩ = some (.int .i64 h.c1) := HW.out.2.2.2.2.cell 11
        go_wp2_with fail
        refine (rnumber_any q _ h.c1 2 _ HW.out.1 (by omega) (by omega) (by show (h.upto 1).length + 4 ≤ _; rw [h.upto_length]; decide)).mono ?_
        rintro e w6 ⟨rfl, h6, f6⟩
        have e6 := Wst.number_two (h.upto 1) 12 h.c1 (by rw [h.upto_length]; decide) (by omega)
        rw [e6] at h6
        simp only [e6]
        have HW6 : Hid (HdV w w6 p q h.cells.toArray (h.upto 2)) := HW.out.step h6 f6
        clear h6 f6 e6
        go_wp2_with fail
        go_roundg (4 - 2)
        case measure => rw [HH.out]; decide
        case rel => exact ⟨2, rfl, by decide, by go_num, HW6.out⟩
      · obtain ⟨b1, b2⟩ : 0 ≤ h.c2 ∧ h.c2 ≤ 65535 := HM.out 2
        have c12 : wr.cell? ⟨p, 12, none⟩ = some (.int .i64 h.c2) := HW.out.2.2.2.2.cell 12
        go_wp2_with fail
        refine (rnumber_any q _ h.c2 2 _ HW.out.1 (by omega) (by omega) (by show (h.upto 2).length + 4 ≤ _; rw [h.upto_length]; decide)).mono ?_
        rintro e w6 ⟨rfl, h6, f6⟩
        have e6 := Wst.number_two (h.upto 2) 12 h.c2 (by rw [h.upto_length]; decide) (by omega)
        rw [e6] at h6
        simp only [e6]
        have HW6 : Hid (HdV w w6 p q h.cells.toArray (h.upto 3)) := HW.out.step h6 f6
        clear h6 f6 e6
        go_wp2_with fail
        go_roundg (4 - 3)
        case measure => rw [HH.out]; decide
        case rel => exact ⟨3, rfl, by decide, by go_num, HW6.out⟩
      · obtain ⟨b1, b2⟩ : 0 ≤ h.c3 ∧ h.c3 ≤ 65535 := HM.out 3
        have c13 : wr.cell? ⟨p, 13, none⟩ = some (.int .i64 h.c3) := HW.out.2.2.2.2.cell 13
        go_wp2_with fail
        refine (rnumber_any q _ h.c3 2 _ HW.out.1 (by omega) (by omega) (by show (h.upto 3).length + 4 ≤ _; rw [h.upto_length]; decide)).mono ?_
        rintro e w6 ⟨rfl, h6, f6⟩
        have e6 := Wst.number_two (h.upto 3) 12 h.c3 (by rw [h.upto_length]; decide) (by omega)
        rw [e6] at h6
        simp only [e6]
        have HW6 : Hid (HdV w w6 p q h.cells.toArray (h.upto 4)) := HW.out.step h6 f6
        clear h6 f6 e6
        go_wp2_with fail
        go_roundg (4 - 4)
        case measure => rw [HH.out]; decide
        case rel => exact ⟨4, rfl, by decide, by go_num, HW6.out⟩
      · have d0 : wr.cell? ⟨q, 0, none⟩ = some (.string ⟨(h.upto 4).toArray⟩) := HW.out.1.1.cell 0
        go_wp2_with fail
        go_ret2
        exact ⟨by rw [HZ.out, HC2.out]; rfl, HW.out.2.2.2.1⟩
end Go.Proofs.Ytbemackcdccpaaa
