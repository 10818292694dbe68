/-
  LAYER 6: Put.
-/
import Derived.Test.YtmbgejiahmhffaaGreatUHdrw
import Derived.Deep.LoopGhost
namespace Go.Proofs.YtmbgejiahmhffaaGreat
open Go.RowKit

theorem octs_two (v : Nat) : (octs v 2).length = 2 := rfl
theorem Wst.number_two (b : List UInt8) (m v : Int) (hb : (b.length : Int) + 2 ≤ m) (h1 : v < 65536) : (⟨b, m, 0⟩ : Wst).number v 2 = (⟨b ++ octs v.toNat 2, m, 0⟩, 0) := by
  have hf : fitsB v 2 = true := by simp only [fitsB, decide_eq_true_eq]; refine ⟨by decide, by decide, ?_⟩; exact h1
  unfold Wst.number
  rw [if_neg (by simp), if_pos hf]
  unfold Wst.put
  rw [if_neg (by simp), if_neg (by rw [show Int.toNat 2 = 2 from rfl, octs_two]; simp only; omega)]
  rfl
/-- A header's octets. -/
def Hd.upto (h : Hd) : Nat → List UInt8
  | 0 => octs h.id.toNat 2 ++ octs h.bits 2
  | k + 1 => h.upto k ++ octs (h.count k).toNat 2
theorem Hd.upto_length (h : Hd) (k : Nat) : (h.upto k).length = 4 + 2 * k := by
  induction k with
  | zero => rfl
  | succ k ih => rw [Hd.upto, List.length_append, ih, octs_two]; omega
def Hd.put (h : Hd) : ByteArray := if h.may = true then ⟨(h.upto 4).toArray⟩ else ⟨#[]⟩
theorem Hd.may_parts {h : Hd} (hm : h.may = true) : (0 ≤ h.op ∧ h.op ≤ 15) ∧ (0 ≤ h.rc ∧ h.rc ≤ 15) ∧ ∀ k, 0 ≤ h.count k ∧ h.count k ≤ 65535 := by
  simp only [Hd.may, Bool.and_eq_true, four, sixteen, decide_eq_true_eq] at hm
  obtain ⟨⟨⟨⟨⟨a, b⟩, c⟩, d⟩, e⟩, f⟩ := hm
  refine ⟨a, b, fun k => ?_⟩
  unfold Hd.count
  split <;> assumption
/-- A writer of twelve octets, while a header lies at block p. -/
def HdW (w0 w : World) (p q : Nat) (F : Nat → Prop) (cs : Array Value) (b : List UInt8) : Prop :=
  Wr w q F ⟨b, 12, 0⟩ ∧ ¬ F p ∧ (∀ i, F i → w0.heap.size ≤ i) ∧ Fr (fun _ => False) w0 w ∧ Blk w p 25 cs
theorem HdW.step {w0 w w' : World} {p q : Nat} {F F' : Nat → Prop} {cs : Array Value} {b b' : List UInt8} (h : HdW w0 w p q F cs b) (h4 : Wr w' q F' ⟨b', 12, 0⟩) (f4 : Fr F w w') (s4 : ∀ k, F' k → F k ∨ w.heap.size ≤ k) :
    HdW w0 w' p q F' cs b' := by
  obtain ⟨h1, h2, h3, h5, h6⟩ := h
  have hp := h6.lt
  exact ⟨h4, fun h => (s4 p h).elim h2 fun h => by omega, fun i hi => (s4 i hi).elim (h3 i) fun h => Nat.le_trans h5.size h, h5.trans f4 (fun i hi hF => absurd (h3 i hF) (by omega)), h6.fr f4 h2⟩
set_option maxRecDepth 100000 in
set_option maxHeartbeats 4000000 in
theorem put_hd (h : Hd) (w : World) (hok : h.ok) :
    Calls Tryz.prog 33 #[h.val] w fun e w' => e = .returned (.tuple #[.string h.put, .int .i64 h.check]) ∧ Fr (fun _ => False) w w' := by
  have HP : Hid (h.put = if h.may = true then ⟨(h.upto 4).toArray⟩ else ⟨#[]⟩) := rfl
  have HC : Hid (h.check = if h.may = true then (0 : Int) else 2) := rfl
  have HK := Lib.hid hok
  have hid : 0 ≤ h.id ∧ h.id ≤ 65535 := hok.1
  clear hok
  go_enter Tryz.func33, Tryz.ntmps33
  go_wp2_with fail
  refine (check_any h _).mono ?_
  rintro e w1 ⟨rfl, f1⟩
  have hb : Blk w1 w.heap.size 25 h.cells.toArray := (Blk.new w 25 _).fr f1 id
  have HF : Hid (Fr (fun _ => False) w w1) := ((Fr.refl _ _).alloc _).then f1
  generalize hp : w.heap.size = p at hb ⊢
  have HG := Lib.hid (Nat.le_of_eq hp)
  have HB := Lib.hid hb
  clear f1 hb hp
  cases hm : h.may
  · have hz : h.put = ⟨#[]⟩ := by rw [HP.out, hm]; rfl
    have hc : h.check = 2 := by rw [HC.out, hm]; rfl
    rw [hc]
    have HZ := Lib.hid hz
    have HC2 := Lib.hid hc
    clear hz hc HP HC
    go_wp2_with fail
    go_ret2
    exact ⟨by rw [HZ.out, HC2.out]; rfl, HF.out⟩
  · have hc : h.check = 0 := by rw [HC.out, hm]; rfl
    have hz : h.put = ⟨(h.upto 4).toArray⟩ := by rw [HP.out, hm]; rfl
    rw [hc]
    have HZ := Lib.hid hz
    have HC2 := Lib.hid hc
    clear hz hc HP HC
    obtain ⟨m1, m2, m3⟩ := Hd.may_parts hm
    have HM := Lib.hid m3
    have c2 : w1.cell? ⟨p, 2, none⟩ = some (.int .i64 h.op) := HB.out.cell 2
    have c9 : w1.cell? ⟨p, 9, none⟩ = some (.int .i64 h.rc) := HB.out.cell 9
    clear hm m3
    go_wp2_with fail
    refine (flags_any p _).mono ?_
    rintro e w2 ⟨rfl, f2⟩
    have HB2 := Lib.hid (HB.out.fr f2 id)
    have HF2 := Lib.hid (HF.out.then f2)
    clear c2 c9 f2 HB HF
    have hbase : bits .or .u32 (h.op * 2048) h.rc = (h.bitsTo 0 : Int) := by
      have e1 : h.op * 2048 = ((h.op.toNat * 2048 : Nat) : Int) := by omega
      have e2 : h.rc = ((h.rc.toNat : Nat) : Int) := by omega
      rw [e1]
      conv => lhs; rw [e2]
      rw [u32_or _ _ (by omega) (by omega), or_base _ _ (by omega)]
      rfl
    rw [hbase]
    clear hbase
    have HO := Lib.hid (And.intro (show h.op.toNat ≤ 15 by omega) (show h.rc.toNat ≤ 15 by omega))
    clear m1 m2
    have i0 : ∀ w, (Instr.index 120 (flagsVal p) (.int .i64 0)).run Tryz.prog w = .ok (.agg #[.int .u32 32768, .pointer (some ⟨p, 1, none⟩)]) w := fun _ => by kernel_rfl
    have i1 : ∀ w, (Instr.index 120 (flagsVal p) (.int .i64 1)).run Tryz.prog w = .ok (.agg #[.int .u32 1024, .pointer (some ⟨p, 3, none⟩)]) w := fun _ => by kernel_rfl
    have i2 : ∀ w, (Instr.index 120 (flagsVal p) (.int .i64 2)).run Tryz.prog w = .ok (.agg #[.int .u32 512, .pointer (some ⟨p, 4, none⟩)]) w := fun _ => by kernel_rfl
    have i3 : ∀ w, (Instr.index 120 (flagsVal p) (.int .i64 3)).run Tryz.prog w = .ok (.agg #[.int .u32 256, .pointer (some ⟨p, 5, none⟩)]) w := fun _ => by kernel_rfl
    have i4 : ∀ w, (Instr.index 120 (flagsVal p) (.int .i64 4)).run Tryz.prog w = .ok (.agg #[.int .u32 128, .pointer (some ⟨p, 6, none⟩)]) w := fun _ => by kernel_rfl
    have i5 : ∀ w, (Instr.index 120 (flagsVal p) (.int .i64 5)).run Tryz.prog w = .ok (.agg #[.int .u32 32, .pointer (some ⟨p, 7, none⟩)]) w := fun _ => by kernel_rfl
    have i6 : ∀ w, (Instr.index 120 (flagsVal p) (.int .i64 6)).run Tryz.prog w = .ok (.agg #[.int .u32 16, .pointer (some ⟨p, 8, none⟩)]) w := fun _ => by kernel_rfl
    go_wp2_with fail
    go_loopg [5, 25] 7 (fun g v i wr => ∃ k : Nat, g = 7 - k ∧ k ≤ 7 ∧ i = .int .i64 k ∧ v = .int .u32 (h.bitsTo k : Int) ∧ Blk wr p 25 h.cells.toArray ∧ Fr (fun _ => False) w wr)
    case atStart => exact ⟨0, rfl, Nat.zero_le _, rfl, rfl, HB2.out, HF2.out⟩
    case round =>
      clear HB2 HF2
      obtain ⟨k, hg, hk, rfl, rfl, hbr, hfr⟩ := hrel
      have HBR := Lib.hid hbr
      have HFR := Lib.hid hfr
      have HH := Lib.hid hg
      clear hg hbr hfr
      rcases (show k = 0 ∨ k = 1 ∨ k = 2 ∨ k = 3 ∨ k = 4 ∨ k = 5 ∨ k = 6 ∨ k = 7 by omega) with rfl | rfl | rfl | rfl | rfl | rfl | rfl | rfl
      · have HN : Hid (Blk (wr.alloc (.cells #[.int .u32 32768, .pointer (some ⟨p, 1, none⟩)] 119)) p 25 h.cells.toArray ∧ Fr (fun _ => False) w (wr.alloc (.cells #[.int .u32 32768, .pointer (some ⟨p, 1, none⟩)] 119))) := ⟨HBR.out.alloc _, HFR.out.alloc _⟩
        have c : (wr.alloc (.cells #[.int .u32 32768, .pointer (some ⟨p, 1, none⟩)] 119)).cell? ⟨p, 1, none⟩ = some (.bool h.resp) := HN.out.1.cell 1
        rcases (show h.resp = false ∨ h.resp = true by cases h.resp <;> simp) with hf | hf
        · rw [hf] at c
          have HS : Hid (h.bitsTo 0 = h.bitsTo 1) := h.bits_stay 0 (by decide) hf
          clear hf
          go_wp2_with fail
          go_roundg (7 - 1)
          case measure => rw [HH.out]; decide
          case rel => exact ⟨1, rfl, by decide, by go_num, by rw [HS.out], HN.out.1, HN.out.2⟩
        · rw [hf] at c
          have HS : Hid (bits .or .u32 (h.bitsTo 0 : Int) 32768 = (h.bitsTo 1 : Int)) := hd_or_step h HO.out.1 HO.out.2 0 (by decide) hf _ (by decide)
          clear hf
          go_wp2_with fail
          go_roundg (7 - 1)
          case measure => rw [HH.out]; decide
          case rel => exact ⟨1, rfl, by decide, by go_num, by rw [← HS.out], HN.out.1, HN.out.2⟩
      · have HN : Hid (Blk (wr.alloc (.cells #[.int .u32 1024, .pointer (some ⟨p, 3, none⟩)] 119)) p 25 h.cells.toArray ∧ Fr (fun _ => False) w (wr.alloc (.cells #[.int .u32 1024, .pointer (some ⟨p, 3, none⟩)] 119))) := ⟨HBR.out.alloc _, HFR.out.alloc _⟩
        have c : (wr.alloc (.cells #[.int .u32 1024, .pointer (some ⟨p, 3, none⟩)] 119)).cell? ⟨p, 3, none⟩ = some (.bool h.aa) := HN.out.1.cell 3
        rcases (show h.aa = false ∨ h.aa = true by cases h.aa <;> simp) with hf | hf
        · rw [hf] at c
          have HS : Hid (h.bitsTo 1 = h.bitsTo 2) := h.bits_stay 1 (by decide) hf
          clear hf
          go_wp2_with fail
          go_roundg (7 - 2)
          case measure => rw [HH.out]; decide
          case rel => exact ⟨2, rfl, by decide, by go_num, by rw [HS.out], HN.out.1, HN.out.2⟩
        · rw [hf] at c
          have HS : Hid (bits .or .u32 (h.bitsTo 1 : Int) 1024 = (h.bitsTo 2 : Int)) := hd_or_step h HO.out.1 HO.out.2 1 (by decide) hf _ (by decide)
          clear hf
          go_wp2_with fail
          go_roundg (7 - 2)
          case measure => rw [HH.out]; decide
          case rel => exact ⟨2, rfl, by decide, by go_num, by rw [← HS.out], HN.out.1, HN.out.2⟩
      · have HN : Hid (Blk (wr.alloc (.cells #[.int .u32 512, .pointer (some ⟨p, 4, none⟩)] 119)) p 25 h.cells.toArray ∧ Fr (fun _ => False) w (wr.alloc (.cells #[.int .u32 512, .pointer (some ⟨p, 4, none⟩)] 119))) := ⟨HBR.out.alloc _, HFR.out.alloc _⟩
        have c : (wr.alloc (.cells #[.int .u32 512, .pointer (some ⟨p, 4, none⟩)] 119)).cell? ⟨p, 4, none⟩ = some (.bool h.tc) := HN.out.1.cell 4
        rcases (show h.tc = false ∨ h.tc = true by cases h.tc <;> simp) with hf | hf
        · rw [hf] at c
          have HS : Hid (h.bitsTo 2 = h.bitsTo 3) := h.bits_stay 2 (by decide) hf
          clear hf
          go_wp2_with fail
          go_roundg (7 - 3)
          case measure => rw [HH.out]; decide
          case rel => exact ⟨3, rfl, by decide, by go_num, by rw [HS.out], HN.out.1, HN.out.2⟩
        · rw [hf] at c
          have HS : Hid (bits .or .u32 (h.bitsTo 2 : Int) 512 = (h.bitsTo 3 : Int)) := hd_or_step h HO.out.1 HO.out.2 2 (by decide) hf _ (by decide)
          clear hf
          go_wp2_with fail
          go_roundg (7 - 3)
          case measure => rw [HH.out]; decide
          case rel => exact ⟨3, rfl, by decide, by go_num, by rw [← HS.out], HN.out.1, HN.out.2⟩
      · have HN : Hid (Blk (wr.alloc (.cells #[.int .u32 256, .pointer (some ⟨p, 5, none⟩)] 119)) p 25 h.cells.toArray ∧ Fr (fun _ => False) w (wr.alloc (.cells #[.int .u32 256, .pointer (some ⟨p, 5, none⟩)] 119))) := ⟨HBR.out.alloc _, HFR.out.alloc _⟩
        have c : (wr.alloc (.cells #[.int .u32 256, .pointer (some ⟨p, 5, none⟩)] 119)).cell? ⟨p, 5, none⟩ = some (.bool h.rd) := HN.out.1.cell 5
        rcases (show h.rd = false ∨ h.rd = true by cases h.rd <;> simp) with hf | hf
        · rw [hf] at c
          have HS : Hid (h.bitsTo 3 = h.bitsTo 4) := h.bits_stay 3 (by decide) hf
          clear hf
          go_wp2_with fail
          go_roundg (7 - 4)
          case measure => rw [HH.out]; decide
          case rel => exact ⟨4, rfl, by decide, by go_num, by rw [HS.out], HN.out.1, HN.out.2⟩
        · rw [hf] at c
          have HS : Hid (bits .or .u32 (h.bitsTo 3 : Int) 256 = (h.bitsTo 4 : Int)) := hd_or_step h HO.out.1 HO.out.2 3 (by decide) hf _ (by decide)
          clear hf
          go_wp2_with fail
          go_roundg (7 - 4)
          case measure => rw [HH.out]; decide
          case rel => exact ⟨4, rfl, by decide, by go_num, by rw [← HS.out], HN.out.1, HN.out.2⟩
      · have HN : Hid (Blk (wr.alloc (.cells #[.int .u32 128, .pointer (some ⟨p, 6, none⟩)] 119)) p 25 h.cells.toArray ∧ Fr (fun _ => False) w (wr.alloc (.cells #[.int .u32 128, .pointer (some ⟨p, 6, none⟩)] 119))) := ⟨HBR.out.alloc _, HFR.out.alloc _⟩
        have c : (wr.alloc (.cells #[.int .u32 128, .pointer (some ⟨p, 6, none⟩)] 119)).cell? ⟨p, 6, none⟩ = some (.bool h.ra) := HN.out.1.cell 6
        rcases (show h.ra = false ∨ h.ra = true by cases h.ra <;> simp) with hf | hf
        · rw [hf] at c
          have HS : Hid (h.bitsTo 4 = h.bitsTo 5) := h.bits_stay 4 (by decide) hf
          clear hf
          go_wp2_with fail
          go_roundg (7 - 5)
          case measure => rw [HH.out]; decide
          case rel => exact ⟨5, rfl, by decide, by go_num, by rw [HS.out], HN.out.1, HN.out.2⟩
        · rw [hf] at c
          have HS : Hid (bits .or .u32 (h.bitsTo 4 : Int) 128 = (h.bitsTo 5 : Int)) := hd_or_step h HO.out.1 HO.out.2 4 (by decide) hf _ (by decide)
          clear hf
          go_wp2_with fail
          go_roundg (7 - 5)
          case measure => rw [HH.out]; decide
          case rel => exact ⟨5, rfl, by decide, by go_num, by rw [← HS.out], HN.out.1, HN.out.2⟩
      · have HN : Hid (Blk (wr.alloc (.cells #[.int .u32 32, .pointer (some ⟨p, 7, none⟩)] 119)) p 25 h.cells.toArray ∧ Fr (fun _ => False) w (wr.alloc (.cells #[.int .u32 32, .pointer (some ⟨p, 7, none⟩)] 119))) := ⟨HBR.out.alloc _, HFR.out.alloc _⟩
        have c : (wr.alloc (.cells #[.int .u32 32, .pointer (some ⟨p, 7, none⟩)] 119)).cell? ⟨p, 7, none⟩ = some (.bool h.ad) := HN.out.1.cell 7
        rcases (show h.ad = false ∨ h.ad = true by cases h.ad <;> simp) with hf | hf
        · rw [hf] at c
          have HS : Hid (h.bitsTo 5 = h.bitsTo 6) := h.bits_stay 5 (by decide) hf
          clear hf
          go_wp2_with fail
          go_roundg (7 - 6)
          case measure => rw [HH.out]; decide
          case rel => exact ⟨6, rfl, by decide, by go_num, by rw [HS.out], HN.out.1, HN.out.2⟩
        · rw [hf] at c
          have HS : Hid (bits .or .u32 (h.bitsTo 5 : Int) 32 = (h.bitsTo 6 : Int)) := hd_or_step h HO.out.1 HO.out.2 5 (by decide) hf _ (by decide)
          clear hf
          go_wp2_with fail
          go_roundg (7 - 6)
          case measure => rw [HH.out]; decide
          case rel => exact ⟨6, rfl, by decide, by go_num, by rw [← HS.out], HN.out.1, HN.out.2⟩
      · have HN : Hid (Blk (wr.alloc (.cells #[.int .u32 16, .pointer (some ⟨p, 8, none⟩)] 119)) p 25 h.cells.toArray ∧ Fr (fun _ => False) w (wr.alloc (.cells #[.int .u32 16, .pointer (some ⟨p, 8, none⟩)] 119))) := ⟨HBR.out.alloc _, HFR.out.alloc _⟩
        have c : (wr.alloc (.cells #[.int .u32 16, .pointer (some ⟨p, 8, none⟩)] 119)).cell? ⟨p, 8, none⟩ = some (.bool h.cd) := HN.out.1.cell 8
        rcases (show h.cd = false ∨ h.cd = true by cases h.cd <;> simp) with hf | hf
        · rw [hf] at c
          have HS : Hid (h.bitsTo 6 = h.bitsTo 7) := h.bits_stay 6 (by decide) hf
          clear hf
          go_wp2_with fail
          go_roundg (7 - 7)
          case measure => rw [HH.out]; decide
          case rel => exact ⟨7, rfl, by decide, by go_num, by rw [HS.out], HN.out.1, HN.out.2⟩
        · rw [hf] at c
          have HS : Hid (bits .or .u32 (h.bitsTo 6 : Int) 16 = (h.bitsTo 7 : Int)) := hd_or_step h HO.out.1 HO.out.2 6 (by decide) hf _ (by decide)
          clear hf
          go_wp2_with fail
          go_roundg (7 - 7)
          case measure => rw [HH.out]; decide
          case rel => exact ⟨7, rfl, by decide, by go_num, by rw [← HS.out], HN.out.1, HN.out.2⟩
      · have hbits : h.bitsTo 7 = h.bits := rfl
        rw [hbits]
        clear hbits
        have hbl : h.bits < 65536 := h.bits_lt HO.out.1 HO.out.2 7
        have HBL := Lib.hid hbl
        clear hbl
        clear i0 i1 i2 i3 i4 i5 i6
        go_wp2_with fail
        refine (newWriter_c 12 (by decide) _).mono ?_
        rintro e w3 ⟨q, F, rfl, h3, f3, b3⟩
        have h3' : Wr w3 q F ⟨[], 12, 0⟩ := h3
        have HW : Hid (HdW w w3 p q F h.cells.toArray []) :=
          ⟨h3', fun h => by have := HBR.out.lt; have := b3 _ h; omega, fun i hi => Nat.le_trans HFR.out.size (b3 i hi), HFR.out.then f3, HBR.out.fr f3 id⟩
        have c0 : w3.cell? ⟨p, 0, none⟩ = some (.int .u16 h.id) := HW.out.2.2.2.2.cell 0
        clear h3 h3' f3 b3 HBR HFR HH
        go_wp2_with fail
        refine (number_any q F _ h.id 2 _ HW.out.1 (by omega) (by omega) (by decide)).mono ?_
        rintro e w4 ⟨rfl, F4, h4, f4, s4⟩
        have e4 := Wst.number_two [] 12 h.id (by decide) (by omega)
        rw [e4] at h4
        simp only [e4]
        have HW4 := Lib.hid (HW.out.step h4 f4 s4)
        clear h4 f4 s4 e4 HW c0 hid
        go_wp2_with fail
        refine (number_any q F4 _ h.bits 2 _ HW4.out.1 (by omega) (by have := HBL.out; omega) (by show (octs h.id.toNat 2).length + 4 ≤ _; rw [octs_two]; decide)).mono ?_
        rintro e w5 ⟨rfl, F5, h5, f5, s5⟩
        have e5 := Wst.number_two ([] ++ octs h.id.toNat 2) 12 h.bits (by rw [List.nil_append, octs_two]; decide) (by have := HBL.out; omega)
        rw [e5] at h5
        simp only [e5]
        have HW5 : Hid (HdW w w5 p q F5 h.cells.toArray (h.upto 0)) := HW4.out.step h5 f5 s5
        have c10 : w5.cell? ⟨p, 10, none⟩ = some (.int .i64 h.c0) := HW5.out.2.2.2.2.cell 10
        have c11 : w5.cell? ⟨p, 11, none⟩ = some (.int .i64 h.c1) := HW5.out.2.2.2.2.cell 11
        have c12 : w5.cell? ⟨p, 12, none⟩ = some (.int .i64 h.c2) := HW5.out.2.2.2.2.cell 12
        have c13 : w5.cell? ⟨p, 13, none⟩ = some (.int .i64 h.c3) := HW5.out.2.2.2.2.cell 13
        clear h5 f5 s5 e5 HW4
        go_wp2_with fail
        clear c10 c11 c12 c13
        have i0 : ∀ w, (Instr.index 23 (.agg #[.int .i64 h.c0, .int .i64 h.c1, .int .i64 h.c2, .int .i64 h.c3]) (.int .i64 0)).run Tryz.prog w = .ok (.int .i64 h.c0) w := fun _ => by kernel_rfl
        have i1 : ∀ w, (Instr.index 23 (.agg #[.int .i64 h.c0, .int .i64 h.c1, .int .i64 h.c2, .int .i64 h.c3]) (.int .i64 1)).run Tryz.prog w = .ok (.int .i64 h.c1) w := fun _ => by kernel_rfl
        have i2 : ∀ w, (Instr.index 23 (.agg #[.int .i64 h.c0, .int .i64 h.c1, .int .i64 h.c2, .int .i64 h.c3]) (.int .i64 2)).run Tryz.prog w = .ok (.int .i64 h.c2) w := fun _ => by kernel_rfl
        have i3 : ∀ w, (Instr.index 23 (.agg #[.int .i64 h.c0, .int .i64 h.c1, .int .i64 h.c2, .int .i64 h.c3]) (.int .i64 3)).run Tryz.prog w = .ok (.int .i64 h.c3) w := fun _ => by kernel_rfl
        go_loopg [48] 4 (fun g i wr => ∃ (k : Nat) (F : Nat → Prop), g = 4 - k ∧ k ≤ 4 ∧ i = .int .i64 k ∧ HdW w wr p q F h.cells.toArray (h.upto k))
        case atStart => exact ⟨0, F5, rfl, Nat.zero_le _, rfl, HW5.out⟩
        case round =>
          clear HW5
          obtain ⟨k, G, hg, hk, rfl, hw⟩ := hrel
          have HW := Lib.hid hw
          have HH := Lib.hid hg
          clear hg hw
          rcases (show k = 0 ∨ k = 1 ∨ k = 2 ∨ k = 3 ∨ k = 4 by omega) with rfl | rfl | rfl | rfl | rfl
          · obtain ⟨b1, b2⟩ : 0 ≤ h.c0 ∧ h.c0 ≤ 65535 := HM.out 0
            go_wp2_with fail
            refine (number_any q G _ h.c0 2 _ HW.out.1 (by omega) (by omega) (by show (h.upto 0).length + 4 ≤ _; rw [h.upto_length]; decide)).mono ?_
            rintro e w6 ⟨rfl, F6, h6, f6, s6⟩
            have e6 := Wst.number_two (h.upto 0) 12 h.c0 (by rw [h.upto_length]; decide) (by omega)
            rw [e6] at h6
            simp only [e6]
            have HW6 : Hid (HdW w w6 p q F6 h.cells.toArray (h.upto 1)) := HW.out.step h6 f6 s6
            clear h6 f6 s6 e6
            go_wp2_with fail
            go_roundg (4 - 1)
            case measure => rw [HH.out]; decide
            case rel => exact ⟨1, F6, rfl, by decide, by go_num, HW6.out⟩
          · obtain ⟨b1, b2⟩ : 0 ≤ h.c1 ∧ h.c1 ≤ 65535 := HM.out 1
            go_wp2_with fail
            refine (number_any q G _ h.c1 2 _ HW.out.1 (by omega) (by omega) (by show (h.upto 1).length + 4 ≤ _; rw [h.upto_length]; decide)).mono ?_
            rintro e w6 ⟨rfl, F6, h6, f6, s6⟩
            have e6 := Wst.number_two (h.upto 1) 12 h.c1 (by rw [h.upto_length]; decide) (by omega)
            rw [e6] at h6
            simp only [e6]
            have HW6 : Hid (HdW w w6 p q F6 h.cells.toArray (h.upto 2)) := HW.out.step h6 f6 s6
            clear h6 f6 s6 e6
            go_wp2_with fail
            go_roundg (4 - 2)
            case measure => rw [HH.out]; decide
            case rel => exact ⟨2, F6, rfl, by decide, by go_num, HW6.out⟩
          · obtain ⟨b1, b2⟩ : 0 ≤ h.c2 ∧ h.c2 ≤ 65535 := HM.out 2
            go_wp2_with fail
            refine (number_any q G _ h.c2 2 _ HW.out.1 (by omega) (by omega) (by show (h.upto 2).length + 4 ≤ _; rw [h.upto_length]; decide)).mono ?_
            rintro e w6 ⟨rfl, F6, h6, f6, s6⟩
            have e6 := Wst.number_two (h.upto 2) 12 h.c2 (by rw [h.upto_length]; decide) (by omega)
            rw [e6] at h6
            simp only [e6]
            have HW6 : Hid (HdW w w6 p q F6 h.cells.toArray (h.upto 3)) := HW.out.step h6 f6 s6
            clear h6 f6 s6 e6
            go_wp2_with fail
            go_roundg (4 - 3)
            case measure => rw [HH.out]; decide
            case rel => exact ⟨3, F6, rfl, by decide, by go_num, HW6.out⟩
          · obtain ⟨b1, b2⟩ : 0 ≤ h.c3 ∧ h.c3 ≤ 65535 := HM.out 3
            go_wp2_with fail
            refine (number_any q G _ h.c3 2 _ HW.out.1 (by omega) (by omega) (by show (h.upto 3).length + 4 ≤ _; rw [h.upto_length]; decide)).mono ?_
            rintro e w6 ⟨rfl, F6, h6, f6, s6⟩
            have e6 := Wst.number_two (h.upto 3) 12 h.c3 (by rw [h.upto_length]; decide) (by omega)
            rw [e6] at h6
            simp only [e6]
            have HW6 : Hid (HdW w w6 p q F6 h.cells.toArray (h.upto 4)) := HW.out.step h6 f6 s6
            clear h6 f6 s6 e6
            go_wp2_with fail
            go_roundg (4 - 4)
            case measure => rw [HH.out]; decide
            case rel => exact ⟨4, F6, rfl, by decide, by go_num, HW6.out⟩
          · go_wp2_with fail
            refine (text_any q G _ _ HW.out.1).mono ?_
            rintro e w6 ⟨rfl, rfl⟩
            go_wp2_with fail
            go_ret2
            exact ⟨by rw [HZ.out, HC2.out]; rfl, HW.out.2.2.2.1⟩
end Go.Proofs.YtmbgejiahmhffaaGreat
