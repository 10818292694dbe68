import Derived.Test.YtbemackcdccpaaaLives3
import Derived.Deep.LoopGhost
namespace Go.Proofs.Ytbemackcdccpaaa
open Go.RowKit

structure Act3 where
  kind : Int
  n : Int
  v : Int
  s : ByteArray

/-- The acts lie in the memory that came in. -/
def Acts (w : World) (A : Option Addr) (l : List Act3) : Prop :=
  0 < l.length → ∃ b off, A = some ⟨b, off, none⟩ ∧ b < w.heap.size ∧ ∀ i x, l[i]? = some x →
    w.cell? ⟨b, off + i * 4, none⟩ = some (.int .i64 x.kind) ∧ w.cell? ⟨b, off + i * 4 + 1, none⟩ = some (.int .i64 x.n) ∧ w.cell? ⟨b, off + i * 4 + 2, none⟩ = some (.int .u32 x.v) ∧ w.cell? ⟨b, off + i * 4 + 3, none⟩ = some (.string x.s)

def ActOk (x : Act3) : Prop := -9223372036854775808 ≤ x.kind ∧ x.kind ≤ 9223372036854775807 ∧ -9223372036854775808 ≤ x.n ∧ x.n ≤ 9223372036854775807 ∧ 0 ≤ x.v ∧ x.v < 4294967296

/-- Both writers, the same. -/
def Both (B : Nat) (p q : Nat) (k : Nat) (w : World) : Prop :=
  ∃ F x, Wr w p F x ∧ RWr w q x ∧ ¬ F q ∧ (∀ i, F i → B ≤ i) ∧ B ≤ q ∧ x.b.length ≤ k * 200

theorem Both.drewN {B p q k : Nat} {w : World} (h : Both B p q k w) (n : Nat) : Both B p q k (w.drewN n) := by
  obtain ⟨F, x, h1, h2, h3, h4⟩ := h
  exact ⟨F, x, h1.fr ((Fr.refl (fun _ => False) _).drewN n) (fun _ _ h => h), h2.fr ((Fr.refl (fun _ => False) _).drewN n) id, h3, h4⟩

theorem write_step {B p q k : Nat} {w w4 w5 : World} {F F' : Nat → Prop} {y r : Wst} (_hW : Wr w p F y) (hR : RWr w q y) (hFq : ¬ F q) (hFB : ∀ i, F i → B ≤ i) (hqB : B ≤ q) (hlen : y.b.length ≤ k * 200)
    (h4 : Wr w4 p F' r) (f4 : Fr F w w4) (s4 : ∀ i, F' i → F i ∨ w.heap.size ≤ i) (h5 : RWr w5 q r) (f5 : Fr (· = q) w4 w5) (hr : r.b.length ≤ y.b.length + 200) :
    Wr w5 p F' r ∧ RWr w5 q r ∧ Both B p q (k + 1) w5 ∧ Below B w w5 := by
  have hBw : B ≤ w.heap.size := Nat.le_trans hqB (Nat.le_of_lt hR.1.lt)
  have hq : ¬ F' q := fun h => (s4 q h).elim hFq fun h => by have := hR.1.lt; omega
  have h6 := h4.fr f5 (fun i hi e => hq (e ▸ hi))
  exact ⟨h6, h5, ⟨F', r, h6, h5, hq, fun i hi => (s4 i hi).elim (hFB i) fun h => by omega, hqB, by omega⟩,
    (f4.below hFB hBw).trans (f5.below (fun i hi => by omega) (Nat.le_trans hBw f4.size))⟩

theorem put_len (y : Wst) (s : ByteArray) (hs : s.size ≤ 200) : (y.put s.data.toList).1.b.length ≤ y.b.length + 200 := by
  have : s.data.toList.length = s.size := by simp
  unfold Wst.put
  split
  · exact Nat.le_add_right _ _
  · split
    · exact Nat.le_add_right _ _
    · simp only [List.length_append]; omega
theorem number_len (y : Wst) (v n : Int) : (y.number v n).1.b.length ≤ y.b.length + 200 := by
  unfold Wst.number
  split
  · exact Nat.le_add_right _ _
  · split
    · rename_i hf
      have hn : n.toNat ≤ 4 := by simp only [fitsB, decide_eq_true_eq] at hf; omega
      unfold Wst.put
      split
      · exact Nat.le_add_right _ _
      · split
        · exact Nat.le_add_right _ _
        · simp only [List.length_append, octs_length]; omega
    · exact Nat.le_add_right _ _
theorem patch_len (y : Wst) (a v n : Int) : (y.patch a v n).1.b.length ≤ y.b.length + 200 := by
  unfold Wst.patch
  split
  · exact Nat.le_add_right _ _
  · split
    · rename_i h1 h
      have hn : n.toNat ≤ 4 := by have hf := h.1; simp only [fitsB, decide_eq_true_eq] at hf; omega
      simp only [List.length_append, List.length_take, List.length_drop, octs_length]; omega
    · exact Nat.le_add_right _ _

set_option maxRecDepth 100000 in
set_option maxHeartbeats 4000000 in
theorem octetsWrite_walk (room : Int) (A : Option Addr) (cap : Nat) (l : List Act3) (w : World) (hr : room ≤ 9223372036854775807) (hA : Acts w A l) (hl : ∀ x ∈ l, ActOk x) (hn : l.length ≤ 200) :
    Calls Try.prog 3 #[.int .i64 room, .slice A l.length cap] w fun e w' => e = .returned (.bool true) ∧ Below w.heap.size w w' := by
  have HA := Lib.hid hA
  have HL := Lib.hid hl
  clear hA hl
  go_enter Try.func3, Try.ntmps3
  go_wp2_with fail
  refine (lives3_any _).mono ?_
  rintro e w1 ⟨rfl, hb1⟩
  have HB1 := Lib.hid hb1
  clear hb1
  go_wp2_with fail
  refine (newWriter_c room hr _).mono ?_
  rintro e w2 ⟨p, F, rfl, h2, f2, b2⟩
  have H2 := Lib.hid (And.intro h2 (And.intro f2 b2))
  clear h2 f2 b2
  go_wp2_with fail
  refine (rnew_c room hr _).mono ?_
  rintro e w3 ⟨q, rfl, h3, f3, b3⟩
  have H3 : Hid (Both w.heap.size p q 0 w3 ∧ Below w.heap.size w w3) := by
    obtain ⟨h2, f2, b2⟩ := H2.out
    have z1 := HB1.out.size
    refine ⟨⟨F, _, h2.fr f3 (fun _ _ h => h), h3, fun h => ?_, fun i hi => Nat.le_trans z1 (b2 i hi), ?_, Nat.zero_le _⟩, ?_⟩
    · have := h2.lt q h; omega
    · have := f2.size; omega
    · exact (HB1.out.trans (f2.below (fun _ h => h.elim) z1)).trans (f3.below (fun _ h => h.elim) (Nat.le_trans z1 f2.size))
  clear h3 f3 b3 H2
  go_wp2_with fail
  go_loopg [7] l.length (fun g i wr => ∃ k : Nat, g = l.length - k ∧ k ≤ l.length ∧ i = .int .i64 k ∧ Both w.heap.size p q k wr ∧ Below w.heap.size w wr)
  case atStart => exact ⟨0, rfl, Nat.zero_le _, rfl, H3.out⟩
  case round =>
    obtain ⟨k, hg, hk, rfl, hboth, hbel⟩ := hrel
    have HBO := Lib.hid hboth
    have HBE := Lib.hid hbel
    have HG := Lib.hid hg
    clear hboth hbel hg H3
    by_cases hlt : k < l.length
    · obtain ⟨x, hx⟩ : ∃ x, l[k]? = some x := ⟨l[k], List.getElem?_eq_getElem hlt⟩
      obtain ⟨b, off, rfl, hbs, hc⟩ := HA.out (by omega)
      have hcx := hc k x hx
      have d0 : wr.cell? ⟨b, off + k * 4, none⟩ = some (.int .i64 x.kind) := (HBE.out.cell (p := ⟨b, _, none⟩) hbs).trans hcx.1
      have d1 : wr.cell? ⟨b, off + k * 4 + 1, none⟩ = some (.int .i64 x.n) := (HBE.out.cell (p := ⟨b, _, none⟩) hbs).trans hcx.2.1
      have d2 : wr.cell? ⟨b, off + k * 4 + 2, none⟩ = some (.int .u32 x.v) := (HBE.out.cell (p := ⟨b, _, none⟩) hbs).trans hcx.2.2.1
      have d3 : wr.cell? ⟨b, off + k * 4 + 3, none⟩ = some (.string x.s) := (HBE.out.cell (p := ⟨b, _, none⟩) hbs).trans hcx.2.2.2
      obtain ⟨o1, o2, o3, o4, o5, o6⟩ := HL.out x (List.mem_of_getElem? hx)
      have HX := Lib.hid (And.intro hx hc)
      clear hx hc hcx
      by_cases hs : x.s.size ≤ 200
      · go_wp2_with fail
        refine (pick_any x.kind 3 _ (by decide) (by decide)).mono ?_
        rintro e w' ⟨rfl, rfl⟩
        obtain ⟨c0, c1⟩ := pick_range x.kind 3 (by decide)
        generalize pick x.kind 3 = c at *
        obtain ⟨F, y, hW, hR, hFq, hFB, hqB, hlen⟩ := HBO.out
        have HW := Lib.hid hW
        have HR := Lib.hid hR
        have HFB := Lib.hid hFB
        have HFQ := Lib.hid hFq
        have HQB := Lib.hid hqB
        have hbw : b < wr.heap.size := Nat.lt_of_lt_of_le hbs HBE.out.size
        have hbF : ¬ F b := fun h => by have := hFB b h; omega
        have hbq : b ≠ q := fun h => by omega
        clear hW hR hFq hFB hqB HBO
        rcases (show c = 0 ∨ c = 1 ∨ c = 2 by omega) with rfl | rfl | rfl
        · have hrb : (y.number x.v x.n).1.b.length ≤ y.b.length + 200 := number_len y x.v x.n
          have HRB := Lib.hid hrb
          clear hrb
          go_wp2_with fail
          go_region_held3 (fun w' => w'.cell? ⟨b, off + k * 4 + 2, none⟩ = some (.int .u32 x.v) ∧ w'.cell? ⟨b, off + k * 4 + 1, none⟩ = some (.int .i64 x.n))
            (first | exact ⟨d2, d1⟩ | exact ⟨e2, e1⟩ | exact ⟨i2, i1⟩)
            (first
              | (go_at_call 28
                 refine (number_any p F y x.v x.n _ ?_ o5 o6 (by omega)).mono ?_
                 · exact HW.out
                 rintro e w4 ⟨rfl, F', h4, f4, s4⟩
                 have e2 := (f4.cell (p := ⟨b, off + k * 4 + 2, none⟩) hbw hbF).trans d2
                 have e1 := (f4.cell (p := ⟨b, off + k * 4 + 1, none⟩) hbw hbF).trans d1
                 have H4 := Lib.hid (And.intro h4 (And.intro f4 s4))
                 clear h4 f4 s4)
              | (go_at_call 29
                 refine (rnumber_any q y x.v x.n _ ?_ o5 o6 (by omega)).mono ?_
                 · exact RWr.fr HR.out H4.out.2.1.fromD HFQ.out
                 rintro e w5 ⟨rfl, h5, f5⟩
                 have i2 := (f5.cell (p := ⟨b, off + k * 4 + 2, none⟩) (Nat.lt_of_lt_of_le hbw H4.out.2.1.size) hbq).trans e2
                 have i1 := (f5.cell (p := ⟨b, off + k * 4 + 1, none⟩) (Nat.lt_of_lt_of_le hbw H4.out.2.1.size) hbq).trans e1
                 have H5 := Lib.hid (And.intro h5 f5)
                 clear h5 f5))
          generalize y.number x.v x.n = r at *
          have HN := Lib.hid (write_step HW.out HR.out HFQ.out HFB.out HQB.out hlen H4.out.1 H4.out.2.1.fromD H4.out.2.2 H5.out.1 H5.out.2 HRB.out)
          have j0 : w5.cell? ⟨q, 0, none⟩ = some (.string ⟨r.1.b.toArray⟩) := HN.out.2.1.1.cell 0
          have j2 : w5.cell? ⟨q, 2, none⟩ = some (.int .i64 r.1.e) := HN.out.2.1.1.cell 2
          have jz : (⟨r.1.b.toArray⟩ : ByteArray).size = r.1.b.length := by simp [ByteArray.size]
          clear d0 d1 d2 d3
          go_wp2_with fail
          go_quiet (first
            | (go_at_call 34; refine quiet_left (text_any p F' r.1 _ ?_); exact HN.out.1)
            | (go_at_call 35; refine quiet_left (len_any p F' r.1 _ ?_); exact HN.out.1)
            | (go_at_call 36; refine quiet_left (err_any p F' r.1 _ ?_); exact HN.out.1))
          go_wp2_with fail
          go_roundg (l.length - (k + 1))
          case measure => rw [HG.out]; omega
          case rel => exact ⟨k + 1, rfl, by omega, by go_num, HN.out.2.2.1.drewN _, (HBE.out.trans HN.out.2.2.2).trans ((Below.refl _ _).drewN' _)⟩
        · have hrb : (y.put x.s.data.toList).1.b.length ≤ y.b.length + 200 := put_len y x.s hs
          have HRB := Lib.hid hrb
          clear hrb
          go_wp2_with fail
          go_region_held3 (fun w' => w'.cell? ⟨b, off + k * 4 + 3, none⟩ = some (.string x.s))
            (first | exact d3 | exact e3 | exact i3)
            (first
              | (go_at_call 30
                 refine (put_any p F y x.s _ ?_ (by omega)).mono ?_
                 · exact HW.out
                 rintro e w4 ⟨rfl, F', h4, f4, s4⟩
                 have e3 := (f4.cell (p := ⟨b, off + k * 4 + 3, none⟩) hbw hbF).trans d3
                 have H4 := Lib.hid (And.intro h4 (And.intro f4 s4))
                 clear h4 f4 s4)
              | (go_at_call 31
                 refine (rput_any q y x.s _ ?_ (by omega)).mono ?_
                 · exact RWr.fr HR.out H4.out.2.1.fromD HFQ.out
                 rintro e w5 ⟨rfl, h5, f5⟩
                 have i3 := (f5.cell (p := ⟨b, off + k * 4 + 3, none⟩) (Nat.lt_of_lt_of_le hbw H4.out.2.1.size) hbq).trans e3
                 have H5 := Lib.hid (And.intro h5 f5)
                 clear h5 f5))
          generalize y.put x.s.data.toList = r at *
          have HN := Lib.hid (write_step HW.out HR.out HFQ.out HFB.out HQB.out hlen H4.out.1 H4.out.2.1.fromD H4.out.2.2 H5.out.1 H5.out.2 HRB.out)
          have j0 : w5.cell? ⟨q, 0, none⟩ = some (.string ⟨r.1.b.toArray⟩) := HN.out.2.1.1.cell 0
          have j2 : w5.cell? ⟨q, 2, none⟩ = some (.int .i64 r.1.e) := HN.out.2.1.1.cell 2
          have jz : (⟨r.1.b.toArray⟩ : ByteArray).size = r.1.b.length := by simp [ByteArray.size]
          clear d0 d1 d2 d3
          go_wp2_with fail
          go_quiet (first
            | (go_at_call 34; refine quiet_left (text_any p F' r.1 _ ?_); exact HN.out.1)
            | (go_at_call 35; refine quiet_left (len_any p F' r.1 _ ?_); exact HN.out.1)
            | (go_at_call 36; refine quiet_left (err_any p F' r.1 _ ?_); exact HN.out.1))
          go_wp2_with fail
          go_roundg (l.length - (k + 1))
          case measure => rw [HG.out]; omega
          case rel => exact ⟨k + 1, rfl, by omega, by go_num, HN.out.2.2.1.drewN _, (HBE.out.trans HN.out.2.2.2).trans ((Below.refl _ _).drewN' _)⟩
        · have hrb : (y.patch x.n x.v x.s.size).1.b.length ≤ y.b.length + 200 := patch_len y x.n x.v x.s.size
          have HRB := Lib.hid hrb
          clear hrb
          go_wp2_with fail
          go_region_held3 (fun w' => w'.cell? ⟨b, off + k * 4 + 1, none⟩ = some (.int .i64 x.n) ∧ w'.cell? ⟨b, off + k * 4 + 2, none⟩ = some (.int .u32 x.v))
            (first | exact ⟨d1, d2⟩ | exact ⟨e1, e2⟩ | exact ⟨i1, i2⟩)
            (first
              | (go_at_call 32
                 refine (patch_any p F y x.n x.v x.s.size _ ?_ o5 o6 o4 o3 (by omega)).mono ?_
                 · exact HW.out
                 rintro e w4 ⟨rfl, F', h4, f4, s4⟩
                 have e1 := (f4.cell (p := ⟨b, off + k * 4 + 1, none⟩) hbw hbF).trans d1
                 have e2 := (f4.cell (p := ⟨b, off + k * 4 + 2, none⟩) hbw hbF).trans d2
                 have H4 := Lib.hid (And.intro h4 (And.intro f4 s4))
                 clear h4 f4 s4)
              | (go_at_call 33
                 refine (rpatch_any q y x.n x.v x.s.size _ ?_ o5 o6 o4 o3 (by omega)).mono ?_
                 · exact RWr.fr HR.out H4.out.2.1.fromD HFQ.out
                 rintro e w5 ⟨rfl, h5, f5⟩
                 have i1 := (f5.cell (p := ⟨b, off + k * 4 + 1, none⟩) (Nat.lt_of_lt_of_le hbw H4.out.2.1.size) hbq).trans e1
                 have i2 := (f5.cell (p := ⟨b, off + k * 4 + 2, none⟩) (Nat.lt_of_lt_of_le hbw H4.out.2.1.size) hbq).trans e2
                 have H5 := Lib.hid (And.intro h5 f5)
                 clear h5 f5))
          generalize y.patch x.n x.v x.s.size = r at *
          have HN := Lib.hid (write_step HW.out HR.out HFQ.out HFB.out HQB.out hlen H4.out.1 H4.out.2.1.fromD H4.out.2.2 H5.out.1 H5.out.2 HRB.out)
          have j0 : w5.cell? ⟨q, 0, none⟩ = some (.string ⟨r.1.b.toArray⟩) := HN.out.2.1.1.cell 0
          have j2 : w5.cell? ⟨q, 2, none⟩ = some (.int .i64 r.1.e) := HN.out.2.1.1.cell 2
          have jz : (⟨r.1.b.toArray⟩ : ByteArray).size = r.1.b.length := by simp [ByteArray.size]
          clear d0 d1 d2 d3
          go_wp2_with fail
          go_quiet (first
            | (go_at_call 34; refine quiet_left (text_any p F' r.1 _ ?_); exact HN.out.1)
            | (go_at_call 35; refine quiet_left (len_any p F' r.1 _ ?_); exact HN.out.1)
            | (go_at_call 36; refine quiet_left (err_any p F' r.1 _ ?_); exact HN.out.1))
          go_wp2_with fail
          go_roundg (l.length - (k + 1))
          case measure => rw [HG.out]; omega
          case rel => exact ⟨k + 1, rfl, by omega, by go_num, HN.out.2.2.1.drewN _, (HBE.out.trans HN.out.2.2.2).trans ((Below.refl _ _).drewN' _)⟩
      · go_wp2_with fail
        go_ret
        exact ⟨rfl, HBE.out⟩
    · go_wp2_with fail
      go_ret
      exact ⟨rfl, HBE.out⟩
end Go.Proofs.Ytbemackcdccpaaa
