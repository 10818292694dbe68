/-
  THE CONTRACTS OF THE REFERENCE's READER (chapter 3), and the walk of 'OctetsRead'.
-/
import Derived.Test.YtbemackcdccpaaaLives3
import Derived.Test.YtbemackcdccpaaaRead3
import Derived.Test.YtbemackcdccpaaaWrite3
namespace Go.Proofs.Ytbemackcdccpaaa
open Go.RowKit

def RRd (w : World) (p : Nat) (x : Rst) : Prop := Blk w p 75 #[.string x.s, .int .i64 x.at_] ∧ x.ok
theorem RRd.fr {w w' : World} {p : Nat} {S : Nat → Prop} {x : Rst} (h : RRd w p x) (hf : Fr S w w') (hd : ¬ S p) : RRd w' p x := ⟨h.1.fr hf hd, h.2⟩
def RRdPost (w : World) (p : Nat) (x : Rst) (v : Value) (e : Ending) (w' : World) : Prop := e = .returned v ∧ RRd w' p x ∧ Fr (· = p) w w'
theorem RRd.set {w : World} {p : Nat} {x : Rst} (h : RRd w p x) (n k : Nat) (hk : k ≤ x.s.size) :
    RRd ((w.drewN n).setCell ⟨p, 1, none⟩ (.int .i64 k)) p { x with at_ := k } ∧ Fr (· = p) w ((w.drewN n).setCell ⟨p, 1, none⟩ (.int .i64 k)) :=
  ⟨⟨(h.1.drewN n).set_ 1 _, hk, h.2.2⟩, Fr.setCell (S := (· = p)) ((Fr.refl _ w).drewN n) (p := ⟨p, 1, none⟩) (fun _ => rfl) _⟩

set_option maxRecDepth 100000 in
set_option maxHeartbeats 400000 in
theorem rseek_any (p : Nat) (x : Rst) (a : Int) (w : World) (h : RRd w p x) :
    Calls Try.prog 53 #[.pointer (some ⟨p, 0, none⟩), .int .i64 a] w (RRdPost w p (x.seek a).1 (.int .i64 (x.seek a).2)) := by
  have H := Lib.hid h
  have c0 : w.cell? ⟨p, 0, none⟩ = some (.string x.s) := h.1.cell 0
  have c1 : w.cell? ⟨p, 1, none⟩ = some (.int .i64 x.at_) := h.1.cell 1
  have f1 := h.1.frozen 1
  obtain ⟨h1, h2⟩ := h.2
  clear h
  by_cases a1 : a < 0
  · have hp : x.seek a = (x, 2) := by simp [Rst.seek, a1]
    rw [hp]
    clear hp
    go_enter Try.func53, Try.ntmps53
    go_wp2
    go_ret
    exact ⟨rfl, H.out, Fr.refl _ _⟩
  · by_cases a2 : (x.s.size : Int) < a
    · have hp : x.seek a = (x, 2) := by simp [Rst.seek, a2]
      rw [hp]
      clear hp
      go_enter Try.func53, Try.ntmps53
      go_wp2
      go_ret
      exact ⟨rfl, H.out, Fr.refl _ _⟩
    · obtain ⟨k, rfl⟩ := Int.eq_ofNat_of_zero_le (Int.not_lt.1 a1)
      have hp : x.seek k = ({ x with at_ := k }, 0) := by simp [Rst.seek]; omega
      rw [hp]
      clear hp
      go_enter Try.func53, Try.ntmps53
      go_wp2
      go_ret
      exact ⟨rfl, H.out.set 0 k (by omega)⟩

set_option maxRecDepth 100000 in
set_option maxHeartbeats 800000 in
theorem rtake_any (p : Nat) (x : Rst) (n : Int) (w : World) (h : RRd w p x) :
    Calls Try.prog 51 #[.pointer (some ⟨p, 0, none⟩), .int .i64 n] w (RRdPost w p (x.take n).1 (.tuple #[.string (x.take n).2.1, .int .i64 (x.take n).2.2])) := by
  have H := Lib.hid h
  have c0 : w.cell? ⟨p, 0, none⟩ = some (.string x.s) := h.1.cell 0
  have c1 : w.cell? ⟨p, 1, none⟩ = some (.int .i64 x.at_) := h.1.cell 1
  have f1 := h.1.frozen 1
  obtain ⟨h1, h2⟩ := h.2
  clear h
  by_cases a1 : n < 0
  · have hp : x.take n = (x, ⟨#[]⟩, 2) := by simp [Rst.take, a1]
    rw [hp]
    clear hp
    go_enter Try.func51, Try.ntmps51
    go_wp2
    go_ret2
    exact ⟨rfl, H.out, Fr.refl _ _⟩
  · by_cases a2 : (x.s.size : Int) - x.at_ < n
    · have hp : x.take n = (x, ⟨#[]⟩, 8) := by simp [Rst.take, a1, a2]
      rw [hp]
      clear hp
      go_enter Try.func51, Try.ntmps51
      go_wp2_with fail
      go_quiet (fail)
      go_wp2_with fail
      go_ret2
      exact ⟨rfl, H.out.fr (S := fun _ => False) ((Fr.refl _ _).drewN _) id, (Fr.refl _ _).drewN _⟩
    · obtain ⟨k, rfl⟩ := Int.eq_ofNat_of_zero_le (Int.not_lt.1 a1)
      have hp : x.take k = ({ x with at_ := x.at_ + k }, x.s.extract x.at_ (x.at_ + k), 0) := by simp [Rst.take, a2]
      rw [hp]
      clear hp
      have q1 : x.at_ + k ≤ x.s.size := by omega
      have q2 : IntKind.i64.wrap ((x.at_ : Int) + (k : Int)) = (x.at_ : Int) + (k : Int) := IntWalk.i64_in _ (by omega)
      have q3 : (0 : Int) ≤ (x.at_ : Int) + (k : Int) := by omega
      have q4 : ((x.at_ : Int) + (k : Int)).toNat = x.at_ + k := by omega
      go_enter Try.func51, Try.ntmps51
      go_wp2_with fail
      go_quiet (fail)
      rename Nat => nq0
      go_wp2_with fail
      go_quiet (fail)
      go_wp2_with fail
      go_ret2
      have hs := H.out.set (nq0 + nq) (x.at_ + k) q1
      rw [Int.natCast_add] at hs
      exact ⟨rfl, hs⟩

set_option maxRecDepth 100000 in
set_option maxHeartbeats 1600000 in
theorem rnum_any (s : ByteArray) (w : World) (hsz : s.size ≤ 4) :
    Calls Try.prog 85 #[.string s] w fun e w' => e = .returned (.int .u32 (numOf s.data.toList)) ∧ w = w' := by
  go_enter Try.func85, Try.ntmps85
  go_wp2_with fail
  go_loop [3, 4] (fun v i => ∃ k : Nat, k ≤ s.size ∧ i = .int .i64 k ∧ v = .int .u32 (numOf (s.data.toList.take k))) (fun _ i => s.size - (intOf i).toNat)
  case atStart => exact ⟨0, Nat.zero_le _, rfl, rfl⟩
  case round =>
    obtain ⟨k, hk, rfl, rfl⟩ := hrel
    have hlen : (s.data.toList.take k).length = k := by simp; omega
    have hv := numOf_lt (s.data.toList.take k)
    rw [hlen] at hv
    by_cases hlt : k < s.size
    · have hs4 : numOf (s.data.toList.take k) < 16777216 := Nat.lt_of_lt_of_le hv (Nat.pow_le_pow_right (by decide) (show k ≤ 3 by omega))
      have ht : s.data.toList.take (k + 1) = s.data.toList.take k ++ [s[k]'hlt] := by
        rw [List.take_succ_eq_append_getElem (by simpa using hlt)]
        rfl
      have hn : numOf (s.data.toList.take (k + 1)) = numOf (s.data.toList.take k) * 256 + (s[k]'hlt).toNat := by rw [ht, numOf_snoc]
      have hb : (s[k]'hlt).toNat < 256 := (s[k]'hlt).toNat_lt
      have HN := Lib.hid hn
      clear hn ht hv hlen
      generalize numOf (s.data.toList.take k) = V at *
      go_wp2
      go_round
      case rel => exact ⟨k + 1, by omega, by go_num, by rw [HN.out]; go_num⟩
      case measure => simp [intOf]; omega
    · have hke : k = s.size := by omega
      subst hke
      rw [List.take_of_length_le (by simp)]
      go_wp2
      go_ret
      exact ⟨rfl, rfl⟩

set_option maxRecDepth 100000 in
set_option maxHeartbeats 1600000 in
theorem rrdnumber_any (p : Nat) (x : Rst) (n : Int) (w : World) (h : RRd w p x) :
    Calls Try.prog 50 #[.pointer (some ⟨p, 0, none⟩), .int .i64 n] w (RRdPost w p (x.number n).1 (.tuple #[.int .u32 (x.number n).2.1, .int .i64 (x.number n).2.2])) := by
  by_cases a0 : n < 1
  · have hp : x.number n = (x, 0, 2) := by simp [Rst.number, a0]
    rw [hp]
    clear hp
    go_enter Try.func50, Try.ntmps50
    go_wp2
    go_ret2
    exact ⟨rfl, h, Fr.refl _ _⟩
  · by_cases a1 : 4 < n
    · have hp : x.number n = (x, 0, 2) := by simp [Rst.number, a1]
      rw [hp]
      clear hp
      go_enter Try.func50, Try.ntmps50
      go_wp2
      go_ret2
      exact ⟨rfl, h, Fr.refl _ _⟩
    · have hp : x.number n = ((x.take n).1, (numOf (x.take n).2.1.data.toList : Int), (x.take n).2.2) := by unfold Rst.number; rw [if_neg (by omega)]
      rw [hp]
      clear hp
      have hsz : (x.take n).2.1.size ≤ 4 := by
        unfold Rst.take
        split
        · exact Nat.zero_le 4
        · split
          · exact Nat.zero_le 4
          · simp only [ByteArray.size_extract]; omega
      have H := Lib.hid h
      clear h
      go_enter Try.func50, Try.ntmps50
      go_wp2_with fail
      refine (rtake_any p x n _ H.out).mono ?_
      rintro e w1 ⟨rfl, h1, f1⟩
      have H1 := Lib.hid (And.intro h1 f1)
      clear h1 f1
      generalize (x.take n).2.1 = s at *
      generalize (x.take n).1 = y at *
      generalize (x.take n).2.2 = z at *
      go_wp2_with (first | (go_at_call 85; refine (rnum_any s _ hsz).mono ?_; rintro e w' ⟨rfl, rfl⟩))
      go_ret2
      exact ⟨rfl, H1.out⟩

def BothR (B : Nat) (s : ByteArray) (p q : Nat) (w : World) : Prop := ∃ x, Rd w p x ∧ RRd w q x ∧ p ≠ q ∧ B ≤ p ∧ B ≤ q ∧ x.s = s
theorem BothR.drewN {B : Nat} {s : ByteArray} {p q : Nat} {w : World} (h : BothR B s p q w) (n : Nat) : BothR B s p q (w.drewN n) := by
  obtain ⟨x, h1, h2, h3⟩ := h
  exact ⟨x, h1.fr ((Fr.refl (fun _ => False) _).drewN n) id, h2.fr ((Fr.refl (fun _ => False) _).drewN n) id, h3⟩
theorem read_step {B : Nat} {w w4 w5 : World} {p q : Nat} {s : ByteArray} {x r : Rst} (hR : RRd w q x) (hne : p ≠ q) (hp : B ≤ p) (hq : B ≤ q) (hs : r.s = s)
    (h4 : Rd w4 p r) (f4 : Fr (· = p) w w4) (h5 : RRd w5 q r) (f5 : Fr (· = q) w4 w5) : Rd w5 p r ∧ BothR B s p q w5 ∧ Below B w w5 := by
  have hBw : B ≤ w.heap.size := Nat.le_trans hq (Nat.le_of_lt hR.1.lt)
  have h6 := h4.fr f5 hne
  exact ⟨h6, ⟨r, h6, h5, hne, hp, hq, hs⟩, (f4.below (fun i hi => by omega) hBw).trans (f5.below (fun i hi => by omega) (Nat.le_trans hBw f4.size))⟩
theorem take_s (x : Rst) (n : Int) : (x.take n).1.s = x.s := by unfold Rst.take; split <;> first | rfl | (split <;> rfl)
theorem number_s (x : Rst) (n : Int) : (x.number n).1.s = x.s := by unfold Rst.number; split; · rfl
                                                                    · exact take_s x n
theorem seek_s (x : Rst) (n : Int) : (x.seek n).1.s = x.s := by unfold Rst.seek; split <;> rfl

set_option maxRecDepth 100000 in
set_option maxHeartbeats 4000000 in
theorem octetsRead_in (s : ByteArray) (A : Option Addr) (cap : Nat) (l : List Act3) (w : World) (hs : s.size ≤ 200) (hA : Acts w A l) (hl : ∀ x ∈ l, ActOk x) (hn : l.length ≤ 200) :
    Calls Try.prog 9 #[.string s, .slice A l.length cap] w fun e w' => e = .returned (.bool true) ∧ Below w.heap.size w w' := by
  have HA := Lib.hid hA
  have HL := Lib.hid hl
  clear hA hl
  go_enter Try.func9, Try.ntmps9
  go_wp2_with fail
  refine (lives3_any _).mono ?_
  rintro e w1 ⟨rfl, hb1⟩
  have HB1 := Lib.hid hb1
  clear hb1
  go_wp2_with fail
  refine (newReader_c s (by omega) _).mono ?_
  rintro e w2 ⟨p, rfl, h2, f2, b2⟩
  have H3 : Hid (BothR w.heap.size s p w2.heap.size (w2.alloc (.cells #[.string s, .int .i64 0] 75)) ∧ Below w.heap.size w (w2.alloc (.cells #[.string s, .int .i64 0] 75))) := by
    have z1 := HB1.out.size
    have z2 := h2.1.lt
    have z3 := f2.size
    refine ⟨⟨⟨s, 0⟩, h2.fr ((Fr.refl (fun _ => False) _).alloc _) id, ⟨Blk.new _ _ _, Nat.zero_le _, by dsimp only; omega⟩, by omega, by omega, by omega, rfl⟩, ?_⟩
    exact (HB1.out.trans (f2.below (fun _ h => h.elim) z1)).alloc (by omega) _
  clear h2 f2 b2
  obtain ⟨q, hq⟩ : ∃ q, q = w2.heap.size := ⟨_, rfl⟩
  rw [← hq] at H3
  have HQ := Lib.hid hq
  clear hq
  go_wp2_with fail
  rw [← HQ.out]
  generalize w2.alloc (.cells #[.string s, .int .i64 0] 75) = w3 at *
  go_loopg [7] l.length (fun g i wr => ∃ k : Nat, g = l.length - k ∧ k ≤ l.length ∧ i = .int .i64 k ∧ BothR w.heap.size s p q wr ∧ Below w.heap.size w wr)
  case atStart => exact ⟨0, rfl, Nat.zero_le _, rfl, H3.out⟩
  case round =>
    obtain ⟨k, hg, hk, rfl, hboth, hbel⟩ := hrel
    have HBO := Lib.hid hboth
    have HBE := Lib.hid hbel
    have HG := Lib.hid hg
    clear hboth hbel hg H3
    by_cases hlt : k < l.length
    · obtain ⟨x, hx⟩ : ∃ x, l[k]? = some x := ⟨l[k], List.getElem?_eq_getElem hlt⟩
      obtain ⟨b, off, rfl, hbs, hc⟩ := HA.out (by omega)
      have hcx := hc k x hx
      have d0 : wr.cell? ⟨b, off + k * 4, none⟩ = some (.int .i64 x.kind) := (HBE.out.cell (p := ⟨b, _, none⟩) hbs).trans hcx.1
      have d1 : wr.cell? ⟨b, off + k * 4 + 1, none⟩ = some (.int .i64 x.n) := (HBE.out.cell (p := ⟨b, _, none⟩) hbs).trans hcx.2.1
      obtain ⟨o1, o2, o3, o4, o5, o6⟩ := HL.out x (List.mem_of_getElem? hx)
      have HX := Lib.hid (And.intro hx hc)
      clear hx hc hcx
      go_wp2_with fail
      refine (pick_any x.kind 3 _ (by decide) (by decide)).mono ?_
      rintro e w' ⟨rfl, rfl⟩
      obtain ⟨c0, c1⟩ := pick_range x.kind 3 (by decide)
      generalize pick x.kind 3 = c at *
      obtain ⟨y, hW, hR, hpq, hpB, hqB, hys⟩ := HBO.out
      have HW := Lib.hid hW
      have HR := Lib.hid hR
      have HYS := Lib.hid hys
      have HPQ := Lib.hid hpq
      have hbw : b < wr.heap.size := Nat.lt_of_lt_of_le hbs HBE.out.size
      have hbp : b ≠ p := fun h => by omega
      have hbq : b ≠ q := fun h => by omega
      clear hW hR HBO hys hpq
      rcases (show c = 0 ∨ c = 1 ∨ c = 2 by omega) with rfl | rfl | rfl
      · go_wp2_with fail
        refine (rdnumber_any p y x.n _ HW.out).mono ?_
        rintro e w4 ⟨rfl, h4, f4⟩
        have H4 := Lib.hid (And.intro h4 f4)
        have e1 := (f4.cell (p := ⟨b, off + k * 4 + 1, none⟩) hbw hbp).trans d1
        clear h4 f4
        go_wp2_with fail
        refine (rrdnumber_any q y x.n _ (HR.out.fr H4.out.2 (Ne.symm HPQ.out))).mono ?_
        rintro e w5 ⟨rfl, h5, f5⟩
        have H5 := Lib.hid (And.intro h5 f5)
        clear h5 f5
        have HRS := Lib.hid ((number_s y x.n).trans HYS.out)
        generalize y.number x.n = r at *
        have HN := Lib.hid (read_step HR.out HPQ.out hpB hqB HRS.out H4.out.1 H4.out.2 H5.out.1 H5.out.2)
        have j1 : w5.cell? ⟨q, 1, none⟩ = some (.int .i64 r.1.at_) := H5.out.1.1.cell 1
        have jr : r.1.at_ ≤ s.size := by have := H5.out.1.2.1; rw [HRS.out] at this; exact this
        have HQ1 := Lib.hid (left_any p r.1)
        rw [HRS.out] at HQ1
        clear d0 d1
        go_wp2_with fail
        go_quiet (first
          | (go_at_call 49; refine quiet_left (at_any p r.1 _ ?_); exact HN.out.1)
          | (go_at_call 44; refine Calls.quiet_of (HQ1.out _ ?_); exact HN.out.1))
        go_wp2_with fail
        go_roundg (l.length - (k + 1))
        case measure => rw [HG.out]; omega
        case rel => exact ⟨k + 1, rfl, by omega, by go_num, HN.out.2.1.drewN _, (HBE.out.trans HN.out.2.2).trans ((Below.refl _ _).drewN' _)⟩
      · go_wp2_with fail
        refine (take_any p y x.n _ HW.out).mono ?_
        rintro e w4 ⟨rfl, h4, f4⟩
        have H4 := Lib.hid (And.intro h4 f4)
        have e1 := (f4.cell (p := ⟨b, off + k * 4 + 1, none⟩) hbw hbp).trans d1
        clear h4 f4
        go_wp2_with fail
        refine (rtake_any q y x.n _ (HR.out.fr H4.out.2 (Ne.symm HPQ.out))).mono ?_
        rintro e w5 ⟨rfl, h5, f5⟩
        have H5 := Lib.hid (And.intro h5 f5)
        clear h5 f5
        have HRS := Lib.hid ((take_s y x.n).trans HYS.out)
        generalize y.take x.n = r at *
        have HN := Lib.hid (read_step HR.out HPQ.out hpB hqB HRS.out H4.out.1 H4.out.2 H5.out.1 H5.out.2)
        have j1 : w5.cell? ⟨q, 1, none⟩ = some (.int .i64 r.1.at_) := H5.out.1.1.cell 1
        have jr : r.1.at_ ≤ s.size := by have := H5.out.1.2.1; rw [HRS.out] at this; exact this
        have HQ1 := Lib.hid (left_any p r.1)
        rw [HRS.out] at HQ1
        clear d0 d1
        go_wp2_with fail
        go_quiet (first
          | (go_at_call 49; refine quiet_left (at_any p r.1 _ ?_); exact HN.out.1)
          | (go_at_call 44; refine Calls.quiet_of (HQ1.out _ ?_); exact HN.out.1))
        go_wp2_with fail
        go_roundg (l.length - (k + 1))
        case measure => rw [HG.out]; omega
        case rel => exact ⟨k + 1, rfl, by omega, by go_num, HN.out.2.1.drewN _, (HBE.out.trans HN.out.2.2).trans ((Below.refl _ _).drewN' _)⟩
      · go_wp2_with fail
        go_region_held3 (fun w' => w'.cell? ⟨b, off + k * 4 + 1, none⟩ = some (.int .i64 x.n))
          (first | exact d1 | exact e1 | exact i1)
          (first
            | (go_at_call 52
               refine (seek_any p y x.n _ ?_).mono ?_
               · exact HW.out
               rintro e w4 ⟨rfl, h4, f4⟩
               have e1 := (f4.cell (p := ⟨b, off + k * 4 + 1, none⟩) hbw hbp).trans d1
               have H4 := Lib.hid (And.intro h4 f4.fromD)
               clear h4 f4)
            | (go_at_call 53
               refine (rseek_any q y x.n _ ?_).mono ?_
               · exact HR.out.fr H4.out.2 (Ne.symm HPQ.out)
               rintro e w5 ⟨rfl, h5, f5⟩
               have i1 := (f5.cell (p := ⟨b, off + k * 4 + 1, none⟩) (Nat.lt_of_lt_of_le hbw H4.out.2.size) hbq).trans e1
               have H5 := Lib.hid (And.intro h5 f5)
               clear h5 f5))
        have HRS := Lib.hid ((seek_s y x.n).trans HYS.out)
        generalize y.seek x.n = r at *
        have HN := Lib.hid (read_step HR.out HPQ.out hpB hqB HRS.out H4.out.1 H4.out.2 H5.out.1 H5.out.2)
        have j1 : w5.cell? ⟨q, 1, none⟩ = some (.int .i64 r.1.at_) := H5.out.1.1.cell 1
        have jr : r.1.at_ ≤ s.size := by have := H5.out.1.2.1; rw [HRS.out] at this; exact this
        have HQ1 := Lib.hid (left_any p r.1)
        rw [HRS.out] at HQ1
        clear d0 d1
        go_wp2_with fail
        go_quiet (first
          | (go_at_call 49; refine quiet_left (at_any p r.1 _ ?_); exact HN.out.1)
          | (go_at_call 44; refine Calls.quiet_of (HQ1.out _ ?_); exact HN.out.1))
        go_wp2_with fail
        go_roundg (l.length - (k + 1))
        case measure => rw [HG.out]; omega
        case rel => exact ⟨k + 1, rfl, by omega, by go_num, HN.out.2.1.drewN _, (HBE.out.trans HN.out.2.2).trans ((Below.refl _ _).drewN' _)⟩
    · go_wp2_with fail
      go_ret
      exact ⟨rfl, HBE.out⟩

set_option maxRecDepth 100000 in
set_option maxHeartbeats 1000000 in
theorem octetsRead_walk (s : ByteArray) (A : Option Addr) (cap : Nat) (l : List Act3) (w : World) (b0 : s.size ≤ maxLen) (b1 : Acts w A l ∧ (∀ x ∈ l, ActOk x) ∧ l.length ≤ maxLen) :
    Calls Try.prog 9 #[.string s, .slice A l.length cap] w fun e w' => e = .returned (.bool true) ∧ Below w.heap.size w w' := by
  obtain ⟨hA, hl, hm⟩ := b1
  unfold maxLen at b0 hm
  by_cases hs : s.size ≤ 200
  · by_cases hn : l.length ≤ 200
    · exact octetsRead_in s A cap l w hs hA hl hn
    · clear hA hl
      go_enter Try.func9, Try.ntmps9
      go_wp2_with fail
      refine (lives3_any _).mono ?_
      rintro e w1 ⟨rfl, hb1⟩
      go_wp2_with fail
      go_ret
      exact ⟨rfl, hb1⟩
  · clear hA hl
    go_enter Try.func9, Try.ntmps9
    go_wp2_with fail
    refine (lives3_any _).mono ?_
    rintro e w1 ⟨rfl, hb1⟩
    go_wp2_with fail
    go_ret
    exact ⟨rfl, hb1⟩
end Go.Proofs.Ytbemackcdccpaaa
