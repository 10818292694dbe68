/-
  THE CONTRACTS OF LAYER 3 (octets): a reader, as octets and a place.
-/
import Derived.Test.YtbemackcdccpaaaOctb
import Derived.Lib.ConvBytes
namespace Go.Proofs.Ytbemackcdccpaaa
open Go.RowKit

structure Rst where
  s : ByteArray
  at_ : Nat

def Rst.ok (x : Rst) : Prop := x.at_ ≤ x.s.size ∧ x.s.size ≤ 140737488351232

/-- A reader lies at block p. -/
def Rd (w : World) (p : Nat) (x : Rst) : Prop := Blk w p 116 #[.string x.s, .int .i64 x.at_] ∧ x.ok
theorem Rd.fr {w w' : World} {p : Nat} {S : Nat → Prop} {x : Rst} (h : Rd w p x) (hf : Fr S w w') (hd : ¬ S p) : Rd w' p x := ⟨h.1.fr hf hd, h.2⟩

def Rst.take (x : Rst) (n : Int) : Rst × ByteArray × Int :=
  if n < 0 then (x, ⟨#[]⟩, 2) else if (x.s.size : Int) - x.at_ < n then (x, ⟨#[]⟩, 8) else ({ x with at_ := x.at_ + n.toNat }, x.s.extract x.at_ (x.at_ + n.toNat), 0)

/-- The number of octets, the highest first. -/
def numOf (l : List UInt8) : Nat := l.foldl (fun v b => v * 256 + b.toNat) 0
theorem numOf_snoc (l : List UInt8) (b : UInt8) : numOf (l ++ [b]) = numOf l * 256 + b.toNat := by simp [numOf]
theorem numOf_from (l : List UInt8) : ∀ a : Nat, l.foldl (fun v b => v * 256 + b.toNat) a < (a + 1) * 256 ^ l.length := by
  induction l with
  | nil => intro a; simp
  | cons b l ih =>
    intro a
    have h1 := ih (a * 256 + b.toNat)
    have h2 := b.toNat_lt
    have h3 : (a * 256 + b.toNat + 1) * 256 ^ l.length ≤ ((a + 1) * 256) * 256 ^ l.length := Nat.mul_le_mul_right _ (by omega)
    rw [List.foldl_cons, List.length_cons, Nat.pow_succ]
    calc _ < _ := h1
      _ ≤ _ := h3
      _ = _ := by rw [Nat.mul_assoc, Nat.mul_comm 256]
theorem numOf_lt (l : List UInt8) : numOf l < 256 ^ l.length := by have := numOf_from l 0; simpa [numOf] using this

def Rst.number (x : Rst) (n : Int) : Rst × Int × Int :=
  if n < 1 ∨ 4 < n then (x, 0, 2) else ((x.take n).1, numOf (x.take n).2.1.data.toList, (x.take n).2.2)
def Rst.seek (x : Rst) (a : Int) : Rst × Int := if a < 0 ∨ (x.s.size : Int) < a then (x, 2) else ({ x with at_ := a.toNat }, 0)

set_option maxHeartbeats 400000 in
theorem newReader_any (s : ByteArray) (w : World) :
    Calls Try.prog 41 #[.string s] w fun e w' => e = .returned (.pointer (some ⟨w.heap.size, 0, none⟩)) ∧ w.alloc (.cells #[.string s, .int .i64 0] 116) = w' := by
  go_enter Try.func41, Try.ntmps41
  go_wp2
  go_ret
  exact ⟨rfl, rfl⟩

def RdNew (w : World) (s : ByteArray) (e : Ending) (w' : World) : Prop :=
  ∃ p, e = .returned (.pointer (some ⟨p, 0, none⟩)) ∧ Rd w' p ⟨s, 0⟩ ∧ Fr (fun _ => False) w w' ∧ w.heap.size ≤ p
theorem newReader_c (s : ByteArray) (hs : s.size ≤ 140737488351232) (w : World) : Calls Try.prog 41 #[.string s] w (RdNew w s) := by
  refine (newReader_any s w).mono ?_
  rintro e w' ⟨rfl, rfl⟩
  exact ⟨w.heap.size, rfl, ⟨Blk.new _ _ _, Nat.zero_le _, hs⟩, (Fr.refl _ _).alloc _, Nat.le_refl _⟩

set_option maxHeartbeats 400000 in
theorem at_nil (w : World) : Calls Try.prog 49 #[.pointer none] w fun e w' => e = .returned (.int .i64 0) ∧ w = w' := by
  go_enter Try.func49, Try.ntmps49
  go_wp2
  go_ret
  exact ⟨rfl, rfl⟩
set_option maxHeartbeats 400000 in
theorem at_any (p : Nat) (x : Rst) (w : World) (h : Rd w p x) : Calls Try.prog 49 #[.pointer (some ⟨p, 0, none⟩)] w fun e w' => e = .returned (.int .i64 x.at_) ∧ w = w' := by
  have c1 : w.cell? ⟨p, 1, none⟩ = some (.int .i64 x.at_) := h.1.cell 1
  clear h
  go_enter Try.func49, Try.ntmps49
  go_wp2
  go_ret
  exact ⟨rfl, rfl⟩
set_option maxHeartbeats 400000 in
theorem left_nil (w : World) : Calls Try.prog 44 #[.pointer none] w fun e w' => e = .returned (.int .i64 0) ∧ w = w' := by
  go_enter Try.func44, Try.ntmps44
  go_wp2
  go_ret
  exact ⟨rfl, rfl⟩
set_option maxHeartbeats 400000 in
theorem left_any (p : Nat) (x : Rst) (w : World) (h : Rd w p x) :
    Calls Try.prog 44 #[.pointer (some ⟨p, 0, none⟩)] w fun e w' => e = .returned (.int .i64 (x.s.size - x.at_)) ∧ ∃ n, w' = w.drewN n := by
  have c0 : w.cell? ⟨p, 0, none⟩ = some (.string x.s) := h.1.cell 0
  have c1 : w.cell? ⟨p, 1, none⟩ = some (.int .i64 x.at_) := h.1.cell 1
  obtain ⟨h1, h2⟩ := h.2
  clear h
  go_enter Try.func44, Try.ntmps44
  go_wp2
  go_quiet (fail)
  go_wp2
  go_ret
  exact ⟨rfl, _, rfl⟩

def RdPost (w : World) (p : Nat) (x : Rst) (v : Value) (e : Ending) (w' : World) : Prop := e = .returned v ∧ Rd w' p x ∧ Fr (· = p) w w'

theorem Rd.set {w : World} {p : Nat} {x : Rst} (h : Rd w p x) (n k : Nat) (hk : k ≤ x.s.size) :
    Rd ((w.drewN n).setCell ⟨p, 1, none⟩ (.int .i64 k)) p { x with at_ := k } ∧ Fr (· = p) w ((w.drewN n).setCell ⟨p, 1, none⟩ (.int .i64 k)) :=
  ⟨⟨(h.1.drewN n).set_ 1 _, hk, h.2.2⟩, Fr.setCell (S := (· = p)) ((Fr.refl _ w).drewN n) (p := ⟨p, 1, none⟩) (fun _ => rfl) _⟩

set_option maxRecDepth 100000 in
set_option maxHeartbeats 400000 in
theorem seek_any (p : Nat) (x : Rst) (a : Int) (w : World) (h : Rd w p x) :
    Calls Try.prog 52 #[.pointer (some ⟨p, 0, none⟩), .int .i64 a] w (RdPost w p (x.seek a).1 (.int .i64 (x.seek a).2)) := by
  have H := Lib.hid h
  have c0 : w.cell? ⟨p, 0, none⟩ = some (.string x.s) := h.1.cell 0
  have c1 : w.cell? ⟨p, 1, none⟩ = some (.int .i64 x.at_) := h.1.cell 1
  have f1 := h.1.frozen 1
  obtain ⟨h1, h2⟩ := h.2
  clear h
  by_cases a1 : a < 0
  · have hp : x.seek a = (x, 2) := by simp [Rst.seek, a1]
    rw [hp]
    clear hp
    go_enter Try.func52, Try.ntmps52
    go_wp2
    go_ret
    exact ⟨rfl, H.out, Fr.refl _ _⟩
  · by_cases a2 : (x.s.size : Int) < a
    · have hp : x.seek a = (x, 2) := by simp [Rst.seek, a2]
      rw [hp]
      clear hp
      go_enter Try.func52, Try.ntmps52
      go_wp2
      go_ret
      exact ⟨rfl, H.out, Fr.refl _ _⟩
    · obtain ⟨k, rfl⟩ := Int.eq_ofNat_of_zero_le (Int.not_lt.1 a1)
      have hp : x.seek k = ({ x with at_ := k }, 0) := by simp [Rst.seek]; omega
      rw [hp]
      clear hp
      go_enter Try.func52, Try.ntmps52
      go_wp2
      go_ret
      exact ⟨rfl, H.out.set 0 k (by omega)⟩

set_option maxRecDepth 100000 in
set_option maxHeartbeats 800000 in
theorem take_any (p : Nat) (x : Rst) (n : Int) (w : World) (h : Rd w p x) :
    Calls Try.prog 42 #[.pointer (some ⟨p, 0, none⟩), .int .i64 n] w (RdPost w p (x.take n).1 (.tuple #[.string (x.take n).2.1, .int .i64 (x.take n).2.2])) := by
  have H := Lib.hid h
  have c0 : w.cell? ⟨p, 0, none⟩ = some (.string x.s) := h.1.cell 0
  have c1 : w.cell? ⟨p, 1, none⟩ = some (.int .i64 x.at_) := h.1.cell 1
  have f1 := h.1.frozen 1
  obtain ⟨h1, h2⟩ := h.2
  clear h
  by_cases a1 : n < 0
  · have hp : x.take n = (x, ⟨#[]⟩, 2) := by simp [Rst.take, a1]
    rw [hp]
    clear hp
    go_enter Try.func42, Try.ntmps42
    go_wp2
    go_ret2
    exact ⟨rfl, H.out, Fr.refl _ _⟩
  · by_cases a2 : (x.s.size : Int) - x.at_ < n
    · have hp : x.take n = (x, ⟨#[]⟩, 8) := by simp [Rst.take, a1, a2]
      rw [hp]
      clear hp
      go_enter Try.func42, Try.ntmps42
      go_wp2_with fail
      refine (left_any p x _ H.out).mono ?_
      rintro e w' ⟨rfl, nq, rfl⟩
      go_wp2
      go_ret2
      exact ⟨rfl, H.out.fr (S := fun _ => False) ((Fr.refl _ _).drewN _) id, (Fr.refl _ _).drewN _⟩
    · obtain ⟨k, rfl⟩ := Int.eq_ofNat_of_zero_le (Int.not_lt.1 a1)
      have hp : x.take k = ({ x with at_ := x.at_ + k }, x.s.extract x.at_ (x.at_ + k), 0) := by simp [Rst.take, a2]
      rw [hp]
      clear hp
      have q1 : x.at_ + k ≤ x.s.size := by omega
      have q2 : IntKind.i64.wrap ((x.at_ : Int) + (k : Int)) = (x.at_ : Int) + (k : Int) := IntWalk.i64_in _ (by omega)
      have q3 : (0 : Int) ≤ (x.at_ : Int) + (k : Int) := by omega
      have q4 : ((x.at_ : Int) + (k : Int)).toNat = x.at_ + k := by omega
      go_enter Try.func42, Try.ntmps42
      go_wp2_with fail
      refine (left_any p x _ H.out).mono ?_
      rintro e w' ⟨rfl, nq0, rfl⟩
      go_wp2_with fail
      go_quiet (fail)
      go_wp2_with fail
      go_ret2
      have hs := H.out.set (nq0 + nq) (x.at_ + k) q1
      rw [Int.natCast_add] at hs
      exact ⟨rfl, hs⟩

def BytesPost (w : World) (s : ByteArray) (w' : World) : Prop := Fr (fun _ => False) w w' ∧ ∀ j, j < s.size → w'.cell? ⟨w.heap.size, j, none⟩ = some (.int .u8 (s.data.toList.getD j 0).toNat)

theorem bytes_post (w : World) (s : ByteArray) : BytesPost w s (Lib.bytesWorld w 5 s) :=
  ⟨⟨rfl, rfl, rfl, by rw [Lib.bytesWorld_size]; omega, fun k hk _ => Lib.bytesWorld_at_old w 5 s k hk⟩, fun j hj => Lib.bytesWorld_cell w 5 s j hj⟩

theorem u32_or_nat (a b : Nat) (ha : a < 4294967296) (hb : b < 4294967296) : bits .or .u32 (a : Int) (b : Int) = ((a ||| b : Nat) : Int) := by
  have hx : a ||| b < 2 ^ 32 := Nat.or_lt_two_pow (by omega) (by omega)
  show IntKind.u32.wrap ((BitVec.ofInt 32 (a : Int) ||| BitVec.ofInt 32 (b : Int)).toNat : Int) = _
  rw [BitVec.toNat_or, BitVec.ofInt_natCast, BitVec.ofInt_natCast, BitVec.toNat_ofNat, BitVec.toNat_ofNat, Nat.mod_eq_of_lt (by omega), Nat.mod_eq_of_lt (by omega), IntKind.wrap_u32]
  omega
theorem or_octet (V c : Nat) (hV : V < 16777216) (hc : c < 256) : bits .or .u32 ((V : Int) * 256) (c : Int) = ((V * 256 + c : Nat) : Int) := by
  have e1 : (V : Int) * 256 = ((V * 256 : Nat) : Int) := by omega
  rw [e1, u32_or_nat _ _ (by omega) (by omega), Nat.mul_comm V 256, show 256 = 2 ^ 8 from rfl, ← Nat.two_pow_add_eq_or_of_lt (by omega)]

set_option maxRecDepth 100000 in
set_option maxHeartbeats 1600000 in
theorem rdnumber_any (p : Nat) (x : Rst) (n : Int) (w : World) (h : Rd w p x) :
    Calls Try.prog 43 #[.pointer (some ⟨p, 0, none⟩), .int .i64 n] w (RdPost w p (x.number n).1 (.tuple #[.int .u32 (x.number n).2.1, .int .i64 (x.number n).2.2])) := by
  by_cases a0 : n < 1
  · have hp : x.number n = (x, 0, 2) := by simp [Rst.number, a0]
    rw [hp]
    clear hp
    go_enter Try.func43, Try.ntmps43
    go_wp2
    go_ret2
    exact ⟨rfl, h, Fr.refl _ _⟩
  · by_cases a1 : 4 < n
    · have hp : x.number n = (x, 0, 2) := by simp [Rst.number, a1]
      rw [hp]
      clear hp
      go_enter Try.func43, Try.ntmps43
      go_wp2
      go_ret2
      exact ⟨rfl, h, Fr.refl _ _⟩
    · have hp : x.number n = ((x.take n).1, (numOf (x.take n).2.1.data.toList : Int), (x.take n).2.2) := by unfold Rst.number; rw [if_neg (by omega)]
      rw [hp]
      clear hp
      have hsz : (x.take n).2.1.size ≤ 4 := by
        unfold Rst.take
        split
        · exact Nat.zero_le 4
        · split
          · exact Nat.zero_le 4
          · simp only [ByteArray.size_extract]; omega
      have H := Lib.hid h
      clear h
      go_enter Try.func43, Try.ntmps43
      go_wp2_with fail
      refine (take_any p x n _ H.out).mono ?_
      rintro e w1 ⟨rfl, h1, f1⟩
      have H1 := Lib.hid (And.intro h1 f1)
      clear h1 f1
      generalize (x.take n).2.1 = s at *
      generalize (x.take n).1 = y at *
      generalize (x.take n).2.2 = z at *
      have hcv := Lib.run_convert_string_bytes (P := Try.prog) w1 9 78 5 s Try.underlying9 Try.underlying78 Try.underlying5
      have B1 : BytesPost w1 s (Lib.bytesWorld w1 5 s) := bytes_post w1 s
      generalize Lib.bytesWorld w1 5 s = w2 at *
      go_wp2_with fail
      have HB := Lib.hid B1
      clear B1 hcv
      go_loop [8, 30] (fun v i => ∃ k : Nat, k ≤ s.size ∧ i = .int .i64 k ∧ v = .int .u32 (numOf (s.data.toList.take k))) (fun _ i => s.size - (intOf i).toNat)
      case atStart => exact ⟨0, Nat.zero_le _, rfl, rfl⟩
      case round =>
        obtain ⟨k, hk, rfl, rfl⟩ := hrel
        have hlen : (s.data.toList.take k).length = k := by simp; omega
        have hv := numOf_lt (s.data.toList.take k)
        rw [hlen] at hv
        by_cases hlt : k < s.size
        · have hc := HB.out.2 k hlt
          have hs4 : numOf (s.data.toList.take k) < 16777216 := Nat.lt_of_lt_of_le hv (Nat.pow_le_pow_right (by decide) (show k ≤ 3 by omega))
          have hb : (s.data.toList.getD k 0).toNat < 256 := (s.data.toList.getD k 0).toNat_lt
          have ht : s.data.toList.take (k + 1) = s.data.toList.take k ++ [s.data.toList.getD k 0] := by
            rw [List.take_succ_eq_append_getElem (by simpa using hlt)]
            congr 2
            rw [List.getD_eq_getElem?_getD, List.getElem?_eq_getElem (by simpa using hlt)]
            rfl
          have hn : numOf (s.data.toList.take (k + 1)) = numOf (s.data.toList.take k) * 256 + (s.data.toList.getD k 0).toNat := by rw [ht, numOf_snoc]
          have HN := Lib.hid hn
          clear hn ht
          generalize s.data.toList.getD k 0 = cb at *
          have ho := or_octet (numOf (s.data.toList.take k)) cb.toNat hs4 hb
          have HO := Lib.hid ho
          clear ho hv hlen
          generalize numOf (s.data.toList.take k) = V at *
          go_wp2
          go_round
          case rel => exact ⟨k + 1, by omega, by go_num, by rw [HN.out, ← HO.out]⟩
          case measure => simp [intOf]; omega
        · have hke : k = s.size := by omega
          subst hke
          rw [List.take_of_length_le (by simp)]
          go_wp2
          go_ret2
          exact ⟨rfl, H1.out.1.fr (S := fun _ => False) HB.out.1 id, H1.out.2.then (HB.out.1.mono fun _ _ h => h.elim)⟩
end Go.Proofs.Ytbemackcdccpaaa
