/-
  THE CONTRACTS OF LAYER 3 (octets): a writer, as a list of octets, how many at most, its error.
-/
import Derived.Test.YtbemackcdccpaaaProg
import Derived.Test.YtbemackcdccpaaaBase
namespace Go.Proofs.Ytbemackcdccpaaa
open Go.RowKit

/-! ### The writer -/
structure Wst where
  b : List UInt8
  most : Int
  e : Int

/-- A writer lies at block p, its memory within F. -/
def Wr (w : World) (p : Nat) (F : Nat → Prop) (x : Wst) : Prop :=
  ∃ A cap, Blk w p 102 #[.slice A x.b.length cap, .int .i64 x.most, .int .i64 x.e] ∧ w.ownsRow 0 5 1 (.slice A x.b.length cap) x.b.length (u8s x.b) ∧
    F p ∧ (∀ k, rowOf A k → F k) ∧ (∀ k, F k → k < w.heap.size) ∧ 0 ≤ x.most ∧ x.most ≤ 9223372036854775807

theorem Wr.fr {w w' : World} {p : Nat} {F S : Nat → Prop} {x : Wst} (h : Wr w p F x) (hf : Fr S w w') (hd : ∀ k, F k → ¬ S k) : Wr w' p F x := by
  obtain ⟨A, cap, h1, h2, h3, h4, h5, h6⟩ := h
  exact ⟨A, cap, h1.fr hf (hd _ h3), own_fr h2 hf fun k hk => hd k (h4 k hk), h3, h4, fun k hk => Nat.lt_of_lt_of_le (h5 k hk) hf.size, h6⟩

def Wst.put (x : Wst) (s : List UInt8) : Wst × Int :=
  if x.e ≠ 0 then (x, x.e) else if x.most - x.b.length < s.length then ({ x with e := 3 }, 3) else ({ x with b := x.b ++ s }, 0)

theorem Try.info5 : (Try.prog.info? 5).map (fun i => (i.zero, i.size, i.bytes)) = some (some (.int .u8 0), 1, 1) := by kernel_rfl

set_option maxHeartbeats 400000 in
theorem newWriter_any (m : Int) (w : World) :
    Calls Try.prog 25 #[.int .i64 m] w fun e w' => e = .returned (.pointer (some ⟨w.heap.size, 0, none⟩)) ∧ w.alloc (.cells #[.slice none 0 0, .int .i64 (max 0 m), .int .i64 0] 102) = w' := by
  go_enter Try.func25, Try.ntmps25
  go_wp2
  all_goals (go_ret; exact ⟨rfl, by congr <;> omega⟩)

theorem Wr.new (m : Int) (hm : m ≤ 9223372036854775807) (w : World) : Wr (w.alloc (.cells #[.slice none 0 0, .int .i64 (max 0 m), .int .i64 0] 102)) w.heap.size (fun k => k = w.heap.size) ⟨[], max 0 m, 0⟩ :=
  ⟨none, 0, Blk.new _ _ _, own_nil _ _ _, rfl, fun k hk => absurd hk (rowOf_none k), fun k hk => by subst hk; simp, by dsimp only; omega, by dsimp only; omega⟩

set_option maxHeartbeats 400000 in
theorem err_nil (w : World) :
    Calls Try.prog 36 #[.pointer none] w fun e w' => e = .returned (.int .i64 1) ∧ w = w' := by
  go_enter Try.func36, Try.ntmps36
  go_wp2
  go_ret
  exact ⟨rfl, rfl⟩

set_option maxHeartbeats 400000 in
theorem err_any (p : Nat) (F : Nat → Prop) (x : Wst) (w : World) (h : Wr w p F x) :
    Calls Try.prog 36 #[.pointer (some ⟨p, 0, none⟩)] w fun e w' => e = .returned (.int .i64 x.e) ∧ w = w' := by
  obtain ⟨A, cap, h1, h2, h3, h4, h5, h6⟩ := h
  have c2 : w.cell? ⟨p, 2, none⟩ = some (.int .i64 x.e) := h1.cell 2
  clear h1 h2 h3 h4 h5 h6
  go_enter Try.func36, Try.ntmps36
  go_wp2
  go_ret
  exact ⟨rfl, rfl⟩

set_option maxHeartbeats 400000 in
theorem len_any (p : Nat) (F : Nat → Prop) (x : Wst) (w : World) (h : Wr w p F x) :
    Calls Try.prog 35 #[.pointer (some ⟨p, 0, none⟩)] w fun e w' => e = .returned (.int .i64 x.b.length) ∧ w = w' := by
  obtain ⟨A, cap, h1, h2, h3, h4, h5, h6⟩ := h
  have c2 : w.cell? ⟨p, 0, none⟩ = some (.slice A x.b.length cap) := h1.cell 0
  clear h1 h2 h3 h4 h5 h6
  go_enter Try.func35, Try.ntmps35
  go_wp2
  go_ret
  exact ⟨rfl, rfl⟩

/-- What each writing call leaves. -/
def WrPost (w : World) (p : Nat) (F : Nat → Prop) (r : Wst × Int) (e : Ending) (w' : World) : Prop :=
  e = .returned (.int .i64 r.2) ∧ ∃ F', Wr w' p F' r.1 ∧ Fr F w w' ∧ ∀ k, F' k → F k ∨ w.heap.size ≤ k

theorem put_long {p : Nat} {F : Nat → Prop} {x : Wst} {w : World} (h : Wr w p F x) (nq : Nat) :
    WrPost w p F ({ x with e := 3 }, 3) (.returned (.int .i64 3)) ((w.drewN nq).setCell ⟨p, 2, none⟩ (.int .i64 3)) := by
  obtain ⟨A, cap, h1, h2, h3, h4, h5, h6⟩ := h
  have hrow : ¬ rowOf A p := own_ne h2 h1 (by decide)
  have hf : Fr (· = p) w ((w.drewN nq).setCell ⟨p, 2, none⟩ (.int .i64 3)) := Fr.setCell (S := (· = p)) ((Fr.refl _ w).drewN nq) (p := ⟨p, 2, none⟩) (fun _ => rfl) _
  refine ⟨rfl, F, ⟨A, cap, (h1.drewN nq).set_ 2 _, own_fr h2 hf (fun k hk e => hrow (e ▸ hk)), h3, h4, fun k hk => Nat.lt_of_lt_of_le (h5 k hk) hf.size, h6⟩, hf.mono (fun k _ e => e ▸ h3), fun _ hk => .inl hk⟩

theorem put_fits {p : Nat} {F : Nat → Prop} {x : Wst} {w w1 : World} {s : List UInt8} {A A' : Option Addr} {cap cap' : Nat}
    (h1 : Blk w p 102 #[.slice A x.b.length cap, .int .i64 x.most, .int .i64 x.e]) (h3 : F p) (h4 : ∀ k, rowOf A k → F k) (h5 : ∀ k, F k → k < w.heap.size)
    (h6 : 0 ≤ x.most) (h7 : x.most ≤ 9223372036854775807) (hrow : ¬ rowOf A p)
    (hown : w1.ownsRow 0 5 1 (.slice A' (x.b.length + s.length) cap') (x.b.length + s.length) (u8s x.b ++ u8s s)) (hfr : Fr (rowOf A) w w1) (hat : ∀ k, rowOf A' k → rowOf A k ∨ w.heap.size ≤ k) :
    WrPost w p F ({ x with b := x.b ++ s }, 0) (.returned (.int .i64 0)) (w1.setCell ⟨p, 0, none⟩ (.slice A' (x.b.length + s.length) cap')) := by
  have hB := h1.fr hfr hrow
  have hrow' : ¬ rowOf A' p := own_ne hown hB (by decide)
  have hf1 : Fr (· = p) w1 (w1.setCell ⟨p, 0, none⟩ (.slice A' (x.b.length + s.length) cap')) := Fr.setCell (S := (· = p)) (Fr.refl _ w1) (p := ⟨p, 0, none⟩) (fun _ => rfl) _
  have hf : Fr F w (w1.setCell ⟨p, 0, none⟩ (.slice A' (x.b.length + s.length) cap')) := (hfr.mono (fun k _ hk => h4 k hk)).setCell (fun _ => h3) _
  refine ⟨rfl, fun k => k = p ∨ rowOf A' k, ⟨A', cap', ?_, ?_, .inl rfl, fun k hk => .inr hk, ?_, h6, h7⟩, hf, ?_⟩
  · have := hB.set_ 0 (.slice A' (x.b.length + s.length) cap')
    simpa using this
  · rw [List.length_append, u8s_append]
    exact own_fr hown hf1 (fun k hk e => hrow' (e ▸ hk))
  · rintro k (rfl | hk)
    · exact Nat.lt_of_lt_of_le (h5 _ h3) hf.size
    · exact Nat.lt_of_lt_of_le (own_lt hown hk) hf1.size
  · rintro k (rfl | hk)
    · exact .inl h3
    · exact (hat k hk).imp (h4 k) id

set_option maxRecDepth 100000 in
set_option maxHeartbeats 400000 in
theorem put_any (p : Nat) (F : Nat → Prop) (x : Wst) (s : ByteArray) (w : World) (h : Wr w p F x) (hs : x.b.length + s.size ≤ 140737488355328) :
    Calls Try.prog 30 #[.pointer (some ⟨p, 0, none⟩), .string s] w (WrPost w p F (x.put s.data.toList)) := by
  obtain ⟨i0, hi, hz0, hz1, hz2⟩ := info_parts Try.info5
  have H := Lib.hid h
  obtain ⟨A, cap, h1, h2, h3, h4, h5, h6, h7⟩ := h
  have c0 : w.cell? ⟨p, 0, none⟩ = some (.slice A x.b.length cap) := h1.cell 0
  have c1 : w.cell? ⟨p, 1, none⟩ = some (.int .i64 x.most) := h1.cell 1
  have c2 : w.cell? ⟨p, 2, none⟩ = some (.int .i64 x.e) := h1.cell 2
  have f0 := h1.frozen 0
  have f2 := h1.frozen 2
  have hsz : s.data.toList.length = s.size := by simp
  have Hsz := Lib.hid hsz
  have hrow : ¬ rowOf A p := own_ne h2 h1 (by decide)
  clear hsz
  by_cases he : x.e = 0
  · have he' : (x.e != 0) = false := by simp [he]
    by_cases hl : x.most - x.b.length < s.size
    · have hp : x.put s.data.toList = ({ x with e := 3 }, 3) := by simp [Wst.put, he, Hsz.out, hl]
      rw [hp]
      clear h2 hp
      go_enter Try.func30, Try.ntmps30
      go_wp2_with (first | (go_at_call 36; refine (err_any p F x _ H.out).mono ?_; rintro e w' ⟨rfl, rfl⟩))
      go_quiet (fail)
      go_wp2
      go_ret
      exact put_long H.out nq
    · have hp : x.put s.data.toList = ({ x with b := x.b ++ s.data.toList }, 0) := by simp [Wst.put, he, Hsz.out, hl]
      rw [hp]
      clear hp
      have H2 := Lib.hid h2
      clear h2
      go_enter Try.func30, Try.ntmps30
      go_wp2_with (first | (go_at_call 36; refine (err_any p F x _ H.out).mono ?_; rintro e w' ⟨rfl, rfl⟩))
      go_quiet (fail)
      go_wp2_with (first
        | (at_builtin; refine wpList_append_src rfl (.tmp 35) (.tmp 36) _ _ rfl 5 i0 _ 1 1 Try.underlying78 hi hz0 hz1 hz2 rfl (by decide) A x.b.length cap (u8s x.b) (by rfl) H2.out _ _ _ (by rfl) (Src.ofString _ Try.underlying9 s) (by simp only [maxLen]; omega) (by omega) ?_
           intro A' cap' w1 hown1 hfr0 hat1
           have hfr1 : Fr (rowOf A) w w1 := hfr0.fromN
           clear hfr0
           have hB1 := h1.fr hfr1 hrow
           have d0 : w1.cell? ⟨p, 0, none⟩ = some (.slice A x.b.length cap) := hB1.cell 0
           have g0 := hB1.frozen 0
           have Hown := Lib.hid hown1
           clear hown1))
      go_ret
      have Hown2 := Hown.out
      rw [← Hsz.out] at Hown2
      have := put_fits h1 h3 h4 h5 h6 h7 hrow (s := s.data.toList) Hown2 hfr1 hat1
      rw [Hsz.out] at this
      exact this
  · have he' : (x.e != 0) = true := by simp [he]
    have hp : x.put s.data.toList = (x, x.e) := by simp [Wst.put, he]
    rw [hp]
    clear h2 hp
    go_enter Try.func30, Try.ntmps30
    go_wp2_with (first | (go_at_call 36; refine (err_any p F x _ H.out).mono ?_; rintro e w' ⟨rfl, rfl⟩))
    go_ret
    exact ⟨rfl, F, H.out, Fr.refl _ _, fun _ hk => .inl hk⟩
def fitsB (v n : Int) : Bool := decide (1 ≤ n ∧ n ≤ 4 ∧ v < 256 ^ n.toNat)

set_option maxRecDepth 100000 in
set_option maxHeartbeats 400000 in
theorem fits_any (v n : Int) (w : World) (h0 : 0 ≤ v) (h1 : v < 4294967296) :
    Calls Try.prog 77 #[.int .u32 v, .int .i64 n] w fun e w' => e = .returned (.bool (fitsB v n)) ∧ w = w' := by
  by_cases a1 : n < 1
  · have hf : fitsB v n = false := by simp only [fitsB, decide_eq_false_iff_not]; omega
    rw [hf]
    clear hf
    go_enter Try.func77, Try.ntmps77
    go_wp2
    go_ret
    exact ⟨rfl, rfl⟩
  · by_cases a2 : n ≤ 4
    · rcases (show n = 1 ∨ n = 2 ∨ n = 3 ∨ n = 4 by omega) with rfl | rfl | rfl | rfl
      all_goals
        go_enter Try.func77, Try.ntmps77
        go_wp2
        go_ret
        exact ⟨ret_bool (by rw [Bool.eq_iff_iff]; simp [fitsB]; omega), rfl⟩
    · have hf : fitsB v n = false := by simp only [fitsB, decide_eq_false_iff_not]; omega
      rw [hf]
      clear hf
      go_enter Try.func77, Try.ntmps77
      go_wp2
      go_ret
      exact ⟨rfl, rfl⟩

/-- A number's octets, the highest first. -/
def octs (v : Nat) : Nat → List UInt8
  | 0 => []
  | n + 1 => UInt8.ofNat (v / 256 ^ n) :: octs v n

theorem cut_eq1 (v : Int) (h0 : 0 ≤ v) (_h1 : v < 4294967296) : (u8s (octs v.toNat 1)).toArray = #[.int .u8 (v % 256)] := by
  simp [u8s, octs]
  omega

theorem cut_eq2 (v : Int) (h0 : 0 ≤ v) (_h1 : v < 4294967296) : (u8s (octs v.toNat 2)).toArray = #[.int .u8 (v / 256 % 256), .int .u8 (v % 256)] := by
  simp [u8s, octs]
  omega

theorem cut_eq3 (v : Int) (h0 : 0 ≤ v) (_h1 : v < 4294967296) : (u8s (octs v.toNat 3)).toArray = #[.int .u8 (v / 65536 % 256), .int .u8 (v / 256 % 256), .int .u8 (v % 256)] := by
  simp [u8s, octs]
  omega

theorem cut_eq4 (v : Int) (h0 : 0 ≤ v) (h1 : v < 4294967296) : (u8s (octs v.toNat 4)).toArray = #[.int .u8 (v / 16777216), .int .u8 (v / 65536 % 256), .int .u8 (v / 256 % 256), .int .u8 (v % 256)] := by
  simp [u8s, octs]
  omega

set_option maxRecDepth 100000 in
set_option maxHeartbeats 1000000 in
theorem cut_any (v n : Int) (w : World) (h0 : 0 ≤ v) (h1 : v < 4294967296) (a1 : 1 ≤ n) (a2 : n ≤ 4) :
    Calls Try.prog 78 #[.int .u32 v, .int .i64 n] w fun e w' => e = .returned (.slice (some ⟨w.heap.size, 0, none⟩) n.toNat n.toNat) ∧ w.alloc (.cells (u8s (octs v.toNat n.toNat)).toArray 5) = w' := by
  rcases (show n = 1 ∨ n = 2 ∨ n = 3 ∨ n = 4 by omega) with rfl | rfl | rfl | rfl
  · have hmk : ∀ w, (Instr.makeSlice 78 (.int .i64 1) (.int .i64 1)).run Try.prog w = .ok (.slice (some ⟨w.heap.size, 0, none⟩) 1 1) (w.alloc (.cells #[.int .u8 0] 5)) := fun _ => by kernel_rfl
    have hq := cut_eq1 v h0 h1
    have Hq := Lib.hid hq
    clear hq
    go_enter Try.func78, Try.ntmps78
    go_wp2
    go_rounds 2
    go_ret
    exact ⟨rfl, by rw [show Int.toNat 1 = 1 from rfl, Hq.out]⟩
  · have hmk : ∀ w, (Instr.makeSlice 78 (.int .i64 2) (.int .i64 2)).run Try.prog w = .ok (.slice (some ⟨w.heap.size, 0, none⟩) 2 2) (w.alloc (.cells #[.int .u8 0, .int .u8 0] 5)) := fun _ => by kernel_rfl
    have hq := cut_eq2 v h0 h1
    have Hq := Lib.hid hq
    clear hq
    go_enter Try.func78, Try.ntmps78
    go_wp2
    go_rounds 3
    go_ret
    exact ⟨rfl, by rw [show Int.toNat 2 = 2 from rfl, Hq.out]⟩
  · have hmk : ∀ w, (Instr.makeSlice 78 (.int .i64 3) (.int .i64 3)).run Try.prog w = .ok (.slice (some ⟨w.heap.size, 0, none⟩) 3 3) (w.alloc (.cells #[.int .u8 0, .int .u8 0, .int .u8 0] 5)) := fun _ => by kernel_rfl
    have hq := cut_eq3 v h0 h1
    have Hq := Lib.hid hq
    clear hq
    go_enter Try.func78, Try.ntmps78
    go_wp2
    go_rounds 4
    go_ret
    exact ⟨rfl, by rw [show Int.toNat 3 = 3 from rfl, Hq.out]⟩
  · have hmk : ∀ w, (Instr.makeSlice 78 (.int .i64 4) (.int .i64 4)).run Try.prog w = .ok (.slice (some ⟨w.heap.size, 0, none⟩) 4 4) (w.alloc (.cells #[.int .u8 0, .int .u8 0, .int .u8 0, .int .u8 0] 5)) := fun _ => by kernel_rfl
    have hq := cut_eq4 v h0 h1
    have Hq := Lib.hid hq
    clear hq
    go_enter Try.func78, Try.ntmps78
    go_wp2
    go_rounds 5
    go_ret
    exact ⟨rfl, by rw [show Int.toNat 4 = 4 from rfl, Hq.out]⟩
end Go.Proofs.Ytbemackcdccpaaa
