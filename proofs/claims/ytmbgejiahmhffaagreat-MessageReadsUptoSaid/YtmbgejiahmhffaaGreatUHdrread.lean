/-
  LAYER 6: Read.
-/
import Derived.Test.YtmbgejiahmhffaaGreatUHdrput
import Derived.Test.YtmbgejiahmhffaaGreatUunA
namespace Go.Proofs.YtmbgejiahmhffaaGreat
open Go.RowKit

theorem set14 {w : World} {r : Nat} {T : TypeId} {a0 a1 a2 a3 a4 a5 a6 a7 a8 a9 a10 a11 a12 a13 : Value} (hb : Blk w r T #[a0, a1, a2, a3, a4, a5, a6, a7, a8, a9, a10, a11, a12, a13]) (v0 v1 v2 v3 v4 v5 v6 v7 v8 v9 v10 v11 v12 v13 : Value) :
    Blk ((((((((((((((w.setCell ⟨r, 0, none⟩ v0).setCell ⟨r, 1, none⟩ v1).setCell ⟨r, 2, none⟩ v2).setCell ⟨r, 3, none⟩ v3).setCell ⟨r, 4, none⟩ v4).setCell ⟨r, 5, none⟩ v5).setCell ⟨r, 6, none⟩ v6).setCell ⟨r, 7, none⟩ v7).setCell ⟨r, 8, none⟩ v8).setCell ⟨r, 9, none⟩ v9).setCell ⟨r, 10, none⟩ v10).setCell ⟨r, 11, none⟩ v11).setCell ⟨r, 12, none⟩ v12).setCell ⟨r, 13, none⟩ v13) r T #[v0, v1, v2, v3, v4, v5, v6, v7, v8, v9, v10, v11, v12, v13] ∧ Fr (· = r) w ((((((((((((((w.setCell ⟨r, 0, none⟩ v0).setCell ⟨r, 1, none⟩ v1).setCell ⟨r, 2, none⟩ v2).setCell ⟨r, 3, none⟩ v3).setCell ⟨r, 4, none⟩ v4).setCell ⟨r, 5, none⟩ v5).setCell ⟨r, 6, none⟩ v6).setCell ⟨r, 7, none⟩ v7).setCell ⟨r, 8, none⟩ v8).setCell ⟨r, 9, none⟩ v9).setCell ⟨r, 10, none⟩ v10).setCell ⟨r, 11, none⟩ v11).setCell ⟨r, 12, none⟩ v12).setCell ⟨r, 13, none⟩ v13) := by
  have h := ((((((((((((((hb.set_ 0 v0).set_ 1 v1).set_ 2 v2).set_ 3 v3).set_ 4 v4).set_ 5 v5).set_ 6 v6).set_ 7 v7).set_ 8 v8).set_ 9 v9).set_ 10 v10).set_ 11 v11).set_ 12 v12).set_ 13 v13)
  simp only [List.setIfInBounds_toArray, List.set_cons_zero, List.set_cons_succ] at h
  exact ⟨h, (((((((((((((((Fr.refl (· = r) w).setCell (p := ⟨r, 0, none⟩) (fun _ => rfl) v0).setCell (p := ⟨r, 1, none⟩) (fun _ => rfl) v1).setCell (p := ⟨r, 2, none⟩) (fun _ => rfl) v2).setCell (p := ⟨r, 3, none⟩) (fun _ => rfl) v3).setCell (p := ⟨r, 4, none⟩) (fun _ => rfl) v4).setCell (p := ⟨r, 5, none⟩) (fun _ => rfl) v5).setCell (p := ⟨r, 6, none⟩) (fun _ => rfl) v6).setCell (p := ⟨r, 7, none⟩) (fun _ => rfl) v7).setCell (p := ⟨r, 8, none⟩) (fun _ => rfl) v8).setCell (p := ⟨r, 9, none⟩) (fun _ => rfl) v9).setCell (p := ⟨r, 10, none⟩) (fun _ => rfl) v10).setCell (p := ⟨r, 11, none⟩) (fun _ => rfl) v11).setCell (p := ⟨r, 12, none⟩) (fun _ => rfl) v12).setCell (p := ⟨r, 13, none⟩) (fun _ => rfl) v13)⟩
theorem set14' {w : World} {r : Nat} {T : TypeId} {a0 a1 a2 a3 a4 a5 a6 a7 a8 a9 a10 a11 a12 a13 : Value} (hb : Blk w r T #[a0, a1, a2, a3, a4, a5, a6, a7, a8, a9, a10, a11, a12, a13]) (v0 v1 v2 v3 v4 v5 v6 v7 v8 v9 v10 v11 v12 v13 : Value) :
    ∃ W, W = ((((((((((((((w.setCell ⟨r, 0, none⟩ v0).setCell ⟨r, 1, none⟩ v1).setCell ⟨r, 2, none⟩ v2).setCell ⟨r, 3, none⟩ v3).setCell ⟨r, 4, none⟩ v4).setCell ⟨r, 5, none⟩ v5).setCell ⟨r, 6, none⟩ v6).setCell ⟨r, 7, none⟩ v7).setCell ⟨r, 8, none⟩ v8).setCell ⟨r, 9, none⟩ v9).setCell ⟨r, 10, none⟩ v10).setCell ⟨r, 11, none⟩ v11).setCell ⟨r, 12, none⟩ v12).setCell ⟨r, 13, none⟩ v13) ∧ Blk W r T #[v0, v1, v2, v3, v4, v5, v6, v7, v8, v9, v10, v11, v12, v13] ∧ Fr (· = r) w W :=
  ⟨_, rfl, set14 hb v0 v1 v2 v3 v4 v5 v6 v7 v8 v9 v10 v11 v12 v13⟩
/-- Two octets' number. -/
def word (s : ByteArray) (a : Nat) : Nat := numOf (s.extract a (a + 2)).data.toList
theorem word_lt (s : ByteArray) (a : Nat) : word s a < 65536 := by
  have h1 := numOf_lt (s.extract a (a + 2)).data.toList
  have h2 : (s.extract a (a + 2)).data.toList.length ≤ 2 := by simp; omega
  exact Nat.lt_of_lt_of_le h1 (Nat.pow_le_pow_right (by decide) h2)
theorem Rst.number_two (s : ByteArray) (a : Nat) (h : a + 2 ≤ s.size) : (⟨s, a⟩ : Rst).number 2 = (⟨s, a + 2⟩, (word s a : Int), 0) := by
  have e : (⟨s, a⟩ : Rst).take 2 = (⟨s, a + 2⟩, s.extract a (a + 2), 0) := by
    unfold Rst.take
    rw [if_neg (by decide), if_neg (by simp only; omega)]
    rfl
  unfold Rst.number
  rw [if_neg (by decide), e]
  rfl
def bitB (n j : Nat) : Bool := n / 2 ^ j % 2 == 1
theorem and_test (n j : Nat) (B : Int) (hB : B = ((2 ^ j : Nat) : Int)) (hn : n < 65536) (hj : j ≤ 15) : (bits .and .u32 (n : Int) B != 0) = bitB n j := by
  have hp : 2 ^ j ≤ 2 ^ 15 := Nat.pow_le_pow_right (by decide) hj
  rw [hB, u32_and _ _ (by omega) (by omega), and_bit]
  have h0 := Nat.two_pow_pos j
  have h2 : n / 2 ^ j % 2 = 0 ∨ n / 2 ^ j % 2 = 1 := by omega
  unfold bitB
  rcases h2 with h | h
  · simp [h]
  · have hz : ((2 ^ j : Nat) : Int) ≠ 0 := by omega
    rw [h, Nat.one_mul]
    exact bne_iff_ne.2 hz
theorem and_four (n : Nat) (hn : n < 65536) : bits .and .u32 (n : Int) 15 = ((n % 16 : Nat) : Int) := by
  have := u32_and n 15 (by omega) (by decide)
  rw [show (15 : Nat) = 2 ^ 4 - 1 from rfl, Nat.and_two_pow_sub_one_eq_mod] at this
  exact this
/-- The header of six numbers, of the first k flags. -/
def hdF (id f : Nat) (k : Nat) : Hd :=
  ⟨id, if 0 < k then bitB f 15 else false, (f : Int) / 2048 % 16, if 1 < k then bitB f 10 else false, if 2 < k then bitB f 9 else false, if 3 < k then bitB f 8 else false, if 4 < k then bitB f 7 else false,
    if 5 < k then bitB f 5 else false, if 6 < k then bitB f 4 else false, (f : Int) % 16, 0, 0, 0, 0⟩
def hdC (id f : Nat) (c : Nat → Nat) (k : Nat) : Hd :=
  { hdF id f 7 with c0 := if 0 < k then c 0 else 0, c1 := if 1 < k then c 1 else 0, c2 := if 2 < k then c 2 else 0, c3 := if 3 < k then c 3 else 0 }
def readHd (s : ByteArray) : Hd × Int :=
  if s.size < 12 then (Hd.zero, 8) else if bitB (word s 2) 6 = true then (Hd.zero, 4) else (hdC (word s 0) (word s 2) (fun k => word s (4 + 2 * k)) 4, 0)
/-- A reader, while a header lies at block p. -/
def HdR (w0 w : World) (p q : Nat) (cs : Array Value) (s : ByteArray) (a : Nat) : Prop :=
  Rd w q ⟨s, a⟩ ∧ Blk w p 25 cs ∧ p ≠ q ∧ w0.heap.size ≤ p ∧ w0.heap.size ≤ q ∧ Fr (fun _ => False) w0 w
section
variable {w0 w w' : World} {p q a : Nat} {cs cs' : Array Value} {s : ByteArray}
theorem HdR.num (h : HdR w0 w p q cs s a) {a' : Nat} (h1 : Rd w' q ⟨s, a'⟩) (h2 : Fr (· = q) w w') : HdR w0 w' p q cs s a' :=
  ⟨h1, h.2.1.fr h2 h.2.2.1, h.2.2.1, h.2.2.2.1, h.2.2.2.2.1, h.2.2.2.2.2.trans h2 fun i hi e => by have := h.2.2.2.2.1; omega⟩
theorem HdR.put (h : HdR w0 w p q cs s a) (h1 : Blk w' p 25 cs') (h2 : Fr (· = p) w w') : HdR w0 w' p q cs' s a :=
  ⟨h.1.fr h2 (fun e => h.2.2.1 e.symm), h1, h.2.2.1, h.2.2.2.1, h.2.2.2.2.1, h.2.2.2.2.2.trans h2 fun i hi e => by have := h.2.2.2.1; omega⟩
theorem HdR.fr (h : HdR w0 w p q cs s a) (h2 : Fr (fun _ => False) w w') : HdR w0 w' p q cs s a :=
  ⟨h.1.fr h2 id, h.2.1.fr h2 id, h.2.2.1, h.2.2.2.1, h.2.2.2.2.1, h.2.2.2.2.2.then h2⟩
theorem HdR.set (h : HdR w0 w p q cs s a) (i : Nat) (v : Value) (hc : cs.setIfInBounds i v = cs') : HdR w0 (w.setCell ⟨p, i, none⟩ v) p q cs' s a := by
  subst hc
  exact h.put (h.2.1.set_ i v) ((Fr.refl (· = p) w).setCell (p := ⟨p, i, none⟩) (fun _ => rfl) v)
end

set_option maxRecDepth 100000 in
set_option maxHeartbeats 4000000 in
theorem read_hd (s : ByteArray) (w : World) (hs : s.size ≤ 140737488351232) :
    Calls Tryz.prog 41 #[.string s] w fun e w' => e = .returned (.tuple #[(readHd s).1.val, .int .i64 (readHd s).2]) ∧ Fr (fun _ => False) w w' := by
  have hb := Blk.new w 25 Hd.zero.cells.toArray
  have hf : Fr (fun _ => False) w (w.alloc (.cells Hd.zero.cells.toArray 25)) := (Fr.refl _ _).alloc _
  have HD : Hid (readHd s = if s.size < 12 then (Hd.zero, 8) else if bitB (word s 2) 6 = true then (Hd.zero, 4) else (hdC (word s 0) (word s 2) (fun k => word s (4 + 2 * k)) 4, 0)) := rfl
  change Blk (w.alloc (.cells #[.int .u16 0, .bool false, .int .i64 0, .bool false, .bool false, .bool false, .bool false, .bool false, .bool false, .int .i64 0, .int .i64 0, .int .i64 0, .int .i64 0, .int .i64 0] 25)) w.heap.size 25 #[.int .u16 0, .bool false, .int .i64 0, .bool false, .bool false, .bool false, .bool false, .bool false, .bool false, .int .i64 0, .int .i64 0, .int .i64 0, .int .i64 0, .int .i64 0] at hb
  change Fr (fun _ => False) w (w.alloc (.cells #[.int .u16 0, .bool false, .int .i64 0, .bool false, .bool false, .bool false, .bool false, .bool false, .bool false, .int .i64 0, .int .i64 0, .int .i64 0, .int .i64 0, .int .i64 0] 25)) at hf
  by_cases hl : s.size < 12
  · have hr : readHd s = (Hd.zero, 8) := by rw [HD.out, if_pos hl]
    rw [hr]
    clear hr HD
    go_enter Tryz.func41, Tryz.ntmps41
    go_wp2_with fail
    generalize w.alloc (.cells #[.int .u16 0, .bool false, .int .i64 0, .bool false, .bool false, .bool false, .bool false, .bool false, .bool false, .int .i64 0, .int .i64 0, .int .i64 0, .int .i64 0, .int .i64 0] 25) = w1 at *
    have d0 := hb.cell 0
    have d1 := hb.cell 1
    have d2 := hb.cell 2
    have d3 := hb.cell 3
    have d4 := hb.cell 4
    have d5 := hb.cell 5
    have d6 := hb.cell 6
    have d7 := hb.cell 7
    have d8 := hb.cell 8
    have d9 := hb.cell 9
    have d10 := hb.cell 10
    have d11 := hb.cell 11
    have d12 := hb.cell 12
    have d13 := hb.cell 13
    simp only [List.getElem?_toArray, List.getElem?_cons_zero, List.getElem?_cons_succ] at d0 d1 d2 d3 d4 d5 d6 d7 d8 d9 d10 d11 d12 d13
    refine bodyPost_ret (v := .tuple #[Hd.zero.val, .int .i64 8]) (by simp [results, Tryz.results41, go_sem, Hd.zero, d0, d1, d2, d3, d4, d5, d6, d7, d8, d9, d10, d11, d12, d13]) rfl ?_
    exact ⟨rfl, hf⟩
  · go_enter Tryz.func41, Tryz.ntmps41
    go_wp2_with fail
    generalize w.alloc (.cells #[.int .u16 0, .bool false, .int .i64 0, .bool false, .bool false, .bool false, .bool false, .bool false, .bool false, .int .i64 0, .int .i64 0, .int .i64 0, .int .i64 0, .int .i64 0] 25) = w1 at *
    refine (newReader_c s hs _).mono ?_
    rintro e w2 ⟨q, rfl, h2, f2, b2⟩
    have hlt := hb.lt
    generalize hp : w.heap.size = p at hb hlt ⊢
    have HR : Hid (HdR w w2 p q _ s 0) := ⟨h2, hb.fr f2 id, by omega, by omega, by have := hf.size; omega, hf.then f2⟩
    clear hb hf h2 f2 b2 hlt hp
    go_wp2_with fail
    refine (rdnumber_any q ⟨s, 0⟩ 2 _ HR.out.1).mono ?_
    rintro e w3 ⟨rfl, h3, f3⟩
    have e3 := Rst.number_two s 0 (by omega)
    rw [e3] at h3
    simp only [e3]
    have HR3 := Lib.hid (HR.out.num h3 f3)
    clear HR h3 f3 e3 w2
    go_wp2_with fail
    refine (rdnumber_any q ⟨s, 2⟩ 2 _ HR3.out.1).mono ?_
    rintro e w4 ⟨rfl, h4, f4⟩
    have e4 := Rst.number_two s 2 (by omega)
    rw [e4] at h4
    simp only [e4]
    have HR4 := Lib.hid (HR3.out.num h4 f4)
    clear HR3 h4 f4 e4 w3
    have hid := word_lt s 0
    have hfl := word_lt s 2
    have HW : Hid (∀ a, word s a < 65536) := word_lt s
    have hr : readHd s = if bitB (word s 2) 6 = true then (Hd.zero, 4) else (hdC (word s 0) (word s 2) (fun k => word s (4 + 2 * k)) 4, 0) := by rw [HD.out, if_neg hl]
    have HE := Lib.hid hr
    clear hr HD
    generalize word s 0 = id at *
    generalize word s 2 = f at *
    have HI := Lib.hid (And.intro hid hfl)
    have ha := and_test f 6 64 rfl hfl (by decide)
    by_cases h6 : bitB f 6 = true
    · rw [h6] at ha
      rw [if_pos h6] at HE
      clear h6 hid hfl
      have hb4 := HR4.out.2.1
      have c0 := hb4.cell 0
      have f0 := hb4.frozen 0
      have c1 := hb4.cell 1
      have f1 := hb4.frozen 1
      have c2 := hb4.cell 2
      have f2 := hb4.frozen 2
      have c3 := hb4.cell 3
      have f3 := hb4.frozen 3
      have c4 := hb4.cell 4
      have f4 := hb4.frozen 4
      have c5 := hb4.cell 5
      have f5 := hb4.frozen 5
      have c6 := hb4.cell 6
      have f6 := hb4.frozen 6
      have c7 := hb4.cell 7
      have f7 := hb4.frozen 7
      have c8 := hb4.cell 8
      have f8 := hb4.frozen 8
      have c9 := hb4.cell 9
      have f9 := hb4.frozen 9
      have c10 := hb4.cell 10
      have f10 := hb4.frozen 10
      have c11 := hb4.cell 11
      have f11 := hb4.frozen 11
      have c12 := hb4.cell 12
      have f12 := hb4.frozen 12
      have c13 := hb4.cell 13
      have f13 := hb4.frozen 13
      simp only [List.getElem?_toArray, List.getElem?_cons_zero, List.getElem?_cons_succ] at c0 c1 c2 c3 c4 c5 c6 c7 c8 c9 c10 c11 c12 c13
      go_wp2_with fail
      obtain ⟨w5, hw5, hB, hF⟩ := set14' hb4 (.int .u16 0) (.bool false) (.int .i64 0) (.bool false) (.bool false) (.bool false) (.bool false) (.bool false) (.bool false) (.int .i64 0) (.int .i64 0) (.int .i64 0) (.int .i64 0) (.int .i64 0)
      rw [← hw5]
      have HN := Lib.hid (HR4.out.put hB hF)
      clear c0 c1 c2 c3 c4 c5 c6 c7 c8 c9 c10 c11 c12 c13 f0 f1 f2 f3 f4 f5 f6 f7 f8 f9 f10 f11 f12 f13 hw5 hF hb4
      have d0 := hB.cell 0
      have d1 := hB.cell 1
      have d2 := hB.cell 2
      have d3 := hB.cell 3
      have d4 := hB.cell 4
      have d5 := hB.cell 5
      have d6 := hB.cell 6
      have d7 := hB.cell 7
      have d8 := hB.cell 8
      have d9 := hB.cell 9
      have d10 := hB.cell 10
      have d11 := hB.cell 11
      have d12 := hB.cell 12
      have d13 := hB.cell 13
      simp only [List.getElem?_toArray, List.getElem?_cons_zero, List.getElem?_cons_succ] at d0 d1 d2 d3 d4 d5 d6 d7 d8 d9 d10 d11 d12 d13
      refine bodyPost_ret (v := .tuple #[Hd.zero.val, .int .i64 4]) (by simp [results, Tryz.results41, go_sem, Hd.zero, d0, d1, d2, d3, d4, d5, d6, d7, d8, d9, d10, d11, d12, d13]) rfl ?_
      exact ⟨by rw [HE.out], HN.out.2.2.2.2.2⟩
    · have h6' : bitB f 6 = false := by simpa using h6
      rw [h6'] at ha
      rw [if_neg h6] at HE
      have ha1 := and_four f hfl
      have ha2 : bits .and .u32 ((f : Int) / 2048) 15 = ((f / 2048 % 16 : Nat) : Int) := by
        have := and_four (f / 2048) (by omega)
        rwa [show ((f / 2048 : Nat) : Int) = (f : Int) / 2048 by omega] at this
      clear h6 h6'
      have hb4 := HR4.out.2.1
      have c0 := hb4.cell 0
      have f0 := hb4.frozen 0
      have c1 := hb4.cell 1
      have f1 := hb4.frozen 1
      have c2 := hb4.cell 2
      have f2 := hb4.frozen 2
      have c3 := hb4.cell 3
      have f3 := hb4.frozen 3
      have c4 := hb4.cell 4
      have f4 := hb4.frozen 4
      have c5 := hb4.cell 5
      have f5 := hb4.frozen 5
      have c6 := hb4.cell 6
      have f6 := hb4.frozen 6
      have c7 := hb4.cell 7
      have f7 := hb4.frozen 7
      have c8 := hb4.cell 8
      have f8 := hb4.frozen 8
      have c9 := hb4.cell 9
      have f9 := hb4.frozen 9
      have c10 := hb4.cell 10
      have f10 := hb4.frozen 10
      have c11 := hb4.cell 11
      have f11 := hb4.frozen 11
      have c12 := hb4.cell 12
      have f12 := hb4.frozen 12
      have c13 := hb4.cell 13
      have f13 := hb4.frozen 13
      simp only [List.getElem?_toArray, List.getElem?_cons_zero, List.getElem?_cons_succ] at c0 c1 c2 c3 c4 c5 c6 c7 c8 c9 c10 c11 c12 c13
      go_wp2_with fail
      obtain ⟨w5, hw5, hB, hF⟩ := set14' hb4 (.int .u16 id) (.bool false) (.int .i64 ((f : Int) / 2048 % 16)) (.bool false) (.bool false) (.bool false) (.bool false) (.bool false) (.bool false) (.int .i64 ((f : Int) % 16)) (.int .i64 0) (.int .i64 0) (.int .i64 0) (.int .i64 0)
      rw [← hw5]
      have hB' : Blk w5 p 25 (hdF id f 0).cells.toArray := hB
      have HN := Lib.hid (HR4.out.put hB' hF)
      clear c0 c1 c2 c3 c4 c5 c6 c7 c8 c9 c10 c11 c12 c13 f0 f1 f2 f3 f4 f5 f6 f7 f8 f9 f10 f11 f12 f13 hw5 hF hb4 hB hB' ha ha1 ha2 HR4
      refine (flags_any p _).mono ?_
      rintro e w6 ⟨rfl, f6⟩
      have HR6 := Lib.hid (HN.out.fr f6)
      clear HN f6 w4 w5
      have i0 : ∀ w, (Instr.index 120 (flagsVal p) (.int .i64 0)).run Tryz.prog w = .ok (.agg #[.int .u32 32768, .pointer (some ⟨p, 1, none⟩)]) w := fun _ => by kernel_rfl
      have i1 : ∀ w, (Instr.index 120 (flagsVal p) (.int .i64 1)).run Tryz.prog w = .ok (.agg #[.int .u32 1024, .pointer (some ⟨p, 3, none⟩)]) w := fun _ => by kernel_rfl
      have i2 : ∀ w, (Instr.index 120 (flagsVal p) (.int .i64 2)).run Tryz.prog w = .ok (.agg #[.int .u32 512, .pointer (some ⟨p, 4, none⟩)]) w := fun _ => by kernel_rfl
      have i3 : ∀ w, (Instr.index 120 (flagsVal p) (.int .i64 3)).run Tryz.prog w = .ok (.agg #[.int .u32 256, .pointer (some ⟨p, 5, none⟩)]) w := fun _ => by kernel_rfl
      have i4 : ∀ w, (Instr.index 120 (flagsVal p) (.int .i64 4)).run Tryz.prog w = .ok (.agg #[.int .u32 128, .pointer (some ⟨p, 6, none⟩)]) w := fun _ => by kernel_rfl
      have i5 : ∀ w, (Instr.index 120 (flagsVal p) (.int .i64 5)).run Tryz.prog w = .ok (.agg #[.int .u32 32, .pointer (some ⟨p, 7, none⟩)]) w := fun _ => by kernel_rfl
      have i6 : ∀ w, (Instr.index 120 (flagsVal p) (.int .i64 6)).run Tryz.prog w = .ok (.agg #[.int .u32 16, .pointer (some ⟨p, 8, none⟩)]) w := fun _ => by kernel_rfl
      go_wp2_with fail
      go_loopg [45] 7 (fun g i wr => ∃ k : Nat, g = 7 - k ∧ k ≤ 7 ∧ i = .int .i64 k ∧ HdR w wr p q (hdF id f k).cells.toArray s 4)
      case atStart => exact ⟨0, rfl, Nat.zero_le _, rfl, HR6.out⟩
      case round =>
        clear HR6
        obtain ⟨k, hg, hk, rfl, hr⟩ := hrel
        have HR := Lib.hid hr
        have HH := Lib.hid hg
        clear hg hr
        rcases (show k = 0 ∨ k = 1 ∨ k = 2 ∨ k = 3 ∨ k = 4 ∨ k = 5 ∨ k = 6 ∨ k = 7 by omega) with rfl | rfl | rfl | rfl | rfl | rfl | rfl | rfl
        · have HN : Hid (HdR w (wr.alloc (.cells #[.int .u32 32768, .pointer (some ⟨p, 1, none⟩)] 119)) p q (hdF id f 0).cells.toArray s 4) := HR.out.fr ((Fr.refl _ _).alloc _)
          have c : (wr.alloc (.cells #[.int .u32 32768, .pointer (some ⟨p, 1, none⟩)] 119)).cell? ⟨p, 1, none⟩ = some (.bool false) := HN.out.2.1.cell 1
          have c' : (wr.alloc (.cells #[.int .u32 32768, .pointer (some ⟨p, 1, none⟩)] 119)).frozen? ⟨p, 1, none⟩ = false := HN.out.2.1.frozen 1
          have ta := and_test f 15 32768 rfl hfl (by decide)
          have TA := Lib.hid ta
          clear ta
          go_wp2_with fail
          go_roundg (7 - 1)
          case measure => rw [HH.out]; decide
          case rel => exact ⟨1, rfl, by decide, by go_num, by rw [TA.out]; exact HN.out.set 1 (.bool (bitB f 15)) rfl⟩
        · have HN : Hid (HdR w (wr.alloc (.cells #[.int .u32 1024, .pointer (some ⟨p, 3, none⟩)] 119)) p q (hdF id f 1).cells.toArray s 4) := HR.out.fr ((Fr.refl _ _).alloc _)
          have c : (wr.alloc (.cells #[.int .u32 1024, .pointer (some ⟨p, 3, none⟩)] 119)).cell? ⟨p, 3, none⟩ = some (.bool false) := HN.out.2.1.cell 3
          have c' : (wr.alloc (.cells #[.int .u32 1024, .pointer (some ⟨p, 3, none⟩)] 119)).frozen? ⟨p, 3, none⟩ = false := HN.out.2.1.frozen 3
          have ta := and_test f 10 1024 rfl hfl (by decide)
          have TA := Lib.hid ta
          clear ta
          go_wp2_with fail
          go_roundg (7 - 2)
          case measure => rw [HH.out]; decide
          case rel => exact ⟨2, rfl, by decide, by go_num, by rw [TA.out]; exact HN.out.set 3 (.bool (bitB f 10)) rfl⟩
        · have HN : Hid (HdR w (wr.alloc (.cells #[.int .u32 512, .pointer (some ⟨p, 4, none⟩)] 119)) p q (hdF id f 2).cells.toArray s 4) := HR.out.fr ((Fr.refl _ _).alloc _)
          have c : (wr.alloc (.cells #[.int .u32 512, .pointer (some ⟨p, 4, none⟩)] 119)).cell? ⟨p, 4, none⟩ = some (.bool false) := HN.out.2.1.cell 4
          have c' : (wr.alloc (.cells #[.int .u32 512, .pointer (some ⟨p, 4, none⟩)] 119)).frozen? ⟨p, 4, none⟩ = false := HN.out.2.1.frozen 4
          have ta := and_test f 9 512 rfl hfl (by decide)
          have TA := Lib.hid ta
          clear ta
          go_wp2_with fail
          go_roundg (7 - 3)
          case measure => rw [HH.out]; decide
          case rel => exact ⟨3, rfl, by decide, by go_num, by rw [TA.out]; exact HN.out.set 4 (.bool (bitB f 9)) rfl⟩
        · have HN : Hid (HdR w (wr.alloc (.cells #[.int .u32 256, .pointer (some ⟨p, 5, none⟩)] 119)) p q (hdF id f 3).cells.toArray s 4) := HR.out.fr ((Fr.refl _ _).alloc _)
          have c : (wr.alloc (.cells #[.int .u32 256, .pointer (some ⟨p, 5, none⟩)] 119)).cell? ⟨p, 5, none⟩ = some (.bool false) := HN.out.2.1.cell 5
          have c' : (wr.alloc (.cells #[.int .u32 256, .pointer (some ⟨p, 5, none⟩)] 119)).frozen? ⟨p, 5, none⟩ = false := HN.out.2.1.frozen 5
          have ta := and_test f 8 256 rfl hfl (by decide)
          have TA := Lib.hid ta
          clear ta
          go_wp2_with fail
          go_roundg (7 - 4)
          case measure => rw [HH.out]; decide
          case rel => exact ⟨4, rfl, by decide, by go_num, by rw [TA.out]; exact HN.out.set 5 (.bool (bitB f 8)) rfl⟩
        · have HN : Hid (HdR w (wr.alloc (.cells #[.int .u32 128, .pointer (some ⟨p, 6, none⟩)] 119)) p q (hdF id f 4).cells.toArray s 4) := HR.out.fr ((Fr.refl _ _).alloc _)
          have c : (wr.alloc (.cells #[.int .u32 128, .pointer (some ⟨p, 6, none⟩)] 119)).cell? ⟨p, 6, none⟩ = some (.bool false) := HN.out.2.1.cell 6
          have c' : (wr.alloc (.cells #[.int .u32 128, .pointer (some ⟨p, 6, none⟩)] 119)).frozen? ⟨p, 6, none⟩ = false := HN.out.2.1.frozen 6
          have ta := and_test f 7 128 rfl hfl (by decide)
          have TA := Lib.hid ta
          clear ta
          go_wp2_with fail
          go_roundg (7 - 5)
          case measure => rw [HH.out]; decide
          case rel => exact ⟨5, rfl, by decide, by go_num, by rw [TA.out]; exact HN.out.set 6 (.bool (bitB f 7)) rfl⟩
        · have HN : Hid (HdR w (wr.alloc (.cells #[.int .u32 32, .pointer (some ⟨p, 7, none⟩)] 119)) p q (hdF id f 5).cells.toArray s 4) := HR.out.fr ((Fr.refl _ _).alloc _)
          have c : (wr.alloc (.cells #[.int .u32 32, .pointer (some ⟨p, 7, none⟩)] 119)).cell? ⟨p, 7, none⟩ = some (.bool false) := HN.out.2.1.cell 7
          have c' : (wr.alloc (.cells #[.int .u32 32, .pointer (some ⟨p, 7, none⟩)] 119)).frozen? ⟨p, 7, none⟩ = false := HN.out.2.1.frozen 7
          have ta := and_test f 5 32 rfl hfl (by decide)
          have TA := Lib.hid ta
          clear ta
          go_wp2_with fail
          go_roundg (7 - 6)
          case measure => rw [HH.out]; decide
          case rel => exact ⟨6, rfl, by decide, by go_num, by rw [TA.out]; exact HN.out.set 7 (.bool (bitB f 5)) rfl⟩
        · have HN : Hid (HdR w (wr.alloc (.cells #[.int .u32 16, .pointer (some ⟨p, 8, none⟩)] 119)) p q (hdF id f 6).cells.toArray s 4) := HR.out.fr ((Fr.refl _ _).alloc _)
          have c : (wr.alloc (.cells #[.int .u32 16, .pointer (some ⟨p, 8, none⟩)] 119)).cell? ⟨p, 8, none⟩ = some (.bool false) := HN.out.2.1.cell 8
          have c' : (wr.alloc (.cells #[.int .u32 16, .pointer (some ⟨p, 8, none⟩)] 119)).frozen? ⟨p, 8, none⟩ = false := HN.out.2.1.frozen 8
          have ta := and_test f 4 16 rfl hfl (by decide)
          have TA := Lib.hid ta
          clear ta
          go_wp2_with fail
          go_roundg (7 - 7)
          case measure => rw [HH.out]; decide
          case rel => exact ⟨7, rfl, by decide, by go_num, by rw [TA.out]; exact HN.out.set 8 (.bool (bitB f 4)) rfl⟩
        · clear i0 i1 i2 i3 i4 i5 i6
          have HG : Hid (HdR w wr p q (hdC id f (fun k => word s (4 + 2 * k)) 0).cells.toArray s (4 + 2 * 0)) := HR.out
          clear HR HH
          go_wp2_with fail
          go_loopg [57] 4 (fun g i wr => ∃ k : Nat, g = 4 - k ∧ k ≤ 4 ∧ i = .int .i64 k ∧ HdR w wr p q (hdC id f (fun k => word s (4 + 2 * k)) k).cells.toArray s (4 + 2 * k))
          case atStart => exact ⟨0, rfl, Nat.zero_le _, rfl, HG.out⟩
          case round =>
            clear HG
            obtain ⟨k, hg, hk, rfl, hr⟩ := hrel
            have HR := Lib.hid hr
            have HH := Lib.hid hg
            clear hg hr
            rcases (show k = 0 ∨ k = 1 ∨ k = 2 ∨ k = 3 ∨ k = 4 by omega) with rfl | rfl | rfl | rfl | rfl
            · go_wp2_with fail
              refine (rdnumber_any q ⟨s, 4⟩ 2 _ HR.out.1).mono ?_
              rintro e w7 ⟨rfl, h7, f7⟩
              have e7 := Rst.number_two s 4 (by omega)
              rw [e7] at h7
              simp only [e7]
              have HN := Lib.hid (HR.out.num h7 f7)
              have hwd : word s 4 < 65536 := HW.out 4
              have f1 := HN.out.2.1.frozen 10
              have c1 : w7.cell? ⟨p, 10, none⟩ = some (.int .i64 0) := HN.out.2.1.cell 10
              clear h7 f7 e7
              go_wp2_with fail
              go_roundg (4 - 1)
              case measure => rw [HH.out]; decide
              case rel => exact ⟨1, rfl, by decide, by go_num, HN.out.set 10 (.int .i64 (word s 4)) rfl⟩
            · go_wp2_with fail
              refine (rdnumber_any q ⟨s, 6⟩ 2 _ HR.out.1).mono ?_
              rintro e w7 ⟨rfl, h7, f7⟩
              have e7 := Rst.number_two s 6 (by omega)
              rw [e7] at h7
              simp only [e7]
              have HN := Lib.hid (HR.out.num h7 f7)
              have hwd : word s 6 < 65536 := HW.out 6
              have f1 := HN.out.2.1.frozen 11
              have c1 : w7.cell? ⟨p, 11, none⟩ = some (.int .i64 0) := HN.out.2.1.cell 11
              clear h7 f7 e7
              go_wp2_with fail
              go_roundg (4 - 2)
              case measure => rw [HH.out]; decide
              case rel => exact ⟨2, rfl, by decide, by go_num, HN.out.set 11 (.int .i64 (word s 6)) rfl⟩
            · go_wp2_with fail
              refine (rdnumber_any q ⟨s, 8⟩ 2 _ HR.out.1).mono ?_
              rintro e w7 ⟨rfl, h7, f7⟩
              have e7 := Rst.number_two s 8 (by omega)
              rw [e7] at h7
              simp only [e7]
              have HN := Lib.hid (HR.out.num h7 f7)
              have hwd : word s 8 < 65536 := HW.out 8
              have f1 := HN.out.2.1.frozen 12
              have c1 : w7.cell? ⟨p, 12, none⟩ = some (.int .i64 0) := HN.out.2.1.cell 12
              clear h7 f7 e7
              go_wp2_with fail
              go_roundg (4 - 3)
              case measure => rw [HH.out]; decide
              case rel => exact ⟨3, rfl, by decide, by go_num, HN.out.set 12 (.int .i64 (word s 8)) rfl⟩
            · go_wp2_with fail
              refine (rdnumber_any q ⟨s, 10⟩ 2 _ HR.out.1).mono ?_
              rintro e w7 ⟨rfl, h7, f7⟩
              have e7 := Rst.number_two s 10 (by omega)
              rw [e7] at h7
              simp only [e7]
              have HN := Lib.hid (HR.out.num h7 f7)
              have hwd : word s 10 < 65536 := HW.out 10
              have f1 := HN.out.2.1.frozen 13
              have c1 : w7.cell? ⟨p, 13, none⟩ = some (.int .i64 0) := HN.out.2.1.cell 13
              clear h7 f7 e7
              go_wp2_with fail
              go_roundg (4 - 4)
              case measure => rw [HH.out]; decide
              case rel => exact ⟨4, rfl, by decide, by go_num, HN.out.set 13 (.int .i64 (word s 10)) rfl⟩
            · have HL : Hid (HdR w wr p q (hdC id f (fun k => word s (4 + 2 * k)) 4).cells.toArray s 12) := HR.out
              clear HR HH
              generalize hdC id f (fun k => word s (4 + 2 * k)) 4 = H at HL HE
              have hb4 := HL.out.2.1
              have c0 : wr.cell? ⟨p, 0, none⟩ = some (.int .u16 H.id) := hb4.cell 0
              have c1 : wr.cell? ⟨p, 1, none⟩ = some (.bool H.resp) := hb4.cell 1
              have c2 : wr.cell? ⟨p, 2, none⟩ = some (.int .i64 H.op) := hb4.cell 2
              have c3 : wr.cell? ⟨p, 3, none⟩ = some (.bool H.aa) := hb4.cell 3
              have c4 : wr.cell? ⟨p, 4, none⟩ = some (.bool H.tc) := hb4.cell 4
              have c5 : wr.cell? ⟨p, 5, none⟩ = some (.bool H.rd) := hb4.cell 5
              have c6 : wr.cell? ⟨p, 6, none⟩ = some (.bool H.ra) := hb4.cell 6
              have c7 : wr.cell? ⟨p, 7, none⟩ = some (.bool H.ad) := hb4.cell 7
              have c8 : wr.cell? ⟨p, 8, none⟩ = some (.bool H.cd) := hb4.cell 8
              have c9 : wr.cell? ⟨p, 9, none⟩ = some (.int .i64 H.rc) := hb4.cell 9
              have c10 : wr.cell? ⟨p, 10, none⟩ = some (.int .i64 H.c0) := hb4.cell 10
              have c11 : wr.cell? ⟨p, 11, none⟩ = some (.int .i64 H.c1) := hb4.cell 11
              have c12 : wr.cell? ⟨p, 12, none⟩ = some (.int .i64 H.c2) := hb4.cell 12
              have c13 : wr.cell? ⟨p, 13, none⟩ = some (.int .i64 H.c3) := hb4.cell 13
              have f0 := hb4.frozen 0
              have f1 := hb4.frozen 1
              have f2 := hb4.frozen 2
              have f3 := hb4.frozen 3
              have f4 := hb4.frozen 4
              have f5 := hb4.frozen 5
              have f6 := hb4.frozen 6
              have f7 := hb4.frozen 7
              have f8 := hb4.frozen 8
              have f9 := hb4.frozen 9
              have f10 := hb4.frozen 10
              have f11 := hb4.frozen 11
              have f12 := hb4.frozen 12
              have f13 := hb4.frozen 13
              go_wp2_with fail
              obtain ⟨w5, hw5, hB, hF⟩ := set14' hb4 (.int .u16 H.id) (.bool H.resp) (.int .i64 H.op) (.bool H.aa) (.bool H.tc) (.bool H.rd) (.bool H.ra) (.bool H.ad) (.bool H.cd) (.int .i64 H.rc) (.int .i64 H.c0) (.int .i64 H.c1) (.int .i64 H.c2) (.int .i64 H.c3)
              rw [← hw5]
              have HN := Lib.hid (HL.out.put hB hF)
              clear c0 c1 c2 c3 c4 c5 c6 c7 c8 c9 c10 c11 c12 c13 f0 f1 f2 f3 f4 f5 f6 f7 f8 f9 f10 f11 f12 f13 hw5 hF hb4
              have d0 := hB.cell 0
              have d1 := hB.cell 1
              have d2 := hB.cell 2
              have d3 := hB.cell 3
              have d4 := hB.cell 4
              have d5 := hB.cell 5
              have d6 := hB.cell 6
              have d7 := hB.cell 7
              have d8 := hB.cell 8
              have d9 := hB.cell 9
              have d10 := hB.cell 10
              have d11 := hB.cell 11
              have d12 := hB.cell 12
              have d13 := hB.cell 13
              simp only [List.getElem?_toArray, List.getElem?_cons_zero, List.getElem?_cons_succ] at d0 d1 d2 d3 d4 d5 d6 d7 d8 d9 d10 d11 d12 d13
              refine bodyPost_ret (v := .tuple #[H.val, .int .i64 0]) (by simp [results, Tryz.results41, go_sem, d0, d1, d2, d3, d4, d5, d6, d7, d8, d9, d10, d11, d12, d13]) rfl ?_
              exact ⟨by rw [HE.out], HN.out.2.2.2.2.2⟩
end Go.Proofs.YtmbgejiahmhffaaGreat
