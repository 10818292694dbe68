/-
  THE REFERENCE OF LAYER 6: Read.
-/
import Derived.Test.YtbemackcdccpaaaHdrread
import Derived.Test.YtbemackcdccpaaaRead3r
import Derived.Deep.LoopGhost
namespace Go.Proofs.Ytbemackcdccpaaa
open Go.RowKit

theorem shr_test (n j : Nat) (B : Int) (hB : B = ((2 ^ j : Nat) : Int)) (hn : n < 65536) : (bits .and .u32 ((n : Int) / B) 1 == 1) = bitB n j := by
  have e : (n : Int) / B = ((n / 2 ^ j : Nat) : Int) := by rw [hB]; exact (Int.natCast_ediv _ _).symm
  have hq : n / 2 ^ j ≤ n := Nat.div_le_self _ _
  rw [e]
  have := u32_and (n / 2 ^ j) 1 (by omega) (by decide)
  rw [show ((1 : Nat) : Int) = 1 from rfl] at this
  rw [this]
  unfold bitB
  rw [Nat.and_one_is_mod]
  rcases (show n / 2 ^ j % 2 = 0 ∨ n / 2 ^ j % 2 = 1 by omega) with h | h <;> rw [h] <;> rfl
theorem shr_four (n : Nat) (hn : n < 65536) : bits .and .u32 ((n : Int) / 2048) 15 = (n : Int) / 2048 % 16 := by
  have e : (n : Int) / 2048 = ((n / 2048 : Nat) : Int) := (Int.natCast_ediv _ _).symm
  rw [e, and_four _ (by omega)]
  omega

/-- The reference's reader at q, a header at p, another at r. -/
def HdS (w0 w : World) (p q : Nat) (cs : Array Value) (s : ByteArray) (a : Nat) : Prop :=
  RRd w q ⟨s, a⟩ ∧ Blk w p 45 cs ∧ p ≠ q ∧ w0.heap.size ≤ p ∧ w0.heap.size ≤ q ∧ Fr (fun _ => False) w0 w
section
variable {w0 w w' : World} {p q a : Nat} {cs cs' : Array Value} {s : ByteArray}
theorem HdS.num (h : HdS w0 w p q cs s a) {a' : Nat} (h1 : RRd w' q ⟨s, a'⟩) (h2 : Fr (· = q) w w') : HdS w0 w' p q cs s a' :=
  ⟨h1, h.2.1.fr h2 h.2.2.1, h.2.2.1, h.2.2.2.1, h.2.2.2.2.1, h.2.2.2.2.2.trans h2 fun i hi e => by have := h.2.2.2.2.1; omega⟩
theorem HdS.put (h : HdS w0 w p q cs s a) (h1 : Blk w' p 45 cs') (h2 : Fr (· = p) w w') : HdS w0 w' p q cs' s a :=
  ⟨h.1.fr h2 (fun e => h.2.2.1 e.symm), h1, h.2.2.1, h.2.2.2.1, h.2.2.2.2.1, h.2.2.2.2.2.trans h2 fun i hi e => by have := h.2.2.2.1; omega⟩
end

/-- Besides: the result's block, still nought. -/
def HdT (w0 w : World) (p r q : Nat) (cs : Array Value) (s : ByteArray) (a : Nat) : Prop :=
  HdS w0 w r q cs s a ∧ Blk w p 45 #[.int .u16 0, .bool false, .int .i64 0, .bool false, .bool false, .bool false, .bool false, .bool false, .bool false, .int .i64 0, .int .i64 0, .int .i64 0, .int .i64 0, .int .i64 0] ∧ p ≠ q ∧ p ≠ r ∧ w0.heap.size ≤ p
section
variable {w0 w w' : World} {p r q a : Nat} {cs cs' : Array Value} {s : ByteArray}
theorem HdT.num (h : HdT w0 w p r q cs s a) {a' : Nat} (h1 : RRd w' q ⟨s, a'⟩) (h2 : Fr (· = q) w w') : HdT w0 w' p r q cs s a' :=
  ⟨h.1.num h1 h2, h.2.1.fr h2 h.2.2.1, h.2.2⟩
theorem HdT.set (h : HdT w0 w p r q cs s a) (i : Nat) (v : Value) (hc : cs.setIfInBounds i v = cs') : HdT w0 (w.setCell ⟨r, i, none⟩ v) p r q cs' s a := by
  subst hc
  have hf := (Fr.refl (· = r) w).setCell (p := ⟨r, i, none⟩) (fun _ => rfl) v
  exact ⟨h.1.put (h.1.2.1.set_ i v) hf, h.2.1.fr hf h.2.2.2.1, h.2.2⟩
end

set_option maxRecDepth 100000 in
set_option maxHeartbeats 16000000 in
theorem rread_hd (s : ByteArray) (w : World) (hs : s.size ≤ 140737488351232) :
    Calls Try.prog 66 #[.string s] w fun e w' => e = .returned (.tuple #[(readHd s).1.val, .int .i64 (readHd s).2]) ∧ Fr (fun _ => False) w w' := by
  have hb := Blk.new w 45 Hd.zero.cells.toArray
  have hf : Fr (fun _ => False) w (w.alloc (.cells Hd.zero.cells.toArray 45)) := (Fr.refl _ _).alloc _
  have HD : Hid (readHd s = if s.size < 12 then (Hd.zero, 8) else if bitB (word s 2) 6 = true then (Hd.zero, 4) else (hdC (word s 0) (word s 2) (fun k => word s (4 + 2 * k)) 4, 0)) := rfl
  change Blk (w.alloc (.cells #[.int .u16 0, .bool false, .int .i64 0, .bool false, .bool false, .bool false, .bool false, .bool false, .bool false, .int .i64 0, .int .i64 0, .int .i64 0, .int .i64 0, .int .i64 0] 45)) w.heap.size 45 #[.int .u16 0, .bool false, .int .i64 0, .bool false, .bool false, .bool false, .bool false, .bool false, .bool false, .int .i64 0, .int .i64 0, .int .i64 0, .int .i64 0, .int .i64 0] at hb
  change Fr (fun _ => False) w (w.alloc (.cells #[.int .u16 0, .bool false, .int .i64 0, .bool false, .bool false, .bool false, .bool false, .bool false, .bool false, .int .i64 0, .int .i64 0, .int .i64 0, .int .i64 0, .int .i64 0] 45)) at hf
  obtain ⟨W, hW⟩ : ∃ W, W = w.alloc (.cells #[.int .u16 0, .bool false, .int .i64 0, .bool false, .bool false, .bool false, .bool false, .bool false, .bool false, .int .i64 0, .int .i64 0, .int .i64 0, .int .i64 0, .int .i64 0] 45) := ⟨_, rfl⟩
  rw [← hW] at hb hf
  by_cases hl : s.size < 12
  · have hr : readHd s = (Hd.zero, 8) := by rw [HD.out, if_pos hl]
    rw [hr]
    clear hr HD
    have HW := Lib.hid hW
    clear hW
    go_enter Try.func66, Try.ntmps66
    go_wp2_with fail
    rw [← HW.out]
    have d0 := hb.cell 0
    have d1 := hb.cell 1
    have d2 := hb.cell 2
    have d3 := hb.cell 3
    have d4 := hb.cell 4
    have d5 := hb.cell 5
    have d6 := hb.cell 6
    have d7 := hb.cell 7
    have d8 := hb.cell 8
    have d9 := hb.cell 9
    have d10 := hb.cell 10
    have d11 := hb.cell 11
    have d12 := hb.cell 12
    have d13 := hb.cell 13
    simp only [List.getElem?_toArray, List.getElem?_cons_zero, List.getElem?_cons_succ] at d0 d1 d2 d3 d4 d5 d6 d7 d8 d9 d10 d11 d12 d13
    refine bodyPost_ret (v := .tuple #[Hd.zero.val, .int .i64 8]) (by simp [results, Try.results66, go_sem, Hd.zero, d0, d1, d2, d3, d4, d5, d6, d7, d8, d9, d10, d11, d12, d13]) rfl ?_
    exact ⟨rfl, hf⟩
  · go_enter Try.func66, Try.ntmps66
    go_wp2_with fail
    rw [← hW]
    have hq := Blk.new W 75 #[.string s, .int .i64 0]
    have hb2 := hb.alloc (.cells #[.string s, .int .i64 0] 75)
    have hlt := hb.lt
    have hsz := hf.size
    have HR : Hid (HdS w (W.alloc (.cells #[.string s, .int .i64 0] 75)) w.heap.size W.heap.size _ s 0) := ⟨⟨hq, Nat.zero_le _, hs⟩, hb2, by omega, Nat.le_refl _, hsz, hf.alloc _⟩
    have e1 : w.heap.size + 1 = W.heap.size := by rw [hW]; simp
    clear hb hf hq hb2
    rw [e1]
    clear e1 hlt hsz hW
    generalize W.alloc (.cells #[.string s, .int .i64 0] 75) = w2 at *
    generalize w.heap.size = p at *
    generalize W.heap.size = q at *
    refine (rrdnumber_any q ⟨s, 0⟩ 2 _ HR.out.1).mono ?_
    rintro e w3 ⟨rfl, h3, f3⟩
    have e3 := Rst.number_two s 0 (by omega)
    rw [e3] at h3
    simp only [e3]
    have HR3 := Lib.hid (HR.out.num h3 f3)
    clear HR h3 f3 e3 w2
    go_wp2_with fail
    refine (rrdnumber_any q ⟨s, 2⟩ 2 _ HR3.out.1).mono ?_
    rintro e w4 ⟨rfl, h4, f4⟩
    have e4 := Rst.number_two s 2 (by omega)
    rw [e4] at h4
    simp only [e4]
    have HR4 := Lib.hid (HR3.out.num h4 f4)
    clear HR3 h4 f4 e4 w3
    have hid := word_lt s 0
    have hfl := word_lt s 2
    have HW : Hid (∀ a, word s a < 65536) := word_lt s
    have hr : readHd s = if bitB (word s 2) 6 = true then (Hd.zero, 4) else (hdC (word s 0) (word s 2) (fun k => word s (4 + 2 * k)) 4, 0) := by rw [HD.out, if_neg hl]
    have HE := Lib.hid hr
    clear hr HD
    generalize word s 0 = id at *
    generalize word s 2 = f at *
    have HI := Lib.hid (And.intro hid hfl)
    have ha := shr_test f 6 64 rfl hfl
    by_cases h6 : bitB f 6 = true
    · rw [h6] at ha
      rw [if_pos h6] at HE
      clear h6 hid hfl
      have hb4 := HR4.out.2.1
      have c0 := hb4.cell 0
      have f0 := hb4.frozen 0
      have c1 := hb4.cell 1
      have f1 := hb4.frozen 1
      have c2 := hb4.cell 2
      have f2 := hb4.frozen 2
      have c3 := hb4.cell 3
      have f3 := hb4.frozen 3
      have c4 := hb4.cell 4
      have f4 := hb4.frozen 4
      have c5 := hb4.cell 5
      have f5 := hb4.frozen 5
      have c6 := hb4.cell 6
      have f6 := hb4.frozen 6
      have c7 := hb4.cell 7
      have f7 := hb4.frozen 7
      have c8 := hb4.cell 8
      have f8 := hb4.frozen 8
      have c9 := hb4.cell 9
      have f9 := hb4.frozen 9
      have c10 := hb4.cell 10
      have f10 := hb4.frozen 10
      have c11 := hb4.cell 11
      have f11 := hb4.frozen 11
      have c12 := hb4.cell 12
      have f12 := hb4.frozen 12
      have c13 := hb4.cell 13
      have f13 := hb4.frozen 13
      simp only [List.getElem?_toArray, List.getElem?_cons_zero, List.getElem?_cons_succ] at c0 c1 c2 c3 c4 c5 c6 c7 c8 c9 c10 c11 c12 c13
      go_wp2_with fail
      obtain ⟨w5, hw5, hB, hF⟩ := set14' hb4 (.int .u16 0) (.bool false) (.int .i64 0) (.bool false) (.bool false) (.bool false) (.bool false) (.bool false) (.bool false) (.int .i64 0) (.int .i64 0) (.int .i64 0) (.int .i64 0) (.int .i64 0)
      rw [← hw5]
      have HN := Lib.hid (HR4.out.put hB hF)
      clear c0 c1 c2 c3 c4 c5 c6 c7 c8 c9 c10 c11 c12 c13 f0 f1 f2 f3 f4 f5 f6 f7 f8 f9 f10 f11 f12 f13 hw5 hF hb4
      have d0 := hB.cell 0
      have d1 := hB.cell 1
      have d2 := hB.cell 2
      have d3 := hB.cell 3
      have d4 := hB.cell 4
      have d5 := hB.cell 5
      have d6 := hB.cell 6
      have d7 := hB.cell 7
      have d8 := hB.cell 8
      have d9 := hB.cell 9
      have d10 := hB.cell 10
      have d11 := hB.cell 11
      have d12 := hB.cell 12
      have d13 := hB.cell 13
      simp only [List.getElem?_toArray, List.getElem?_cons_zero, List.getElem?_cons_succ] at d0 d1 d2 d3 d4 d5 d6 d7 d8 d9 d10 d11 d12 d13
      refine bodyPost_ret (v := .tuple #[Hd.zero.val, .int .i64 4]) (by simp [results, Try.results66, go_sem, Hd.zero, d0, d1, d2, d3, d4, d5, d6, d7, d8, d9, d10, d11, d12, d13]) rfl ?_
      exact ⟨by rw [HE.out], HN.out.2.2.2.2.2⟩
    · have h6' : bitB f 6 = false := by simpa using h6
      rw [h6'] at ha
      rw [if_neg h6] at HE
      clear h6 h6'
      have t15 := shr_test f 15 32768 rfl hfl
      have t11 := shr_four f hfl
      have t10 := shr_test f 10 1024 rfl hfl
      have t9 := shr_test f 9 512 rfl hfl
      have t8 := shr_test f 8 256 rfl hfl
      have t7 := shr_test f 7 128 rfl hfl
      have t5 := shr_test f 5 32 rfl hfl
      have t4 := shr_test f 4 16 rfl hfl
      have t0 : bits .and .u32 (f : Int) 15 = (f : Int) % 16 := by rw [and_four f hfl]; omega
      go_wp2_with fail
      have hb4 := HR4.out.2.1
      have hlq := HR4.out.1.1.lt
      have hlp := hb4.lt
      have HG : Hid (HdT w (w4.alloc (.cells #[.int .u16 (id : Nat), .bool (bitB f 15), .int .i64 ((f : Int) / 2048 % 16), .bool (bitB f 10), .bool (bitB f 9), .bool (bitB f 8), .bool (bitB f 7), .bool (bitB f 5), .bool (bitB f 4), .int .i64 ((f : Int) % 16), .int .i64 0, .int .i64 0, .int .i64 0, .int .i64 0] 45)) p w4.heap.size q (hdC id f (fun k => word s (4 + 2 * k)) 0).cells.toArray s (4 + 2 * 0)) := by
        refine ⟨⟨⟨HR4.out.1.1.alloc _, HR4.out.1.2⟩, Blk.new w4 45 _, by omega, HR4.out.2.2.2.2.2.size, HR4.out.2.2.2.2.1, HR4.out.2.2.2.2.2.alloc _⟩, hb4.alloc _, HR4.out.2.2.1, by omega, HR4.out.2.2.2.1⟩
      clear hb4 hlq hlp t0 t4 t5 t7 t8 t9 t10 t11 t15 ha
      generalize w4.alloc (.cells #[.int .u16 (id : Nat), .bool (bitB f 15), .int .i64 ((f : Int) / 2048 % 16), .bool (bitB f 10), .bool (bitB f 9), .bool (bitB f 8), .bool (bitB f 7), .bool (bitB f 5), .bool (bitB f 4), .int .i64 ((f : Int) % 16), .int .i64 0, .int .i64 0, .int .i64 0, .int .i64 0] 45) = w5 at *
      clear HR4
      generalize w4.heap.size = r at *
      go_loopg [10] 4 (fun g i wr => ∃ k : Nat, g = 4 - k ∧ k ≤ 4 ∧ i = .int .i64 k ∧ HdT w wr p r q (hdC id f (fun k => word s (4 + 2 * k)) k).cells.toArray s (4 + 2 * k))
      case atStart => exact ⟨0, rfl, Nat.zero_le _, rfl, HG.out⟩
      case round =>
        clear HG
        obtain ⟨k, hg, hk, rfl, hr⟩ := hrel
        have HR := Lib.hid hr
        have HH := Lib.hid hg
        clear hg hr
        rcases (show k = 0 ∨ k = 1 ∨ k = 2 ∨ k = 3 ∨ k = 4 by omega) with rfl | rfl | rfl | rfl | rfl
        · go_wp2_with fail
          refine (rrdnumber_any q ⟨s, 4⟩ 2 _ HR.out.1.1).mono ?_
          rintro e w7 ⟨rfl, h7, f7⟩
          have e7 := Rst.number_two s 4 (by omega)
          rw [e7] at h7
          simp only [e7]
          have HN := Lib.hid (HR.out.num h7 f7)
          have hwd : word s 4 < 65536 := HW.out 4
          have f1 := HN.out.1.2.1.frozen 10
          have c1 : w7.cell? ⟨r, 10, none⟩ = some (.int .i64 0) := HN.out.1.2.1.cell 10
          clear h7 f7 e7
          go_wp2_with fail
          go_roundg (4 - 1)
          case measure => rw [HH.out]; decide
          case rel => exact ⟨1, rfl, by decide, by go_num, HN.out.set 10 (.int .i64 (word s 4)) rfl⟩
        · go_wp2_with fail
          refine (rrdnumber_any q ⟨s, 6⟩ 2 _ HR.out.1.1).mono ?_
          rintro e w7 ⟨rfl, h7, f7⟩
          have e7 := Rst.number_two s 6 (by omega)
          rw [e7] at h7
          simp only [e7]
          have HN := Lib.hid (HR.out.num h7 f7)
          have hwd : word s 6 < 65536 := HW.out 6
          have f1 := HN.out.1.2.1.frozen 11
          have c1 : w7.cell? ⟨r, 11, none⟩ = some (.int .i64 0) := HN.out.1.2.1.cell 11
          clear h7 f7 e7
          go_wp2_with fail
          go_roundg (4 - 2)
          case measure => rw [HH.out]; decide
          case rel => exact ⟨2, rfl, by decide, by go_num, HN.out.set 11 (.int .i64 (word s 6)) rfl⟩
        · go_wp2_with fail
          refine (rrdnumber_any q ⟨s, 8⟩ 2 _ HR.out.1.1).mono ?_
          rintro e w7 ⟨rfl, h7, f7⟩
          have e7 := Rst.number_two s 8 (by omega)
          rw [e7] at h7
          simp only [e7]
          have HN := Lib.hid (HR.out.num h7 f7)
          have hwd : word s 8 < 65536 := HW.out 8
          have f1 := HN.out.1.2.1.frozen 12
          have c1 : w7.cell? ⟨r, 12, none⟩ = some (.int .i64 0) := HN.out.1.2.1.cell 12
          clear h7 f7 e7
          go_wp2_with fail
          go_roundg (4 - 3)
          case measure => rw [HH.out]; decide
          case rel => exact ⟨3, rfl, by decide, by go_num, HN.out.set 12 (.int .i64 (word s 8)) rfl⟩
        · go_wp2_with fail
          refine (rrdnumber_any q ⟨s, 10⟩ 2 _ HR.out.1.1).mono ?_
          rintro e w7 ⟨rfl, h7, f7⟩
          have e7 := Rst.number_two s 10 (by omega)
          rw [e7] at h7
          simp only [e7]
          have HN := Lib.hid (HR.out.num h7 f7)
          have hwd : word s 10 < 65536 := HW.out 10
          have f1 := HN.out.1.2.1.frozen 13
          have c1 : w7.cell? ⟨r, 13, none⟩ = some (.int .i64 0) := HN.out.1.2.1.cell 13
          clear h7 f7 e7
          go_wp2_with fail
          go_roundg (4 - 4)
          case measure => rw [HH.out]; decide
          case rel => exact ⟨4, rfl, by decide, by go_num, HN.out.set 13 (.int .i64 (word s 10)) rfl⟩
        · have HL : Hid (HdT w wr p r q (hdC id f (fun k => word s (4 + 2 * k)) 4).cells.toArray s 12) := HR.out
          clear HR HH
          generalize hdC id f (fun k => word s (4 + 2 * k)) 4 = H at HL HE
          have hb4 := HL.out.1.2.1
          have hb5 := HL.out.2.1
          have c0 : wr.cell? ⟨r, 0, none⟩ = some (.int .u16 H.id) := hb4.cell 0
          have c1 : wr.cell? ⟨r, 1, none⟩ = some (.bool H.resp) := hb4.cell 1
          have c2 : wr.cell? ⟨r, 2, none⟩ = some (.int .i64 H.op) := hb4.cell 2
          have c3 : wr.cell? ⟨r, 3, none⟩ = some (.bool H.aa) := hb4.cell 3
          have c4 : wr.cell? ⟨r, 4, none⟩ = some (.bool H.tc) := hb4.cell 4
          have c5 : wr.cell? ⟨r, 5, none⟩ = some (.bool H.rd) := hb4.cell 5
          have c6 : wr.cell? ⟨r, 6, none⟩ = some (.bool H.ra) := hb4.cell 6
          have c7 : wr.cell? ⟨r, 7, none⟩ = some (.bool H.ad) := hb4.cell 7
          have c8 : wr.cell? ⟨r, 8, none⟩ = some (.bool H.cd) := hb4.cell 8
          have c9 : wr.cell? ⟨r, 9, none⟩ = some (.int .i64 H.rc) := hb4.cell 9
          have c10 : wr.cell? ⟨r, 10, none⟩ = some (.int .i64 H.c0) := hb4.cell 10
          have c11 : wr.cell? ⟨r, 11, none⟩ = some (.int .i64 H.c1) := hb4.cell 11
          have c12 : wr.cell? ⟨r, 12, none⟩ = some (.int .i64 H.c2) := hb4.cell 12
          have c13 : wr.cell? ⟨r, 13, none⟩ = some (.int .i64 H.c3) := hb4.cell 13
          have g0 : wr.cell? ⟨p, 0, none⟩ = some (.int .u16 0) := hb5.cell 0
          have g1 : wr.cell? ⟨p, 1, none⟩ = some (.bool false) := hb5.cell 1
          have g2 : wr.cell? ⟨p, 2, none⟩ = some (.int .i64 0) := hb5.cell 2
          have g3 : wr.cell? ⟨p, 3, none⟩ = some (.bool false) := hb5.cell 3
          have g4 : wr.cell? ⟨p, 4, none⟩ = some (.bool false) := hb5.cell 4
          have g5 : wr.cell? ⟨p, 5, none⟩ = some (.bool false) := hb5.cell 5
          have g6 : wr.cell? ⟨p, 6, none⟩ = some (.bool false) := hb5.cell 6
          have g7 : wr.cell? ⟨p, 7, none⟩ = some (.bool false) := hb5.cell 7
          have g8 : wr.cell? ⟨p, 8, none⟩ = some (.bool false) := hb5.cell 8
          have g9 : wr.cell? ⟨p, 9, none⟩ = some (.int .i64 0) := hb5.cell 9
          have g10 : wr.cell? ⟨p, 10, none⟩ = some (.int .i64 0) := hb5.cell 10
          have g11 : wr.cell? ⟨p, 11, none⟩ = some (.int .i64 0) := hb5.cell 11
          have g12 : wr.cell? ⟨p, 12, none⟩ = some (.int .i64 0) := hb5.cell 12
          have g13 : wr.cell? ⟨p, 13, none⟩ = some (.int .i64 0) := hb5.cell 13
          have f0 := hb5.frozen 0
          have f1 := hb5.frozen 1
          have f2 := hb5.frozen 2
          have f3 := hb5.frozen 3
          have f4 := hb5.frozen 4
          have f5 := hb5.frozen 5
          have f6 := hb5.frozen 6
          have f7 := hb5.frozen 7
          have f8 := hb5.frozen 8
          have f9 := hb5.frozen 9
          have f10 := hb5.frozen 10
          have f11 := hb5.frozen 11
          have f12 := hb5.frozen 12
          have f13 := hb5.frozen 13
          go_wp2_with fail
          obtain ⟨w6, hw6, hB, hF⟩ := set14' hb5 (.int .u16 H.id) (.bool H.resp) (.int .i64 H.op) (.bool H.aa) (.bool H.tc) (.bool H.rd) (.bool H.ra) (.bool H.ad) (.bool H.cd) (.int .i64 H.rc) (.int .i64 H.c0) (.int .i64 H.c1) (.int .i64 H.c2) (.int .i64 H.c3)
          rw [← hw6]
          have HN : Hid (Fr (fun _ => False) w w6) := HL.out.1.2.2.2.2.2.trans hF fun i hi e => by have := HL.out.2.2.2.2; omega
          clear c0 c1 c2 c3 c4 c5 c6 c7 c8 c9 c10 c11 c12 c13 g0 g1 g2 g3 g4 g5 g6 g7 g8 g9 g10 g11 g12 g13 f0 f1 f2 f3 f4 f5 f6 f7 f8 f9 f10 f11 f12 f13 hw6 hF hb4 hb5
          have d0 := hB.cell 0
          have d1 := hB.cell 1
          have d2 := hB.cell 2
          have d3 := hB.cell 3
          have d4 := hB.cell 4
          have d5 := hB.cell 5
          have d6 := hB.cell 6
          have d7 := hB.cell 7
          have d8 := hB.cell 8
          have d9 := hB.cell 9
          have d10 := hB.cell 10
          have d11 := hB.cell 11
          have d12 := hB.cell 12
          have d13 := hB.cell 13
          simp only [List.getElem?_toArray, List.getElem?_cons_zero, List.getElem?_cons_succ] at d0 d1 d2 d3 d4 d5 d6 d7 d8 d9 d10 d11 d12 d13
          refine bodyPost_ret (v := .tuple #[H.val, .int .i64 0]) (by simp [results, Try.results66, go_sem, d0, d1, d2, d3, d4, d5, d6, d7, d8, d9, d10, d11, d12, d13]) rfl ?_
          exact ⟨by rw [HE.out], HN.out⟩
end Go.Proofs.Ytbemackcdccpaaa
