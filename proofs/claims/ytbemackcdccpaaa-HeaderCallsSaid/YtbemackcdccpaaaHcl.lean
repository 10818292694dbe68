/-
  LAYER 6: HeaderCalls.
-/
import Derived.Test.YtbemackcdccpaaaHcp
import Derived.Test.YtbemackcdccpaaaHcd
import Derived.Test.YtbemackcdccpaaaHdl0
import Derived.Test.YtbemackcdccpaaaHdreq
import Derived.Test.YtbemackcdccpaaaHdb
namespace Go.Proofs.Ytbemackcdccpaaa
open Go.RowKit

set_option maxRecDepth 100000 in
set_option maxHeartbeats 32000000 in
theorem headerCalls_walk (h : Hd) (s : ByteArray) (rc : Int) (w : World) (hok : h.ok) (_hs : s.size ≤ maxLen) (_hrc : -9223372036854775808 ≤ rc ∧ rc ≤ 9223372036854775807) :
    Calls Try.prog 19 #[h.val, .string s, .int .i64 rc] w fun e w' => e = .returned (.bool true) ∧ Below w.heap.size w w' := by
  have hb := Blk.new w 45 h.cells.toArray
  have hf : Fr (fun _ => False) w (w.alloc (.cells h.cells.toArray 45)) := (Fr.refl _ _).alloc _
  change Blk (w.alloc (.cells #[.int .u16 h.id, .bool h.resp, .int .i64 h.op, .bool h.aa, .bool h.tc, .bool h.rd, .bool h.ra, .bool h.ad, .bool h.cd, .int .i64 h.rc, .int .i64 h.c0, .int .i64 h.c1, .int .i64 h.c2, .int .i64 h.c3] 45)) w.heap.size 45 _ at hb
  change Fr (fun _ => False) w (w.alloc (.cells #[.int .u16 h.id, .bool h.resp, .int .i64 h.op, .bool h.aa, .bool h.tc, .bool h.rd, .bool h.ra, .bool h.ad, .bool h.cd, .int .i64 h.rc, .int .i64 h.c0, .int .i64 h.c1, .int .i64 h.c2, .int .i64 h.c3] 45)) at hf
  have HOK := Lib.hid hok
  clear hok _hs _hrc
  by_cases hl : 300 < s.size
  · go_enter Try.func19, Try.ntmps19
    go_wp2_with fail
    refine (lives6_any _).mono ?_
    rintro e w1 ⟨rfl, f1⟩
    have F1 := Lib.hid (hf.then f1)
    clear hb hf f1
    go_wp2_with fail
    go_ret
    exact ⟨rfl, F1.out.below (fun _ h => h.elim) (Nat.le_refl _)⟩
  · go_enter Try.func19, Try.ntmps19
    go_wp2_with fail
    refine (lives6_any _).mono ?_
    rintro e w1 ⟨rfl, f1⟩
    have HB := Lib.hid (hb.fr f1 id)
    have HF := Lib.hid (hf.then f1)
    have HP := Lib.hid hb.lt
    clear hb hf f1
    generalize w.alloc (.cells #[.int .u16 h.id, .bool h.resp, .int .i64 h.op, .bool h.aa, .bool h.tc, .bool h.rd, .bool h.ra, .bool h.ad, .bool h.cd, .int .i64 h.rc, .int .i64 h.c0, .int .i64 h.c1, .int .i64 h.c2, .int .i64 h.c3] 45) = W0 at *
    generalize hp : w.heap.size = p at *
    have HPE := Lib.hid hp
    clear hp
    have c0 : w1.cell? ⟨p, 0, none⟩ = some (.int .u16 h.id) := HB.out.cell 0
    have c1 : w1.cell? ⟨p, 1, none⟩ = some (.bool h.resp) := HB.out.cell 1
    have c2 : w1.cell? ⟨p, 2, none⟩ = some (.int .i64 h.op) := HB.out.cell 2
    have c3 : w1.cell? ⟨p, 3, none⟩ = some (.bool h.aa) := HB.out.cell 3
    have c4 : w1.cell? ⟨p, 4, none⟩ = some (.bool h.tc) := HB.out.cell 4
    have c5 : w1.cell? ⟨p, 5, none⟩ = some (.bool h.rd) := HB.out.cell 5
    have c6 : w1.cell? ⟨p, 6, none⟩ = some (.bool h.ra) := HB.out.cell 6
    have c7 : w1.cell? ⟨p, 7, none⟩ = some (.bool h.ad) := HB.out.cell 7
    have c8 : w1.cell? ⟨p, 8, none⟩ = some (.bool h.cd) := HB.out.cell 8
    have c9 : w1.cell? ⟨p, 9, none⟩ = some (.int .i64 h.rc) := HB.out.cell 9
    have c10 : w1.cell? ⟨p, 10, none⟩ = some (.int .i64 h.c0) := HB.out.cell 10
    have c11 : w1.cell? ⟨p, 11, none⟩ = some (.int .i64 h.c1) := HB.out.cell 11
    have c12 : w1.cell? ⟨p, 12, none⟩ = some (.int .i64 h.c2) := HB.out.cell 12
    have c13 : w1.cell? ⟨p, 13, none⟩ = some (.int .i64 h.c3) := HB.out.cell 13
    go_wp2_with fail
    refine (put_hd h _ HOK.out).mono ?_
    rintro e w2 ⟨rfl, f2⟩
    replace HB := Lib.hid (HB.out.fr f2 id)
    replace HF := Lib.hid (HF.out.then f2)
    clear f2 c0 c1 c2 c3 c4 c5 c6 c7 c8 c9 c10 c11 c12 c13 w1
    have c0 : w2.cell? ⟨p, 0, none⟩ = some (.int .u16 h.id) := HB.out.cell 0
    have c1 : w2.cell? ⟨p, 1, none⟩ = some (.bool h.resp) := HB.out.cell 1
    have c2 : w2.cell? ⟨p, 2, none⟩ = some (.int .i64 h.op) := HB.out.cell 2
    have c3 : w2.cell? ⟨p, 3, none⟩ = some (.bool h.aa) := HB.out.cell 3
    have c4 : w2.cell? ⟨p, 4, none⟩ = some (.bool h.tc) := HB.out.cell 4
    have c5 : w2.cell? ⟨p, 5, none⟩ = some (.bool h.rd) := HB.out.cell 5
    have c6 : w2.cell? ⟨p, 6, none⟩ = some (.bool h.ra) := HB.out.cell 6
    have c7 : w2.cell? ⟨p, 7, none⟩ = some (.bool h.ad) := HB.out.cell 7
    have c8 : w2.cell? ⟨p, 8, none⟩ = some (.bool h.cd) := HB.out.cell 8
    have c9 : w2.cell? ⟨p, 9, none⟩ = some (.int .i64 h.rc) := HB.out.cell 9
    have c10 : w2.cell? ⟨p, 10, none⟩ = some (.int .i64 h.c0) := HB.out.cell 10
    have c11 : w2.cell? ⟨p, 11, none⟩ = some (.int .i64 h.c1) := HB.out.cell 11
    have c12 : w2.cell? ⟨p, 12, none⟩ = some (.int .i64 h.c2) := HB.out.cell 12
    have c13 : w2.cell? ⟨p, 13, none⟩ = some (.int .i64 h.c3) := HB.out.cell 13
    go_wp2_with fail
    refine (rput_hd h _ HOK.out).mono ?_
    rintro e w3 ⟨rfl, f3⟩
    replace HB := Lib.hid (HB.out.fr f3 id)
    replace HF := Lib.hid (HF.out.then f3)
    clear f3 c0 c1 c2 c3 c4 c5 c6 c7 c8 c9 c10 c11 c12 c13 w2
    go_wp2_with fail
    refine (read_hd s _ (by omega)).mono ?_
    rintro e w4 ⟨rfl, f4⟩
    have hR : (readHd s).1.ok := by
      rcases readHd_cases s with ⟨g, _, e⟩ | ⟨_, y, e, _, hy, _⟩
      · rw [e]; exact Hd.zero_ok
      · rw [e]; exact hy
    have hrr := rread_hd s
    generalize (readHd s).1 = R at *
    generalize (readHd s).2 = er at *
    replace HB := Lib.hid (HB.out.fr f4 id)
    replace HF := Lib.hid (HF.out.then f4)
    have HR := Lib.hid hR
    have HRR := Lib.hid hrr
    clear f4 hR hrr w3
    go_wp2_with fail
    have HB4 := Lib.hid (HB.out.alloc (.cells #[.int .u16 R.id, .bool R.resp, .int .i64 R.op, .bool R.aa, .bool R.tc, .bool R.rd, .bool R.ra, .bool R.ad, .bool R.cd, .int .i64 R.rc, .int .i64 R.c0, .int .i64 R.c1, .int .i64 R.c2, .int .i64 R.c3] 45))
    have HC4 := Lib.hid (Blk.new w4 45 #[.int .u16 R.id, .bool R.resp, .int .i64 R.op, .bool R.aa, .bool R.tc, .bool R.rd, .bool R.ra, .bool R.ad, .bool R.cd, .int .i64 R.rc, .int .i64 R.c0, .int .i64 R.c1, .int .i64 R.c2, .int .i64 R.c3])
    replace HF := Lib.hid (HF.out.alloc (.cells #[.int .u16 R.id, .bool R.resp, .int .i64 R.op, .bool R.aa, .bool R.tc, .bool R.rd, .bool R.ra, .bool R.ad, .bool R.cd, .int .i64 R.rc, .int .i64 R.c0, .int .i64 R.c1, .int .i64 R.c2, .int .i64 R.c3] 45))
    clear HB
    generalize w4.alloc (.cells #[.int .u16 R.id, .bool R.resp, .int .i64 R.op, .bool R.aa, .bool R.tc, .bool R.rd, .bool R.ra, .bool R.ad, .bool R.cd, .int .i64 R.rc, .int .i64 R.c0, .int .i64 R.c1, .int .i64 R.c2, .int .i64 R.c3] 45) = w5 at *
    generalize w4.heap.size = r at *
    refine (HRR.out _ (by omega)).mono ?_
    rintro e w6 ⟨rfl, f6⟩
    replace HB4 := Lib.hid (HB4.out.fr f6 id)
    replace HC4 := Lib.hid (HC4.out.fr f6 id)
    replace HF := Lib.hid (HF.out.then f6)
    clear f6 w5
    go_wp2_with fail
    have HB := Lib.hid (HB4.out.alloc (.cells #[.int .u16 R.id, .bool R.resp, .int .i64 R.op, .bool R.aa, .bool R.tc, .bool R.rd, .bool R.ra, .bool R.ad, .bool R.cd, .int .i64 R.rc, .int .i64 R.c0, .int .i64 R.c1, .int .i64 R.c2, .int .i64 R.c3] 45))
    have HC := Lib.hid (HC4.out.alloc (.cells #[.int .u16 R.id, .bool R.resp, .int .i64 R.op, .bool R.aa, .bool R.tc, .bool R.rd, .bool R.ra, .bool R.ad, .bool R.cd, .int .i64 R.rc, .int .i64 R.c0, .int .i64 R.c1, .int .i64 R.c2, .int .i64 R.c3] 45))
    have HD := Lib.hid (Blk.new w6 45 #[.int .u16 R.id, .bool R.resp, .int .i64 R.op, .bool R.aa, .bool R.tc, .bool R.rd, .bool R.ra, .bool R.ad, .bool R.cd, .int .i64 R.rc, .int .i64 R.c0, .int .i64 R.c1, .int .i64 R.c2, .int .i64 R.c3])
    replace HF := Lib.hid (HF.out.alloc (.cells #[.int .u16 R.id, .bool R.resp, .int .i64 R.op, .bool R.aa, .bool R.tc, .bool R.rd, .bool R.ra, .bool R.ad, .bool R.cd, .int .i64 R.rc, .int .i64 R.c0, .int .i64 R.c1, .int .i64 R.c2, .int .i64 R.c3] 45))
    clear HB4 HC4
    generalize w6.alloc (.cells #[.int .u16 R.id, .bool R.resp, .int .i64 R.op, .bool R.aa, .bool R.tc, .bool R.rd, .bool R.ra, .bool R.ad, .bool R.cd, .int .i64 R.rc, .int .i64 R.c0, .int .i64 R.c1, .int .i64 R.c2, .int .i64 R.c3] 45) = W at *
    generalize w6.heap.size = t at *
    have c0 : W.cell? ⟨p, 0, none⟩ = some (.int .u16 h.id) := HB.out.cell 0
    have c1 : W.cell? ⟨p, 1, none⟩ = some (.bool h.resp) := HB.out.cell 1
    have c2 : W.cell? ⟨p, 2, none⟩ = some (.int .i64 h.op) := HB.out.cell 2
    have c3 : W.cell? ⟨p, 3, none⟩ = some (.bool h.aa) := HB.out.cell 3
    have c4 : W.cell? ⟨p, 4, none⟩ = some (.bool h.tc) := HB.out.cell 4
    have c5 : W.cell? ⟨p, 5, none⟩ = some (.bool h.rd) := HB.out.cell 5
    have c6 : W.cell? ⟨p, 6, none⟩ = some (.bool h.ra) := HB.out.cell 6
    have c7 : W.cell? ⟨p, 7, none⟩ = some (.bool h.ad) := HB.out.cell 7
    have c8 : W.cell? ⟨p, 8, none⟩ = some (.bool h.cd) := HB.out.cell 8
    have c9 : W.cell? ⟨p, 9, none⟩ = some (.int .i64 h.rc) := HB.out.cell 9
    have c10 : W.cell? ⟨p, 10, none⟩ = some (.int .i64 h.c0) := HB.out.cell 10
    have c11 : W.cell? ⟨p, 11, none⟩ = some (.int .i64 h.c1) := HB.out.cell 11
    have c12 : W.cell? ⟨p, 12, none⟩ = some (.int .i64 h.c2) := HB.out.cell 12
    have c13 : W.cell? ⟨p, 13, none⟩ = some (.int .i64 h.c3) := HB.out.cell 13
    have d0 : W.cell? ⟨r, 0, none⟩ = some (.int .u16 R.id) := HC.out.cell 0
    have d1 : W.cell? ⟨r, 1, none⟩ = some (.bool R.resp) := HC.out.cell 1
    have d2 : W.cell? ⟨r, 2, none⟩ = some (.int .i64 R.op) := HC.out.cell 2
    have d3 : W.cell? ⟨r, 3, none⟩ = some (.bool R.aa) := HC.out.cell 3
    have d4 : W.cell? ⟨r, 4, none⟩ = some (.bool R.tc) := HC.out.cell 4
    have d5 : W.cell? ⟨r, 5, none⟩ = some (.bool R.rd) := HC.out.cell 5
    have d6 : W.cell? ⟨r, 6, none⟩ = some (.bool R.ra) := HC.out.cell 6
    have d7 : W.cell? ⟨r, 7, none⟩ = some (.bool R.ad) := HC.out.cell 7
    have d8 : W.cell? ⟨r, 8, none⟩ = some (.bool R.cd) := HC.out.cell 8
    have d9 : W.cell? ⟨r, 9, none⟩ = some (.int .i64 R.rc) := HC.out.cell 9
    have d10 : W.cell? ⟨r, 10, none⟩ = some (.int .i64 R.c0) := HC.out.cell 10
    have d11 : W.cell? ⟨r, 11, none⟩ = some (.int .i64 R.c1) := HC.out.cell 11
    have d12 : W.cell? ⟨r, 12, none⟩ = some (.int .i64 R.c2) := HC.out.cell 12
    have d13 : W.cell? ⟨r, 13, none⟩ = some (.int .i64 R.c3) := HC.out.cell 13
    have k0 : W.cell? ⟨t, 0, none⟩ = some (.int .u16 R.id) := HD.out.cell 0
    have k1 : W.cell? ⟨t, 1, none⟩ = some (.bool R.resp) := HD.out.cell 1
    have k2 : W.cell? ⟨t, 2, none⟩ = some (.int .i64 R.op) := HD.out.cell 2
    have k3 : W.cell? ⟨t, 3, none⟩ = some (.bool R.aa) := HD.out.cell 3
    have k4 : W.cell? ⟨t, 4, none⟩ = some (.bool R.tc) := HD.out.cell 4
    have k5 : W.cell? ⟨t, 5, none⟩ = some (.bool R.rd) := HD.out.cell 5
    have k6 : W.cell? ⟨t, 6, none⟩ = some (.bool R.ra) := HD.out.cell 6
    have k7 : W.cell? ⟨t, 7, none⟩ = some (.bool R.ad) := HD.out.cell 7
    have k8 : W.cell? ⟨t, 8, none⟩ = some (.bool R.cd) := HD.out.cell 8
    have k9 : W.cell? ⟨t, 9, none⟩ = some (.int .i64 R.rc) := HD.out.cell 9
    have k10 : W.cell? ⟨t, 10, none⟩ = some (.int .i64 R.c0) := HD.out.cell 10
    have k11 : W.cell? ⟨t, 11, none⟩ = some (.int .i64 R.c1) := HD.out.cell 11
    have k12 : W.cell? ⟨t, 12, none⟩ = some (.int .i64 R.c2) := HD.out.cell 12
    have k13 : W.cell? ⟨t, 13, none⟩ = some (.int .i64 R.c3) := HD.out.cell 13
    have heq := hd_eql R R HR.out HR.out
    obtain ⟨Y, hY⟩ : ∃ Y, Y = h.reply rc := ⟨_, rfl⟩
    have heq2 := hd_eql Y Y (by rw [hY]; exact Hd.reply_ok HOK.out rc) (by rw [hY]; exact Hd.reply_ok HOK.out rc)
    have hy1 : ∀ w, Calls Try.prog 39 #[h.val, .int .i64 rc] w fun e w' => e = .returned Y.val ∧ Fr (fun _ => False) w w' := by rw [hY]; exact reply_any h rc
    have hy2 : ∀ w, Calls Try.prog 68 #[h.val, .int .i64 rc] w fun e w' => e = .returned Y.val ∧ Fr (fun _ => False) w w' := by rw [hY]; exact rreply_any h rc
    have HY := Lib.hid (And.intro hy1 hy2)
    clear hy1 hy2 hY
    simp only [decide_true] at heq heq2
    go_wp2_with fail
    go_region_held3 (fun w' => w'.cell? ⟨p, 0, none⟩ = some (.int .u16 h.id) ∧ w'.cell? ⟨p, 1, none⟩ = some (.bool h.resp) ∧ w'.cell? ⟨p, 2, none⟩ = some (.int .i64 h.op) ∧ w'.cell? ⟨p, 3, none⟩ = some (.bool h.aa) ∧ w'.cell? ⟨p, 4, none⟩ = some (.bool h.tc) ∧ w'.cell? ⟨p, 5, none⟩ = some (.bool h.rd) ∧ w'.cell? ⟨p, 6, none⟩ = some (.bool h.ra) ∧ w'.cell? ⟨p, 7, none⟩ = some (.bool h.ad) ∧ w'.cell? ⟨p, 8, none⟩ = some (.bool h.cd) ∧ w'.cell? ⟨p, 9, none⟩ = some (.int .i64 h.rc) ∧ w'.cell? ⟨p, 10, none⟩ = some (.int .i64 h.c0) ∧ w'.cell? ⟨p, 11, none⟩ = some (.int .i64 h.c1) ∧ w'.cell? ⟨p, 12, none⟩ = some (.int .i64 h.c2) ∧ w'.cell? ⟨p, 13, none⟩ = some (.int .i64 h.c3) ∧ w'.cell? ⟨r, 0, none⟩ = some (.int .u16 R.id) ∧ w'.cell? ⟨r, 1, none⟩ = some (.bool R.resp) ∧ w'.cell? ⟨r, 2, none⟩ = some (.int .i64 R.op) ∧ w'.cell? ⟨r, 3, none⟩ = some (.bool R.aa) ∧ w'.cell? ⟨r, 4, none⟩ = some (.bool R.tc) ∧ w'.cell? ⟨r, 5, none⟩ = some (.bool R.rd) ∧ w'.cell? ⟨r, 6, none⟩ = some (.bool R.ra) ∧ w'.cell? ⟨r, 7, none⟩ = some (.bool R.ad) ∧ w'.cell? ⟨r, 8, none⟩ = some (.bool R.cd) ∧ w'.cell? ⟨r, 9, none⟩ = some (.int .i64 R.rc) ∧ w'.cell? ⟨r, 10, none⟩ = some (.int .i64 R.c0) ∧ w'.cell? ⟨r, 11, none⟩ = some (.int .i64 R.c1) ∧ w'.cell? ⟨r, 12, none⟩ = some (.int .i64 R.c2) ∧ w'.cell? ⟨r, 13, none⟩ = some (.int .i64 R.c3) ∧ w'.cell? ⟨t, 0, none⟩ = some (.int .u16 R.id) ∧ w'.cell? ⟨t, 1, none⟩ = some (.bool R.resp) ∧ w'.cell? ⟨t, 2, none⟩ = some (.int .i64 R.op) ∧ w'.cell? ⟨t, 3, none⟩ = some (.bool R.aa) ∧ w'.cell? ⟨t, 4, none⟩ = some (.bool R.tc) ∧ w'.cell? ⟨t, 5, none⟩ = some (.bool R.rd) ∧ w'.cell? ⟨t, 6, none⟩ = some (.bool R.ra) ∧ w'.cell? ⟨t, 7, none⟩ = some (.bool R.ad) ∧ w'.cell? ⟨t, 8, none⟩ = some (.bool R.cd) ∧ w'.cell? ⟨t, 9, none⟩ = some (.int .i64 R.rc) ∧ w'.cell? ⟨t, 10, none⟩ = some (.int .i64 R.c0) ∧ w'.cell? ⟨t, 11, none⟩ = some (.int .i64 R.c1) ∧ w'.cell? ⟨t, 12, none⟩ = some (.int .i64 R.c2) ∧ w'.cell? ⟨t, 13, none⟩ = some (.int .i64 R.c3))
      (first
      | exact ⟨c0, c1, c2, c3, c4, c5, c6, c7, c8, c9, c10, c11, c12, c13, d0, d1, d2, d3, d4, d5, d6, d7, d8, d9, d10, d11, d12, d13, k0, k1, k2, k3, k4, k5, k6, k7, k8, k9, k10, k11, k12, k13⟩
      | exact ⟨B1.cell 0, B1.cell 1, B1.cell 2, B1.cell 3, B1.cell 4, B1.cell 5, B1.cell 6, B1.cell 7, B1.cell 8, B1.cell 9, B1.cell 10, B1.cell 11, B1.cell 12, B1.cell 13, C1.cell 0, C1.cell 1, C1.cell 2, C1.cell 3, C1.cell 4, C1.cell 5, C1.cell 6, C1.cell 7, C1.cell 8, C1.cell 9, C1.cell 10, C1.cell 11, C1.cell 12, C1.cell 13, D1.cell 0, D1.cell 1, D1.cell 2, D1.cell 3, D1.cell 4, D1.cell 5, D1.cell 6, D1.cell 7, D1.cell 8, D1.cell 9, D1.cell 10, D1.cell 11, D1.cell 12, D1.cell 13⟩
      | exact ⟨B2.cell 0, B2.cell 1, B2.cell 2, B2.cell 3, B2.cell 4, B2.cell 5, B2.cell 6, B2.cell 7, B2.cell 8, B2.cell 9, B2.cell 10, B2.cell 11, B2.cell 12, B2.cell 13, C2.cell 0, C2.cell 1, C2.cell 2, C2.cell 3, C2.cell 4, C2.cell 5, C2.cell 6, C2.cell 7, C2.cell 8, C2.cell 9, C2.cell 10, C2.cell 11, C2.cell 12, C2.cell 13, D2.cell 0, D2.cell 1, D2.cell 2, D2.cell 3, D2.cell 4, D2.cell 5, D2.cell 6, D2.cell 7, D2.cell 8, D2.cell 9, D2.cell 10, D2.cell 11, D2.cell 12, D2.cell 13⟩
      | exact ⟨B3.cell 0, B3.cell 1, B3.cell 2, B3.cell 3, B3.cell 4, B3.cell 5, B3.cell 6, B3.cell 7, B3.cell 8, B3.cell 9, B3.cell 10, B3.cell 11, B3.cell 12, B3.cell 13, C3.cell 0, C3.cell 1, C3.cell 2, C3.cell 3, C3.cell 4, C3.cell 5, C3.cell 6, C3.cell 7, C3.cell 8, C3.cell 9, C3.cell 10, C3.cell 11, C3.cell 12, C3.cell 13, D3.cell 0, D3.cell 1, D3.cell 2, D3.cell 3, D3.cell 4, D3.cell 5, D3.cell 6, D3.cell 7, D3.cell 8, D3.cell 9, D3.cell 10, D3.cell 11, D3.cell 12, D3.cell 13⟩
      | exact ⟨B4.cell 0, B4.cell 1, B4.cell 2, B4.cell 3, B4.cell 4, B4.cell 5, B4.cell 6, B4.cell 7, B4.cell 8, B4.cell 9, B4.cell 10, B4.cell 11, B4.cell 12, B4.cell 13, C4.cell 0, C4.cell 1, C4.cell 2, C4.cell 3, C4.cell 4, C4.cell 5, C4.cell 6, C4.cell 7, C4.cell 8, C4.cell 9, C4.cell 10, C4.cell 11, C4.cell 12, C4.cell 13, D4.cell 0, D4.cell 1, D4.cell 2, D4.cell 3, D4.cell 4, D4.cell 5, D4.cell 6, D4.cell 7, D4.cell 8, D4.cell 9, D4.cell 10, D4.cell 11, D4.cell 12, D4.cell 13⟩)
      (first
      | (go_at_call 40
         refine (check_any h _).mono ?_
         rintro e x1 ⟨rfl, f1⟩
         replace f1 : Fr (fun _ => False) W x1 := by first | exact f1 | exact Fr.fromD f1 | exact Fr.fromN f1
         have B1 := Blk.fr HB.out f1 id
         have C1 := Blk.fr HC.out f1 id
         have D1 := Blk.fr HD.out f1 id
         have F1 := Lib.hid (Fr.then HF.out f1)
         clear f1)
      | (go_at_call 67
         refine (rcheck6_any h _).mono ?_
         rintro e x2 ⟨rfl, f2⟩
         replace f2 : Fr (fun _ => False) x1 x2 := by first | exact f2 | exact Fr.fromD f2 | exact Fr.fromN f2
         have B2 := Blk.fr B1 f2 id
         have C2 := Blk.fr C1 f2 id
         have D2 := Blk.fr D1 f2 id
         have F2 := Lib.hid (Fr.then F1.out f2)
         clear f2)
      | (go_at_call 39
         refine (HY.out.1 _).mono ?_
         rintro e x3 ⟨rfl, f3⟩
         replace f3 : Fr (fun _ => False) x2 x3 := by first | exact f3 | exact Fr.fromD f3 | exact Fr.fromN f3
         have B3 := Blk.fr B2 f3 id
         have C3 := Blk.fr C2 f3 id
         have D3 := Blk.fr D2 f3 id
         have F3 := Lib.hid (Fr.then F2.out f3)
         clear f3)
      | (go_at_call 68
         refine (HY.out.2 _).mono ?_
         rintro e x4 ⟨rfl, f4⟩
         replace f4 : Fr (fun _ => False) x3 x4 := by first | exact f4 | exact Fr.fromD f4 | exact Fr.fromN f4
         have B4 := Blk.fr B3 f4 id
         have C4 := Blk.fr C3 f4 id
         have D4 := Blk.fr D3 f4 id
         have F4 := Lib.hid (Fr.then F3.out f4)
         clear f4))
    go_wp2_with fail
    go_ret
    exact ⟨rfl, F4.out.below (fun _ h => h.elim) (Nat.le_of_eq (by rw [HPE.out]))⟩
end Go.Proofs.Ytbemackcdccpaaa
