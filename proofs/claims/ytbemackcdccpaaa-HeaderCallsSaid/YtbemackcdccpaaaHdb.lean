/-
  LAYER 6: HeaderBack.
-/
import Derived.Test.YtbemackcdccpaaaHdrlaw
import Derived.Test.YtbemackcdccpaaaHdreq
import Derived.Test.YtbemackcdccpaaaHdrrep
namespace Go.Proofs.Ytbemackcdccpaaa
open Go.RowKit

theorem readHd_cases (s : ByteArray) : (∃ g : Int, (g = 8 ∨ g = 4) ∧ readHd s = (Hd.zero, g)) ∨ (12 ≤ s.size ∧ ∃ y, readHd s = (y, 0) ∧ y.may = true ∧ y.ok ∧ y.put = s.extract 0 12) := by
  by_cases h1 : s.size < 12
  · exact .inl ⟨8, .inl rfl, by unfold readHd; rw [if_pos h1]⟩
  · by_cases h2 : bitB (word s 2) 6 = true
    · exact .inl ⟨4, .inr rfl, by unfold readHd; rw [if_neg h1, if_pos h2]⟩
    · have h3 : bitB (word s 2) 6 = false := by simpa using h2
      obtain ⟨a, b, c, d⟩ := put_read s (by omega) h3
      exact .inr ⟨by omega, (readHd s).1, by rw [← a], b, c, d⟩
theorem Hd.put_size {h : Hd} (hm : h.may = true) : h.put.size = 12 := by
  unfold Hd.put
  rw [if_pos hm]
  show (h.upto 4).toArray.size = 12
  rw [List.size_toArray, h.upto_length]
theorem Hd.check_may {h : Hd} (hm : h.may = true) : h.check = 0 := by unfold Hd.check; rw [if_pos hm]
theorem Hd.check_not {h : Hd} (hm : h.may = false) : h.check = 2 := by unfold Hd.check; rw [hm]; rfl
theorem Hd.put_not {h : Hd} (hm : h.may = false) : h.put = ⟨#[]⟩ := by unfold Hd.put; rw [hm]; rfl
theorem Hd.zero_ok : Hd.zero.ok := by
  have z : (-9223372036854775808 : Int) ≤ 0 ∧ (0 : Int) ≤ 9223372036854775807 := by decide
  exact ⟨by decide, z, z, z, z, z, z⟩

/-- What stands while the second half of the law runs. -/
def HB6 (w w' : World) (p : Nat) (h : Hd) : Prop := Blk w' p 45 h.cells.toArray ∧ Fr (fun _ => False) w w'
theorem HB6.fr {w a b : World} {p : Nat} {h : Hd} (x : HB6 w a p h) (f : Fr (fun _ => False) a b) : HB6 w b p h := ⟨x.1.fr f id, x.2.then f⟩
theorem HB6.alloc {w a : World} {p : Nat} {h : Hd} (x : HB6 w a p h) (o : Obj) : HB6 w (a.alloc o) p h := ⟨x.1.alloc o, x.2.alloc o⟩

set_option maxRecDepth 100000 in
set_option maxHeartbeats 4000000 in
theorem headerBack_walk (h : Hd) (s t : ByteArray) (w : World) (hok : h.ok) (_hs : s.size ≤ maxLen) (_ht : t.size ≤ maxLen) :
    Calls Try.prog 16 #[h.val, .string s, .string t] w fun e w' => e = .returned (.bool true) ∧ Below w.heap.size w w' := by
  have HK := Lib.hid hok
  clear hok _hs _ht
  have hz : ∀ w, (Go.binOp .eql 45 (.agg #[.int .u16 0, .bool false, .int .i64 0, .bool false, .bool false, .bool false, .bool false, .bool false, .bool false, .int .i64 0, .int .i64 0, .int .i64 0, .int .i64 0, .int .i64 0]) (.agg #[.int .u16 0, .bool false, .int .i64 0, .bool false, .bool false, .bool false, .bool false, .bool false, .bool false, .int .i64 0, .int .i64 0, .int .i64 0, .int .i64 0, .int .i64 0])).run Try.prog w = .ok (.bool true) w := fun w => (hd_eql Hd.zero Hd.zero Hd.zero_ok Hd.zero_ok w).trans (by simp)
  have hq : ∀ w, (Go.binOp .neq 45 (.agg #[.int .u16 h.id, .bool h.resp, .int .i64 h.op, .bool h.aa, .bool h.tc, .bool h.rd, .bool h.ra, .bool h.ad, .bool h.cd, .int .i64 h.rc, .int .i64 h.c0, .int .i64 h.c1, .int .i64 h.c2, .int .i64 h.c3]) (.agg #[.int .u16 h.id, .bool h.resp, .int .i64 h.op, .bool h.aa, .bool h.tc, .bool h.rd, .bool h.ra, .bool h.ad, .bool h.cd, .int .i64 h.rc, .int .i64 h.c0, .int .i64 h.c1, .int .i64 h.c2, .int .i64 h.c3])).run Try.prog w = .ok (.bool false) w := fun w => (hd_neq h h HK.out HK.out w).trans (by simp)
  go_enter Try.func16, Try.ntmps16
  go_wp2_with fail
  refine (lives6_any _).mono ?_
  rintro e w1 ⟨rfl, f1⟩
  have hb : HB6 w w1 w.heap.size h := ⟨(Blk.new w 45 _).fr f1 id, ((Fr.refl _ _).alloc _).then f1⟩
  generalize hp : w.heap.size = p at hb ⊢
  have HG := Lib.hid (Nat.le_of_eq hp)
  have HP := Lib.hid hp
  have HB := Lib.hid hb
  clear f1 hb hp
  have c0 : w1.cell? ⟨p, 0, none⟩ = some (.int .u16 h.id) := HB.out.1.cell 0
  have c1 : w1.cell? ⟨p, 1, none⟩ = some (.bool h.resp) := HB.out.1.cell 1
  have c2 : w1.cell? ⟨p, 2, none⟩ = some (.int .i64 h.op) := HB.out.1.cell 2
  have c3 : w1.cell? ⟨p, 3, none⟩ = some (.bool h.aa) := HB.out.1.cell 3
  have c4 : w1.cell? ⟨p, 4, none⟩ = some (.bool h.tc) := HB.out.1.cell 4
  have c5 : w1.cell? ⟨p, 5, none⟩ = some (.bool h.rd) := HB.out.1.cell 5
  have c6 : w1.cell? ⟨p, 6, none⟩ = some (.bool h.ra) := HB.out.1.cell 6
  have c7 : w1.cell? ⟨p, 7, none⟩ = some (.bool h.ad) := HB.out.1.cell 7
  have c8 : w1.cell? ⟨p, 8, none⟩ = some (.bool h.cd) := HB.out.1.cell 8
  have c9 : w1.cell? ⟨p, 9, none⟩ = some (.int .i64 h.rc) := HB.out.1.cell 9
  have c10 : w1.cell? ⟨p, 10, none⟩ = some (.int .i64 h.c0) := HB.out.1.cell 10
  have c11 : w1.cell? ⟨p, 11, none⟩ = some (.int .i64 h.c1) := HB.out.1.cell 11
  have c12 : w1.cell? ⟨p, 12, none⟩ = some (.int .i64 h.c2) := HB.out.1.cell 12
  have c13 : w1.cell? ⟨p, 13, none⟩ = some (.int .i64 h.c3) := HB.out.1.cell 13
  by_cases l1 : s.size ≤ 300
  · by_cases l2 : t.size ≤ 300
    · go_wp2_with fail
      refine (put_hd h _ HK.out).mono ?_
      rintro e w2 ⟨rfl, f2⟩
      replace HB := Lib.hid (HB.out.fr f2)
      clear c0 c1 c2 c3 c4 c5 c6 c7 c8 c9 c10 c11 c12 c13 f2
      rcases (show h.may = false ∨ h.may = true by cases h.may <;> simp) with hm | hm
      · have HM := Lib.hid hm
        rw [Hd.check_not hm, Hd.put_not hm]
        clear hm
        go_wp2_with fail
        refine (read_hd s _ (by omega)).mono ?_
        rintro e w8 ⟨rfl, f8⟩
        replace HB := Lib.hid (HB.out.fr f8)
        clear f8
        rcases readHd_cases s with ⟨g, hg, hr⟩ | ⟨hs12, y, hr, hy1, hy2, hy3⟩
        · have hv : (readHd s).1.val = .agg #[.int .u16 0, .bool false, .int .i64 0, .bool false, .bool false, .bool false, .bool false, .bool false, .bool false, .int .i64 0, .int .i64 0, .int .i64 0, .int .i64 0, .int .i64 0] := by rw [hr]; rfl
          have hv2 : (readHd s).2 = g := by rw [hr]
          rw [hv, hv2]
          clear hv hv2
          replace HB := Lib.hid (HB.out.alloc (.cells #[.int .u16 0, .bool false, .int .i64 0, .bool false, .bool false, .bool false, .bool false, .bool false, .bool false, .int .i64 0, .int .i64 0, .int .i64 0, .int .i64 0, .int .i64 0] 45))
          have c0 : (w8.alloc (.cells #[.int .u16 0, .bool false, .int .i64 0, .bool false, .bool false, .bool false, .bool false, .bool false, .bool false, .int .i64 0, .int .i64 0, .int .i64 0, .int .i64 0, .int .i64 0] 45)).cell? ⟨p, 0, none⟩ = some (.int .u16 h.id) := HB.out.1.cell 0
          have c1 : (w8.alloc (.cells #[.int .u16 0, .bool false, .int .i64 0, .bool false, .bool false, .bool false, .bool false, .bool false, .bool false, .int .i64 0, .int .i64 0, .int .i64 0, .int .i64 0, .int .i64 0] 45)).cell? ⟨p, 1, none⟩ = some (.bool h.resp) := HB.out.1.cell 1
          have c2 : (w8.alloc (.cells #[.int .u16 0, .bool false, .int .i64 0, .bool false, .bool false, .bool false, .bool false, .bool false, .bool false, .int .i64 0, .int .i64 0, .int .i64 0, .int .i64 0, .int .i64 0] 45)).cell? ⟨p, 2, none⟩ = some (.int .i64 h.op) := HB.out.1.cell 2
          have c3 : (w8.alloc (.cells #[.int .u16 0, .bool false, .int .i64 0, .bool false, .bool false, .bool false, .bool false, .bool false, .bool false, .int .i64 0, .int .i64 0, .int .i64 0, .int .i64 0, .int .i64 0] 45)).cell? ⟨p, 3, none⟩ = some (.bool h.aa) := HB.out.1.cell 3
          have c4 : (w8.alloc (.cells #[.int .u16 0, .bool false, .int .i64 0, .bool false, .bool false, .bool false, .bool false, .bool false, .bool false, .int .i64 0, .int .i64 0, .int .i64 0, .int .i64 0, .int .i64 0] 45)).cell? ⟨p, 4, none⟩ = some (.bool h.tc) := HB.out.1.cell 4
          have c5 : (w8.alloc (.cells #[.int .u16 0, .bool false, .int .i64 0, .bool false, .bool false, .bool false, .bool false, .bool false, .bool false, .int .i64 0, .int .i64 0, .int .i64 0, .int .i64 0, .int .i64 0] 45)).cell? ⟨p, 5, none⟩ = some (.bool h.rd) := HB.out.1.cell 5
          have c6 : (w8.alloc (.cells #[.int .u16 0, .bool false, .int .i64 0, .bool false, .bool false, .bool false, .bool false, .bool false, .bool false, .int .i64 0, .int .i64 0, .int .i64 0, .int .i64 0, .int .i64 0] 45)).cell? ⟨p, 6, none⟩ = some (.bool h.ra) := HB.out.1.cell 6
          have c7 : (w8.alloc (.cells #[.int .u16 0, .bool false, .int .i64 0, .bool false, .bool false, .bool false, .bool false, .bool false, .bool false, .int .i64 0, .int .i64 0, .int .i64 0, .int .i64 0, .int .i64 0] 45)).cell? ⟨p, 7, none⟩ = some (.bool h.ad) := HB.out.1.cell 7
          have c8 : (w8.alloc (.cells #[.int .u16 0, .bool false, .int .i64 0, .bool false, .bool false, .bool false, .bool false, .bool false, .bool false, .int .i64 0, .int .i64 0, .int .i64 0, .int .i64 0, .int .i64 0] 45)).cell? ⟨p, 8, none⟩ = some (.bool h.cd) := HB.out.1.cell 8
          have c9 : (w8.alloc (.cells #[.int .u16 0, .bool false, .int .i64 0, .bool false, .bool false, .bool false, .bool false, .bool false, .bool false, .int .i64 0, .int .i64 0, .int .i64 0, .int .i64 0, .int .i64 0] 45)).cell? ⟨p, 9, none⟩ = some (.int .i64 h.rc) := HB.out.1.cell 9
          have c10 : (w8.alloc (.cells #[.int .u16 0, .bool false, .int .i64 0, .bool false, .bool false, .bool false, .bool false, .bool false, .bool false, .int .i64 0, .int .i64 0, .int .i64 0, .int .i64 0, .int .i64 0] 45)).cell? ⟨p, 10, none⟩ = some (.int .i64 h.c0) := HB.out.1.cell 10
          have c11 : (w8.alloc (.cells #[.int .u16 0, .bool false, .int .i64 0, .bool false, .bool false, .bool false, .bool false, .bool false, .bool false, .int .i64 0, .int .i64 0, .int .i64 0, .int .i64 0, .int .i64 0] 45)).cell? ⟨p, 11, none⟩ = some (.int .i64 h.c1) := HB.out.1.cell 11
          have c12 : (w8.alloc (.cells #[.int .u16 0, .bool false, .int .i64 0, .bool false, .bool false, .bool false, .bool false, .bool false, .bool false, .int .i64 0, .int .i64 0, .int .i64 0, .int .i64 0, .int .i64 0] 45)).cell? ⟨p, 12, none⟩ = some (.int .i64 h.c2) := HB.out.1.cell 12
          have c13 : (w8.alloc (.cells #[.int .u16 0, .bool false, .int .i64 0, .bool false, .bool false, .bool false, .bool false, .bool false, .bool false, .int .i64 0, .int .i64 0, .int .i64 0, .int .i64 0, .int .i64 0] 45)).cell? ⟨p, 13, none⟩ = some (.int .i64 h.c3) := HB.out.1.cell 13
          rcases hg with rfl | rfl
          all_goals
            go_wp2_with fail
            refine (check_any h _).mono ?_
            rintro e w9 ⟨rfl, f9⟩
            rw [Hd.check_not HM.out]
            have HBN := Lib.hid (HB.out.fr f9)
            clear f9
            go_wp2_with fail
            go_ret
            exact ⟨rfl, HBN.out.2.below (fun _ h => h.elim) (Nat.le_of_eq (by rw [HP.out]))⟩
        · rw [hr]
          replace HB := Lib.hid (HB.out.alloc (.cells #[.int .u16 y.id, .bool y.resp, .int .i64 y.op, .bool y.aa, .bool y.tc, .bool y.rd, .bool y.ra, .bool y.ad, .bool y.cd, .int .i64 y.rc, .int .i64 y.c0, .int .i64 y.c1, .int .i64 y.c2, .int .i64 y.c3] 45))
          have HY := Lib.hid (And.intro hy1 (And.intro hy2 hy3))
          clear hy1 hy2 hy3 hr
          go_wp2_with fail
          refine (put_hd y _ HY.out.2.1).mono ?_
          rintro e w9 ⟨rfl, f9⟩
          rw [HY.out.2.2, Hd.check_may HY.out.1]
          have HBN := Lib.hid (HB.out.fr f9)
          clear f9
          go_wp2_with fail
          go_ret
          exact ⟨rfl, HBN.out.2.below (fun _ h => h.elim) (Nat.le_of_eq (by rw [HP.out]))⟩
      · have HM := Lib.hid hm
        have ha : ∀ w, (Op.stringOp .add h.put t).run Try.prog w = .ok (.string (h.put ++ t)) w := fun w => run_string_add_sum w _ _ (by rw [Hd.put_size HM.out]; omega)
        have hsz := Hd.put_size hm
        have hrp := read_put h HK.out hm t
        have hsz2 : (h.put ++ t).size = 12 + t.size := by rw [ByteArray.size_append, hsz]
        rw [Hd.check_may hm]
        clear hm
        generalize h.put ++ t = B at *
        generalize h.put = A at *
        have HA := Lib.hid (And.intro hrp hsz2)
        clear hrp hsz2
        go_wp2_with fail
        refine (read_hd B _ (by rw [HA.out.2]; omega)).mono ?_
        rintro e w3 ⟨rfl, f3⟩
        replace HB := Lib.hid ((HB.out.fr f3).alloc (.cells #[.int .u16 h.id, .bool h.resp, .int .i64 h.op, .bool h.aa, .bool h.tc, .bool h.rd, .bool h.ra, .bool h.ad, .bool h.cd, .int .i64 h.rc, .int .i64 h.c0, .int .i64 h.c1, .int .i64 h.c2, .int .i64 h.c3] 45))
        clear f3
        rw [HA.out.1]
        have c0 : (w3.alloc (.cells #[.int .u16 h.id, .bool h.resp, .int .i64 h.op, .bool h.aa, .bool h.tc, .bool h.rd, .bool h.ra, .bool h.ad, .bool h.cd, .int .i64 h.rc, .int .i64 h.c0, .int .i64 h.c1, .int .i64 h.c2, .int .i64 h.c3] 45)).cell? ⟨p, 0, none⟩ = some (.int .u16 h.id) := HB.out.1.cell 0
        have c1 : (w3.alloc (.cells #[.int .u16 h.id, .bool h.resp, .int .i64 h.op, .bool h.aa, .bool h.tc, .bool h.rd, .bool h.ra, .bool h.ad, .bool h.cd, .int .i64 h.rc, .int .i64 h.c0, .int .i64 h.c1, .int .i64 h.c2, .int .i64 h.c3] 45)).cell? ⟨p, 1, none⟩ = some (.bool h.resp) := HB.out.1.cell 1
        have c2 : (w3.alloc (.cells #[.int .u16 h.id, .bool h.resp, .int .i64 h.op, .bool h.aa, .bool h.tc, .bool h.rd, .bool h.ra, .bool h.ad, .bool h.cd, .int .i64 h.rc, .int .i64 h.c0, .int .i64 h.c1, .int .i64 h.c2, .int .i64 h.c3] 45)).cell? ⟨p, 2, none⟩ = some (.int .i64 h.op) := HB.out.1.cell 2
        have c3 : (w3.alloc (.cells #[.int .u16 h.id, .bool h.resp, .int .i64 h.op, .bool h.aa, .bool h.tc, .bool h.rd, .bool h.ra, .bool h.ad, .bool h.cd, .int .i64 h.rc, .int .i64 h.c0, .int .i64 h.c1, .int .i64 h.c2, .int .i64 h.c3] 45)).cell? ⟨p, 3, none⟩ = some (.bool h.aa) := HB.out.1.cell 3
        have c4 : (w3.alloc (.cells #[.int .u16 h.id, .bool h.resp, .int .i64 h.op, .bool h.aa, .bool h.tc, .bool h.rd, .bool h.ra, .bool h.ad, .bool h.cd, .int .i64 h.rc, .int .i64 h.c0, .int .i64 h.c1, .int .i64 h.c2, .int .i64 h.c3] 45)).cell? ⟨p, 4, none⟩ = some (.bool h.tc) := HB.out.1.cell 4
        have c5 : (w3.alloc (.cells #[.int .u16 h.id, .bool h.resp, .int .i64 h.op, .bool h.aa, .bool h.tc, .bool h.rd, .bool h.ra, .bool h.ad, .bool h.cd, .int .i64 h.rc, .int .i64 h.c0, .int .i64 h.c1, .int .i64 h.c2, .int .i64 h.c3] 45)).cell? ⟨p, 5, none⟩ = some (.bool h.rd) := HB.out.1.cell 5
        have c6 : (w3.alloc (.cells #[.int .u16 h.id, .bool h.resp, .int .i64 h.op, .bool h.aa, .bool h.tc, .bool h.rd, .bool h.ra, .bool h.ad, .bool h.cd, .int .i64 h.rc, .int .i64 h.c0, .int .i64 h.c1, .int .i64 h.c2, .int .i64 h.c3] 45)).cell? ⟨p, 6, none⟩ = some (.bool h.ra) := HB.out.1.cell 6
        have c7 : (w3.alloc (.cells #[.int .u16 h.id, .bool h.resp, .int .i64 h.op, .bool h.aa, .bool h.tc, .bool h.rd, .bool h.ra, .bool h.ad, .bool h.cd, .int .i64 h.rc, .int .i64 h.c0, .int .i64 h.c1, .int .i64 h.c2, .int .i64 h.c3] 45)).cell? ⟨p, 7, none⟩ = some (.bool h.ad) := HB.out.1.cell 7
        have c8 : (w3.alloc (.cells #[.int .u16 h.id, .bool h.resp, .int .i64 h.op, .bool h.aa, .bool h.tc, .bool h.rd, .bool h.ra, .bool h.ad, .bool h.cd, .int .i64 h.rc, .int .i64 h.c0, .int .i64 h.c1, .int .i64 h.c2, .int .i64 h.c3] 45)).cell? ⟨p, 8, none⟩ = some (.bool h.cd) := HB.out.1.cell 8
        have c9 : (w3.alloc (.cells #[.int .u16 h.id, .bool h.resp, .int .i64 h.op, .bool h.aa, .bool h.tc, .bool h.rd, .bool h.ra, .bool h.ad, .bool h.cd, .int .i64 h.rc, .int .i64 h.c0, .int .i64 h.c1, .int .i64 h.c2, .int .i64 h.c3] 45)).cell? ⟨p, 9, none⟩ = some (.int .i64 h.rc) := HB.out.1.cell 9
        have c10 : (w3.alloc (.cells #[.int .u16 h.id, .bool h.resp, .int .i64 h.op, .bool h.aa, .bool h.tc, .bool h.rd, .bool h.ra, .bool h.ad, .bool h.cd, .int .i64 h.rc, .int .i64 h.c0, .int .i64 h.c1, .int .i64 h.c2, .int .i64 h.c3] 45)).cell? ⟨p, 10, none⟩ = some (.int .i64 h.c0) := HB.out.1.cell 10
        have c11 : (w3.alloc (.cells #[.int .u16 h.id, .bool h.resp, .int .i64 h.op, .bool h.aa, .bool h.tc, .bool h.rd, .bool h.ra, .bool h.ad, .bool h.cd, .int .i64 h.rc, .int .i64 h.c0, .int .i64 h.c1, .int .i64 h.c2, .int .i64 h.c3] 45)).cell? ⟨p, 11, none⟩ = some (.int .i64 h.c1) := HB.out.1.cell 11
        have c12 : (w3.alloc (.cells #[.int .u16 h.id, .bool h.resp, .int .i64 h.op, .bool h.aa, .bool h.tc, .bool h.rd, .bool h.ra, .bool h.ad, .bool h.cd, .int .i64 h.rc, .int .i64 h.c0, .int .i64 h.c1, .int .i64 h.c2, .int .i64 h.c3] 45)).cell? ⟨p, 12, none⟩ = some (.int .i64 h.c2) := HB.out.1.cell 12
        have c13 : (w3.alloc (.cells #[.int .u16 h.id, .bool h.resp, .int .i64 h.op, .bool h.aa, .bool h.tc, .bool h.rd, .bool h.ra, .bool h.ad, .bool h.cd, .int .i64 h.rc, .int .i64 h.c0, .int .i64 h.c1, .int .i64 h.c2, .int .i64 h.c3] 45)).cell? ⟨p, 13, none⟩ = some (.int .i64 h.c3) := HB.out.1.cell 13
        go_wp2_with fail
        clear c0 c1 c2 c3 c4 c5 c6 c7 c8 c9 c10 c11 c12 c13
        generalize w3.alloc (.cells #[.int .u16 h.id, .bool h.resp, .int .i64 h.op, .bool h.aa, .bool h.tc, .bool h.rd, .bool h.ra, .bool h.ad, .bool h.cd, .int .i64 h.rc, .int .i64 h.c0, .int .i64 h.c1, .int .i64 h.c2, .int .i64 h.c3] 45) = W3 at HB ⊢
        refine (read_hd s _ (by omega)).mono ?_
        rintro e w8 ⟨rfl, f8⟩
        replace HB := Lib.hid (HB.out.fr f8)
        clear f8
        rcases readHd_cases s with ⟨g, hg, hr⟩ | ⟨hs12, y, hr, hy1, hy2, hy3⟩
        · have hv : (readHd s).1.val = .agg #[.int .u16 0, .bool false, .int .i64 0, .bool false, .bool false, .bool false, .bool false, .bool false, .bool false, .int .i64 0, .int .i64 0, .int .i64 0, .int .i64 0, .int .i64 0] := by rw [hr]; rfl
          have hv2 : (readHd s).2 = g := by rw [hr]
          rw [hv, hv2]
          clear hv hv2
          replace HB := Lib.hid (HB.out.alloc (.cells #[.int .u16 0, .bool false, .int .i64 0, .bool false, .bool false, .bool false, .bool false, .bool false, .bool false, .int .i64 0, .int .i64 0, .int .i64 0, .int .i64 0, .int .i64 0] 45))
          rcases hg with rfl | rfl
          all_goals
            go_wp2_with fail
            go_ret
            exact ⟨rfl, HB.out.2.below (fun _ h => h.elim) (Nat.le_of_eq (by rw [HP.out]))⟩
        · rw [hr]
          replace HB := Lib.hid (HB.out.alloc (.cells #[.int .u16 y.id, .bool y.resp, .int .i64 y.op, .bool y.aa, .bool y.tc, .bool y.rd, .bool y.ra, .bool y.ad, .bool y.cd, .int .i64 y.rc, .int .i64 y.c0, .int .i64 y.c1, .int .i64 y.c2, .int .i64 y.c3] 45))
          have HY := Lib.hid (And.intro hy1 (And.intro hy2 hy3))
          clear hy1 hy2 hy3 hr
          go_wp2_with fail
          refine (put_hd y _ HY.out.2.1).mono ?_
          rintro e w9 ⟨rfl, f9⟩
          rw [HY.out.2.2, Hd.check_may HY.out.1]
          have HBN := Lib.hid (HB.out.fr f9)
          clear f9
          go_wp2_with fail
          go_ret
          exact ⟨rfl, HBN.out.2.below (fun _ h => h.elim) (Nat.le_of_eq (by rw [HP.out]))⟩
    · go_wp2_with fail
      go_ret
      exact ⟨rfl, HB.out.2.below (fun _ h => h.elim) (Nat.le_of_eq (by rw [HP.out]))⟩
  · go_wp2_with fail
    go_ret
    exact ⟨rfl, HB.out.2.below (fun _ h => h.elim) (Nat.le_of_eq (by rw [HP.out]))⟩
end Go.Proofs.Ytbemackcdccpaaa
