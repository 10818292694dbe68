/-
  LAYER 6: HeaderUnlike.
-/
import Derived.Test.YtbemackcdccpaaaHdflip
import Derived.Test.YtbemackcdccpaaaHdreq
import Derived.Test.YtbemackcdccpaaaHdb
import Derived.Lib.ConvBytes
namespace Go.Proofs.Ytbemackcdccpaaa
open Go.RowKit

/-- A row of octets of the call's own, made of a string. -/
def Row8 (w w' : World) (g : Nat) (s : ByteArray) : Prop :=
  w.heap.size ≤ g ∧ Fr (fun _ => False) w w' ∧ g < w'.heap.size ∧ ∀ j, j < s.size → w'.cell? ⟨g, j, none⟩ = some (.int .u8 (s.data.toList.getD j 0).toNat) ∧ w'.frozen? ⟨g, j, none⟩ = false
theorem row8 (w : World) (s : ByteArray) : Row8 w (Lib.bytesWorld w 5 s) w.heap.size s := by
  obtain ⟨h1, h2⟩ := bytes_post w s
  refine ⟨Nat.le_refl _, h1, by rw [Lib.bytesWorld_size]; omega, fun j hj => ⟨h2 j hj, ?_⟩⟩
  have hc : j < (Lib.bytesCells w 5 s).size := by
    unfold Lib.bytesCells
    rw [Array.size_append, Array.size_map]
    have hjs : j < s.data.size := hj
    omega
  have hn := Lib.bytesWorld_at_new w 5 s
  simp only [World.frozen?, hn]
  simp
  omega

theorem xor_u8 (x : UInt8) (j : Nat) (hj : j < 8) : bits .xor .u8 (x.toNat : Int) ((2 ^ j : Nat) : Int) = ((x ^^^ UInt8.ofNat (2 ^ j)).toNat : Int) := by
  have hx := x.toNat_lt
  have hp : 2 ^ j ≤ 2 ^ 7 := Nat.pow_le_pow_right (by decide) (by omega)
  show IntKind.u8.wrap ((BitVec.ofInt 8 (x.toNat : Int) ^^^ BitVec.ofInt 8 ((2 ^ j : Nat) : Int)).toNat : Int) = _
  rw [BitVec.toNat_xor, BitVec.ofInt_natCast, BitVec.ofInt_natCast, BitVec.toNat_ofNat, BitVec.toNat_ofNat, UInt8.toNat_xor, UInt8.toNat_ofNat', IntKind.wrap_u8, Nat.mod_eq_of_lt (by omega)]
  have : x.toNat ^^^ (2 ^ j % 2 ^ 8) < 2 ^ 8 := Nat.xor_lt_two_pow (by omega) (by omega)
  omega


theorem size_list' (s : ByteArray) : s.data.toList.length = s.size := by simp
/-- string(row) of a row of octets that is known cell by cell. -/
theorem run_conv_cells {w : World} {g cap : Nat} (l : List UInt8) (hc : ∀ j x, l[j]? = some x → w.cell? ((⟨g, 0, none⟩ : Addr).add j) = some (.int .u8 x.toNat)) :
    (convert 78 9 (.slice (some ⟨g, 0, none⟩) l.length cap)).run Try.prog w = .ok (.string ⟨l.toArray⟩) w := by
  rw [run_convert_bytes_string w 78 9 5 (some ⟨g, 0, none⟩) l.length cap Try.underlying78 Try.underlying5 Try.underlying9]
  have hr := run_loadCells_list (P := Try.prog) (w := w) ⟨g, 0, none⟩ (u8s l) (fun j v hv => by
    rw [u8s_get, Option.map_eq_some_iff] at hv
    obtain ⟨x, hx, rfl⟩ := hv
    exact hc j x hx)
  rw [u8s_length] at hr
  have hm : (u8s l).toArray = ((l.map fun b => (b.toNat : Int)).map (Value.int .u8)).toArray := by simp [u8s]
  rw [hm] at hr
  rw [run_bytesToString w ⟨g, 0, none⟩ l.length cap _ hr, foldl_push]
  simp

theorem xor_form (s : ByteArray) (i j : Nat) (hj : j < 8) : bits .xor .u8 (((s.data[i]?.getD 0).toNat : Nat) : Int) ((2 : Int) ^ j % 256) = (((s.data.toList.getD i 0) ^^^ UInt8.ofNat (2 ^ j)).toNat : Int) := by
  have e1 : s.data[i]?.getD 0 = s.data.toList.getD i 0 := by rw [List.getD_eq_getElem?_getD, Array.getElem?_toList]
  have e2 : (2 : Int) ^ j % 256 = ((2 ^ j : Nat) : Int) := by
    rcases (show j = 0 ∨ j = 1 ∨ j = 2 ∨ j = 3 ∨ j = 4 ∨ j = 5 ∨ j = 6 ∨ j = 7 by omega) with rfl | rfl | rfl | rfl | rfl | rfl | rfl | rfl <;> decide
  rw [e1, e2]
  exact xor_u8 _ j hj
/-- The row, one octet turned. -/
theorem row8_flip {w w' : World} {g : Nat} {s : ByteArray} (h : Row8 w w' g s) (i j : Nat) (hi : i < s.size) (_hj : j < 8) (v : Int)
    (hv : v = (((s.data.toList.getD i 0) ^^^ UInt8.ofNat (2 ^ j)).toNat : Int)) (cap : Nat) :
    (convert 78 9 (.slice (some ⟨g, 0, none⟩) s.size cap)).run Try.prog (w'.setCell ⟨g, i, none⟩ (.int .u8 v)) = .ok (.string (flipped s i j)) (w'.setCell ⟨g, i, none⟩ (.int .u8 v)) ∧
      Fr (fun _ => False) w (w'.setCell ⟨g, i, none⟩ (.int .u8 v)) := by
  obtain ⟨h1, h2, h3, h4⟩ := h
  have hl : (flipped s i j).data.toList.length = s.size := by rw [Array.length_toList]; exact flipped_size s i j
  have key := run_conv_cells (w := w'.setCell ⟨g, i, none⟩ (.int .u8 v)) (g := g) (cap := cap) (flipped s i j).data.toList ?_
  · rw [hl] at key
    exact ⟨key, h2.setCell (fun hlt => by dsimp only at hlt; omega) _⟩
  · intro k x hx
    have hk : k < s.size := by rw [← hl]; exact (List.getElem?_eq_some_iff.1 hx).1
    have ha : (⟨g, 0, none⟩ : Addr).add k = ⟨g, k, none⟩ := by unfold Addr.add; split <;> simp_all
    rw [ha]
    have hm : (s.data.toList.modify i fun x => x ^^^ UInt8.ofNat (2 ^ j))[k]? = some x := by
      rw [← hx]
      show _ = (s.data.modify i fun x => x ^^^ UInt8.ofNat (2 ^ j)).toList[k]?
      rw [Array.toList_modify]
    rw [List.getElem?_modify] at hm
    by_cases hik : i = k
    · subst hik
      rw [World.cell?_setCell_same _ _ _ (h4 i hi).1, hv]
      simp only [if_true] at hm
      rw [List.getElem?_eq_getElem (by rw [size_list']; exact hi)] at hm
      injection hm with hm
      rw [← hm, List.getD_eq_getElem?_getD, List.getElem?_eq_getElem (by rw [size_list']; exact hi)]
      rfl
    · rw [World.cell?_setCell_other _ _ _ _ (fun h => hik (congrArg Addr.off h)), (h4 k hk).1]
      simp only [if_neg hik] at hm
      rw [List.getElem?_eq_getElem (by rw [size_list']; exact hk)] at hm
      injection hm with hm
      rw [← hm, List.getD_eq_getElem?_getD, List.getElem?_eq_getElem (by rw [size_list']; exact hk)]
      rfl

set_option maxRecDepth 100000 in
set_option maxHeartbeats 4000000 in
theorem headerUnlike_walk (a b : Hd) (bit : Int) (w : World) (ha : a.ok) (hb : b.ok) (_hbit : -9223372036854775808 ≤ bit ∧ bit ≤ 9223372036854775807) :
    Calls Try.prog 17 #[a.val, b.val, .int .i64 bit] w fun e w' => e = .returned (.bool true) ∧ Below w.heap.size w w' := by
  have HKA := Lib.hid ha
  have HKB := Lib.hid hb
  clear ha hb
  go_enter Try.func17, Try.ntmps17
  go_wp2_with fail
  refine (lives6_any _).mono ?_
  rintro e w1 ⟨rfl, f1⟩
  have hba : HB6 w w1 w.heap.size a := ⟨((Blk.new w 45 _).alloc _).fr f1 id, (((Fr.refl _ _).alloc _).alloc _).then f1⟩
  have hbb : Blk w1 (w.heap.size + 1) 45 b.cells.toArray := by
    have h := (Blk.new (w.alloc (.cells a.cells.toArray 45)) 45 b.cells.toArray)
    rw [show (w.alloc (.cells a.cells.toArray 45)).heap.size = w.heap.size + 1 by simp] at h
    exact h.fr f1 id
  clear f1
  generalize hp : w.heap.size = p at hba hbb ⊢
  have HP := Lib.hid hp
  clear hp
  generalize hq : p + 1 = q at hbb ⊢
  clear hq
  have HA := Lib.hid hba
  have HB := Lib.hid hbb
  clear hba hbb
  have c0 : w1.cell? ⟨p, 0, none⟩ = some (.int .u16 a.id) := HA.out.1.cell 0
  have c1 : w1.cell? ⟨p, 1, none⟩ = some (.bool a.resp) := HA.out.1.cell 1
  have c2 : w1.cell? ⟨p, 2, none⟩ = some (.int .i64 a.op) := HA.out.1.cell 2
  have c3 : w1.cell? ⟨p, 3, none⟩ = some (.bool a.aa) := HA.out.1.cell 3
  have c4 : w1.cell? ⟨p, 4, none⟩ = some (.bool a.tc) := HA.out.1.cell 4
  have c5 : w1.cell? ⟨p, 5, none⟩ = some (.bool a.rd) := HA.out.1.cell 5
  have c6 : w1.cell? ⟨p, 6, none⟩ = some (.bool a.ra) := HA.out.1.cell 6
  have c7 : w1.cell? ⟨p, 7, none⟩ = some (.bool a.ad) := HA.out.1.cell 7
  have c8 : w1.cell? ⟨p, 8, none⟩ = some (.bool a.cd) := HA.out.1.cell 8
  have c9 : w1.cell? ⟨p, 9, none⟩ = some (.int .i64 a.rc) := HA.out.1.cell 9
  have c10 : w1.cell? ⟨p, 10, none⟩ = some (.int .i64 a.c0) := HA.out.1.cell 10
  have c11 : w1.cell? ⟨p, 11, none⟩ = some (.int .i64 a.c1) := HA.out.1.cell 11
  have c12 : w1.cell? ⟨p, 12, none⟩ = some (.int .i64 a.c2) := HA.out.1.cell 12
  have c13 : w1.cell? ⟨p, 13, none⟩ = some (.int .i64 a.c3) := HA.out.1.cell 13
  go_wp2_with fail
  refine (put_hd a _ HKA.out).mono ?_
  rintro e w2 ⟨rfl, f2⟩
  replace HA := Lib.hid (HA.out.fr f2)
  replace HB := Lib.hid (HB.out.fr f2 id)
  clear f2 c0 c1 c2 c3 c4 c5 c6 c7 c8 c9 c10 c11 c12 c13
  have c0 : w2.cell? ⟨q, 0, none⟩ = some (.int .u16 b.id) := HB.out.cell 0
  have c1 : w2.cell? ⟨q, 1, none⟩ = some (.bool b.resp) := HB.out.cell 1
  have c2 : w2.cell? ⟨q, 2, none⟩ = some (.int .i64 b.op) := HB.out.cell 2
  have c3 : w2.cell? ⟨q, 3, none⟩ = some (.bool b.aa) := HB.out.cell 3
  have c4 : w2.cell? ⟨q, 4, none⟩ = some (.bool b.tc) := HB.out.cell 4
  have c5 : w2.cell? ⟨q, 5, none⟩ = some (.bool b.rd) := HB.out.cell 5
  have c6 : w2.cell? ⟨q, 6, none⟩ = some (.bool b.ra) := HB.out.cell 6
  have c7 : w2.cell? ⟨q, 7, none⟩ = some (.bool b.ad) := HB.out.cell 7
  have c8 : w2.cell? ⟨q, 8, none⟩ = some (.bool b.cd) := HB.out.cell 8
  have c9 : w2.cell? ⟨q, 9, none⟩ = some (.int .i64 b.rc) := HB.out.cell 9
  have c10 : w2.cell? ⟨q, 10, none⟩ = some (.int .i64 b.c0) := HB.out.cell 10
  have c11 : w2.cell? ⟨q, 11, none⟩ = some (.int .i64 b.c1) := HB.out.cell 11
  have c12 : w2.cell? ⟨q, 12, none⟩ = some (.int .i64 b.c2) := HB.out.cell 12
  have c13 : w2.cell? ⟨q, 13, none⟩ = some (.int .i64 b.c3) := HB.out.cell 13
  rcases (show a.may = false ∨ a.may = true by cases a.may <;> simp) with hma | hma
  · rw [Hd.check_not hma, Hd.put_not hma]
    clear hma
    go_wp2_with fail
    refine (put_hd b _ HKB.out).mono ?_
    rintro e w3 ⟨rfl, f3⟩
    replace HA := Lib.hid (HA.out.fr f3)
    clear f3 c0 c1 c2 c3 c4 c5 c6 c7 c8 c9 c10 c11 c12 c13
    go_wp2_with fail
    go_ret
    exact ⟨rfl, HA.out.2.below (fun _ h => h.elim) (Nat.le_of_eq (by rw [HP.out]))⟩
  · have hsz := Hd.put_size hma
    have HMA := Lib.hid hma
    rw [Hd.check_may hma]
    clear hma
    go_wp2_with fail
    refine (put_hd b _ HKB.out).mono ?_
    rintro e w3 ⟨rfl, f3⟩
    replace HA := Lib.hid (HA.out.fr f3)
    replace HB := Lib.hid (HB.out.fr f3 id)
    clear f3 c0 c1 c2 c3 c4 c5 c6 c7 c8 c9 c10 c11 c12 c13
    rcases (show b.may = false ∨ b.may = true by cases b.may <;> simp) with hmb | hmb
    · rw [Hd.check_not hmb, Hd.put_not hmb]
      clear hmb
      go_wp2_with fail
      go_ret
      exact ⟨rfl, HA.out.2.below (fun _ h => h.elim) (Nat.le_of_eq (by rw [HP.out]))⟩
    · have HMB := Lib.hid hmb
      rw [Hd.check_may hmb]
      clear hmb
      go_wp2_with fail
      refine (pick_any bit 96 _ (by decide) (by decide)).mono ?_
      rintro e w' ⟨rfl, rfl⟩
      obtain ⟨p1, p2⟩ := pick_range bit 96 (by decide)
      obtain ⟨m, hm⟩ := Int.eq_ofNat_of_zero_le p1
      rw [hm] at p1 p2 ⊢
      clear hm p1
      have hcv := Lib.run_convert_string_bytes (P := Try.prog) w3 9 78 5 a.put Try.underlying9 Try.underlying78 Try.underlying5
      have hR := row8 w3 a.put
      generalize Lib.bytesWorld w3 5 a.put = w4 at *
      generalize w3.heap.size = g at *
      rw [hsz] at hcv
      have hci := hR.2.2.2 (m / 8) (by omega)
      obtain ⟨hfl, hff⟩ := row8_flip hR (m / 8) (m % 8) (by omega) (by omega) _ (xor_form a.put (m / 8) (m % 8) (by omega)) (grownCap w3 12 0 5)
      rw [hsz] at hfl
      replace HA := Lib.hid (HA.out.fr hff)
      replace HB := Lib.hid (HB.out.fr hff id)
      have hfs : (flipped a.put (m / 8) (m % 8)).size = 12 := by rw [flipped_size, hsz]
      have HF := Lib.hid (flip_read HKA.out HMA.out (m / 8) (m % 8) (by omega) (by omega))
      clear hR hff
      generalize flipped a.put (m / 8) (m % 8) = fl at *
      go_wp2_with fail
      refine (read_hd fl _ (by omega)).mono ?_
      rintro e w5 ⟨rfl, f5⟩
      replace HA := Lib.hid (HA.out.fr f5)
      replace HB := Lib.hid (HB.out.fr f5 id)
      clear f5 hfl hci hcv
      have hpq := put_inj HKA.out HKB.out HMA.out HMB.out
      rcases HF.out with ⟨hi, hj, hr⟩ | ⟨hij, y, hr, hyok, hya⟩
      · have hv : (readHd fl).1.val = .agg #[.int .u16 0, .bool false, .int .i64 0, .bool false, .bool false, .bool false, .bool false, .bool false, .bool false, .int .i64 0, .int .i64 0, .int .i64 0, .int .i64 0, .int .i64 0] := by rw [hr]; rfl
        have hv2 : (readHd fl).2 = 4 := by rw [hr]
        rw [hv, hv2]
        clear hv hv2 HF hr
        have hm : m = 30 := by omega
        subst hm
        clear hi hj
        replace HA := Lib.hid (HA.out.alloc (.cells #[.int .u16 0, .bool false, .int .i64 0, .bool false, .bool false, .bool false, .bool false, .bool false, .bool false, .int .i64 0, .int .i64 0, .int .i64 0, .int .i64 0, .int .i64 0] 45))
        replace HB := Lib.hid (HB.out.alloc (.cells #[.int .u16 0, .bool false, .int .i64 0, .bool false, .bool false, .bool false, .bool false, .bool false, .bool false, .int .i64 0, .int .i64 0, .int .i64 0, .int .i64 0, .int .i64 0] 45))
        by_cases hab : a = b
        · subst hab
          have hqq : ∀ w, (Go.binOp .eql 45 (.agg #[.int .u16 a.id, .bool a.resp, .int .i64 a.op, .bool a.aa, .bool a.tc, .bool a.rd, .bool a.ra, .bool a.ad, .bool a.cd, .int .i64 a.rc, .int .i64 a.c0, .int .i64 a.c1, .int .i64 a.c2, .int .i64 a.c3]) (.agg #[.int .u16 a.id, .bool a.resp, .int .i64 a.op, .bool a.aa, .bool a.tc, .bool a.rd, .bool a.ra, .bool a.ad, .bool a.cd, .int .i64 a.rc, .int .i64 a.c0, .int .i64 a.c1, .int .i64 a.c2, .int .i64 a.c3])).run Try.prog w = .ok (.bool true) w := fun w => (hd_eql a a HKA.out HKA.out w).trans (by simp)
          have c0 : (w5.alloc (.cells #[.int .u16 0, .bool false, .int .i64 0, .bool false, .bool false, .bool false, .bool false, .bool false, .bool false, .int .i64 0, .int .i64 0, .int .i64 0, .int .i64 0, .int .i64 0] 45)).cell? ⟨p, 0, none⟩ = some (.int .u16 a.id) := HA.out.1.cell 0
          have c1 : (w5.alloc (.cells #[.int .u16 0, .bool false, .int .i64 0, .bool false, .bool false, .bool false, .bool false, .bool false, .bool false, .int .i64 0, .int .i64 0, .int .i64 0, .int .i64 0, .int .i64 0] 45)).cell? ⟨p, 1, none⟩ = some (.bool a.resp) := HA.out.1.cell 1
          have c2 : (w5.alloc (.cells #[.int .u16 0, .bool false, .int .i64 0, .bool false, .bool false, .bool false, .bool false, .bool false, .bool false, .int .i64 0, .int .i64 0, .int .i64 0, .int .i64 0, .int .i64 0] 45)).cell? ⟨p, 2, none⟩ = some (.int .i64 a.op) := HA.out.1.cell 2
          have c3 : (w5.alloc (.cells #[.int .u16 0, .bool false, .int .i64 0, .bool false, .bool false, .bool false, .bool false, .bool false, .bool false, .int .i64 0, .int .i64 0, .int .i64 0, .int .i64 0, .int .i64 0] 45)).cell? ⟨p, 3, none⟩ = some (.bool a.aa) := HA.out.1.cell 3
          have c4 : (w5.alloc (.cells #[.int .u16 0, .bool false, .int .i64 0, .bool false, .bool false, .bool false, .bool false, .bool false, .bool false, .int .i64 0, .int .i64 0, .int .i64 0, .int .i64 0, .int .i64 0] 45)).cell? ⟨p, 4, none⟩ = some (.bool a.tc) := HA.out.1.cell 4
          have c5 : (w5.alloc (.cells #[.int .u16 0, .bool false, .int .i64 0, .bool false, .bool false, .bool false, .bool false, .bool false, .bool false, .int .i64 0, .int .i64 0, .int .i64 0, .int .i64 0, .int .i64 0] 45)).cell? ⟨p, 5, none⟩ = some (.bool a.rd) := HA.out.1.cell 5
          have c6 : (w5.alloc (.cells #[.int .u16 0, .bool false, .int .i64 0, .bool false, .bool false, .bool false, .bool false, .bool false, .bool false, .int .i64 0, .int .i64 0, .int .i64 0, .int .i64 0, .int .i64 0] 45)).cell? ⟨p, 6, none⟩ = some (.bool a.ra) := HA.out.1.cell 6
          have c7 : (w5.alloc (.cells #[.int .u16 0, .bool false, .int .i64 0, .bool false, .bool false, .bool false, .bool false, .bool false, .bool false, .int .i64 0, .int .i64 0, .int .i64 0, .int .i64 0, .int .i64 0] 45)).cell? ⟨p, 7, none⟩ = some (.bool a.ad) := HA.out.1.cell 7
          have c8 : (w5.alloc (.cells #[.int .u16 0, .bool false, .int .i64 0, .bool false, .bool false, .bool false, .bool false, .bool false, .bool false, .int .i64 0, .int .i64 0, .int .i64 0, .int .i64 0, .int .i64 0] 45)).cell? ⟨p, 8, none⟩ = some (.bool a.cd) := HA.out.1.cell 8
          have c9 : (w5.alloc (.cells #[.int .u16 0, .bool false, .int .i64 0, .bool false, .bool false, .bool false, .bool false, .bool false, .bool false, .int .i64 0, .int .i64 0, .int .i64 0, .int .i64 0, .int .i64 0] 45)).cell? ⟨p, 9, none⟩ = some (.int .i64 a.rc) := HA.out.1.cell 9
          have c10 : (w5.alloc (.cells #[.int .u16 0, .bool false, .int .i64 0, .bool false, .bool false, .bool false, .bool false, .bool false, .bool false, .int .i64 0, .int .i64 0, .int .i64 0, .int .i64 0, .int .i64 0] 45)).cell? ⟨p, 10, none⟩ = some (.int .i64 a.c0) := HA.out.1.cell 10
          have c11 : (w5.alloc (.cells #[.int .u16 0, .bool false, .int .i64 0, .bool false, .bool false, .bool false, .bool false, .bool false, .bool false, .int .i64 0, .int .i64 0, .int .i64 0, .int .i64 0, .int .i64 0] 45)).cell? ⟨p, 11, none⟩ = some (.int .i64 a.c1) := HA.out.1.cell 11
          have c12 : (w5.alloc (.cells #[.int .u16 0, .bool false, .int .i64 0, .bool false, .bool false, .bool false, .bool false, .bool false, .bool false, .int .i64 0, .int .i64 0, .int .i64 0, .int .i64 0, .int .i64 0] 45)).cell? ⟨p, 12, none⟩ = some (.int .i64 a.c2) := HA.out.1.cell 12
          have c13 : (w5.alloc (.cells #[.int .u16 0, .bool false, .int .i64 0, .bool false, .bool false, .bool false, .bool false, .bool false, .bool false, .int .i64 0, .int .i64 0, .int .i64 0, .int .i64 0, .int .i64 0] 45)).cell? ⟨p, 13, none⟩ = some (.int .i64 a.c3) := HA.out.1.cell 13
          have d0 : (w5.alloc (.cells #[.int .u16 0, .bool false, .int .i64 0, .bool false, .bool false, .bool false, .bool false, .bool false, .bool false, .int .i64 0, .int .i64 0, .int .i64 0, .int .i64 0, .int .i64 0] 45)).cell? ⟨q, 0, none⟩ = some (.int .u16 a.id) := HB.out.cell 0
          have d1 : (w5.alloc (.cells #[.int .u16 0, .bool false, .int .i64 0, .bool false, .bool false, .bool false, .bool false, .bool false, .bool false, .int .i64 0, .int .i64 0, .int .i64 0, .int .i64 0, .int .i64 0] 45)).cell? ⟨q, 1, none⟩ = some (.bool a.resp) := HB.out.cell 1
          have d2 : (w5.alloc (.cells #[.int .u16 0, .bool false, .int .i64 0, .bool false, .bool false, .bool false, .bool false, .bool false, .bool false, .int .i64 0, .int .i64 0, .int .i64 0, .int .i64 0, .int .i64 0] 45)).cell? ⟨q, 2, none⟩ = some (.int .i64 a.op) := HB.out.cell 2
          have d3 : (w5.alloc (.cells #[.int .u16 0, .bool false, .int .i64 0, .bool false, .bool false, .bool false, .bool false, .bool false, .bool false, .int .i64 0, .int .i64 0, .int .i64 0, .int .i64 0, .int .i64 0] 45)).cell? ⟨q, 3, none⟩ = some (.bool a.aa) := HB.out.cell 3
          have d4 : (w5.alloc (.cells #[.int .u16 0, .bool false, .int .i64 0, .bool false, .bool false, .bool false, .bool false, .bool false, .bool false, .int .i64 0, .int .i64 0, .int .i64 0, .int .i64 0, .int .i64 0] 45)).cell? ⟨q, 4, none⟩ = some (.bool a.tc) := HB.out.cell 4
          have d5 : (w5.alloc (.cells #[.int .u16 0, .bool false, .int .i64 0, .bool false, .bool false, .bool false, .bool false, .bool false, .bool false, .int .i64 0, .int .i64 0, .int .i64 0, .int .i64 0, .int .i64 0] 45)).cell? ⟨q, 5, none⟩ = some (.bool a.rd) := HB.out.cell 5
          have d6 : (w5.alloc (.cells #[.int .u16 0, .bool false, .int .i64 0, .bool false, .bool false, .bool false, .bool false, .bool false, .bool false, .int .i64 0, .int .i64 0, .int .i64 0, .int .i64 0, .int .i64 0] 45)).cell? ⟨q, 6, none⟩ = some (.bool a.ra) := HB.out.cell 6
          have d7 : (w5.alloc (.cells #[.int .u16 0, .bool false, .int .i64 0, .bool false, .bool false, .bool false, .bool false, .bool false, .bool false, .int .i64 0, .int .i64 0, .int .i64 0, .int .i64 0, .int .i64 0] 45)).cell? ⟨q, 7, none⟩ = some (.bool a.ad) := HB.out.cell 7
          have d8 : (w5.alloc (.cells #[.int .u16 0, .bool false, .int .i64 0, .bool false, .bool false, .bool false, .bool false, .bool false, .bool false, .int .i64 0, .int .i64 0, .int .i64 0, .int .i64 0, .int .i64 0] 45)).cell? ⟨q, 8, none⟩ = some (.bool a.cd) := HB.out.cell 8
          have d9 : (w5.alloc (.cells #[.int .u16 0, .bool false, .int .i64 0, .bool false, .bool false, .bool false, .bool false, .bool false, .bool false, .int .i64 0, .int .i64 0, .int .i64 0, .int .i64 0, .int .i64 0] 45)).cell? ⟨q, 9, none⟩ = some (.int .i64 a.rc) := HB.out.cell 9
          have d10 : (w5.alloc (.cells #[.int .u16 0, .bool false, .int .i64 0, .bool false, .bool false, .bool false, .bool false, .bool false, .bool false, .int .i64 0, .int .i64 0, .int .i64 0, .int .i64 0, .int .i64 0] 45)).cell? ⟨q, 10, none⟩ = some (.int .i64 a.c0) := HB.out.cell 10
          have d11 : (w5.alloc (.cells #[.int .u16 0, .bool false, .int .i64 0, .bool false, .bool false, .bool false, .bool false, .bool false, .bool false, .int .i64 0, .int .i64 0, .int .i64 0, .int .i64 0, .int .i64 0] 45)).cell? ⟨q, 11, none⟩ = some (.int .i64 a.c1) := HB.out.cell 11
          have d12 : (w5.alloc (.cells #[.int .u16 0, .bool false, .int .i64 0, .bool false, .bool false, .bool false, .bool false, .bool false, .bool false, .int .i64 0, .int .i64 0, .int .i64 0, .int .i64 0, .int .i64 0] 45)).cell? ⟨q, 12, none⟩ = some (.int .i64 a.c2) := HB.out.cell 12
          have d13 : (w5.alloc (.cells #[.int .u16 0, .bool false, .int .i64 0, .bool false, .bool false, .bool false, .bool false, .bool false, .bool false, .int .i64 0, .int .i64 0, .int .i64 0, .int .i64 0, .int .i64 0] 45)).cell? ⟨q, 13, none⟩ = some (.int .i64 a.c3) := HB.out.cell 13
          clear hpq
          go_wp2_with fail
          go_ret
          exact ⟨rfl, HA.out.2.below (fun _ h => h.elim) (Nat.le_of_eq (by rw [HP.out]))⟩
        · have hqq : ∀ w, (Go.binOp .eql 45 (.agg #[.int .u16 a.id, .bool a.resp, .int .i64 a.op, .bool a.aa, .bool a.tc, .bool a.rd, .bool a.ra, .bool a.ad, .bool a.cd, .int .i64 a.rc, .int .i64 a.c0, .int .i64 a.c1, .int .i64 a.c2, .int .i64 a.c3]) (.agg #[.int .u16 b.id, .bool b.resp, .int .i64 b.op, .bool b.aa, .bool b.tc, .bool b.rd, .bool b.ra, .bool b.ad, .bool b.cd, .int .i64 b.rc, .int .i64 b.c0, .int .i64 b.c1, .int .i64 b.c2, .int .i64 b.c3])).run Try.prog w = .ok (.bool false) w := fun w => (hd_eql a b HKA.out HKB.out w).trans (by simp [hab])
          have hne : (a.put.toList == b.put.toList) = false := by
            rw [beq_eq_false_iff_ne, ByteArray.toList_eq, ByteArray.toList_eq]
            intro h
            exact hab (hpq.1 (ByteArray.ext (Array.toList_inj.1 h)))
          have c0 : (w5.alloc (.cells #[.int .u16 0, .bool false, .int .i64 0, .bool false, .bool false, .bool false, .bool false, .bool false, .bool false, .int .i64 0, .int .i64 0, .int .i64 0, .int .i64 0, .int .i64 0] 45)).cell? ⟨p, 0, none⟩ = some (.int .u16 a.id) := HA.out.1.cell 0
          have c1 : (w5.alloc (.cells #[.int .u16 0, .bool false, .int .i64 0, .bool false, .bool false, .bool false, .bool false, .bool false, .bool false, .int .i64 0, .int .i64 0, .int .i64 0, .int .i64 0, .int .i64 0] 45)).cell? ⟨p, 1, none⟩ = some (.bool a.resp) := HA.out.1.cell 1
          have c2 : (w5.alloc (.cells #[.int .u16 0, .bool false, .int .i64 0, .bool false, .bool false, .bool false, .bool false, .bool false, .bool false, .int .i64 0, .int .i64 0, .int .i64 0, .int .i64 0, .int .i64 0] 45)).cell? ⟨p, 2, none⟩ = some (.int .i64 a.op) := HA.out.1.cell 2
          have c3 : (w5.alloc (.cells #[.int .u16 0, .bool false, .int .i64 0, .bool false, .bool false, .bool false, .bool false, .bool false, .bool false, .int .i64 0, .int .i64 0, .int .i64 0, .int .i64 0, .int .i64 0] 45)).cell? ⟨p, 3, none⟩ = some (.bool a.aa) := HA.out.1.cell 3
          have c4 : (w5.alloc (.cells #[.int .u16 0, .bool false, .int .i64 0, .bool false, .bool false, .bool false, .bool false, .bool false, .bool false, .int .i64 0, .int .i64 0, .int .i64 0, .int .i64 0, .int .i64 0] 45)).cell? ⟨p, 4, none⟩ = some (.bool a.tc) := HA.out.1.cell 4
          have c5 : (w5.alloc (.cells #[.int .u16 0, .bool false, .int .i64 0, .bool false, .bool false, .bool false, .bool false, .bool false, .bool false, .int .i64 0, .int .i64 0, .int .i64 0, .int .i64 0, .int .i64 0] 45)).cell? ⟨p, 5, none⟩ = some (.bool a.rd) := HA.out.1.cell 5
          have c6 : (w5.alloc (.cells #[.int .u16 0, .bool false, .int .i64 0, .bool false, .bool false, .bool false, .bool false, .bool false, .bool false, .int .i64 0, .int .i64 0, .int .i64 0, .int .i64 0, .int .i64 0] 45)).cell? ⟨p, 6, none⟩ = some (.bool a.ra) := HA.out.1.cell 6
          have c7 : (w5.alloc (.cells #[.int .u16 0, .bool false, .int .i64 0, .bool false, .bool false, .bool false, .bool false, .bool false, .bool false, .int .i64 0, .int .i64 0, .int .i64 0, .int .i64 0, .int .i64 0] 45)).cell? ⟨p, 7, none⟩ = some (.bool a.ad) := HA.out.1.cell 7
          have c8 : (w5.alloc (.cells #[.int .u16 0, .bool false, .int .i64 0, .bool false, .bool false, .bool false, .bool false, .bool false, .bool false, .int .i64 0, .int .i64 0, .int .i64 0, .int .i64 0, .int .i64 0] 45)).cell? ⟨p, 8, none⟩ = some (.bool a.cd) := HA.out.1.cell 8
          have c9 : (w5.alloc (.cells #[.int .u16 0, .bool false, .int .i64 0, .bool false, .bool false, .bool false, .bool false, .bool false, .bool false, .int .i64 0, .int .i64 0, .int .i64 0, .int .i64 0, .int .i64 0] 45)).cell? ⟨p, 9, none⟩ = some (.int .i64 a.rc) := HA.out.1.cell 9
          have c10 : (w5.alloc (.cells #[.int .u16 0, .bool false, .int .i64 0, .bool false, .bool false, .bool false, .bool false, .bool false, .bool false, .int .i64 0, .int .i64 0, .int .i64 0, .int .i64 0, .int .i64 0] 45)).cell? ⟨p, 10, none⟩ = some (.int .i64 a.c0) := HA.out.1.cell 10
          have c11 : (w5.alloc (.cells #[.int .u16 0, .bool false, .int .i64 0, .bool false, .bool false, .bool false, .bool false, .bool false, .bool false, .int .i64 0, .int .i64 0, .int .i64 0, .int .i64 0, .int .i64 0] 45)).cell? ⟨p, 11, none⟩ = some (.int .i64 a.c1) := HA.out.1.cell 11
          have c12 : (w5.alloc (.cells #[.int .u16 0, .bool false, .int .i64 0, .bool false, .bool false, .bool false, .bool false, .bool false, .bool false, .int .i64 0, .int .i64 0, .int .i64 0, .int .i64 0, .int .i64 0] 45)).cell? ⟨p, 12, none⟩ = some (.int .i64 a.c2) := HA.out.1.cell 12
          have c13 : (w5.alloc (.cells #[.int .u16 0, .bool false, .int .i64 0, .bool false, .bool false, .bool false, .bool false, .bool false, .bool false, .int .i64 0, .int .i64 0, .int .i64 0, .int .i64 0, .int .i64 0] 45)).cell? ⟨p, 13, none⟩ = some (.int .i64 a.c3) := HA.out.1.cell 13
          have d0 : (w5.alloc (.cells #[.int .u16 0, .bool false, .int .i64 0, .bool false, .bool false, .bool false, .bool false, .bool false, .bool false, .int .i64 0, .int .i64 0, .int .i64 0, .int .i64 0, .int .i64 0] 45)).cell? ⟨q, 0, none⟩ = some (.int .u16 b.id) := HB.out.cell 0
          have d1 : (w5.alloc (.cells #[.int .u16 0, .bool false, .int .i64 0, .bool false, .bool false, .bool false, .bool false, .bool false, .bool false, .int .i64 0, .int .i64 0, .int .i64 0, .int .i64 0, .int .i64 0] 45)).cell? ⟨q, 1, none⟩ = some (.bool b.resp) := HB.out.cell 1
          have d2 : (w5.alloc (.cells #[.int .u16 0, .bool false, .int .i64 0, .bool false, .bool false, .bool false, .bool false, .bool false, .bool false, .int .i64 0, .int .i64 0, .int .i64 0, .int .i64 0, .int .i64 0] 45)).cell? ⟨q, 2, none⟩ = some (.int .i64 b.op) := HB.out.cell 2
          have d3 : (w5.alloc (.cells #[.int .u16 0, .bool false, .int .i64 0, .bool false, .bool false, .bool false, .bool false, .bool false, .bool false, .int .i64 0, .int .i64 0, .int .i64 0, .int .i64 0, .int .i64 0] 45)).cell? ⟨q, 3, none⟩ = some (.bool b.aa) := HB.out.cell 3
          have d4 : (w5.alloc (.cells #[.int .u16 0, .bool false, .int .i64 0, .bool false, .bool false, .bool false, .bool false, .bool false, .bool false, .int .i64 0, .int .i64 0, .int .i64 0, .int .i64 0, .int .i64 0] 45)).cell? ⟨q, 4, none⟩ = some (.bool b.tc) := HB.out.cell 4
          have d5 : (w5.alloc (.cells #[.int .u16 0, .bool false, .int .i64 0, .bool false, .bool false, .bool false, .bool false, .bool false, .bool false, .int .i64 0, .int .i64 0, .int .i64 0, .int .i64 0, .int .i64 0] 45)).cell? ⟨q, 5, none⟩ = some (.bool b.rd) := HB.out.cell 5
          have d6 : (w5.alloc (.cells #[.int .u16 0, .bool false, .int .i64 0, .bool false, .bool false, .bool false, .bool false, .bool false, .bool false, .int .i64 0, .int .i64 0, .int .i64 0, .int .i64 0, .int .i64 0] 45)).cell? ⟨q, 6, none⟩ = some (.bool b.ra) := HB.out.cell 6
          have d7 : (w5.alloc (.cells #[.int .u16 0, .bool false, .int .i64 0, .bool false, .bool false, .bool false, .bool false, .bool false, .bool false, .int .i64 0, .int .i64 0, .int .i64 0, .int .i64 0, .int .i64 0] 45)).cell? ⟨q, 7, none⟩ = some (.bool b.ad) := HB.out.cell 7
          have d8 : (w5.alloc (.cells #[.int .u16 0, .bool false, .int .i64 0, .bool false, .bool false, .bool false, .bool false, .bool false, .bool false, .int .i64 0, .int .i64 0, .int .i64 0, .int .i64 0, .int .i64 0] 45)).cell? ⟨q, 8, none⟩ = some (.bool b.cd) := HB.out.cell 8
          have d9 : (w5.alloc (.cells #[.int .u16 0, .bool false, .int .i64 0, .bool false, .bool false, .bool false, .bool false, .bool false, .bool false, .int .i64 0, .int .i64 0, .int .i64 0, .int .i64 0, .int .i64 0] 45)).cell? ⟨q, 9, none⟩ = some (.int .i64 b.rc) := HB.out.cell 9
          have d10 : (w5.alloc (.cells #[.int .u16 0, .bool false, .int .i64 0, .bool false, .bool false, .bool false, .bool false, .bool false, .bool false, .int .i64 0, .int .i64 0, .int .i64 0, .int .i64 0, .int .i64 0] 45)).cell? ⟨q, 10, none⟩ = some (.int .i64 b.c0) := HB.out.cell 10
          have d11 : (w5.alloc (.cells #[.int .u16 0, .bool false, .int .i64 0, .bool false, .bool false, .bool false, .bool false, .bool false, .bool false, .int .i64 0, .int .i64 0, .int .i64 0, .int .i64 0, .int .i64 0] 45)).cell? ⟨q, 11, none⟩ = some (.int .i64 b.c1) := HB.out.cell 11
          have d12 : (w5.alloc (.cells #[.int .u16 0, .bool false, .int .i64 0, .bool false, .bool false, .bool false, .bool false, .bool false, .bool false, .int .i64 0, .int .i64 0, .int .i64 0, .int .i64 0, .int .i64 0] 45)).cell? ⟨q, 12, none⟩ = some (.int .i64 b.c2) := HB.out.cell 12
          have d13 : (w5.alloc (.cells #[.int .u16 0, .bool false, .int .i64 0, .bool false, .bool false, .bool false, .bool false, .bool false, .bool false, .int .i64 0, .int .i64 0, .int .i64 0, .int .i64 0, .int .i64 0] 45)).cell? ⟨q, 13, none⟩ = some (.int .i64 b.c3) := HB.out.cell 13
          clear hpq
          go_wp2_with fail
          go_ret
          exact ⟨rfl, HA.out.2.below (fun _ h => h.elim) (Nat.le_of_eq (by rw [HP.out]))⟩
      · rw [hr]
        have hm : ((m : Int) / 8 == 3) = false ∨ ((m : Int) / 8 == 3) = true ∧ ((m : Int) % 8 == 6) = false := by
          by_cases h3 : m / 8 = 3
          · refine .inr ⟨by simp; omega, by simp; omega⟩
          · exact .inl (by simp; omega)
        clear hij hr
        rcases hm with hm1 | ⟨hm1, hm2⟩
        all_goals
          replace HA := Lib.hid (HA.out.alloc (.cells #[.int .u16 y.id, .bool y.resp, .int .i64 y.op, .bool y.aa, .bool y.tc, .bool y.rd, .bool y.ra, .bool y.ad, .bool y.cd, .int .i64 y.rc, .int .i64 y.c0, .int .i64 y.c1, .int .i64 y.c2, .int .i64 y.c3] 45))
          replace HB := Lib.hid (HB.out.alloc (.cells #[.int .u16 y.id, .bool y.resp, .int .i64 y.op, .bool y.aa, .bool y.tc, .bool y.rd, .bool y.ra, .bool y.ad, .bool y.cd, .int .i64 y.rc, .int .i64 y.c0, .int .i64 y.c1, .int .i64 y.c2, .int .i64 y.c3] 45))
          by_cases hab : a = b
          · subst hab
            have hqq : ∀ w, (Go.binOp .eql 45 (.agg #[.int .u16 a.id, .bool a.resp, .int .i64 a.op, .bool a.aa, .bool a.tc, .bool a.rd, .bool a.ra, .bool a.ad, .bool a.cd, .int .i64 a.rc, .int .i64 a.c0, .int .i64 a.c1, .int .i64 a.c2, .int .i64 a.c3]) (.agg #[.int .u16 a.id, .bool a.resp, .int .i64 a.op, .bool a.aa, .bool a.tc, .bool a.rd, .bool a.ra, .bool a.ad, .bool a.cd, .int .i64 a.rc, .int .i64 a.c0, .int .i64 a.c1, .int .i64 a.c2, .int .i64 a.c3])).run Try.prog w = .ok (.bool true) w := fun w => (hd_eql a a HKA.out HKA.out w).trans (by simp)
            have hyq : ∀ w, (Go.binOp .neq 45 (.agg #[.int .u16 y.id, .bool y.resp, .int .i64 y.op, .bool y.aa, .bool y.tc, .bool y.rd, .bool y.ra, .bool y.ad, .bool y.cd, .int .i64 y.rc, .int .i64 y.c0, .int .i64 y.c1, .int .i64 y.c2, .int .i64 y.c3]) (.agg #[.int .u16 a.id, .bool a.resp, .int .i64 a.op, .bool a.aa, .bool a.tc, .bool a.rd, .bool a.ra, .bool a.ad, .bool a.cd, .int .i64 a.rc, .int .i64 a.c0, .int .i64 a.c1, .int .i64 a.c2, .int .i64 a.c3])).run Try.prog w = .ok (.bool true) w := fun w => (hd_neq y a hyok HKA.out w).trans (by simp [hya])
            have c0 : (w5.alloc (.cells #[.int .u16 y.id, .bool y.resp, .int .i64 y.op, .bool y.aa, .bool y.tc, .bool y.rd, .bool y.ra, .bool y.ad, .bool y.cd, .int .i64 y.rc, .int .i64 y.c0, .int .i64 y.c1, .int .i64 y.c2, .int .i64 y.c3] 45)).cell? ⟨p, 0, none⟩ = some (.int .u16 a.id) := HA.out.1.cell 0
            have c1 : (w5.alloc (.cells #[.int .u16 y.id, .bool y.resp, .int .i64 y.op, .bool y.aa, .bool y.tc, .bool y.rd, .bool y.ra, .bool y.ad, .bool y.cd, .int .i64 y.rc, .int .i64 y.c0, .int .i64 y.c1, .int .i64 y.c2, .int .i64 y.c3] 45)).cell? ⟨p, 1, none⟩ = some (.bool a.resp) := HA.out.1.cell 1
            have c2 : (w5.alloc (.cells #[.int .u16 y.id, .bool y.resp, .int .i64 y.op, .bool y.aa, .bool y.tc, .bool y.rd, .bool y.ra, .bool y.ad, .bool y.cd, .int .i64 y.rc, .int .i64 y.c0, .int .i64 y.c1, .int .i64 y.c2, .int .i64 y.c3] 45)).cell? ⟨p, 2, none⟩ = some (.int .i64 a.op) := HA.out.1.cell 2
            have c3 : (w5.alloc (.cells #[.int .u16 y.id, .bool y.resp, .int .i64 y.op, .bool y.aa, .bool y.tc, .bool y.rd, .bool y.ra, .bool y.ad, .bool y.cd, .int .i64 y.rc, .int .i64 y.c0, .int .i64 y.c1, .int .i64 y.c2, .int .i64 y.c3] 45)).cell? ⟨p, 3, none⟩ = some (.bool a.aa) := HA.out.1.cell 3
            have c4 : (w5.alloc (.cells #[.int .u16 y.id, .bool y.resp, .int .i64 y.op, .bool y.aa, .bool y.tc, .bool y.rd, .bool y.ra, .bool y.ad, .bool y.cd, .int .i64 y.rc, .int .i64 y.c0, .int .i64 y.c1, .int .i64 y.c2, .int .i64 y.c3] 45)).cell? ⟨p, 4, none⟩ = some (.bool a.tc) := HA.out.1.cell 4
            have c5 : (w5.alloc (.cells #[.int .u16 y.id, .bool y.resp, .int .i64 y.op, .bool y.aa, .bool y.tc, .bool y.rd, .bool y.ra, .bool y.ad, .bool y.cd, .int .i64 y.rc, .int .i64 y.c0, .int .i64 y.c1, .int .i64 y.c2, .int .i64 y.c3] 45)).cell? ⟨p, 5, none⟩ = some (.bool a.rd) := HA.out.1.cell 5
            have c6 : (w5.alloc (.cells #[.int .u16 y.id, .bool y.resp, .int .i64 y.op, .bool y.aa, .bool y.tc, .bool y.rd, .bool y.ra, .bool y.ad, .bool y.cd, .int .i64 y.rc, .int .i64 y.c0, .int .i64 y.c1, .int .i64 y.c2, .int .i64 y.c3] 45)).cell? ⟨p, 6, none⟩ = some (.bool a.ra) := HA.out.1.cell 6
            have c7 : (w5.alloc (.cells #[.int .u16 y.id, .bool y.resp, .int .i64 y.op, .bool y.aa, .bool y.tc, .bool y.rd, .bool y.ra, .bool y.ad, .bool y.cd, .int .i64 y.rc, .int .i64 y.c0, .int .i64 y.c1, .int .i64 y.c2, .int .i64 y.c3] 45)).cell? ⟨p, 7, none⟩ = some (.bool a.ad) := HA.out.1.cell 7
            have c8 : (w5.alloc (.cells #[.int .u16 y.id, .bool y.resp, .int .i64 y.op, .bool y.aa, .bool y.tc, .bool y.rd, .bool y.ra, .bool y.ad, .bool y.cd, .int .i64 y.rc, .int .i64 y.c0, .int .i64 y.c1, .int .i64 y.c2, .int .i64 y.c3] 45)).cell? ⟨p, 8, none⟩ = some (.bool a.cd) := HA.out.1.cell 8
            have c9 : (w5.alloc (.cells #[.int .u16 y.id, .bool y.resp, .int .i64 y.op, .bool y.aa, .bool y.tc, .bool y.rd, .bool y.ra, .bool y.ad, .bool y.cd, .int .i64 y.rc, .int .i64 y.c0, .int .i64 y.c1, .int .i64 y.c2, .int .i64 y.c3] 45)).cell? ⟨p, 9, none⟩ = some (.int .i64 a.rc) := HA.out.1.cell 9
            have c10 : (w5.alloc (.cells #[.int .u16 y.id, .bool y.resp, .int .i64 y.op, .bool y.aa, .bool y.tc, .bool y.rd, .bool y.ra, .bool y.ad, .bool y.cd, .int .i64 y.rc, .int .i64 y.c0, .int .i64 y.c1, .int .i64 y.c2, .int .i64 y.c3] 45)).cell? ⟨p, 10, none⟩ = some (.int .i64 a.c0) := HA.out.1.cell 10
            have c11 : (w5.alloc (.cells #[.int .u16 y.id, .bool y.resp, .int .i64 y.op, .bool y.aa, .bool y.tc, .bool y.rd, .bool y.ra, .bool y.ad, .bool y.cd, .int .i64 y.rc, .int .i64 y.c0, .int .i64 y.c1, .int .i64 y.c2, .int .i64 y.c3] 45)).cell? ⟨p, 11, none⟩ = some (.int .i64 a.c1) := HA.out.1.cell 11
            have c12 : (w5.alloc (.cells #[.int .u16 y.id, .bool y.resp, .int .i64 y.op, .bool y.aa, .bool y.tc, .bool y.rd, .bool y.ra, .bool y.ad, .bool y.cd, .int .i64 y.rc, .int .i64 y.c0, .int .i64 y.c1, .int .i64 y.c2, .int .i64 y.c3] 45)).cell? ⟨p, 12, none⟩ = some (.int .i64 a.c2) := HA.out.1.cell 12
            have c13 : (w5.alloc (.cells #[.int .u16 y.id, .bool y.resp, .int .i64 y.op, .bool y.aa, .bool y.tc, .bool y.rd, .bool y.ra, .bool y.ad, .bool y.cd, .int .i64 y.rc, .int .i64 y.c0, .int .i64 y.c1, .int .i64 y.c2, .int .i64 y.c3] 45)).cell? ⟨p, 13, none⟩ = some (.int .i64 a.c3) := HA.out.1.cell 13
            have d0 : (w5.alloc (.cells #[.int .u16 y.id, .bool y.resp, .int .i64 y.op, .bool y.aa, .bool y.tc, .bool y.rd, .bool y.ra, .bool y.ad, .bool y.cd, .int .i64 y.rc, .int .i64 y.c0, .int .i64 y.c1, .int .i64 y.c2, .int .i64 y.c3] 45)).cell? ⟨q, 0, none⟩ = some (.int .u16 a.id) := HB.out.cell 0
            have d1 : (w5.alloc (.cells #[.int .u16 y.id, .bool y.resp, .int .i64 y.op, .bool y.aa, .bool y.tc, .bool y.rd, .bool y.ra, .bool y.ad, .bool y.cd, .int .i64 y.rc, .int .i64 y.c0, .int .i64 y.c1, .int .i64 y.c2, .int .i64 y.c3] 45)).cell? ⟨q, 1, none⟩ = some (.bool a.resp) := HB.out.cell 1
            have d2 : (w5.alloc (.cells #[.int .u16 y.id, .bool y.resp, .int .i64 y.op, .bool y.aa, .bool y.tc, .bool y.rd, .bool y.ra, .bool y.ad, .bool y.cd, .int .i64 y.rc, .int .i64 y.c0, .int .i64 y.c1, .int .i64 y.c2, .int .i64 y.c3] 45)).cell? ⟨q, 2, none⟩ = some (.int .i64 a.op) := HB.out.cell 2
            have d3 : (w5.alloc (.cells #[.int .u16 y.id, .bool y.resp, .int .i64 y.op, .bool y.aa, .bool y.tc, .bool y.rd, .bool y.ra, .bool y.ad, .bool y.cd, .int .i64 y.rc, .int .i64 y.c0, .int .i64 y.c1, .int .i64 y.c2, .int .i64 y.c3] 45)).cell? ⟨q, 3, none⟩ = some (.bool a.aa) := HB.out.cell 3
            have d4 : (w5.alloc (.cells #[.int .u16 y.id, .bool y.resp, .int .i64 y.op, .bool y.aa, .bool y.tc, .bool y.rd, .bool y.ra, .bool y.ad, .bool y.cd, .int .i64 y.rc, .int .i64 y.c0, .int .i64 y.c1, .int .i64 y.c2, .int .i64 y.c3] 45)).cell? ⟨q, 4, none⟩ = some (.bool a.tc) := HB.out.cell 4
            have d5 : (w5.alloc (.cells #[.int .u16 y.id, .bool y.resp, .int .i64 y.op, .bool y.aa, .bool y.tc, .bool y.rd, .bool y.ra, .bool y.ad, .bool y.cd, .int .i64 y.rc, .int .i64 y.c0, .int .i64 y.c1, .int .i64 y.c2, .int .i64 y.c3] 45)).cell? ⟨q, 5, none⟩ = some (.bool a.rd) := HB.out.cell 5
            have d6 : (w5.alloc (.cells #[.int .u16 y.id, .bool y.resp, .int .i64 y.op, .bool y.aa, .bool y.tc, .bool y.rd, .bool y.ra, .bool y.ad, .bool y.cd, .int .i64 y.rc, .int .i64 y.c0, .int .i64 y.c1, .int .i64 y.c2, .int .i64 y.c3] 45)).cell? ⟨q, 6, none⟩ = some (.bool a.ra) := HB.out.cell 6
            have d7 : (w5.alloc (.cells #[.int .u16 y.id, .bool y.resp, .int .i64 y.op, .bool y.aa, .bool y.tc, .bool y.rd, .bool y.ra, .bool y.ad, .bool y.cd, .int .i64 y.rc, .int .i64 y.c0, .int .i64 y.c1, .int .i64 y.c2, .int .i64 y.c3] 45)).cell? ⟨q, 7, none⟩ = some (.bool a.ad) := HB.out.cell 7
            have d8 : (w5.alloc (.cells #[.int .u16 y.id, .bool y.resp, .int .i64 y.op, .bool y.aa, .bool y.tc, .bool y.rd, .bool y.ra, .bool y.ad, .bool y.cd, .int .i64 y.rc, .int .i64 y.c0, .int .i64 y.c1, .int .i64 y.c2, .int .i64 y.c3] 45)).cell? ⟨q, 8, none⟩ = some (.bool a.cd) := HB.out.cell 8
            have d9 : (w5.alloc (.cells #[.int .u16 y.id, .bool y.resp, .int .i64 y.op, .bool y.aa, .bool y.tc, .bool y.rd, .bool y.ra, .bool y.ad, .bool y.cd, .int .i64 y.rc, .int .i64 y.c0, .int .i64 y.c1, .int .i64 y.c2, .int .i64 y.c3] 45)).cell? ⟨q, 9, none⟩ = some (.int .i64 a.rc) := HB.out.cell 9
            have d10 : (w5.alloc (.cells #[.int .u16 y.id, .bool y.resp, .int .i64 y.op, .bool y.aa, .bool y.tc, .bool y.rd, .bool y.ra, .bool y.ad, .bool y.cd, .int .i64 y.rc, .int .i64 y.c0, .int .i64 y.c1, .int .i64 y.c2, .int .i64 y.c3] 45)).cell? ⟨q, 10, none⟩ = some (.int .i64 a.c0) := HB.out.cell 10
            have d11 : (w5.alloc (.cells #[.int .u16 y.id, .bool y.resp, .int .i64 y.op, .bool y.aa, .bool y.tc, .bool y.rd, .bool y.ra, .bool y.ad, .bool y.cd, .int .i64 y.rc, .int .i64 y.c0, .int .i64 y.c1, .int .i64 y.c2, .int .i64 y.c3] 45)).cell? ⟨q, 11, none⟩ = some (.int .i64 a.c1) := HB.out.cell 11
            have d12 : (w5.alloc (.cells #[.int .u16 y.id, .bool y.resp, .int .i64 y.op, .bool y.aa, .bool y.tc, .bool y.rd, .bool y.ra, .bool y.ad, .bool y.cd, .int .i64 y.rc, .int .i64 y.c0, .int .i64 y.c1, .int .i64 y.c2, .int .i64 y.c3] 45)).cell? ⟨q, 12, none⟩ = some (.int .i64 a.c2) := HB.out.cell 12
            have d13 : (w5.alloc (.cells #[.int .u16 y.id, .bool y.resp, .int .i64 y.op, .bool y.aa, .bool y.tc, .bool y.rd, .bool y.ra, .bool y.ad, .bool y.cd, .int .i64 y.rc, .int .i64 y.c0, .int .i64 y.c1, .int .i64 y.c2, .int .i64 y.c3] 45)).cell? ⟨q, 13, none⟩ = some (.int .i64 a.c3) := HB.out.cell 13
            clear hpq HF
            go_wp2_with fail
            go_ret
            exact ⟨rfl, HA.out.2.below (fun _ h => h.elim) (Nat.le_of_eq (by rw [HP.out]))⟩
          · have hqq : ∀ w, (Go.binOp .eql 45 (.agg #[.int .u16 a.id, .bool a.resp, .int .i64 a.op, .bool a.aa, .bool a.tc, .bool a.rd, .bool a.ra, .bool a.ad, .bool a.cd, .int .i64 a.rc, .int .i64 a.c0, .int .i64 a.c1, .int .i64 a.c2, .int .i64 a.c3]) (.agg #[.int .u16 b.id, .bool b.resp, .int .i64 b.op, .bool b.aa, .bool b.tc, .bool b.rd, .bool b.ra, .bool b.ad, .bool b.cd, .int .i64 b.rc, .int .i64 b.c0, .int .i64 b.c1, .int .i64 b.c2, .int .i64 b.c3])).run Try.prog w = .ok (.bool false) w := fun w => (hd_eql a b HKA.out HKB.out w).trans (by simp [hab])
            have hne : (a.put.toList == b.put.toList) = false := by
              rw [beq_eq_false_iff_ne, ByteArray.toList_eq, ByteArray.toList_eq]
              intro h
              exact hab (hpq.1 (ByteArray.ext (Array.toList_inj.1 h)))
            have hyq : ∀ w, (Go.binOp .neq 45 (.agg #[.int .u16 y.id, .bool y.resp, .int .i64 y.op, .bool y.aa, .bool y.tc, .bool y.rd, .bool y.ra, .bool y.ad, .bool y.cd, .int .i64 y.rc, .int .i64 y.c0, .int .i64 y.c1, .int .i64 y.c2, .int .i64 y.c3]) (.agg #[.int .u16 a.id, .bool a.resp, .int .i64 a.op, .bool a.aa, .bool a.tc, .bool a.rd, .bool a.ra, .bool a.ad, .bool a.cd, .int .i64 a.rc, .int .i64 a.c0, .int .i64 a.c1, .int .i64 a.c2, .int .i64 a.c3])).run Try.prog w = .ok (.bool true) w := fun w => (hd_neq y a hyok HKA.out w).trans (by simp [hya])
            have c0 : (w5.alloc (.cells #[.int .u16 y.id, .bool y.resp, .int .i64 y.op, .bool y.aa, .bool y.tc, .bool y.rd, .bool y.ra, .bool y.ad, .bool y.cd, .int .i64 y.rc, .int .i64 y.c0, .int .i64 y.c1, .int .i64 y.c2, .int .i64 y.c3] 45)).cell? ⟨p, 0, none⟩ = some (.int .u16 a.id) := HA.out.1.cell 0
            have c1 : (w5.alloc (.cells #[.int .u16 y.id, .bool y.resp, .int .i64 y.op, .bool y.aa, .bool y.tc, .bool y.rd, .bool y.ra, .bool y.ad, .bool y.cd, .int .i64 y.rc, .int .i64 y.c0, .int .i64 y.c1, .int .i64 y.c2, .int .i64 y.c3] 45)).cell? ⟨p, 1, none⟩ = some (.bool a.resp) := HA.out.1.cell 1
            have c2 : (w5.alloc (.cells #[.int .u16 y.id, .bool y.resp, .int .i64 y.op, .bool y.aa, .bool y.tc, .bool y.rd, .bool y.ra, .bool y.ad, .bool y.cd, .int .i64 y.rc, .int .i64 y.c0, .int .i64 y.c1, .int .i64 y.c2, .int .i64 y.c3] 45)).cell? ⟨p, 2, none⟩ = some (.int .i64 a.op) := HA.out.1.cell 2
            have c3 : (w5.alloc (.cells #[.int .u16 y.id, .bool y.resp, .int .i64 y.op, .bool y.aa, .bool y.tc, .bool y.rd, .bool y.ra, .bool y.ad, .bool y.cd, .int .i64 y.rc, .int .i64 y.c0, .int .i64 y.c1, .int .i64 y.c2, .int .i64 y.c3] 45)).cell? ⟨p, 3, none⟩ = some (.bool a.aa) := HA.out.1.cell 3
            have c4 : (w5.alloc (.cells #[.int .u16 y.id, .bool y.resp, .int .i64 y.op, .bool y.aa, .bool y.tc, .bool y.rd, .bool y.ra, .bool y.ad, .bool y.cd, .int .i64 y.rc, .int .i64 y.c0, .int .i64 y.c1, .int .i64 y.c2, .int .i64 y.c3] 45)).cell? ⟨p, 4, none⟩ = some (.bool a.tc) := HA.out.1.cell 4
            have c5 : (w5.alloc (.cells #[.int .u16 y.id, .bool y.resp, .int .i64 y.op, .bool y.aa, .bool y.tc, .bool y.rd, .bool y.ra, .bool y.ad, .bool y.cd, .int .i64 y.rc, .int .i64 y.c0, .int .i64 y.c1, .int .i64 y.c2, .int .i64 y.c3] 45)).cell? ⟨p, 5, none⟩ = some (.bool a.rd) := HA.out.1.cell 5
            have c6 : (w5.alloc (.cells #[.int .u16 y.id, .bool y.resp, .int .i64 y.op, .bool y.aa, .bool y.tc, .bool y.rd, .bool y.ra, .bool y.ad, .bool y.cd, .int .i64 y.rc, .int .i64 y.c0, .int .i64 y.c1, .int .i64 y.c2, .int .i64 y.c3] 45)).cell? ⟨p, 6, none⟩ = some (.bool a.ra) := HA.out.1.cell 6
            have c7 : (w5.alloc (.cells #[.int .u16 y.id, .bool y.resp, .int .i64 y.op, .bool y.aa, .bool y.tc, .bool y.rd, .bool y.ra, .bool y.ad, .bool y.cd, .int .i64 y.rc, .int .i64 y.c0, .int .i64 y.c1, .int .i64 y.c2, .int .i64 y.c3] 45)).cell? ⟨p, 7, none⟩ = some (.bool a.ad) := HA.out.1.cell 7
            have c8 : (w5.alloc (.cells #[.int .u16 y.id, .bool y.resp, .int .i64 y.op, .bool y.aa, .bool y.tc, .bool y.rd, .bool y.ra, .bool y.ad, .bool y.cd, .int .i64 y.rc, .int .i64 y.c0, .int .i64 y.c1, .int .i64 y.c2, .int .i64 y.c3] 45)).cell? ⟨p, 8, none⟩ = some (.bool a.cd) := HA.out.1.cell 8
            have c9 : (w5.alloc (.cells #[.int .u16 y.id, .bool y.resp, .int .i64 y.op, .bool y.aa, .bool y.tc, .bool y.rd, .bool y.ra, .bool y.ad, .bool y.cd, .int .i64 y.rc, .int .i64 y.c0, .int .i64 y.c1, .int .i64 y.c2, .int .i64 y.c3] 45)).cell? ⟨p, 9, none⟩ = some (.int .i64 a.rc) := HA.out.1.cell 9
            have c10 : (w5.alloc (.cells #[.int .u16 y.id, .bool y.resp, .int .i64 y.op, .bool y.aa, .bool y.tc, .bool y.rd, .bool y.ra, .bool y.ad, .bool y.cd, .int .i64 y.rc, .int .i64 y.c0, .int .i64 y.c1, .int .i64 y.c2, .int .i64 y.c3] 45)).cell? ⟨p, 10, none⟩ = some (.int .i64 a.c0) := HA.out.1.cell 10
            have c11 : (w5.alloc (.cells #[.int .u16 y.id, .bool y.resp, .int .i64 y.op, .bool y.aa, .bool y.tc, .bool y.rd, .bool y.ra, .bool y.ad, .bool y.cd, .int .i64 y.rc, .int .i64 y.c0, .int .i64 y.c1, .int .i64 y.c2, .int .i64 y.c3] 45)).cell? ⟨p, 11, none⟩ = some (.int .i64 a.c1) := HA.out.1.cell 11
            have c12 : (w5.alloc (.cells #[.int .u16 y.id, .bool y.resp, .int .i64 y.op, .bool y.aa, .bool y.tc, .bool y.rd, .bool y.ra, .bool y.ad, .bool y.cd, .int .i64 y.rc, .int .i64 y.c0, .int .i64 y.c1, .int .i64 y.c2, .int .i64 y.c3] 45)).cell? ⟨p, 12, none⟩ = some (.int .i64 a.c2) := HA.out.1.cell 12
            have c13 : (w5.alloc (.cells #[.int .u16 y.id, .bool y.resp, .int .i64 y.op, .bool y.aa, .bool y.tc, .bool y.rd, .bool y.ra, .bool y.ad, .bool y.cd, .int .i64 y.rc, .int .i64 y.c0, .int .i64 y.c1, .int .i64 y.c2, .int .i64 y.c3] 45)).cell? ⟨p, 13, none⟩ = some (.int .i64 a.c3) := HA.out.1.cell 13
            have d0 : (w5.alloc (.cells #[.int .u16 y.id, .bool y.resp, .int .i64 y.op, .bool y.aa, .bool y.tc, .bool y.rd, .bool y.ra, .bool y.ad, .bool y.cd, .int .i64 y.rc, .int .i64 y.c0, .int .i64 y.c1, .int .i64 y.c2, .int .i64 y.c3] 45)).cell? ⟨q, 0, none⟩ = some (.int .u16 b.id) := HB.out.cell 0
            have d1 : (w5.alloc (.cells #[.int .u16 y.id, .bool y.resp, .int .i64 y.op, .bool y.aa, .bool y.tc, .bool y.rd, .bool y.ra, .bool y.ad, .bool y.cd, .int .i64 y.rc, .int .i64 y.c0, .int .i64 y.c1, .int .i64 y.c2, .int .i64 y.c3] 45)).cell? ⟨q, 1, none⟩ = some (.bool b.resp) := HB.out.cell 1
            have d2 : (w5.alloc (.cells #[.int .u16 y.id, .bool y.resp, .int .i64 y.op, .bool y.aa, .bool y.tc, .bool y.rd, .bool y.ra, .bool y.ad, .bool y.cd, .int .i64 y.rc, .int .i64 y.c0, .int .i64 y.c1, .int .i64 y.c2, .int .i64 y.c3] 45)).cell? ⟨q, 2, none⟩ = some (.int .i64 b.op) := HB.out.cell 2
            have d3 : (w5.alloc (.cells #[.int .u16 y.id, .bool y.resp, .int .i64 y.op, .bool y.aa, .bool y.tc, .bool y.rd, .bool y.ra, .bool y.ad, .bool y.cd, .int .i64 y.rc, .int .i64 y.c0, .int .i64 y.c1, .int .i64 y.c2, .int .i64 y.c3] 45)).cell? ⟨q, 3, none⟩ = some (.bool b.aa) := HB.out.cell 3
            have d4 : (w5.alloc (.cells #[.int .u16 y.id, .bool y.resp, .int .i64 y.op, .bool y.aa, .bool y.tc, .bool y.rd, .bool y.ra, .bool y.ad, .bool y.cd, .int .i64 y.rc, .int .i64 y.c0, .int .i64 y.c1, .int .i64 y.c2, .int .i64 y.c3] 45)).cell? ⟨q, 4, none⟩ = some (.bool b.tc) := HB.out.cell 4
            have d5 : (w5.alloc (.cells #[.int .u16 y.id, .bool y.resp, .int .i64 y.op, .bool y.aa, .bool y.tc, .bool y.rd, .bool y.ra, .bool y.ad, .bool y.cd, .int .i64 y.rc, .int .i64 y.c0, .int .i64 y.c1, .int .i64 y.c2, .int .i64 y.c3] 45)).cell? ⟨q, 5, none⟩ = some (.bool b.rd) := HB.out.cell 5
            have d6 : (w5.alloc (.cells #[.int .u16 y.id, .bool y.resp, .int .i64 y.op, .bool y.aa, .bool y.tc, .bool y.rd, .bool y.ra, .bool y.ad, .bool y.cd, .int .i64 y.rc, .int .i64 y.c0, .int .i64 y.c1, .int .i64 y.c2, .int .i64 y.c3] 45)).cell? ⟨q, 6, none⟩ = some (.bool b.ra) := HB.out.cell 6
            have d7 : (w5.alloc (.cells #[.int .u16 y.id, .bool y.resp, .int .i64 y.op, .bool y.aa, .bool y.tc, .bool y.rd, .bool y.ra, .bool y.ad, .bool y.cd, .int .i64 y.rc, .int .i64 y.c0, .int .i64 y.c1, .int .i64 y.c2, .int .i64 y.c3] 45)).cell? ⟨q, 7, none⟩ = some (.bool b.ad) := HB.out.cell 7
            have d8 : (w5.alloc (.cells #[.int .u16 y.id, .bool y.resp, .int .i64 y.op, .bool y.aa, .bool y.tc, .bool y.rd, .bool y.ra, .bool y.ad, .bool y.cd, .int .i64 y.rc, .int .i64 y.c0, .int .i64 y.c1, .int .i64 y.c2, .int .i64 y.c3] 45)).cell? ⟨q, 8, none⟩ = some (.bool b.cd) := HB.out.cell 8
            have d9 : (w5.alloc (.cells #[.int .u16 y.id, .bool y.resp, .int .i64 y.op, .bool y.aa, .bool y.tc, .bool y.rd, .bool y.ra, .bool y.ad, .bool y.cd, .int .i64 y.rc, .int .i64 y.c0, .int .i64 y.c1, .int .i64 y.c2, .int .i64 y.c3] 45)).cell? ⟨q, 9, none⟩ = some (.int .i64 b.rc) := HB.out.cell 9
            have d10 : (w5.alloc (.cells #[.int .u16 y.id, .bool y.resp, .int .i64 y.op, .bool y.aa, .bool y.tc, .bool y.rd, .bool y.ra, .bool y.ad, .bool y.cd, .int .i64 y.rc, .int .i64 y.c0, .int .i64 y.c1, .int .i64 y.c2, .int .i64 y.c3] 45)).cell? ⟨q, 10, none⟩ = some (.int .i64 b.c0) := HB.out.cell 10
            have d11 : (w5.alloc (.cells #[.int .u16 y.id, .bool y.resp, .int .i64 y.op, .bool y.aa, .bool y.tc, .bool y.rd, .bool y.ra, .bool y.ad, .bool y.cd, .int .i64 y.rc, .int .i64 y.c0, .int .i64 y.c1, .int .i64 y.c2, .int .i64 y.c3] 45)).cell? ⟨q, 11, none⟩ = some (.int .i64 b.c1) := HB.out.cell 11
            have d12 : (w5.alloc (.cells #[.int .u16 y.id, .bool y.resp, .int .i64 y.op, .bool y.aa, .bool y.tc, .bool y.rd, .bool y.ra, .bool y.ad, .bool y.cd, .int .i64 y.rc, .int .i64 y.c0, .int .i64 y.c1, .int .i64 y.c2, .int .i64 y.c3] 45)).cell? ⟨q, 12, none⟩ = some (.int .i64 b.c2) := HB.out.cell 12
            have d13 : (w5.alloc (.cells #[.int .u16 y.id, .bool y.resp, .int .i64 y.op, .bool y.aa, .bool y.tc, .bool y.rd, .bool y.ra, .bool y.ad, .bool y.cd, .int .i64 y.rc, .int .i64 y.c0, .int .i64 y.c1, .int .i64 y.c2, .int .i64 y.c3] 45)).cell? ⟨q, 13, none⟩ = some (.int .i64 b.c3) := HB.out.cell 13
            clear hpq HF
            go_wp2_with fail
            go_ret
            exact ⟨rfl, HA.out.2.below (fun _ h => h.elim) (Nat.le_of_eq (by rw [HP.out]))⟩
end Go.Proofs.Ytbemackcdccpaaa
