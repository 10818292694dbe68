/-
  LAYER 7: PackGrows.
-/
import Derived.Test.YtbemackcdccpaaaPpl
import Derived.Test.YtbemackcdccpaaaPgp
import Derived.Test.YtbemackcdccpaaaOpens
namespace Go.Proofs.Ytbemackcdccpaaa
open Go.RowKit Go.Maps

theorem sz_mk (l : List UInt8) : (⟨l.toArray⟩ : ByteArray).size = l.length := by simp [ByteArray.size]
theorem ex_mk (l T : List UInt8) : (⟨(l ++ T).toArray⟩ : ByteArray).extract 0 l.length = ⟨l.toArray⟩ := by
  rw [str_sub, List.drop_zero, Nat.sub_zero, List.take_left]
theorem slice_pre (S W : ByteArray) (h1 : W.size ≤ S.size) (h2 : S.extract 0 W.size = W) (w : World) :
    (Instr.slice 9 (.string S) none (some (.int .i64 (W.size : Int))) none).run Try.prog w = .ok (.string W) w := by
  rw [run_slice_string_h (P := Try.prog) w 9 S Try.underlying9 .i64 _ (by omega) (by omega), Int.toNat_natCast, h2]

set_option maxRecDepth 100000 in
set_option maxHeartbeats 8000000 in
theorem packGrows_walk (A : Option Addr) (cap : Nat) (l : List ByteArray) (A1 : Option Addr) (cap1 : Nat) (l1 : List Bool) (w : World) (h : Strs w A l ∧ (∀ x ∈ l, x.size ≤ maxLen) ∧ l.length ≤ maxLen) (h1 : Bools w A1 l1 ∧ l1.length ≤ maxLen) :
    Calls Try.prog 15 #[.slice A l.length cap, .slice A1 l1.length cap1] w fun e w' => e = .returned (.bool true) ∧ Below w.heap.size w w' := by
  obtain ⟨hA, hxs, hlm⟩ := h
  obtain ⟨hA1, hlm1⟩ := h1
  have HA := Lib.hid hA
  have HA1 := Lib.hid hA1
  have hll : l.length ≤ 9223372036854775807 := by simp only [maxLen] at hlm; omega
  have hll1 : l1.length ≤ 9223372036854775807 := by simp only [maxLen] at hlm1; omega
  have HXS := Lib.hid hxs
  clear hA hlm hA1 hlm1 hxs
  by_cases hl : 60 < l.length
  · go_enter Try.func15, Try.ntmps15
    go_wp2_with fail
    refine (lives7_any _).mono ?_
    rintro e w1 ⟨rfl, f1⟩
    go_wp2_with fail
    go_ret
    exact ⟨rfl, f1.below (fun _ h => h.elim) (Nat.le_refl _)⟩
  · go_enter Try.func15, Try.ntmps15
    go_wp2_with fail
    refine (lives7_any _).mono ?_
    rintro e w1 ⟨rfl, f1⟩
    have F1 := Lib.hid f1
    clear f1
    go_wp2_with fail
    refine (pnew_any 65535 (by decide) _).mono ?_
    rintro e w2 ⟨q, F, rfl, g1, g2, g3⟩
    have H0 : Hid (PPk w2 q F ⟨⟨[], 65535, 0⟩, fun _ => none⟩ [] ∧ (∀ i, F i → w.heap.size ≤ i) ∧ Below w.heap.size w w2) :=
      ⟨g1, fun i hi => Nat.le_trans F1.out.size (g3 i hi), (F1.out.then g2).below (fun _ h => h.elim) (Nat.le_refl _)⟩
    clear g1 g2 g3 F1
    go_wp2_with fail
    go_loopg [6, 7] l.length (fun g was i wr => ∃ (k : Nat) (y : Pk) (F : Nat → Prop) (W : ByteArray), g = l.length - k ∧ k ≤ l.length ∧ i = .int .i64 (k : Nat) ∧ was = .string W ∧ W = ⟨y.x.b.toArray⟩ ∧ PPk wr q F y [] ∧ UG y (256 * k) ∧ (∀ i, F i → w.heap.size ≤ i) ∧ Below w.heap.size w wr)
    case atStart => exact ⟨0, _, F, _, rfl, Nat.zero_le _, rfl, rfl, rfl, H0.out.1, UG.start, H0.out.2⟩
    case round =>
      obtain ⟨k, y, F2, W, rfl, hk, rfl, rfl, hW, u1, u2, u3, u4⟩ := hrel
      by_cases hlt : k < l.length
      · obtain ⟨x, hx⟩ : ∃ x, l[k]? = some x := ⟨l[k], List.getElem?_eq_getElem hlt⟩
        obtain ⟨b, off, rfl, hbs, hc⟩ := HA.out (by rw [List.length_map]; omega)
        have hcx := hc k (.string x) (by rw [List.getElem?_map, hx]; rfl)
        have d0 : wr.cell? ⟨b, off + k, none⟩ = some (.string x) := (u4.cell (p := ⟨b, _, none⟩) hbs).trans hcx
        have HU := Lib.hid (And.intro u1 (And.intro u2 (And.intro u3 u4)))
        have HWs : Hid (W.size = y.x.b.length) := by show W.size = _; rw [hW]; exact sz_mk _
        have hlen := u2.len
        have HW := Lib.hid hW
        clear hc hcx u1 u2 u3 u4 hW
        by_cases hk1 : k < l1.length
        · obtain ⟨pb, hpb⟩ : ∃ pb, l1[k]? = some pb := ⟨l1[k], List.getElem?_eq_getElem hk1⟩
          obtain ⟨b1, off1, rfl, hbs1, hc1⟩ := HA1.out (by rw [List.length_map]; omega)
          have hcx1 := hc1 k (.bool pb) (by rw [List.getElem?_map, hpb]; rfl)
          have d1 : wr.cell? ⟨b1, off1 + k, none⟩ = some (.bool pb) := (HU.out.2.2.2.cell (p := ⟨b1, _, none⟩) hbs1).trans hcx1
          clear hc1 hcx1 hpb
          rcases (show pb = false ∨ pb = true by cases pb <;> simp) with rfl | rfl
          · go_wp2_with fail
            refine (pname_any q F2 y [] x _ HU.out.1 (by omega)).mono ?_
            rintro e w4 ⟨rfl, F4, g1, g2, g3⟩
            have hf4 : ∀ i, F4 i → w.heap.size ≤ i := fun i hi => (g3 i hi).elim (HU.out.2.2.1 i) fun h => Nat.le_trans HU.out.2.2.2.size h
            have hb4 : Below w.heap.size w w4 := HU.out.2.2.2.trans (g2.below HU.out.2.2.1 HU.out.2.2.2.size)
            by_cases hck : ckN x = 0
            · obtain ⟨p1, p2, ⟨T, p3, p4, _⟩, _⟩ := UG.name HU.out.2.1 x hck (by omega)
              rw [p1]
              generalize (y.name x).1 = y2 at g1 p2 p3
              obtain ⟨S, hS⟩ : ∃ S : ByteArray, S = ⟨y2.x.b.toArray⟩ := ⟨_, rfl⟩
              have hSs : S.size = y2.x.b.length := by rw [hS]; exact sz_mk _
              have hTl : 0 < T.length := List.length_pos_iff.2 p4
              have hgr : W.size < S.size := by rw [HWs.out, hSs, p3, List.length_append]; omega
              have hpre : S.extract 0 W.size = W := by rw [hS, p3, HWs.out, ex_mk, HW.out]
              have hsl := slice_pre S W (by omega) hpre
              have hneq : ((S.size : Int) == (W.size : Int)) = false := by simp; omega
              have HN := Lib.hid (And.intro g1 (And.intro p2 (And.intro hf4 (And.intro hb4 hS))))
              have HSs := Lib.hid hSs
              clear g1 g2 g3 p1 p2 p3 p4 hpre hf4 hb4 hS hSs
              go_wp2_with fail
              refine (ptext_any q F4 y2 [] _ HN.out.1).mono ?_
              rintro e w' ⟨rfl, rfl⟩
              rw [← HN.out.2.2.2.2]
              go_wp2_with fail
              refine (plen_any q F4 y2 [] _ HN.out.1).mono ?_
              rintro e w' ⟨rfl, rfl⟩
              rw [← HSs.out]
              go_wp2_with fail
              go_roundg (l.length - (k + 1))
              case measure => omega
              case rel => exact ⟨k + 1, y2, F4, S, rfl, by omega, by go_num, rfl, HN.out.2.2.2.2, HN.out.1, HN.out.2.1.more (by omega), HN.out.2.2.1, HN.out.2.2.2.1⟩
            · have hck1 : (ckN x != 0) = true := by simp [hck]
              have hck2 : (ckN x == 0) = false := by simp [hck]
              rw [UG.name_no HU.out.2.1 x hck] at g1 ⊢
              have hsl := slice_pre W W (Nat.le_refl _) (by simp)
              have HN := Lib.hid (And.intro g1 (And.intro hf4 hb4))
              clear g1 g2 g3 hf4 hb4
              go_wp2_with fail
              refine (ptext_any q F4 y [] _ HN.out.1).mono ?_
              rintro e w' ⟨rfl, rfl⟩
              rw [← HW.out]
              go_wp2_with fail
              refine (plen_any q F4 y [] _ HN.out.1).mono ?_
              rintro e w' ⟨rfl, rfl⟩
              rw [← HWs.out]
              go_wp2_with fail
              go_roundg (l.length - (k + 1))
              case measure => omega
              case rel => exact ⟨k + 1, y, F4, W, rfl, by omega, by go_num, rfl, HW.out, HN.out.1, HU.out.2.1.more (by omega), HN.out.2.1, HN.out.2.2⟩
          · go_wp2_with fail
            refine (pplain_any q F2 y [] x _ HU.out.1 (by omega)).mono ?_
            rintro e w4 ⟨rfl, F4, g1, g2, g3⟩
            have hf4 : ∀ i, F4 i → w.heap.size ≤ i := fun i hi => (g3 i hi).elim (HU.out.2.2.1 i) fun h => Nat.le_trans HU.out.2.2.2.size h
            have hb4 : Below w.heap.size w w4 := HU.out.2.2.2.trans (g2.below HU.out.2.2.1 HU.out.2.2.2.size)
            by_cases hck : ckN x = 0
            · obtain ⟨p1, p2, ⟨T, p3, p4, _⟩, _⟩ := UG.plain HU.out.2.1 x hck (by omega)
              rw [p1]
              generalize (y.plain x).1 = y2 at g1 p2 p3
              obtain ⟨S, hS⟩ : ∃ S : ByteArray, S = ⟨y2.x.b.toArray⟩ := ⟨_, rfl⟩
              have hSs : S.size = y2.x.b.length := by rw [hS]; exact sz_mk _
              have hTl : 0 < T.length := List.length_pos_iff.2 p4
              have hgr : W.size < S.size := by rw [HWs.out, hSs, p3, List.length_append]; omega
              have hpre : S.extract 0 W.size = W := by rw [hS, p3, HWs.out, ex_mk, HW.out]
              have hsl := slice_pre S W (by omega) hpre
              have hneq : ((S.size : Int) == (W.size : Int)) = false := by simp; omega
              have HN := Lib.hid (And.intro g1 (And.intro p2 (And.intro hf4 (And.intro hb4 hS))))
              have HSs := Lib.hid hSs
              clear g1 g2 g3 p1 p2 p3 p4 hpre hf4 hb4 hS hSs
              go_wp2_with fail
              refine (ptext_any q F4 y2 [] _ HN.out.1).mono ?_
              rintro e w' ⟨rfl, rfl⟩
              rw [← HN.out.2.2.2.2]
              go_wp2_with fail
              refine (plen_any q F4 y2 [] _ HN.out.1).mono ?_
              rintro e w' ⟨rfl, rfl⟩
              rw [← HSs.out]
              go_wp2_with fail
              go_roundg (l.length - (k + 1))
              case measure => omega
              case rel => exact ⟨k + 1, y2, F4, S, rfl, by omega, by go_num, rfl, HN.out.2.2.2.2, HN.out.1, HN.out.2.1.more (by omega), HN.out.2.2.1, HN.out.2.2.2.1⟩
            · have hck1 : (ckN x != 0) = true := by simp [hck]
              have hck2 : (ckN x == 0) = false := by simp [hck]
              rw [UG.plain_no HU.out.2.1 x hck] at g1 ⊢
              have hsl := slice_pre W W (Nat.le_refl _) (by simp)
              have HN := Lib.hid (And.intro g1 (And.intro hf4 hb4))
              clear g1 g2 g3 hf4 hb4
              go_wp2_with fail
              refine (ptext_any q F4 y [] _ HN.out.1).mono ?_
              rintro e w' ⟨rfl, rfl⟩
              rw [← HW.out]
              go_wp2_with fail
              refine (plen_any q F4 y [] _ HN.out.1).mono ?_
              rintro e w' ⟨rfl, rfl⟩
              rw [← HWs.out]
              go_wp2_with fail
              go_roundg (l.length - (k + 1))
              case measure => omega
              case rel => exact ⟨k + 1, y, F4, W, rfl, by omega, by go_num, rfl, HW.out, HN.out.1, HU.out.2.1.more (by omega), HN.out.2.1, HN.out.2.2⟩
        · go_wp2_with fail
          refine (pname_any q F2 y [] x _ HU.out.1 (by omega)).mono ?_
          rintro e w4 ⟨rfl, F4, g1, g2, g3⟩
          have hf4 : ∀ i, F4 i → w.heap.size ≤ i := fun i hi => (g3 i hi).elim (HU.out.2.2.1 i) fun h => Nat.le_trans HU.out.2.2.2.size h
          have hb4 : Below w.heap.size w w4 := HU.out.2.2.2.trans (g2.below HU.out.2.2.1 HU.out.2.2.2.size)
          by_cases hck : ckN x = 0
          · obtain ⟨p1, p2, ⟨T, p3, p4, _⟩, _⟩ := UG.name HU.out.2.1 x hck (by omega)
            rw [p1]
            generalize (y.name x).1 = y2 at g1 p2 p3
            obtain ⟨S, hS⟩ : ∃ S : ByteArray, S = ⟨y2.x.b.toArray⟩ := ⟨_, rfl⟩
            have hSs : S.size = y2.x.b.length := by rw [hS]; exact sz_mk _
            have hTl : 0 < T.length := List.length_pos_iff.2 p4
            have hgr : W.size < S.size := by rw [HWs.out, hSs, p3, List.length_append]; omega
            have hpre : S.extract 0 W.size = W := by rw [hS, p3, HWs.out, ex_mk, HW.out]
            have hsl := slice_pre S W (by omega) hpre
            have hneq : ((S.size : Int) == (W.size : Int)) = false := by simp; omega
            have HN := Lib.hid (And.intro g1 (And.intro p2 (And.intro hf4 (And.intro hb4 hS))))
            have HSs := Lib.hid hSs
            clear g1 g2 g3 p1 p2 p3 p4 hpre hf4 hb4 hS hSs
            go_wp2_with fail
            refine (ptext_any q F4 y2 [] _ HN.out.1).mono ?_
            rintro e w' ⟨rfl, rfl⟩
            rw [← HN.out.2.2.2.2]
            go_wp2_with fail
            refine (plen_any q F4 y2 [] _ HN.out.1).mono ?_
            rintro e w' ⟨rfl, rfl⟩
            rw [← HSs.out]
            go_wp2_with fail
            go_roundg (l.length - (k + 1))
            case measure => omega
            case rel => exact ⟨k + 1, y2, F4, S, rfl, by omega, by go_num, rfl, HN.out.2.2.2.2, HN.out.1, HN.out.2.1.more (by omega), HN.out.2.2.1, HN.out.2.2.2.1⟩
          · have hck1 : (ckN x != 0) = true := by simp [hck]
            have hck2 : (ckN x == 0) = false := by simp [hck]
            rw [UG.name_no HU.out.2.1 x hck] at g1 ⊢
            have hsl := slice_pre W W (Nat.le_refl _) (by simp)
            have HN := Lib.hid (And.intro g1 (And.intro hf4 hb4))
            clear g1 g2 g3 hf4 hb4
            go_wp2_with fail
            refine (ptext_any q F4 y [] _ HN.out.1).mono ?_
            rintro e w' ⟨rfl, rfl⟩
            rw [← HW.out]
            go_wp2_with fail
            refine (plen_any q F4 y [] _ HN.out.1).mono ?_
            rintro e w' ⟨rfl, rfl⟩
            rw [← HWs.out]
            go_wp2_with fail
            go_roundg (l.length - (k + 1))
            case measure => omega
            case rel => exact ⟨k + 1, y, F4, W, rfl, by omega, by go_num, rfl, HW.out, HN.out.1, HU.out.2.1.more (by omega), HN.out.2.1, HN.out.2.2⟩
      · have hke : k = l.length := by omega
        clear H0
        go_wp2_with fail
        go_ret
        exact ⟨rfl, u4⟩
end Go.Proofs.Ytbemackcdccpaaa
