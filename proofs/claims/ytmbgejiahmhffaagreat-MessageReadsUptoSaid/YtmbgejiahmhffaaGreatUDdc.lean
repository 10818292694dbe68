/-
  LAYER 9: the cursor's data: the walk.
-/
import Derived.Test.YtmbgejiahmhffaaGreatUunE
namespace Go.Proofs.YtmbgejiahmhffaaGreat
set_option linter.unusedVariables false
set_option linter.unusedSimpArgs false
open Go.RowKit

theorem cu_take_err {S : List UInt8} {en n : Nat} {c : Cu} (h : c.e ≠ 0) : c.take S en n = ([], c) := by unfold Cu.take; rw [if_pos h]
theorem texts_err (S : List UInt8) (en : Nat) : ∀ (f : Nat) {c : Cu}, c.e ≠ 0 → Cu.texts S en f c = ([], c)
  | 0, _, _ => rfl
  | f + 1, c, h => by unfold Cu.texts; rw [if_pos h]
theorem texts_step (S : List UInt8) (en g : Nat) (x : Cu) (l : List (List UInt8)) (hx : x.e = 0) (hg : 0 < g) :
    (l ++ (Cu.texts S en g x).1, (Cu.texts S en g x).2) =
      if decide (((x.number S en 1).2.take S en (x.number S en 1).1).2.at_ < en) = true ∧ ((x.number S en 1).2.take S en (x.number S en 1).1).2.e = 0 then
        (l ++ [((x.number S en 1).2.take S en (x.number S en 1).1).1] ++ (Cu.texts S en (g - 1) ((x.number S en 1).2.take S en (x.number S en 1).1).2).1, (Cu.texts S en (g - 1) ((x.number S en 1).2.take S en (x.number S en 1).1).2).2)
      else (l ++ [((x.number S en 1).2.take S en (x.number S en 1).1).1], ((x.number S en 1).2.take S en (x.number S en 1).1).2) := by
  obtain ⟨f, rfl⟩ : ∃ f, g = f + 1 := ⟨g - 1, by omega⟩
  rw [Nat.add_sub_cancel]
  conv => lhs; unfold Cu.texts
  rw [if_neg (by simp [hx])]
  dsimp only
  by_cases h1 : ((x.number S en 1).2.take S en (x.number S en 1).1).2.at_ < en
  · rw [if_pos h1]
    by_cases h2 : ((x.number S en 1).2.take S en (x.number S en 1).1).2.e = 0
    · rw [if_pos ⟨decide_eq_true h1, h2⟩]
      simp
    · rw [if_neg (fun h => h2 h.2), texts_err S en f h2]
  · rw [if_neg h1, if_neg (fun h => h1 (of_decide_eq_true h.1))]
theorem texts_at (S : List UInt8) (en : Nat) (x : Cu) (hx : x.e = 0) (h : ((x.number S en 1).2.take S en (x.number S en 1).1).2.e = 0) : x.at_ < ((x.number S en 1).2.take S en (x.number S en 1).1).2.at_ := by
  generalize hn : (x.number S en 1).1 = n at *
  unfold Cu.number at h ⊢
  dsimp only at h ⊢
  have h1 : (x.take S en 1).2.e = 0 := by
    refine Classical.byContradiction fun hne => ?_
    have : (x.take S en 1).2.take S en n = ([], (x.take S en 1).2) := cu_take_err hne
    rw [this] at h
    exact hne h
  have h2 : (x.take S en 1).2.at_ = x.at_ + 1 := by
    unfold Cu.take at h1 ⊢
    rw [if_neg (by simp [hx])] at h1 ⊢
    split at h1
    · cases h1
    · rw [if_neg (by assumption)]
  have h3 : (x.take S en 1).2.at_ ≤ ((x.take S en 1).2.take S en n).2.at_ := by
    generalize (x.take S en 1).2 = z
    unfold Cu.take
    split
    · exact Nat.le_refl _
    · split
      · exact Nat.le_refl _
      · exact Nat.le_add_right _ _
  omega
theorem DatS.as {w0 w : World} {p r : Nat} {s : ByteArray} {en : Nat} {c : Cu} {p2 p8 pd : Nat} {wh : Wh} {tx : ByteArray} {d d' : Dt} {t : Value} (h : DatS w0 w p r s en c p2 p8 pd wh tx d t) (hc : d.cells t = d'.cells t) : DatS w0 w p r s en c p2 p8 pd wh tx d' t :=
  ⟨h.cu, h.b2, h.b8, by rw [← hc]; exact h.bd, h.fr, h.n2, h.n8, h.nd, h.lp, h.lr⟩
theorem strs_own {w : World} {A : Option Addr} {n cap : Nat} {l : List (List UInt8)} (h : w.ownsRow 0 9 1 (.slice A n cap) n (l.map fun y => Value.string ⟨y.toArray⟩)) : Strs w A (l.map fun y => ⟨y.toArray⟩) := by
  intro h0
  have hm : (l.map fun y => (⟨y.toArray⟩ : ByteArray)).map Value.string = l.map fun y => Value.string ⟨y.toArray⟩ := by simp
  rw [hm] at h0 ⊢
  obtain ⟨v, hv⟩ : ∃ v, (l.map fun y => Value.string ⟨y.toArray⟩)[0]? = some v := ⟨_, List.getElem?_eq_getElem h0⟩
  obtain ⟨g, hA, hc⟩ := own_cell h hv
  refine ⟨g, 0, hA, World.block_lt_of_cell? w _ hc, fun i x hx => ?_⟩
  obtain ⟨g', hA', hc'⟩ := own_cell h hx
  rw [hA] at hA'
  injection hA' with hA'
  injection hA' with hA'
  subst hA'
  rw [Nat.zero_add]
  exact hc'
def DataPost (w0 : World) (p r : Nat) (s : ByteArray) (en : Nat) (D : Dt × Cu) (e : Ending) (w' : World) : Prop :=
  ∃ A cap, e = .returned (.agg (D.1.cells (.slice A D.1.texts.length cap))) ∧ CuIn w' p r s en D.2 ∧ Strs w' A D.1.texts ∧ Fr (fun k => k = p ∨ k = r) w0 w' ∧ ∀ k, rowOf A k → w0.heap.size ≤ k ∧ k < w'.heap.size
theorem Tryz.infoStr : (Tryz.prog.info? 9).map (fun i => (i.zero, i.size, i.bytes)) = some (some (.string ⟨#[]⟩), 1, 16) := by kernel_rfl
theorem strv_new (w : World) (v : ByteArray) (t : TypeId) : ∀ j u, ([Value.string v] : List Value)[j]? = some u → (w.alloc (.cells #[.string v] t)).cell? ((⟨w.heap.size, 0, none⟩ : Addr).add j) = some u := by
  intro j u hu
  have hj : j = 0 := by have := (List.getElem?_eq_some_iff.1 hu).1; simpa using this
  subst hj
  rw [add_off, (Blk.new w t #[.string v]).cell]
  simpa using hu
theorem strv_one (v : ByteArray) : ∀ u ∈ ([Value.string v] : List Value), u.oneCell' = true := by
  intro u hu
  rw [List.mem_singleton.1 hu]
  rfl
theorem run_slicePtrs (p n : Nat) (hn : n ≤ 2) (w : World) :
    (Instr.sliceAt 194 (.slice (some ⟨p, 0, none⟩) 2 2) none (some (.int .i64 n)) none).run Tryz.prog w = .ok (.slice (some ⟨p, 0, none⟩) n 2) w := by
  rcases (show n = 0 ∨ n = 1 ∨ n = 2 by omega) with rfl | rfl | rfl <;> kernel_rfl
theorem cunumber1_any (p r : Nat) (s : ByteArray) (en : Nat) (c : Cu) (w : World) (h : CuIn w p r s en c) :
    Calls Tryz.prog 131 #[.pointer (some ⟨p, 0, none⟩), .int .i64 1] w (CuPost w p r s en (.int .u32 ((c.number s.data.toList en 1).1 : Nat)) (c.number s.data.toList en 1).2) := cunumber_any p r s en c 1 w h (by decide) (by decide)
set_option maxRecDepth 100000 in
set_option maxHeartbeats 16000000 in
theorem data_any (p r : Nat) (s : ByteArray) (en : Nat) (c : Cu) (wh : Wh) (tx : ByteArray) (w : World) (h : CuIn w p r s en c) (hwh : ∃ t, wh = whatN t) (hs : s.size ≤ 1000000000) :
    Calls Tryz.prog 109 #[.pointer (some ⟨p, 0, none⟩), wh.val tx] w (DataPost w p r s en (ddAll s.data.toList en wh c)) := by
  have hmf : ∀ (fn : Fn) (first cap : Array Value) (w : World), (Instr.makeFunc fn first cap).run Tryz.prog w = .ok (.func fn first cap) w := fun _ _ _ _ => rfl
  have hw4 : (wh.addr = 0 ∨ wh.addr = 4 ∨ wh.addr = 16) ∧ wh.nums ≤ 5 ∧ wh.names ≤ 2 ∧ (wh.nums = 0 ∨ 1 ≤ wh.wide ∧ wh.wide ≤ 4) := by
    obtain ⟨t, rfl⟩ := hwh
    rcases whatN_cases t with h | h | h | h | h | h | h | h <;> rw [h] <;> decide
  have HV := Lib.hid hw4
  clear hw4 hwh
  unfold Wh.val
  have hb2 := ((Blk.new w 165 #[.pointer (some ⟨p, 0, none⟩)]).alloc (.cells (wh.cells tx) 155)).alloc (.cells (Dt.zero.cells (.slice none 0 0)) 53)
  have hb8 := (Blk.new (w.alloc (.cells #[.pointer (some ⟨p, 0, none⟩)] 165)) 155 (wh.cells tx)).alloc (.cells (Dt.zero.cells (.slice none 0 0)) 53)
  have hbd := Blk.new ((w.alloc (.cells #[.pointer (some ⟨p, 0, none⟩)] 165)).alloc (.cells (wh.cells tx) 155)) 53 (Dt.zero.cells (.slice none 0 0))
  have hf : Fr (fun _ => False) w (((w.alloc (.cells #[.pointer (some ⟨p, 0, none⟩)] 165)).alloc (.cells (wh.cells tx) 155)).alloc (.cells (Dt.zero.cells (.slice none 0 0)) 53)) := (((Fr.refl _ _).alloc _).alloc _).alloc _
  simp only [World.size_alloc] at hb8 hbd
  have HS : Hid (DatS w (((w.alloc (.cells #[.pointer (some ⟨p, 0, none⟩)] 165)).alloc (.cells (wh.cells tx) 155)).alloc (.cells (Dt.zero.cells (.slice none 0 0)) 53)) p r s en c w.heap.size (w.heap.size + 1) (w.heap.size + 1 + 1) wh tx Dt.zero (.slice none 0 0)) :=
    ⟨h.fr0 hf, hb2, hb8, hbd, hf.mono (fun _ _ h => h.elim), Nat.le_refl _, by omega, by omega, h.blk.lt, h.rd.1.lt⟩
  clear hb2 hb8 hbd hf h
  obtain ⟨W1, hW⟩ : ∃ W1, W1 = ((w.alloc (.cells #[.pointer (some ⟨p, 0, none⟩)] 165)).alloc (.cells #[.string tx, .int .i64 wh.addr, .int .i64 wh.names, .bool wh.plain, .bool wh.first, .int .i64 wh.nums, .int .i64 wh.wide, .bool wh.texts, .bool wh.raw] 155)).alloc (.cells #[.bool false, .int .u64 0, .int .u64 0, .string ⟨#[]⟩, .string ⟨#[]⟩, .int .u32 0, .int .u32 0, .int .u32 0, .int .u32 0, .int .u32 0, .slice none 0 0, .string ⟨#[]⟩] 53) := ⟨_, rfl⟩
  replace HS : Hid (DatS w W1 p r s en c w.heap.size (w.heap.size + 1) (w.heap.size + 1 + 1) wh tx Dt.zero (.slice none 0 0)) := by rw [hW]; exact HS
  have HW := Lib.hid hW
  clear hW
  unfold Wh.cells
  obtain ⟨S, hS⟩ : ∃ S, S = s.data.toList := ⟨_, rfl⟩
  obtain ⟨R, hR⟩ : ∃ R, R = ddAll s.data.toList en wh c := ⟨_, rfl⟩
  rw [← hR]
  have HR := Lib.hid (And.intro hR hS)
  clear hR hS
  go_enter Tryz.func109, Tryz.ntmps109
  go_upto_region 1 with fail
  rw [← HW.out]
  clear HW
  have e1 := HS.out.b8.cell 1
  unfold Wh.cells at e1
  simp only [List.getElem?_toArray, List.getElem?_cons_zero, List.getElem?_cons_succ] at e1
  obtain ⟨x1, hx1⟩ : ∃ x1, x1 = ddA S en wh c := ⟨_, rfl⟩
  have HX1 := Lib.hid hx1
  clear hx1
  go_upto_if 12 with fail
  go_cut [0, 1, 13] (fun _ _ _ wx => DatS w wx p r s en x1.2 w.heap.size (w.heap.size + 1) (w.heap.size + 1 + 1) wh tx x1.1 (.slice none 0 0))
  case first =>
    by_cases ha : 0 < wh.addr
    · have e2 := HS.out.b2.cell 0
      have hx : x1 = ({ Dt.zero with six := (addrOf (c.take S en wh.addr).1).1, hi := (addrOf (c.take S en wh.addr).1).2.1, lo := (addrOf (c.take S en wh.addr).1).2.2 }, (c.take S en wh.addr).2) := by rw [HX1.out]; unfold ddA; rw [if_pos ha]
      have HA := Lib.hid hx
      clear hx
      simp only [List.getElem?_toArray, List.getElem?_cons_zero, List.getElem?_cons_succ] at e2
      go_wp2_with fail
      refine (cutake_any p r s en c wh.addr _ HS.out.cu).mono ?_
      rintro e w2 ⟨rfl, g1, g2⟩
      rw [← HR.out.2] at g1 ⊢
      have H2 := Lib.hid (HS.out.next g1 g2)
      clear g1 g2 e1 e2
      go_wp2_with fail
      refine (addrOf_any ⟨(c.take S en wh.addr).1.toArray⟩ _).mono ?_
      rintro e w3 ⟨v, rfl, f3⟩
      have H3 := Lib.hid (H2.out.quiet f3)
      clear f3
      generalize addrOf (c.take S en wh.addr).1 = ad at *
      go_wp2_with (first
        | (refine wpList_store_part rfl 49 _ _ rfl (w.heap.size + 1 + 1) 0 (by rfl) _ (by rfl) 53 _ H3.out.bd (by kernel_rfl) (by simp [Value.oneCell']) (by simp [Dt.cells]) (x1.1.cells (.slice none 0 0)) (by rw [HA.out]; rfl) ?_
           intro w4 b4 f4
           have H4 := Lib.hid (H3.out.put b4 f4)
           clear b4 f4))
      go_meet
      rw [HA.out]
      rw [HA.out] at H4
      exact H4.out
    · have hx : x1 = (Dt.zero, c) := by rw [HX1.out]; unfold ddA; rw [if_neg ha]
      have HA := Lib.hid hx
      clear hx
      go_wp2_with fail
      go_meet
      rw [HA.out]
      exact HS.out
  case rest =>
    have HS1 := Lib.hid hcut
    clear hcut e1 HS
    have e3 := HS1.out.b8.cell 3
    unfold Wh.cells at e3
    simp only [List.getElem?_toArray, List.getElem?_cons_zero, List.getElem?_cons_succ] at e3
    go_upto_if 24 with fail
    go_cut [6] (fun v wx => v = readFn wh.plain ∧ wx = wc)
    case first =>
      cases hpl : wh.plain
      all_goals
        rw [hpl] at e3
        go_wp2_with fail
        go_meet
        exact ⟨by rw [hpl]; rfl, rfl⟩
    case rest =>
      obtain ⟨rfl, hwc⟩ := hcut
      subst hwc
      clear e3
      have e4 := HS1.out.b8.cell 4
      unfold Wh.cells at e4
      simp only [List.getElem?_toArray, List.getElem?_cons_zero, List.getElem?_cons_succ] at e4
      obtain ⟨x2, hx2⟩ : ∃ x2, x2 = if wh.first = true then ddN S en wh x1 else x1 := ⟨_, rfl⟩
      have HX2 := Lib.hid hx2
      clear hx2
      have hz : x1.1.withN [] = x1.1 := by
        rw [HX1.out]
        unfold ddA
        split <;> rfl
      have HZ := Lib.hid hz
      clear hz
      go_upto_if 26 with fail
      go_cut [28] (fun _ wx => DatS w wx p r s en x2.2 w.heap.size (w.heap.size + 1) (w.heap.size + 1 + 1) wh tx x2.1 (.slice none 0 0))
      case first =>
        cases hfi : wh.first
        · rw [hfi] at e4
          have hx : x2 = x1 := by rw [HX2.out, hfi]; rfl
          have HA := Lib.hid hx
          clear hx
          go_wp2_with fail
          go_meet
          rw [HA.out]
          exact HS1.out
        · rw [hfi] at e4
          have hx : x2 = ddN S en wh x1 := by rw [HX2.out, hfi]; rfl
          have HA := Lib.hid hx
          clear hx
          go_wp2_with fail
          have hS1 := HS1.out
          rw [← HZ.out] at hS1
          refine (dataNums_any hS1 HV.out.2.1 HV.out.2.2.2).mono ?_
          rintro e w6 ⟨rfl, h6⟩
          rw [← HR.out.2] at h6
          have H6 := Lib.hid h6
          clear h6 hS1
          go_wp2_with fail
          go_meet
          rw [HA.out]
          exact H6.out
      case rest =>
        have HS2 := Lib.hid hcut
        clear hcut e4
        have e2 := HS2.out.b8.cell 2
        unfold Wh.cells at e2
        have hn := Blk.new wc 134 #[.pointer (some ⟨w.heap.size + 1 + 1, 3, none⟩), .pointer (some ⟨w.heap.size + 1 + 1, 4, none⟩)]
        have e8 := (HS2.out.b8.alloc (.cells #[.pointer (some ⟨w.heap.size + 1 + 1, 3, none⟩), .pointer (some ⟨w.heap.size + 1 + 1, 4, none⟩)] 134)).cell 2
        unfold Wh.cells at e8
        simp only [List.getElem?_toArray, List.getElem?_cons_zero, List.getElem?_cons_succ] at e2 e8
        have hsl := run_slicePtrs wc.heap.size wh.names HV.out.2.2.1
        have HN : Hid (DatS w (wc.alloc (.cells #[.pointer (some ⟨w.heap.size + 1 + 1, 3, none⟩), .pointer (some ⟨w.heap.size + 1 + 1, 4, none⟩)] 134)) p r s en x2.2 w.heap.size (w.heap.size + 1) (w.heap.size + 1 + 1) wh tx x2.1 (.slice none 0 0) ∧ Blk (wc.alloc (.cells #[.pointer (some ⟨w.heap.size + 1 + 1, 3, none⟩), .pointer (some ⟨w.heap.size + 1 + 1, 4, none⟩)] 134)) wc.heap.size 134 #[.pointer (some ⟨w.heap.size + 1 + 1, 3, none⟩), .pointer (some ⟨w.heap.size + 1 + 1, 4, none⟩)] ∧ w.heap.size ≤ wc.heap.size) :=
          ⟨HS2.out.quiet ((Fr.refl _ _).alloc _), hn, HS2.out.fr.size⟩
        clear hn
        go_wp2_with fail
        clear hsl e2 e8
        obtain ⟨pn, hpn⟩ : ∃ pn, pn = wc.heap.size := ⟨_, rfl⟩
        rw [← hpn] at HN ⊢
        obtain ⟨W5, hW5⟩ : ∃ W5, W5 = wc.alloc (.cells #[.pointer (some ⟨w.heap.size + 1 + 1, 3, none⟩), .pointer (some ⟨w.heap.size + 1 + 1, 4, none⟩)] 134) := ⟨_, rfl⟩
        rw [← hW5] at HN ⊢
        clear hW5 hpn
        go_loopg [36] wh.names (fun g i wr => ∃ (j : Nat), j ≤ wh.names ∧ g = wh.names - j ∧ i = .int .i64 j ∧ DatS w wr p r s en (ddB S en wh x2 j).2 w.heap.size (w.heap.size + 1) (w.heap.size + 1 + 1) wh tx (ddB S en wh x2 j).1 (.slice none 0 0) ∧ Blk wr pn 134 #[.pointer (some ⟨w.heap.size + 1 + 1, 3, none⟩), .pointer (some ⟨w.heap.size + 1 + 1, 4, none⟩)])
        case atStart => exact ⟨0, Nat.zero_le _, rfl, rfl, HN.out.1, HN.out.2.1⟩
        case round =>
          obtain ⟨j, hj, hg, rfl, h1, h2⟩ := hrel
          have HX := Lib.hid (And.intro hg (And.intro h1 h2))
          have hnb := HV.out.2.2.1
          clear hg
          by_cases hlt : j < wh.names
          · have hcn : wr.cell? ⟨pn, j, none⟩ = some (.pointer (some ⟨w.heap.size + 1 + 1, 3 + j, none⟩)) := by
              rw [h2.cell]
              rcases (show j = 0 ∨ j = 1 by omega) with rfl | rfl <;> rfl
            have e2 := h1.b2.cell 0
            simp only [List.getElem?_toArray, List.getElem?_cons_zero, List.getElem?_cons_succ] at e2
            have hstep : (ddB S en wh x2 (j + 1)).2 = ((ddB S en wh x2 j).2.name S en wh.plain).2 ∧ ∀ t, ((ddB S en wh x2 j).1.cells t).setIfInBounds (3 + j) (.string ⟨((ddB S en wh x2 j).2.name S en wh.plain).1.toArray⟩) = (ddB S en wh x2 (j + 1)).1.cells t := by
              rcases (show j = 0 ∨ j = 1 by omega) with rfl | rfl <;> exact ⟨rfl, fun _ => rfl⟩
            have hold : ∃ v, wr.cell? ⟨w.heap.size + 1 + 1, 3 + j, none⟩ = some v := by
              rw [h1.bd.cell]
              rcases (show j = 0 ∨ j = 1 by omega) with rfl | rfl <;> exact ⟨_, rfl⟩
            have HP := Lib.hid (And.intro hstep hold)
            clear h1 h2 hstep hold
            go_wp2_with fail
            refine (cuname_any p r s en _ wh.plain _ HX.out.2.1.cu).mono ?_
            rintro e w6 ⟨rfl, g1, g2⟩
            rw [← HR.out.2] at g1 ⊢
            have H6 := Lib.hid (And.intro (HX.out.2.1.next g1 g2) (HX.out.2.2.fr g2 (by
              have a1 := HX.out.2.1.lp
              have a2 := HX.out.2.1.lr
              have a3 := HN.out.2.2
              rintro (e | e) <;> omega)))
            obtain ⟨v, hv⟩ : ∃ v, w6.cell? ⟨w.heap.size + 1 + 1, 3 + j, none⟩ = some v := by
              rw [H6.out.1.bd.cell]
              rcases (show j = 0 ∨ j = 1 by omega) with rfl | rfl <;> exact ⟨_, rfl⟩
            have z5 := H6.out.1.bd.frozen (3 + j)
            clear g1 g2 e2 hcn
            go_wp2_with fail
            go_roundg (wh.names - (j + 1))
            case rel =>
              refine ⟨j + 1, hlt, rfl, by go_num, ?_, H6.out.2.far ?_ _⟩
              · rw [HP.out.1.1]
                exact H6.out.1.cell (3 + j) _ (HP.out.1.2 _)
              · exact fun e => absurd (H6.out.2.ne_ H6.out.1.bd (by decide)) (by simpa using e)
            case measure => have := HX.out.1; omega
          · have hje : j = wh.names := by omega
            subst hje
            clear h1 h2
            obtain ⟨x3, hx3⟩ : ∃ x3, x3 = ddB S en wh x2 wh.names := ⟨_, rfl⟩
            have HS3 : Hid (DatS w wr p r s en x3.2 w.heap.size (w.heap.size + 1) (w.heap.size + 1 + 1) wh tx x3.1 (.slice none 0 0)) := by rw [hx3]; exact HX.out.2.1
            obtain ⟨x5, hx5⟩ : ∃ x5, x5 = if wh.first = true then x3 else ddN S en wh x3 := ⟨_, rfl⟩
            have hz3 : wh.first = false → x3.1.withN [] = x3.1 := by
              intro hfi
              rw [hx3, HX2.out, hfi]
              rcases (show wh.names = 0 ∨ wh.names = 1 ∨ wh.names = 2 by omega) with e | e | e
              all_goals
                rw [e]
                show Dt.withN (ddB S en wh x1 _).1 [] = (ddB S en wh x1 _).1
                rw [HX1.out]
                unfold ddA
                split <;> rfl
            have hR : R = ddR S en wh (ddT S en wh x5) := by
              rw [HR.out.1, ← HR.out.2]
              unfold ddAll
              rw [hx5, hx3, HX2.out, HX1.out]
              cases wh.first <;> rfl
            have htx : x5.1.texts = [] ∧ x5.1.raw = ⟨#[]⟩ := by
              have hA : (ddA S en wh c).1.texts = [] ∧ (ddA S en wh c).1.raw = ⟨#[]⟩ := by
                unfold ddA
                split <;> exact ⟨rfl, rfl⟩
              rw [hx5, hx3, HX2.out, HX1.out]
              rcases (show wh.names = 0 ∨ wh.names = 1 ∨ wh.names = 2 by omega) with e | e | e
              all_goals
                rw [e]
                cases wh.first <;> exact hA
            have HR3 := Lib.hid (And.intro hz3 (And.intro hR (And.intro hx5 htx)))
            clear hz3 hR hx5 htx hx3
            have e4 := HS3.out.b8.cell 4
            unfold Wh.cells at e4
            simp only [List.getElem?_toArray, List.getElem?_cons_zero, List.getElem?_cons_succ] at e4
            go_upto_if 48 with fail
            go_cut [50] (fun _ wx => DatS w wx p r s en x5.2 w.heap.size (w.heap.size + 1) (w.heap.size + 1 + 1) wh tx x5.1 (.slice none 0 0))
            case first =>
              cases hfi : wh.first
              · rw [hfi] at e4
                have hx : x5 = ddN S en wh x3 := by rw [HR3.out.2.2.1, hfi]; rfl
                have hS1 := HS3.out
                rw [← HR3.out.1 hfi] at hS1
                have HA := Lib.hid (And.intro hx hS1)
                clear hx hS1
                go_wp2_with fail
                refine (dataNums_any HA.out.2 HV.out.2.1 HV.out.2.2.2).mono ?_
                rintro e w6 ⟨rfl, h6⟩
                rw [← HR.out.2] at h6
                have H6 := Lib.hid h6
                clear h6
                go_wp2_with fail
                go_meet
                rw [HA.out.1]
                exact H6.out
              · rw [hfi] at e4
                have hx : x5 = x3 := by rw [HR3.out.2.2.1, hfi]; rfl
                have HA := Lib.hid hx
                clear hx
                go_wp2_with fail
                go_meet
                rw [HA.out]
                exact HS3.out
            case rest =>
              have HS5 := Lib.hid hcut
              clear hcut e4
              have e7 := HS5.out.b8.cell 7
              unfold Wh.cells at e7
              simp only [List.getElem?_toArray, List.getElem?_cons_zero, List.getElem?_cons_succ] at e7
              go_wp2_with fail
              obtain ⟨Z, hZ⟩ : ∃ Z, Z = if wh.texts = true then Cu.texts S en (en + 1) x5.2 else ([], x5.2) := ⟨_, rfl⟩
              have HZ5 := Lib.hid hZ
              clear hZ e7
              obtain ⟨i0, hi, hz0, hz1, hz2⟩ := info_parts Tryz.infoStr
              go_loopg [9] (en + 1) (fun g more wr => ∃ (b : Bool) (x : Cu) (l : List (List UInt8)) (A : Option Addr) (cap : Nat), more = .bool b ∧ DatS w wr p r s en x w.heap.size (w.heap.size + 1) (w.heap.size + 1 + 1) wh tx x5.1 (.slice A l.length cap) ∧
                wr.ownsRow 0 9 1 (.slice A l.length cap) l.length (l.map fun y => Value.string ⟨y.toArray⟩) ∧ (∀ k, rowOf A k → w.heap.size ≤ k) ∧
                Z = (if b = true ∧ x.e = 0 then (l ++ (Cu.texts S en g x).1, (Cu.texts S en g x).2) else (l, x)) ∧ (b = true → x.e = 0 → en - x.at_ < g) ∧ l.length + g ≤ en + 1)
              case atStart =>
                refine ⟨wh.texts, x5.2, [], none, 0, rfl, HS5.out, own_nil _ _ _, fun k hk => absurd hk (rowOf_none k), ?_, fun _ _ => by omega, by simp⟩
                rw [HZ5.out]
                by_cases h1 : wh.texts = true
                · rw [if_pos h1]
                  by_cases h2 : x5.2.e = 0
                  · rw [if_pos ⟨h1, h2⟩]
                    simp
                  · rw [if_neg (fun h => h2 h.2)]
                    unfold Cu.texts
                    rw [if_pos h2]
                · rw [if_neg h1, if_neg (fun h => h1 h.1)]
              case round =>
                obtain ⟨b, x, l, A, cap, rfl, h1, h2, h3, h4, h5, h6⟩ := hrel
                have HX5 := Lib.hid (And.intro h1 (And.intro h2 (And.intro h3 (And.intro h4 (And.intro h5 h6)))))
                have e2 := h1.b2.cell 0
                have ce := h1.cu.blk.cell 2
                simp only [List.getElem?_toArray, List.getElem?_cons_zero, List.getElem?_cons_succ] at e2 ce
                by_cases hgo : b = true ∧ x.e = 0
                · obtain ⟨rfl, hx0⟩ := hgo
                  rw [if_pos ⟨rfl, hx0⟩] at h4
                  have hlt := h5 rfl hx0
                  have d10 := h1.bd.cell 10
                  unfold Dt.cells at d10
                  simp only [List.getElem?_toArray, List.getElem?_cons_zero, List.getElem?_cons_succ] at d10
                  have z10 := h1.bd.frozen 10
                  have H4 := Lib.hid (And.intro h4 (And.intro hlt hx0))
                  have hx0' : (x.e == 0) = true := by simp [hx0]
                  clear h1 h2 h3 h4 h5 h6 hlt hx0
                  go_wp2_with fail
                  have hcu : CuIn wr.drew p r s en x := HX5.out.1.cu.fr0 (Fr.refl _ wr).drew
                  have hlp := HX5.out.1.lp
                  have hlr := HX5.out.1.lr
                  have hl0 := HX5.out.1.fr.size
                  have HL := Lib.hid (And.intro hlp (And.intro hlr hl0))
                  have HCU := Lib.hid hcu
                  clear hcu hlp hlr hl0
                  have hv1 : (x.number S en 1).1 < 256 := by
                    unfold Cu.number
                    have h := numOf_lt (x.take S en 1).1
                    have hl : (x.take S en 1).1.length ≤ 1 := by
                      unfold Cu.take
                      split
                      · simp
                      · split
                        · simp
                        · simp; omega
                    exact Nat.lt_of_lt_of_le h (Nat.le_trans (Nat.pow_le_pow_right (by decide) hl) (by decide))
                  have hlb : l.length ≤ 1000000001 := by have := HX5.out.2.2.2.2.2; have := HX5.out.1.cu.en; omega
                  obtain ⟨a, ha⟩ : ∃ a, a = x.number S en 1 := ⟨_, rfl⟩
                  rw [← ha] at hv1
                  obtain ⟨y, hy⟩ : ∃ y, y = a.2.take S en a.1 := ⟨_, rfl⟩
                  have HAY := Lib.hid (And.intro ha hy)
                  clear ha hy
                  have hwr : IntKind.i64.wrap ((a.1 : Nat) : Int) = ((a.1 : Nat) : Int) := IntWalk.i64_in _ (by omega)
                  have e2' : wr.drew.cell? ⟨w.heap.size, 0, none⟩ = some (.pointer (some ⟨p, 0, none⟩)) := e2
                  go_region_law (first
                    | (go_simp; go_at_call 131
                       (with_reducible refine (cunumber1_any p r s en x _ HCU.out).mono ?_)
                       rintro e w2 ⟨rfl, g1, g2⟩
                       rw [← HR.out.2, ← HAY.out.1] at g1 ⊢
                       have q1 : Fr (fun k => k = p ∨ k = r) wr w2 := g2.fromD
                       have q2 : w2.cell? ⟨w.heap.size, 0, none⟩ = some (.pointer (some ⟨p, 0, none⟩)) := (q1.cell (p := ⟨w.heap.size, 0, none⟩) (World.block_lt_of_cell? wr _ e2) (by have := HL.out; rintro (e | e) <;> dsimp only at e <;> omega)).trans e2
                       have q3 : w2.cell? ⟨w.heap.size + 1 + 1, 10, none⟩ = some (.slice A l.length cap) := (q1.cell (p := ⟨w.heap.size + 1 + 1, 10, none⟩) (World.block_lt_of_cell? wr _ d10) (by have := HL.out; rintro (e | e) <;> dsimp only at e <;> omega)).trans d10
                       have H2 := Lib.hid (And.intro q1 g1)
                       clear g1 g2 q1)
                    | (go_simp; go_at_call 129
                       (with_reducible refine (cutake_any p r s en a.2 a.1 _ H2.out.2).mono ?_)
                       rintro e w3 ⟨rfl, g1, g2⟩
                       rw [← HR.out.2, ← HAY.out.2] at g1 ⊢
                       have q1 : Fr (fun k => k = p ∨ k = r) wr w3 := H2.out.1.then g2
                       have q7 : w3.cell? ⟨w.heap.size, 0, none⟩ = some (.pointer (some ⟨p, 0, none⟩)) := (q1.cell (p := ⟨w.heap.size, 0, none⟩) (World.block_lt_of_cell? wr _ e2) (by have := HL.out; rintro (e | e) <;> dsimp only at e <;> omega)).trans e2
                       have q4 : w3.cell? ⟨w.heap.size + 1 + 1, 10, none⟩ = some (.slice A l.length cap) := (q1.cell (p := ⟨w.heap.size + 1 + 1, 10, none⟩) (World.block_lt_of_cell? wr _ d10) (by have := HL.out; rintro (e | e) <;> dsimp only at e <;> omega)).trans d10
                       have q4' := (World.cell?_alloc_lt w3 (.cells #[.string ⟨y.1.toArray⟩] 9) ⟨w.heap.size + 1 + 1, 10, none⟩ (World.block_lt_of_cell? w3 _ q4)).trans q4
                       have H3 := Lib.hid (And.intro (HX5.out.1.next g1 q1) (own_fr HX5.out.2.1 q1 (fun k hk => by have := HX5.out.2.2.1 k hk; have := HL.out; rintro (e | e) <;> omega)))
                       clear g1 g2 q1)
                    | (refine step_append_src rfl (.tmp 68) (.tmp 74) _ _ rfl 9 i0 _ 1 16 Tryz.underlying51 hi hz0 hz1 hz2 rfl (by decide) A l.length cap (l.map fun y => Value.string ⟨y.toArray⟩) (by simp [Act.eval]) (H3.out.2.alloc _) _ 1 [.string ⟨y.1.toArray⟩] (by simp [Act.eval])
                         (Src.ofSlice _ Tryz.underlying51 ⟨w3.heap.size, 0, none⟩ 1 1 [.string ⟨y.1.toArray⟩] rfl (strv_new _ _ _) (strv_one _)) (by simp only [maxLen]; omega) (by omega) ?_
                       intro B2 cap2 w5 o1 o2 o3
                       have q5 : Fr (rowOf A) w3 w5 := ((Fr.refl _ w3).alloc _).then o2
                       have H5 := Lib.hid (And.intro o1 (And.intro q5 o3))
                       have hb5 : Blk w5 (w.heap.size + 1 + 1) 53 (x5.1.cells (.slice A l.length cap)) := H3.out.1.bd.fr q5 (own_ne H3.out.2 H3.out.1.bd (by decide))
                       have q8 : w5.cell? ⟨w.heap.size, 0, none⟩ = some (.pointer (some ⟨p, 0, none⟩)) := (q5.cell (p := ⟨w.heap.size, 0, none⟩) (World.block_lt_of_cell? w3 _ q7) (own_ne H3.out.2 H3.out.1.b2 (by decide))).trans q7
                       have q6 : w5.cell? ⟨w.heap.size + 1 + 1, 10, none⟩ = some (.slice A l.length cap) := hb5.cell 10
                       have z6 := hb5.frozen 10
                       have HB5 := Lib.hid hb5
                       have hs8 : ∀ u, (w5.setCell ⟨w.heap.size + 1 + 1, 10, none⟩ u).cell? ⟨w.heap.size, 0, none⟩ = some (.pointer (some ⟨p, 0, none⟩)) := fun u => (World.cell?_of_block (Below.heap_setCell w5 ⟨w.heap.size + 1 + 1, 10, none⟩ u w.heap.size (by show w.heap.size ≠ w.heap.size + 1 + 1; omega))).trans q8
                       have HS8 := Lib.hid hs8
                       clear o1 o2 o3 q5 hb5 hs8)
                    | fail "no arm")
                  all_goals
                    have hs9 : Fr (rowOf A) w3 w5 := H5.out.2.1
                    have hD : DatS w w5 p r s en y.2 w.heap.size (w.heap.size + 1) (w.heap.size + 1 + 1) wh tx x5.1 (.slice A l.length cap) := by
                      have a1 := HL.out
                      have hr := HX5.out.2.2.1
                      exact ⟨H3.out.1.cu.fr hs9 (fun g => by have := hr _ g; omega) (fun g => by have := hr _ g; omega), H3.out.1.b2.fr hs9 (own_ne H3.out.2 H3.out.1.b2 (by decide)), H3.out.1.b8.fr hs9 (own_ne H3.out.2 H3.out.1.b8 (by decide)), HB5.out, H3.out.1.fr.step hs9 (fun k g => .inr (hr k g)), H3.out.1.n2, H3.out.1.n8, H3.out.1.nd, H3.out.1.lp, H3.out.1.lr⟩
                    have hD2 := hD.cell (d' := x5.1) (t' := .slice B2 (l.length + 1) cap2) 10 (.slice B2 (l.length + 1) cap2) rfl
                    have hO : (w5.setCell ⟨w.heap.size + 1 + 1, 10, none⟩ (.slice B2 (l.length + 1) cap2)).ownsRow 0 9 1 (.slice B2 (l.length + 1) cap2) (l.length + 1) ((l ++ [y.1]).map fun y => Value.string ⟨y.toArray⟩) := by
                      rw [List.map_append]
                      exact own_fr H5.out.1 ((Fr.refl (· = w.heap.size + 1 + 1) w5).setCell (p := ⟨w.heap.size + 1 + 1, 10, none⟩) (fun _ => rfl) _) fun k hk e => own_ne H5.out.1 HB5.out (by decide) (e ▸ hk)
                    have hB2 : ∀ k, rowOf B2 k → w.heap.size ≤ k := fun k hk => by
                      rcases H5.out.2.2 k hk with g | g
                      · exact HX5.out.2.2.1 k g
                      · have h3 := H3.out.1.fr.size
                        rw [World.size_alloc] at g
                        omega
                    have HD := Lib.hid (And.intro hD2 (And.intro hO hB2))
                    have e2 := hD2.b2.cell 0
                    have k0 := hD2.cu.blk.cell 0
                    simp only [List.getElem?_toArray, List.getElem?_cons_zero, List.getElem?_cons_succ] at e2 k0
                    clear hs9 hD hD2 hO hB2 q6 z6 q2 q3 q4 q4' q7 q8 e2'
                    generalize w5.setCell ⟨w.heap.size + 1 + 1, 10, none⟩ (.slice B2 (l.length + 1) cap2) = w6 at *
                    go_wp2_with fail
                    refine (left_any r ⟨s.extract 0 en, y.2.at_⟩ _ HD.out.1.cu.rd).mono ?_
                    rintro e w' ⟨rfl, nq, rfl⟩
                    have HQ := Lib.hid (And.intro (HD.out.1.quiet ((Fr.refl _ w6).drewN nq)) (own_fr HD.out.2.1 ((Fr.refl (fun _ => False) w6).drewN nq) fun _ _ => id))
                    have hen := HD.out.1.cu.en
                    have hya := HD.out.1.cu.at_
                    have hsz := ext_size hen
                    dsimp only
                    rw [hsz]
                    clear hsz
                    go_wp2_with fail
                    go_roundg (gk - 1)
                    case rel =>
                      go_light
                      refine ⟨decide (y.2.at_ < en), y.2, l ++ [y.1], B2, cap2, ?_, by rw [List.length_append]; exact HQ.out.1, by rw [List.length_append]; exact HQ.out.2, HD.out.2.2, ?_, ?_, ?_⟩
                      · congr 1
                        try (rw [Bool.eq_iff_iff]
                             simp only [decide_eq_true_eq]
                             omega)
                      · rw [H4.out.1, HAY.out.2, HAY.out.1]
                        exact texts_step S en gk x l H4.out.2.2 (by have := H4.out.2.1; omega)
                      · intro _ h0
                        have h1 := texts_at S en x H4.out.2.2 (by rw [← HAY.out.1, ← HAY.out.2]; exact h0)
                        rw [← HAY.out.1, ← HAY.out.2] at h1
                        have := H4.out.2.1
                        omega
                      · have := HX5.out.2.2.2.2.2
                        have := H4.out.2.1
                        rw [List.length_append, List.length_singleton]
                        omega
                    case measure => have := H4.out.2.1; omega
                · rw [if_neg hgo] at h4
                  have hx6 : ddT S en wh x5 = ({ x5.1 with texts := l.map fun y => ⟨y.toArray⟩ }, x) := by
                    have hz := HZ5.out
                    rw [h4] at hz
                    unfold ddT
                    by_cases ht : wh.texts = true
                    · rw [if_pos ht] at hz ⊢
                      rw [← hz]
                    · rw [if_neg ht] at hz ⊢
                      injection hz with z1 z2
                      rw [z1, z2]
                      have := HR3.out.2.2.2.1
                      obtain ⟨⟨g1, g2, g3, g4, g5, g6, g7, g8, g9, g10, g11, g12⟩, gc⟩ := x5
                      simp only at this
                      subst this
                      rfl
                  have hR : R = ddR S en wh ({ x5.1 with texts := l.map fun y => ⟨y.toArray⟩ }, x) := by rw [HR3.out.2.1, hx6]
                  have HE := Lib.hid (And.intro hR (And.intro h1.cu.at_ h1.cu.en))
                  have e8 := h1.b8.cell 8
                  unfold Wh.cells at e8
                  simp only [List.getElem?_toArray, List.getElem?_cons_zero, List.getElem?_cons_succ] at e8
                  clear h1 h2 h3 h4 h5 h6 hx6 hR
                  have hend : b = false ∨ b = true ∧ (x.e == 0) = false := by
                    cases b
                    · exact .inl rfl
                    · exact .inr ⟨rfl, by rw [beq_eq_false_iff_ne]; exact fun e => hgo ⟨rfl, e⟩⟩
                  clear hgo
                  rcases hend with rfl | ⟨rfl, hx0⟩
                  all_goals
                    go_upto_if 78 with fail
                    go_cut [86] (fun _ wx => DatS w wx p r s en R.2 w.heap.size (w.heap.size + 1) (w.heap.size + 1 + 1) wh tx R.1 (.slice A l.length cap) ∧ wx.ownsRow 0 9 1 (.slice A l.length cap) l.length (l.map fun y => Value.string ⟨y.toArray⟩))
                    case first =>
                      cases hra : wh.raw
                      · rw [hra] at e8
                        have hR : R = ({ x5.1 with texts := l.map fun y => ⟨y.toArray⟩ }, x) := by rw [HE.out.1]; unfold ddR; rw [if_neg (by simp [hra])]
                        have HA := Lib.hid hR
                        clear hR
                        go_wp2_with fail
                        go_meet
                        rw [HA.out]
                        exact ⟨HX5.out.1.as rfl, HX5.out.2.1⟩
                      · rw [hra] at e8
                        have hR : R = ({ x5.1 with texts := l.map fun y => ⟨y.toArray⟩, raw := ⟨(x.take S en (en - x.at_)).1.toArray⟩ }, (x.take S en (en - x.at_)).2) := by rw [HE.out.1]; unfold ddR; rw [if_pos hra]
                        have HA := Lib.hid hR
                        clear hR
                        have k0 := HX5.out.1.cu.blk.cell 0
                        have e11 := HX5.out.1.bd.cell 11
                        unfold Dt.cells at e11
                        simp only [List.getElem?_toArray, List.getElem?_cons_zero, List.getElem?_cons_succ] at k0 e11
                        have hsz := ext_size HX5.out.1.cu.en
                        have hq : ((en : Int) - (x.at_ : Int)) = ((en - x.at_ : Nat) : Int) := by have := HX5.out.1.cu.at_; omega
                        have HQ := Lib.hid (And.intro hsz hq)
                        clear hsz hq
                        have b2 : wr.drew.cell? ⟨w.heap.size, 0, none⟩ = some (.pointer (some ⟨p, 0, none⟩)) := e2
                        have b0 : wr.drew.cell? ⟨p, 0, none⟩ = some (.pointer (some ⟨r, 0, none⟩)) := k0
                        go_upto_region 21 with fail
                        go_region_held3 (fun w' => w'.cell? ⟨w.heap.size, 0, none⟩ = some (.pointer (some ⟨p, 0, none⟩)) ∧ w'.cell? ⟨p, 0, none⟩ = some (.pointer (some ⟨r, 0, none⟩)))
                          (first | exact ⟨b2, b0⟩ | exact ⟨q2, q0⟩ | exact ⟨HS3.out.1 _, HS3.out.2 _⟩)
                          (first
                            | (go_at_call 107
                               (with_reducible refine (left_any r ⟨s.extract 0 en, x.at_⟩ _ (HX5.out.1.cu.rd.fr (S := fun _ => False) (Fr.refl _ wr).drew id)).mono ?_)
                               rintro e w' ⟨rfl, nq, rfl⟩
                               dsimp only
                               rw [HQ.out.1, HQ.out.2])
                            | (go_at_call 129
                               (with_reducible refine (cutake_any p r s en x (en - x.at_) _ (HX5.out.1.cu.fr0 ((Fr.refl _ wr).drewN _))).mono ?_)
                               rintro e w3 ⟨rfl, g1, g2⟩
                               rw [← HR.out.2] at g1 ⊢
                               have q1 : Fr (fun k => k = p ∨ k = r) wr w3 := g2.fromN
                               have hD := HX5.out.1.next g1 q1
                               have H3 := Lib.hid (And.intro hD (own_fr HX5.out.2.1 q1 (fun k hk => by have := HX5.out.2.2.1 k hk; have := HX5.out.1.lp; have := HX5.out.1.lr; rintro (e | e) <;> omega)))
                               have q2 : w3.cell? ⟨w.heap.size, 0, none⟩ = some (.pointer (some ⟨p, 0, none⟩)) := hD.b2.cell 0
                               have q0 : w3.cell? ⟨p, 0, none⟩ = some (.pointer (some ⟨r, 0, none⟩)) := hD.cu.blk.cell 0
                               have q11 : w3.cell? ⟨w.heap.size + 1 + 1, 11, none⟩ = some (.string x5.1.raw) := hD.bd.cell 11
                               have z11 := hD.bd.frozen 11
                               have hs3 : (∀ u, (w3.setCell ⟨w.heap.size + 1 + 1, 11, none⟩ u).cell? ⟨w.heap.size, 0, none⟩ = some (.pointer (some ⟨p, 0, none⟩))) ∧ (∀ u, (w3.setCell ⟨w.heap.size + 1 + 1, 11, none⟩ u).cell? ⟨p, 0, none⟩ = some (.pointer (some ⟨r, 0, none⟩))) :=
                                 ⟨fun u => (World.cell?_of_block (Below.heap_setCell w3 ⟨w.heap.size + 1 + 1, 11, none⟩ u w.heap.size (by show w.heap.size ≠ w.heap.size + 1 + 1; omega))).trans q2,
                                  fun u => (World.cell?_of_block (Below.heap_setCell w3 ⟨w.heap.size + 1 + 1, 11, none⟩ u p (by have := hD.lp; show p ≠ w.heap.size + 1 + 1; omega))).trans q0⟩
                               have HS3 := Lib.hid hs3
                               clear g1 g2 q1 hD hs3))
                        go_wp2_with fail
                        go_meet
                        rw [HA.out]
                        refine ⟨H3.out.1.cell 11 _ rfl, own_fr H3.out.2 ((Fr.refl (· = w.heap.size + 1 + 1) w3).setCell (p := ⟨w.heap.size + 1 + 1, 11, none⟩) (fun _ => rfl) _) fun k hk e => own_ne H3.out.2 H3.out.1.bd (by decide) (e ▸ hk)⟩
                    case rest =>
                      obtain ⟨hD, hO⟩ := hcut
                      have HD := Lib.hid (And.intro hD hO)
                      clear hD hO e8
                      have hbD : Blk wc (w.heap.size + 1 + 1) 53 #[.bool R.1.six, .int .u64 R.1.hi, .int .u64 R.1.lo, .string R.1.name, .string R.1.mail, .int .u32 R.1.n0, .int .u32 R.1.n1, .int .u32 R.1.n2, .int .u32 R.1.n3, .int .u32 R.1.n4, .slice A l.length cap, .string R.1.raw] := HD.out.1.bd
                      have HBD := Lib.hid hbD
                      clear hbD
                      go_upto_region 22 with fail
                      rename_i K22 hK22
                      go_cut [87] (fun _ wx => Blk wx (w.heap.size + 1 + 1) 53 #[.bool R.1.six, .int .u64 R.1.hi, .int .u64 R.1.lo, .string R.1.name, .string R.1.mail, .int .u32 R.1.n0, .int .u32 R.1.n1, .int .u32 R.1.n2, .int .u32 R.1.n3, .int .u32 R.1.n4, .slice A l.length cap, .string R.1.raw] ∧ Fr (· = w.heap.size + 1 + 1) wc wx)
                      case first =>
                        go_wp2_with (first
                          | (refine wpList_load_blk rfl 53 _ rfl (w.heap.size + 1 + 1) (by rfl) 53 _ _ HBD.out Tryz.underlying53 rfl (by kernel_rfl) ?_)
                          | (refine wpList_store_part rfl 53 _ _ rfl (w.heap.size + 1 + 1) 0 (by rfl) [.bool R.1.six, .int .u64 R.1.hi, .int .u64 R.1.lo, .string R.1.name, .string R.1.mail, .int .u32 R.1.n0, .int .u32 R.1.n1, .int .u32 R.1.n2, .int .u32 R.1.n3, .int .u32 R.1.n4, .slice A l.length cap, .string R.1.raw] (by rfl) 53 _ HBD.out (by kernel_rfl) (by simp [Value.oneCell']) (by simp) #[.bool R.1.six, .int .u64 R.1.hi, .int .u64 R.1.lo, .string R.1.name, .string R.1.mail, .int .u32 R.1.n0, .int .u32 R.1.n1, .int .u32 R.1.n2, .int .u32 R.1.n3, .int .u32 R.1.n4, .slice A l.length cap, .string R.1.raw] (lay_all rfl) ?_
                             intro w9 b9 f9
                             have HB9 := Lib.hid (And.intro b9 f9)
                             clear b9 f9))
                        go_meet
                        exact HB9.out
                      case rest =>
                        have HB9 := Lib.hid hcut
                        clear hcut
                        refine hK22 _ _ ?_
                        refine Go.wp_ret ?_
                        have hu : Tryz.prog.underlying 53 = _ := Tryz.underlying53
                        refine bodyPost_ret (results_cell_blk Tryz.results109 HB9.out.1 rfl hu rfl (by kernel_rfl)) rfl ?_
                        have hD9 : DatS w _ p r s en R.2 w.heap.size (w.heap.size + 1) (w.heap.size + 1 + 1) wh tx R.1 (.slice A l.length cap) := HD.out.1.put HB9.out.1 HB9.out.2
                        have hO9 := own_fr HD.out.2 HB9.out.2 fun k hk e => own_ne HD.out.2 HD.out.1.bd (by decide) (e ▸ hk)
                        have hl9 : R.1.texts = l.map fun y => ⟨y.toArray⟩ := by
                          rw [HE.out.1]
                          unfold ddR
                          split <;> rfl
                        have hll : R.1.texts.length = l.length := by rw [hl9, List.length_map]
                        refine ⟨A, cap, by rw [hll]; rfl, hD9.cu, ?_, hD9.fr, fun k hk => ⟨HX5.out.2.2.1 k hk, own_lt hO9 hk⟩⟩
                        rw [hl9]
                        exact strs_own hO9
end Go.Proofs.YtmbgejiahmhffaaGreat
