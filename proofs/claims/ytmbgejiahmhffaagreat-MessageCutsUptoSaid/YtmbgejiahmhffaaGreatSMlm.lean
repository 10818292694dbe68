/-
  LAYER 11: nameplatekit.LightMessage.
-/
import Derived.Test.YtmbgejiahmhffaaGreatSMow
import Derived.Test.YtmbgejiahmhffaaGreatSunG
import Derived.Test.YtmbgejiahmhffaaGreatSunK
namespace Go.Proofs.YtmbgejiahmhffaaGreat
open Go.RowKit
set_option linter.unusedVariables false
set_option linter.unusedSimpArgs false

theorem wpList_load_mid_g {P : Program} {ops : Array Oper} {rest : List Oper} {op : Oper} {a : Act} {w : World} {Q : Exit → Act → World → Prop} (hw : Region.wanted op (yielded ops a.tmps) = true) (ty : TypeId) (x : Operand) (ho : op.op = .load ty x)
    (b o : Nat) (hx : a.eval x = .pointer (some ⟨b, o, none⟩)) (cs : List Value) (d : TypeDesc) (hc : w.rangeAt b o cs)
    (hu : P.underlying ty = some d) (hd : d.isRow = true) (hi : (P.info? ty).map (·.size) = some cs.length)
    (h : wpList P ops Q rest (a.put op.dst (.agg cs.toArray)) w) : wpList P ops Q (op :: rest) a w :=
  wpList_step fun _ hK => by rw [if_pos hw]; exact wp_load_mid ty x ho b o hx cs d hc hu hd hi (hK _ _ h)
def LmPost (w : World) (lq : List Qn) (l : RLm) (e : Ending) (w' : World) : Prop :=
  ∃ b : Bool, e = .returned (.bool b) ∧ Fr (fun _ => False) w w' ∧ (b = true → lq.length + l.length ≤ 24 ∧ (∀ q ∈ lq, q.1.size ≤ 400) ∧ ∀ x ∈ l, x.1.name.size ≤ 400 ∧ x.1.d.light ≤ 2000)
abbrev dclm (x : Rcd × Option Addr × Nat) : List Value := [.bool x.1.d.six, .int .u64 x.1.d.hi, .int .u64 x.1.d.lo, .string x.1.d.name, .string x.1.d.mail, .int .u32 x.1.d.n0, .int .u32 x.1.d.n1, .int .u32 x.1.d.n2, .int .u32 x.1.d.n3, .int .u32 x.1.d.n4, .slice x.2.1 x.1.d.texts.length x.2.2, .string x.1.d.raw]
theorem rcl_data {w : World} {x : Rcd × Option Addr × Nat} {b o : Nat} (h : w.rangeAt b o (rcl x)) : w.rangeAt b (o + 4) (dclm x) := fun j v hv => by
  have := h (4 + j) v (by
    rw [Nat.add_comm]
    simp only [rcl, Rcd.cells, List.getElem?_cons_succ]
    exact hv)
  rw [Nat.add_assoc]
  exact this
theorem take_succ_mem {α : Type} {l : List α} {k : Nat} {x : α} {p : α → Prop} (h : ∀ y ∈ l.take k, p y) (hx : l[k]? = some x) (h1 : p x) : ∀ y ∈ l.take (k + 1), p y := by
  intro y hy
  rw [List.take_add_one, hx] at hy
  rcases List.mem_append.1 hy with g | g
  · exact h y g
  · simp at g; rw [g]; exact h1
set_option maxRecDepth 100000 in
set_option maxHeartbeats 8000000 in
theorem lightm_any (h : Hd) (Aq : Option Addr) (lq : List Qn) (cq : Nat) (Aa : Option Addr) (la : RLm) (ca : Nat) (Ab : Option Addr) (lb : RLm) (cb : Nat) (Ac : Option Addr) (lc : RLm) (cc : Nat) (w : World) (hm : MsIn w h Aq lq cq Aa la ca Ab lb cb Ac lc cc) :
    Calls Tryz.prog 10 #[.agg #[.int .u16 h.id, .bool h.resp, .int .i64 h.op, .bool h.aa, .bool h.tc, .bool h.rd, .bool h.ra, .bool h.ad, .bool h.cd, .int .i64 h.rc, .int .i64 h.c0, .int .i64 h.c1, .int .i64 h.c2, .int .i64 h.c3, .slice Aq lq.length cq, .slice Aa la.length ca, .slice Ab lb.length cb, .slice Ac lc.length cc], .int .i64 24] w (LmPost w lq (la ++ lb ++ lc)) := by
  have hszd : ∀ x : Rcd × Option Addr × Nat, (Tryz.prog.info? 53).map (·.size) = some (dclm x).length := fun x => by show _ = some 12; kernel_rfl
  have HSZ := Lib.hid hszd
  obtain ⟨l, hl⟩ : ∃ l, l = la ++ lb ++ lc := ⟨_, rfl⟩
  rw [← hl]
  obtain ⟨W, hW⟩ : ∃ W, W = w.alloc (.cells #[.int .u16 h.id, .bool h.resp, .int .i64 h.op, .bool h.aa, .bool h.tc, .bool h.rd, .bool h.ra, .bool h.ad, .bool h.cd, .int .i64 h.rc, .int .i64 h.c0, .int .i64 h.c1, .int .i64 h.c2, .int .i64 h.c3, .slice Aq lq.length cq, .slice Aa la.length ca, .slice Ab lb.length cb, .slice Ac lc.length cc] 29) := ⟨_, rfl⟩
  have b1 : Blk W w.heap.size 29 #[.int .u16 h.id, .bool h.resp, .int .i64 h.op, .bool h.aa, .bool h.tc, .bool h.rd, .bool h.ra, .bool h.ad, .bool h.cd, .int .i64 h.rc, .int .i64 h.c0, .int .i64 h.c1, .int .i64 h.c2, .int .i64 h.c3, .slice Aq lq.length cq, .slice Aa la.length ca, .slice Ab lb.length cb, .slice Ac lc.length cc] := by rw [hW]; exact Blk.new _ _ _
  have hf : Fr (fun _ => False) w W := by rw [hW]; exact (Fr.refl _ _).alloc _
  have d14 : W.cell? ⟨w.heap.size, 14, none⟩ = some (.slice Aq lq.length cq) := b1.cell 14
  have d15 : W.cell? ⟨w.heap.size, 15, none⟩ = some (.slice Aa la.length ca) := b1.cell 15
  have d16 : W.cell? ⟨w.heap.size, 16, none⟩ = some (.slice Ab lb.length cb) := b1.cell 16
  have d17 : W.cell? ⟨w.heap.size, 17, none⟩ = some (.slice Ac lc.length cc) := b1.cell 17
  have nq := hm.qz.1
  have na := hm.az.1
  have nb := hm.bz.1
  have nc := hm.cz.1
  have HB := Lib.hid (And.intro b1 hf)
  have HM := Lib.hid hm
  have HW := Lib.hid hW
  have HRK := Lib.hid (show ∀ x ∈ l, RcIn w x.2.1 x.1 ∧ x.1.name.size + x.1.d.light ≤ 1048576 from fun x hx => by
    rw [hl] at hx
    rcases List.mem_append.1 hx with hx | hx
    · rcases List.mem_append.1 hx with hx | hx
      · exact HM.out.ak x hx
      · exact HM.out.bk x hx
    · exact HM.out.ck x hx)
  have hll : l.length ≤ 1000000000 := by rw [hl, List.length_append, List.length_append]; omega
  have HLN := Lib.hid (show l.length = la.length + lb.length + lc.length by rw [hl, List.length_append, List.length_append])
  have HRC := Lib.hid (show ∀ W, Fr (fun _ => False) w W → Calls Tryz.prog 14 #[.agg #[.int .u16 h.id, .bool h.resp, .int .i64 h.op, .bool h.aa, .bool h.tc, .bool h.rd, .bool h.ra, .bool h.ad, .bool h.cd, .int .i64 h.rc, .int .i64 h.c0, .int .i64 h.c1, .int .i64 h.c2, .int .i64 h.c3, .slice Aq lq.length cq, .slice Aa la.length ca, .slice Ab lb.length cb, .slice Ac lc.length cc]] W (OwnPost W l) from fun W f => by
    rw [hl]
    exact recs_any h Aq lq.length cq Aa la ca Ab lb cb Ac lc cc W (rowIn_fr0 HM.out.a f) (rowIn_fr0 HM.out.b f) (rowIn_fr0 HM.out.c f) na nb nc)
  clear b1 hf hW hm hszd hl
  by_cases h24 : (24 : Int) < (lq.length : Int) + (la.length : Int) + (lb.length : Int) + (lc.length : Int)
  · go_enter Tryz.func10, Tryz.ntmps10
    go_upto_region 1 with fail
    rw [← HW.out]
    clear HW
    go_wp2_with fail
    go_ret
    exact ⟨false, rfl, HB.out.2, fun h => by cases h⟩
  · go_enter Tryz.func10, Tryz.ntmps10
    go_upto_region 1 with fail
    rw [← HW.out]
    clear HW
    go_wp2_with fail
    have H24 := Lib.hid h24
    clear h24 d14 d15 d16 d17
    go_loopw [5] (fun i wr => ∃ k : Nat, k ≤ lq.length ∧ i = .int .i64 (k : Nat) ∧ (∀ q ∈ lq.take k, q.1.size ≤ 400) ∧ Fr (fun _ => False) W wr) (fun i _ => lq.length - (intOf i).toNat)
    case atStart => exact ⟨0, Nat.zero_le _, rfl, fun q hq => by simp at hq, Fr.refl _ _⟩
    case round =>
      obtain ⟨k, hk, rfl, hall, hfr⟩ := hrel
      have d14 : wr.cell? ⟨w.heap.size, 14, none⟩ = some (.slice Aq lq.length cq) := (HB.out.1.fr hfr id).cell 14
      have HF := Lib.hid (And.intro hfr hall)
      clear hfr hall
      by_cases hlt : k < lq.length
      · obtain ⟨x, hx⟩ : ∃ x, lq[k]? = some x := ⟨lq[k], List.getElem?_eq_getElem hlt⟩
        obtain ⟨b, off, rfl, hbs, g0, g1, g2⟩ := rowIn_q (rowIn_fr0 (rowIn_fr0 HM.out.q HB.out.2) HF.out.1) hx
        have hxs := (HM.out.qk x (List.mem_of_getElem? hx)).1
        have HX := Lib.hid hx
        have hk0 : (0 : Int) ≤ (k : Int) := by omega
        clear g1 g2 hx
        by_cases h3 : 400 < (x.1.size : Int)
        · go_wp2_with fail
          go_ret
          exact ⟨false, rfl, HB.out.2.then HF.out.1, fun h => by cases h⟩
        · go_wp2_with fail
          go_roundw
          case rel => exact ⟨k + 1, hlt, by go_num, take_succ_mem HF.out.2 HX.out (by omega), HF.out.1⟩
          case measure => simp [intOf]; omega
      · have hke : k = lq.length := by omega
        subst hke
        have HQ := Lib.hid (show ∀ q ∈ lq, q.1.size ≤ 400 from by have := HF.out.2; rwa [List.take_length] at this)
        have HB1 := Lib.hid (And.intro (HB.out.1.fr HF.out.1 id) (HB.out.2.then HF.out.1))
        clear hlt HF
        rename World => w1
        go_wp2_with (first
          | (refine wpList_load_blk rfl 29 _ rfl w.heap.size (by rfl) 29 _ _ HB1.out.1 Tryz.underlying29 rfl (by kernel_rfl) ?_)
          | (go_at_call 14
             (with_reducible refine (HRC.out _ HB1.out.2).mono ?_)
             rintro e w2 ⟨A2, c2, rfl, o1, o2, o3⟩
             have H2 := Lib.hid (And.intro (own_rowIn o1) (HB1.out.2.then o3))
             clear o1 o2 o3)
          | fail "no arm")
        have HL4 := Lib.hid (show lq.length + l.length ≤ 24 from by have := H24.out; have := HLN.out; omega)
        go_loopw [7] (fun i wr => ∃ k : Nat, k ≤ l.length ∧ i = .int .i64 (k : Nat) ∧ (∀ x ∈ l.take k, x.1.name.size ≤ 400 ∧ x.1.d.light ≤ 2000) ∧ Fr (fun _ => False) w2 wr) (fun i _ => l.length - (intOf i).toNat)
        case atStart => exact ⟨0, Nat.zero_le _, rfl, fun q hq => by simp at hq, Fr.refl _ _⟩
        case round =>
          obtain ⟨k, hk, rfl, hall, hfr⟩ := hrel
          have HF := Lib.hid (And.intro hfr (And.intro hall (H2.out.2.then hfr)))
          clear hfr hall
          by_cases hlt : k < l.length
          · obtain ⟨x, hx⟩ : ∃ x, l[k]? = some x := ⟨l[k], List.getElem?_eq_getElem hlt⟩
            obtain ⟨b, off, rfl, hbs, hrg⟩ := rowIn_mk rcl 16 rcl_lenm (rowIn_fr0 H2.out.1 HF.out.1) hx
            have g0 : wr.cell? ⟨b, off + k * 16, none⟩ = some (.string x.1.name) := hrg 0 _ rfl
            have HD := Lib.hid (rcl_data hrg)
            have hxk := HRK.out x (List.mem_of_getElem? hx)
            have hxs : x.1.name.size ≤ 1048576 := by omega
            have HX := Lib.hid (And.intro hx (And.intro (hxk.1.d.fr0 HF.out.2.2) (show x.1.d.light ≤ 1000000000000000 by omega)))
            have hk0 : (0 : Int) ≤ (k : Int) := by omega
            clear hx hrg hxk
            by_cases h3 : 400 < (x.1.name.size : Int)
            · go_wp2_with fail
              go_ret
              exact ⟨false, rfl, HF.out.2.2, fun h => by cases h⟩
            · obtain ⟨bb, hbb⟩ : ∃ bb, bb = decide (x.1.d.light ≤ 2000) := ⟨_, rfl⟩
              have HBB := Lib.hid hbb
              clear hbb
              go_upto_if 63 with (first
                | (refine wpList_load_mid_g (by rfl) 53 _ rfl b (off + k * 16 + 4) (by rfl) (dclm x) _ HD.out Tryz.underlying53 rfl (HSZ.out x) ?_)
                | (go_at_call 18
                   (with_reducible refine (light_any x.1.d x.2.1 x.2.2 _ HX.out.2.1 HX.out.2.2).mono ?_)
                   rintro e w3 ⟨rfl, f3⟩
                   rw [← HBB.out]
                   have H3 := Lib.hid (And.intro (HF.out.1.then f3) (HF.out.2.2.then f3))
                   clear f3
                   rcases bb with _ | _)
                | fail "no arm")
              · go_wp2_with fail
                go_ret
                exact ⟨false, rfl, H3.out.2, fun h => by cases h⟩
              · go_wp2_with fail
                go_roundw
                case rel => exact ⟨k + 1, hlt, by go_num, take_succ_mem HF.out.2.1 HX.out.1 ⟨by omega, of_decide_eq_true HBB.out.symm⟩, H3.out.1⟩
                case measure => simp [intOf]; omega
          · have hke : k = l.length := by omega
            subst hke
            have hall := HF.out.2.1
            rw [List.take_length] at hall
            have HA := Lib.hid hall
            clear hall
            go_wp2_with fail
            go_ret
            exact ⟨true, rfl, HF.out.2.2, fun _ => ⟨HL4.out, HQ.out, HA.out⟩⟩
end Go.Proofs.YtmbgejiahmhffaaGreat
