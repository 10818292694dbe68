/-
  LAYER 7: PackLengths.
-/
import Derived.Test.YtbemackcdccpaaaPlp
import Derived.Test.YtbemackcdccpaaaOpens
namespace Go.Proofs.Ytbemackcdccpaaa
open Go.RowKit Go.Maps

/-- The places of the lengths, as they were told. -/
def offs (l : List ByteArray) (k : Nat) : List Int := (List.range k).map fun j => ((posL l j : Nat) : Int)
theorem offs_len (l : List ByteArray) (k : Nat) : (offs l k).length = k := by simp [offs]
theorem offs_get (l : List ByteArray) {k j : Nat} (h : j < k) : (offs l k)[j]? = some ((posL l j : Nat) : Int) := by simp [offs, h]
theorem offs_succ (l : List ByteArray) (k : Nat) : offs l (k + 1) = offs l k ++ [((posL l k : Nat) : Int)] := by simp [offs, List.range_succ]
theorem offs_cells (l : List ByteArray) {k j : Nat} (h : j < k) : ((offs l k).map (Value.int .i64))[j]? = some (.int .i64 ((posL l j : Nat) : Int)) := by rw [List.getElem?_map, offs_get l h]; rfl

/-- A length begun, a row put behind it. -/
theorem begin_num (b : List UInt8) (h : b.length + 2 ≤ 65535) : (Wst.mk b 65535 0).number 0 2 = (⟨b ++ [0, 0], 65535, 0⟩, 0) := by
  unfold Wst.number
  rw [if_neg (by simp), if_pos (by decide)]
  rw [show (0 : Int).toNat = 0 from rfl, show (2 : Int).toNat = 2 from rfl, show octs 0 2 = [0, 0] from rfl]
  exact Wst.put_ok rfl (by simp; omega)

/-- What stands while lengths are begun. -/
structure PL1 (w wr : World) (q k : Nat) (F : Nat → Prop) (g : List UInt8 → Option Nat) (l : List ByteArray) (A4 : Option Addr) (c4 : Nat) : Prop where
  pk : PPk wr q F ⟨⟨bd (fun _ => [0, 0]) 0 (l.take k), 65535, 0⟩, g⟩ (offs l k)
  o4 : wr.ownsRow 0 3 1 (.slice A4 k c4) k ((offs l k).map (Value.int .i64))
  small : ∀ x ∈ l.take k, x.size ≤ 300
  fB : ∀ i, F i → w.heap.size ≤ i
  r4 : ∀ i, rowOf A4 i → w.heap.size ≤ i ∧ ¬ F i
  bel : Below w.heap.size w wr

theorem PPk.lt7 {w : World} {q : Nat} {F : Nat → Prop} {y : Pk} {bg : List Int} (h : PPk w q F y bg) : ∀ k, F k → k < w.heap.size := by
  obtain ⟨n, _, p, G, b, C, ccap, _, _, _, _, _, _, _, _, _, h⟩ := h
  exact h
/-- One more. -/
theorem PL1.next {w wr w2 w3 w4 : World} {q k : Nat} {F F2 F3 : Nat → Prop} {g : List UInt8 → Option Nat} {l : List ByteArray} {A4 B4 : Option Addr} {c4 d4 : Nat} (h : PL1 w wr q k F g l A4 c4) (x : ByteArray) (hx : l[k]? = some x) (hx3 : x.size ≤ 300)
    (a1 : PPk w3 q F3 ⟨⟨bd (fun _ => [0, 0]) 0 (l.take (k + 1)), 65535, 0⟩, g⟩ (offs l (k + 1))) (f2 : Fr F wr w2) (s2 : ∀ i, F2 i → F i ∨ wr.heap.size ≤ i) (f3 : Fr F2 w2 w3) (s3 : ∀ i, F3 i → F2 i ∨ w2.heap.size ≤ i)
    (o1 : w4.ownsRow 0 3 1 (.slice B4 (k + 1) d4) (k + 1) ((offs l k).map (Value.int .i64) ++ [.int .i64 ((posL l k : Nat) : Int)])) (o2 : Fr (rowOf A4) w3 w4) (o3 : ∀ i, rowOf B4 i → rowOf A4 i ∨ w3.heap.size ≤ i) : PL1 w w4 q (k + 1) F3 g l B4 d4 := by
  have hbw := h.bel.size
  have z2 := f2.size
  have z3 := f3.size
  have hA4 : ∀ i, rowOf A4 i → i < wr.heap.size := fun i hi => own_lt h.o4 hi
  have h3 : ∀ i, F3 i → F i ∨ wr.heap.size ≤ i := fun i hi => (s3 i hi).elim (s2 i) fun h => .inr (by omega)
  have hF3 : ∀ i, F3 i → ¬ rowOf A4 i := fun i hi hr => (h3 i hi).elim (h.r4 i hr).2 fun h => by have := hA4 i hr; omega
  have hl3 := a1.lt7
  have hF2 : ∀ i, F2 i → w.heap.size ≤ i := fun i hi => (s2 i hi).elim (h.fB i) fun h => by omega
  refine ⟨a1.fr o2 hF3, ?_, ?_, fun i hi => (h3 i hi).elim (h.fB i) fun h => by omega, fun i hi => ?_, ((h.bel.trans (f2.below h.fB hbw)).trans (f3.below hF2 (by omega))).trans (o2.below (fun i hi => (h.r4 i hi).1) (by omega))⟩
  · rw [offs_succ, List.map_append]
    exact o1
  · intro z hz
    rw [List.take_succ_eq_append_getElem (List.getElem?_eq_some_iff.1 hx).1, (List.getElem?_eq_some_iff.1 hx).2] at hz
    rcases List.mem_append.1 hz with hz | hz
    · exact h.small z hz
    · rw [List.mem_singleton] at hz
      rw [hz]; exact hx3
  · rcases o3 i hi with hr | hr
    · exact ⟨(h.r4 i hr).1, fun hf => hF3 i hf hr⟩
    · exact ⟨by omega, fun hf => by have := hl3 i hf; omega⟩

set_option maxRecDepth 100000 in
set_option maxHeartbeats 16000000 in
theorem packLengths_walk (A : Option Addr) (cap : Nat) (l : List ByteArray) (w : World) (h : Strs w A l ∧ (∀ x ∈ l, x.size ≤ maxLen) ∧ l.length ≤ maxLen) :
    Calls Try.prog 21 #[.slice A l.length cap] w fun e w' => e = .returned (.bool true) ∧ Below w.heap.size w w' := by
  obtain ⟨i0, hi, hz0, hz1, hz2⟩ := info_parts Try.infoInt
  obtain ⟨hA, hxs, hlm⟩ := h
  have HA := Lib.hid hA
  have hll : l.length ≤ 9223372036854775807 := by simp only [maxLen] at hlm; omega
  clear hA hlm hxs
  by_cases hl : 20 < l.length
  · go_enter Try.func21, Try.ntmps21
    go_wp2_with fail
    refine (lives7_any _).mono ?_
    rintro e w1 ⟨rfl, f1⟩
    go_wp2_with fail
    go_ret
    exact ⟨rfl, f1.below (fun _ h => h.elim) (Nat.le_refl _)⟩
  · go_enter Try.func21, Try.ntmps21
    go_wp2_with fail
    refine (lives7_any _).mono ?_
    rintro e w1 ⟨rfl, f1⟩
    have F1 := Lib.hid f1
    clear f1
    go_wp2_with fail
    refine (pnew_any 65535 (by decide) _).mono ?_
    rintro e w2 ⟨q, F, rfl, g1, g2, g3⟩
    have hP : Hid (PL1 w w2 q 0 F (fun _ => none) l none 0) :=
      ⟨g1, own_nil _ _ _, (fun x hx => by simp at hx), fun i hi => Nat.le_trans F1.out.size (g3 i hi), fun i hi => absurd hi (rowOf_none i), (F1.out.then g2).below (fun _ h => h.elim) (Nat.le_refl _)⟩
    clear g1 g2 g3 F1
    go_wp2_with fail
    go_loopg [4, 5] l.length (fun g a4 i wr => ∃ (k : Nat) (F : Nat → Prop) (G : List UInt8 → Option Nat) (A4 : Option Addr) (c4 : Nat), g = l.length - k ∧ k ≤ l.length ∧ i = .int .i64 (k : Nat) ∧ a4 = .slice A4 k c4 ∧ PL1 w wr q k F G l A4 c4)
    case atStart => exact ⟨0, F, _, none, 0, rfl, Nat.zero_le _, rfl, rfl, hP.out⟩
    case round =>
      obtain ⟨k, F2, G, A4, c4, rfl, hk, rfl, rfl, hpl⟩ := hrel
      by_cases hlt : k < l.length
      · obtain ⟨x, hx⟩ : ∃ x, l[k]? = some x := ⟨l[k], List.getElem?_eq_getElem hlt⟩
        obtain ⟨b, off, rfl, hbs, hc⟩ := HA.out (by rw [List.length_map]; omega)
        have hcx := hc k (.string x) (by rw [List.getElem?_map, hx]; rfl)
        have d0 : wr.cell? ⟨b, off + k, none⟩ = some (.string x) := (hpl.bel.cell (p := ⟨b, _, none⟩) hbs).trans hcx
        have HP := Lib.hid hpl
        have HX := Lib.hid hx
        clear hc hcx hpl hP
        by_cases hx3 : 300 < x.size
        · go_wp2_with fail
          go_ret
          exact ⟨rfl, HP.out.bel⟩
        · have hbl : (bd (fun _ => [0, 0]) 0 (l.take k)).length = posL l k := by rw [bd_len _ (fun _ => rfl), List.length_take, Nat.min_eq_left (by omega), posL_take l k (by omega)]
          have hpos : posL l k ≤ 302 * k := by
            have := posL_le (l.take k) k (by rw [List.length_take]; omega) HP.out.small
            rwa [posL_take l k (by omega)] at this
          have hnum := begin_num (bd (fun _ => [0, 0]) 0 (l.take k)) (by rw [hbl]; omega)
          have hput := Wst.put_ok (x := ⟨bd (fun _ => [0, 0]) 0 (l.take k) ++ [0, 0], 65535, 0⟩) (l := x.data.toList) rfl (by dsimp only; rw [List.length_append, hbl, size_l]; simp; omega)
          have hbd : bd (fun _ => [0, 0]) 0 (l.take k) ++ [0, 0] ++ x.data.toList = bd (fun _ => [0, 0]) 0 (l.take (k + 1)) := by
            rw [List.take_succ_eq_append_getElem hlt, bd_append, (List.getElem?_eq_some_iff.1 HX.out).2]
            simp [bd]
          rw [hbd] at hput
          have hblk : ¬ F2 b := fun hf => by have := HP.out.fB b hf; omega
          go_wp2_with fail
          refine (pbegin_ok q F2 _ (offs l k) _ HP.out.pk (by dsimp only; rw [hbl]; omega) (by rw [offs_len]; omega) (by dsimp only; rw [hnum])).mono ?_
          rintro e w3 ⟨rfl, F3, g1, g2, g3⟩
          rw [hnum] at g1
          rw [hbl] at g1 ⊢
          rw [← offs_succ] at g1
          have d3 : w3.cell? ⟨b, off + k, none⟩ = some (.string x) := (g2.cell (p := ⟨b, off + k, none⟩) (World.block_lt_of_cell? wr _ d0) hblk).trans d0
          have hblk3 : ¬ F3 b := fun hf => (g3 b hf).elim hblk fun h => by have := World.block_lt_of_cell? wr _ d0; dsimp only at this; omega
          have HG := Lib.hid (And.intro g1 (And.intro g2 g3))
          clear g1 g2 g3 d0
          go_wp2_with fail
          refine (pput_any q F3 _ (offs l (k + 1)) x _ HG.out.1 (by dsimp only; rw [List.length_append, hbl]; simp; omega)).mono ?_
          rintro e w4 ⟨rfl, F4, g1, g2, g3⟩
          dsimp only at g1 ⊢
          rw [hput] at g1 ⊢
          have HG2 := Lib.hid (And.intro g1 (And.intro g2 g3))
          have HO : Hid (w4.ownsRow 0 3 1 (.slice A4 k c4) k ((offs l k).map (Value.int .i64))) := own_fr (own_fr HP.out.o4 HG.out.2.1 fun i hi => (HP.out.r4 i hi).2) g2 fun i hi hf => (HG.out.2.2 i hf).elim (HP.out.r4 i hi).2 fun h => by have := own_lt HP.out.o4 hi; omega
          clear g1 g2 g3 d3
          go_wp2_with (first
            | (at_builtin; refine wpList_append_src rfl (.tmp 45) (.tmp 47) _ _ rfl 3 i0 _ 1 8 Try.underlying49 hi hz0 hz1 hz2 rfl (by decide) A4 k c4 ((offs l k).map (Value.int .i64)) (by rfl) (HO.out.alloc _) _ 1 [.int .i64 ((posL l k : Nat) : Int)] (by rfl)
                 (Src.ofSlice _ Try.underlying49 ⟨w4.heap.size, 0, none⟩ 1 1 [.int .i64 ((posL l k : Nat) : Int)] rfl (int_new _ _ _) (int_one _)) (by simp only [maxLen]; omega) (by omega) ?_
               intro B4 d4 w5 o1 o2 o3
               have hn := HP.out.next x HX.out (by omega) HG2.out.1 HG.out.2.1 HG.out.2.2 HG2.out.2.1 HG2.out.2.2 o1 (((Fr.refl _ w4).alloc _).then o2) (fun i hi => (o3 i hi).imp id fun h => Nat.le_trans (by simp) h)
               have HN := Lib.hid hn
               clear hn o1 o2 o3))
          go_roundg (l.length - (k + 1))
          case measure => omega
          case rel => exact ⟨k + 1, F4, G, B4, d4, rfl, by omega, by go_num, rfl, HN.out⟩
      · have hke : k = l.length := by omega
        subst hke
        have hpl2 := hpl.pk
        rw [List.take_length] at hpl2
        have hsm := hpl.small
        rw [List.take_length] at hsm
        have hT := posL_le l l.length (Nat.le_refl _) hsm
        clear hsm
        have hbl : ∀ j, (bd (hdL l j) 0 l).length = posL l l.length := fun j => bd_len _ (hdL_len l j) l 0
        have HP := Lib.hid hpl
        have HS : Hid (PPk wr q F2 ⟨⟨bd (hdL l l.length) 0 l, 65535, 0⟩, G⟩ (offs l l.length)) := by
          have e : bd (hdL l l.length) 0 l = bd (fun _ => [0, 0]) 0 l := bd_congr _ _ fun i _ h2 => by
            unfold hdL
            rw [if_neg (by omega)]
          show PPk _ _ _ _ _
          rw [e]
          exact hpl2
        clear hpl hpl2 hP
        obtain ⟨W, hW⟩ : ∃ W, W = wr := ⟨_, rfl⟩
        subst hW
        go_wp2_with fail
        go_loopg [8] l.length (fun g v wq => ∃ (j : Nat) (F' : Nat → Prop), g = j ∧ j ≤ l.length ∧ v = .int .i64 ((j : Int) - 1) ∧ PPk wq q F' ⟨⟨bd (hdL l j) 0 l, 65535, 0⟩, G⟩ (offs l j) ∧ Fr F2 W wq ∧ ∀ i, F' i → F2 i ∨ W.heap.size ≤ i)
        case atStart => exact ⟨l.length, F2, rfl, Nat.le_refl _, rfl, HS.out, Fr.refl _ _, fun _ h => .inl h⟩
        case round =>
          obtain ⟨j, F3, hgj, hj, rfl, hpk, hfr, hsub⟩ := hrel
          have HO := Lib.hid (own_fr HP.out.o4 hfr fun i hi => (HP.out.r4 i hi).2)
          have HK := Lib.hid (And.intro hpk (And.intro hfr hsub))
          have HJ := Lib.hid hgj
          clear hpk hfr hsub HS hgj
          cases j with
          | zero =>
            have q0 : (((0 : Nat) : Int) - 1) = -1 := by decide
            rw [q0]
            clear q0
            go_wp2_with fail
            refine (ptext_any q F3 _ _ _ HK.out.1).mono ?_
            rintro e w' ⟨rfl, rfl⟩
            dsimp only
            have hsz : (⟨(bd (hdL l 0) 0 l).toArray⟩ : ByteArray).size = posL l l.length := by rw [sz_mk, hbl]
            have hli : (⟨(bd (hdL l 0) 0 l).toArray⟩ : ByteArray).data.toList = bd (hdL l 0) 0 l := rfl
            have hSd : ∃ S : ByteArray, S = ⟨(bd (hdL l 0) 0 l).toArray⟩ := ⟨_, rfl⟩
            obtain ⟨S, hS⟩ := hSd
            rw [← hS] at hsz hli ⊢
            have HZ := Lib.hid (And.intro hsz hli)
            clear hsz hli hS
            go_wp2_with fail
            go_loopg [10] l.length (fun g v wq => ∃ (j n : Nat), g = l.length - j ∧ j ≤ l.length ∧ v = .int .i64 (j : Nat) ∧ wq = wr.drewN n)
            case atStart => exact ⟨0, 0, rfl, Nat.zero_le _, rfl, rfl⟩
            case round =>
              obtain ⟨j, n, hgj, hjl, rfl, rfl⟩ := hrel
              have HJ2 := Lib.hid hgj
              clear hgj
              by_cases hlt2 : j < l.length
              · obtain ⟨x, hx⟩ : ∃ x, l[j]? = some x := ⟨l[j], List.getElem?_eq_getElem hlt2⟩
                obtain ⟨b, off, rfl, hbs, hc⟩ := HA.out (by rw [List.length_map]; omega)
                have hcx := hc j (.string x) (by rw [List.getElem?_map, hx]; rfl)
                have d1 : W.cell? ⟨b, off + j, none⟩ = some (.string x) := (HP.out.bel.cell (p := ⟨b, _, none⟩) hbs).trans hcx
                have d0 : wr.cell? ⟨b, off + j, none⟩ = some (.string x) := (HK.out.2.1.cell (p := ⟨b, off + j, none⟩) (World.block_lt_of_cell? W _ d1) (fun hf => by have := HP.out.fB b hf; omega)).trans d1
                obtain ⟨g4, rfl, e0⟩ := own_cell HO.out (j := j) (offs_cells l hlt2)
                have e1 : wr.cell? ⟨g4, j, none⟩ = some (.int .i64 ((posL l j : Nat) : Int)) := e0
                obtain ⟨r1, r2, r3⟩ := bd_reads l j x hx (by omega)
                have hsz := HZ.out.1
                rw [← HZ.out.2] at r1 r2
                have hix := run_index_oc S (posL l j : Int) (posL l j) rfl (by omega)
                have hix2 := run_index_oc S ((posL l j : Int) + 1) (posL l j + 1) (by omega) (by omega)
                have o1 := oc_lt S.data.toList (posL l j)
                have o2 := oc_lt S.data.toList (posL l j + 1)
                have hxz : x.size ≤ posL l l.length := by omega
                have hex : S.extract (posL l j + 2) (posL l j + 2 + x.size) = x := by
                  have h := extract_list S (posL l j + 2) (posL l j + 2 + x.size)
                  rw [Nat.add_sub_cancel_left, r2] at h
                  exact ByteArray.ext (Array.toList_inj.1 h)
                have hsl : ∀ w, (Instr.slice 9 (.string S) (some (.int .i64 ((posL l j : Int) + 2))) (some (.int .i64 ((posL l j : Int) + 2 + (x.size : Int)))) none).run Try.prog w = .ok (.string x) w := fun w => by
                  rw [run_slice_string (P := Try.prog) w 9 S .i64 .i64 _ _ Try.underlying9 (by omega) (by omega) (by omega), show ((posL l j : Int) + 2).toNat = posL l j + 2 by omega, show ((posL l j : Int) + 2 + (x.size : Int)).toNat = posL l j + 2 + x.size by omega, hex]
                clear hc hcx d1 e0 r2 hex hx
                generalize oc S.data.toList (posL l j) = u at *
                generalize oc S.data.toList (posL l j + 1) = v at *
                generalize posL l j = a at *
                have q1 : IntKind.i64.wrap (256 * (u : Int)) = 256 * (u : Int) := IntWalk.i64_in _ (by omega)
                have q2 : IntKind.i64.wrap (256 * (u : Int) + (v : Int)) = (S.size : Int) - a - 2 := by rw [IntWalk.i64_in _ (by omega)]; omega
                have q3 : IntKind.i64.wrap ((S.size : Int) - a) = (S.size : Int) - a := IntWalk.i64_in _ (by omega)
                have q4 : IntKind.i64.wrap ((S.size : Int) - a - 2) = (S.size : Int) - a - 2 := IntWalk.i64_in _ (by omega)
                have q5 : IntKind.i64.wrap ((a : Int) + 1) = (a : Int) + 1 := IntWalk.i64_in _ (by omega)
                have q6 : IntKind.i64.wrap ((a : Int) + 2) = (a : Int) + 2 := IntWalk.i64_in _ (by omega)
                have q7 : IntKind.i64.wrap ((a : Int) + 2 + (x.size : Int)) = (a : Int) + 2 + (x.size : Int) := IntWalk.i64_in _ (by omega)
                have q8 : IntKind.i64.wrap (u : Int) = (u : Int) := IntWalk.i64_in _ (by omega)
                have q9 : IntKind.i64.wrap (v : Int) = (v : Int) := IntWalk.i64_in _ (by omega)
                have q10 : (j : Int) < (l.length : Int) := by omega
                have q11 : (0 : Int) ≤ (j : Int) := by omega
                clear r1 hsz
                go_wp2_with fail
                go_quiet (fail)
                go_wp2_with fail
                go_roundg (l.length - (j + 1))
                case measure => rw [HJ2.out]; omega
                case rel => exact ⟨j + 1, _, rfl, by omega, by go_num, rfl⟩
              · have hjl2 : j = l.length := by omega
                subst hjl2
                go_wp2_with fail
                go_ret
                exact ⟨rfl, (HP.out.bel.trans (HK.out.2.1.below HP.out.fB HP.out.bel.size)).drewN' n⟩
          | succ i =>
            have q0 : (((i + 1 : Nat) : Int) - 1) = (i : Int) := by omega
            rw [q0]
            clear q0
            have hil : i < l.length := by omega
            obtain ⟨g4, rfl, e1⟩ := own_cell HO.out (j := i) (offs_cells l hil)
            have hpat := bd_patch l i hil 65535
            have hpp := hpat.resolve_right (by omega)
            have hsucc := posL_succ l i l[i] (List.getElem?_eq_getElem hil)
            have hmono := posL_mono l (show i + 1 ≤ l.length by omega) (Nat.le_refl _)
            clear hpat
            have hend : ∀ wq' : World, wq' = _ → Calls Try.prog 75 #[.pointer (some ⟨q, 0, none⟩), .int .i64 ((posL l i : Nat) : Int)] wq' (PPkPost wq' q F3 (offs l i) (⟨⟨bd (hdL l i) 0 l, 65535, 0⟩, G⟩, 0)) := fun wq' e => by
              have hpk := HK.out.1
              rw [offs_succ] at hpk
              have := pend_ok q F3 _ (offs l i) (posL l i) _ hpk rfl (by rw [offs_len]; omega) (by dsimp only; rw [hbl]; omega) (by dsimp only; rw [hbl]; omega)
              dsimp only at this
              rw [hbl, hpp] at this
              rw [e]
              exact this
            have HE := Lib.hid (hend _ rfl)
            clear hend hpp
            cases i with
            | zero =>
              go_wp2_with fail
              refine HE.out.mono ?_
              rintro e w3 ⟨rfl, F4, g1, g2, g3⟩
              go_wp2_with fail
              go_roundg 0
              case measure => rw [HJ.out]; omega
              case rel => exact ⟨0, F4, rfl, Nat.zero_le _, by go_num, g1, HK.out.2.1.trans g2 fun i hi h => (HK.out.2.2 i h).resolve_right (by omega), fun i hi => (g3 i hi).elim (HK.out.2.2 i) fun h => .inr (Nat.le_trans HK.out.2.1.size h)⟩
            | succ i' =>
              have hil' : i' < l.length := by omega
              obtain ⟨g5, hg5, e2⟩ := own_cell HO.out (j := i') (offs_cells l (show i' < l.length by omega))
              cases hg5
              have hlast : (offs l (i' + 1 + 1)).getLast? ≠ some ((posL l i' : Nat) : Int) := by
                rw [offs_succ, List.getLast?_concat]
                intro h
                have hs := posL_succ l i' l[i'] (List.getElem?_eq_getElem hil')
                simp only [Option.some.injEq] at h
                omega
              have HL := Lib.hid hlast
              clear hlast
              go_wp2_with fail
              refine (pend_state q F3 _ _ _ _ HK.out.1 rfl (by rw [offs_len]; omega) HL.out).mono ?_
              rintro e w3 ⟨rfl, rfl⟩
              go_wp2_with fail
              refine HE.out.mono ?_
              rintro e w3 ⟨rfl, F4, g1, g2, g3⟩
              go_wp2_with fail
              go_roundg (i' + 1)
              case measure => rw [HJ.out]; omega
              case rel => exact ⟨i' + 1, F4, rfl, by omega, by go_num, g1, HK.out.2.1.trans g2 fun i hi h => (HK.out.2.2 i h).resolve_right (by omega), fun i hi => (g3 i hi).elim (HK.out.2.2 i) fun h => .inr (Nat.le_trans HK.out.2.1.size h)⟩
end Go.Proofs.Ytbemackcdccpaaa
