/-
  TEXTS OF THIS CLAIM, TOGETHER: For, For2, For3, Mla, Rwt, Rck, For4, For5, Rcp2, Rad.
-/
import Derived.Test.YtncfdfgcnblicaaBunN
import Derived.Test.YtncfdfgcnblicaaBunB
import Derived.Test.YtncfdfgcnblicaaBunO
import Derived.Test.YtncfdfgcnblicaaBunM
import Derived.Test.YtncfdfgcnblicaaBunL
/-
  LAYERS 1, 2, 23, THE REFERENCE: Fold, Check, Make, Labels, Same, Key.
-/
namespace Go.Proofs.Ytncfdfgcnblicaa
open Go.RowKit Go.Maps Go.Sort Go.Shelf
set_option linter.unusedVariables false
set_option linter.unusedSimpArgs false

set_option maxRecDepth 100000 in
set_option maxHeartbeats 4000000 in
theorem rlfold_any (l : ByteArray) (w : World) (hl : l.size ≤ 1000) :
    Calls Try.prog 62 #[.string l] w fun e w' => e = .returned (.string ⟨(foldL l.data.toList).toArray⟩) ∧ Fr (fun _ => False) w w' := by
  have hcv := run_bytes_of_string (P := Try.prog) w 9 120 5 l Try.underlying9 Try.underlying120 Try.underlying5
  have hge := grownCap_ge w l.size 0 5
  generalize grownCap w l.size 0 5 = C at hcv hge
  have hsz : (bytesRow l C).size = C := by
    have : l.data.size = l.size := rfl
    simp [bytesRow, this]
    omega
  rw [hsz] at hcv
  obtain ⟨W, hW⟩ : ∃ W, W = w.drew.alloc (.cells (bytesRow l C) 5 (C, C + 1)) := ⟨_, rfl⟩
  rw [← hW] at hcv
  have hll : l.data.toList.length = l.size := by rw [Array.length_toList]; rfl
  have H0 : FB W w.heap.size l.data.toList 0 ∧ Fr (fun _ => False) w W := by
    rw [hW]
    refine ⟨⟨fun j hj => ?_, fun j hj => ?_, by simp⟩, ((Fr.refl _ _).drew).alloc _⟩
    · have := World.cell?_alloc_mark w.drew (bytesRow l C) 5 (C, C + 1) j
      rw [show w.drew.heap.size = w.heap.size from rfl] at this
      rw [this, bytesRow_at l C j (by simpa using hj), if_neg (by omega)]
      simp
    · have := World.frozen?_alloc_mark w.drew (bytesRow l C) 5 C (C + 1) j
      rw [show w.drew.heap.size = w.heap.size from rfl] at this
      rw [this, decide_eq_false (by omega)]
      rfl
  have HH := Lib.hid H0
  clear H0 hW hsz
  go_enter Try.func62, Try.ntmps62
  go_upto_region 3 with fail
  clear hcv
  go_loopw [4] (fun i wr => ∃ k : Nat, k ≤ l.size ∧ i = .int .i64 (k : Nat) ∧ FB wr w.heap.size l.data.toList k ∧ Fr (fun _ => False) w wr) (fun i _ => l.size - (intOf i).toNat)
  case atStart => exact ⟨0, Nat.zero_le _, rfl, HH.out.1, HH.out.2⟩
  case round =>
    obtain ⟨k, hk, rfl, hfb, hfr⟩ := hrel
    have HF := Lib.hid (And.intro hfb hfr)
    clear hfb hfr
    by_cases hlt : k < l.size
    · have hc := HF.out.1.c k (by omega)
      rw [if_neg (by omega)] at hc
      have hz := HF.out.1.z k (by omega)
      obtain ⟨c, hcc⟩ : ∃ c, c = l.data.toList[k]'(by omega) := ⟨_, rfl⟩
      rw [← hcc] at hc
      have HN := HF.out.1.next (by omega : k < l.data.toList.length)
      rw [← hcc] at HN
      have hfi := fold1_int (c := c)
      obtain ⟨x, hx⟩ : ∃ x : Nat, x = c.toNat := ⟨_, rfl⟩
      have hx256 : x < 256 := by rw [hx]; exact c.toNat_lt
      rw [← hx] at hc hfi
      by_cases h1 : 65 ≤ x ∧ x ≤ 90
      · rw [if_pos (by omega)] at hfi
        rw [hfi] at HN
        have HN' := Lib.hid (And.intro HN (HF.out.2.setCell (p := ⟨w.heap.size, k, none⟩) (fun h => absurd h (Nat.lt_irrefl _)) (.int .u8 ((x : Int) + 32))))
        obtain ⟨h1a, h1b⟩ := h1
        clear HN hcc hfi hx
        go_wp2_with fail
        go_roundw
        case rel => exact ⟨k + 1, by omega, by go_num, HN'.out.1, HN'.out.2⟩
        case measure => simp [intOf]; omega
      · rw [if_neg (by omega)] at hfi
        have hsame : FB wr w.heap.size l.data.toList (k + 1) := by
          refine ⟨fun j hj => ?_, HF.out.1.z, HF.out.1.lt⟩
          rw [HF.out.1.c j hj]
          by_cases e : j = k
          · subst e
            rw [if_neg (by omega), if_pos (by omega), ← hcc]
            have : (fold1 c).toNat = c.toNat := by omega
            rw [this]
          · by_cases hjk : j < k
            · rw [if_pos hjk, if_pos (by omega)]
            · rw [if_neg hjk, if_neg (by omega)]
        have HS := Lib.hid hsame
        clear hsame HN hcc hfi hx
        by_cases h65 : 65 ≤ x
        all_goals
          go_wp2_with fail
          go_roundw
          case rel => exact ⟨k + 1, by omega, by go_num, HS.out, HF.out.2⟩
          case measure => simp [intOf]; omega
    · have hke : k = l.size := by omega
      subst hke
      have hcb : ∀ w', w' = wr → (convert 120 9 (.slice (some ⟨w.heap.size, 0, none⟩) l.size C)).run Try.prog w' = .ok (.string ⟨(foldL l.data.toList).toArray⟩) w' := fun w' hw' => by
        rw [hw', show l.size = (foldL l.data.toList).length from by rw [foldL_length, hll]]
        refine run_convert_bytes_back wr _ _ 5 ⟨w.heap.size, 0, none⟩ C (foldL l.data.toList) Try.underlying120 Try.underlying5 Try.underlying9 (fun j hj => ?_)
        rw [foldL_length] at hj
        rw [show ((⟨w.heap.size, 0, none⟩ : Addr).add j) = ⟨w.heap.size, j, none⟩ from by unfold Addr.add; split <;> simp_all, HF.out.1.c j hj, if_pos (by omega)]
        simp [foldL]
      have hcb' := hcb wr rfl
      clear hcb
      go_wp2_with fail
      go_ret
      exact ⟨rfl, HF.out.2⟩
theorem rlcheck_any (l : ByteArray) (w : World) : Calls Try.prog 63 #[.string l] w fun e w' => e = .returned (.int .i64 (ckL l.size)) ∧ w = w' := by
  unfold ckL
  by_cases h0 : l.size = 0
  · rw [if_pos h0]
    have hb : l.toList = [] := by rw [ByteArray.toList_eq]; exact List.eq_nil_of_length_eq_zero (by rw [size_l]; exact h0)
    have hb2 : l.toList.isEmpty = true := by rw [hb]; rfl
    have H0 := Lib.hid h0
    clear h0
    go_enter Try.func63, Try.ntmps63
    go_wp2_with fail
    go_ret
    exact ⟨rfl, rfl⟩
  · rw [if_neg h0]
    have hb : l.toList.isEmpty = false := by
      rw [ByteArray.toList_eq]
      cases hd : l.data.toList with
      | nil => exact absurd (by rw [← size_l, hd]; rfl) h0
      | cons a b => rfl
    have hb2 : (!l.toList.isEmpty) = true := by rw [hb]; rfl
    by_cases h1 : 63 < l.size
    · rw [if_pos h1]
      go_enter Try.func63, Try.ntmps63
      go_wp2_with fail
      go_ret
      exact ⟨rfl, rfl⟩
    · rw [if_neg h1]
      go_enter Try.func63, Try.ntmps63
      go_wp2_with fail
      go_ret
      exact ⟨rfl, rfl⟩
end Go.Proofs.Ytncfdfgcnblicaa

/-
  LAYERS 2, 23, THE REFERENCE: Labels, Make, Fold, Same, Key.
-/
namespace Go.Proofs.Ytncfdfgcnblicaa
open Go.RowKit Go.Maps Go.Sort Go.Shelf
set_option linter.unusedVariables false
set_option linter.unusedSimpArgs false

set_option maxRecDepth 100000 in
set_option maxHeartbeats 400000 in
theorem rlabels_any (s : ByteArray) (w : World) (hs : ckN s = 0) : Calls Try.prog 61 #[.string s] w (LabsPost w s.data.toList) := by
  obtain ⟨i0, hi, hz0, hz1, hz2⟩ := info_parts Try.infoStr2
  obtain ⟨h1, h2⟩ := (ckN_okN s).1 hs
  have HO := Lib.hid (And.intro hs h2)
  clear hs h2
  go_enter Try.func61, Try.ntmps61
  go_wp2_with fail
  refine (rcheck_any s _).mono ?_
  rintro e w1 ⟨rfl, rfl⟩
  rw [HO.out.1]
  go_upto_region 5 with fail
  go_loopg [3, 4] (s.size + 1) (fun g v i wr => ∃ (k : Nat) (pre : List (List UInt8)) (A : Option Addr) (cap : Nat), g = s.size + 1 - k ∧ k ≤ s.size ∧ i = .int .i64 (k : Nat) ∧ v = .slice A pre.length cap ∧ labs s.data.toList = pre ++ labs (s.data.toList.drop k) ∧ okN (s.data.toList.drop k) ∧ pre.length ≤ k ∧
    wr.ownsRow 0 9 1 (.slice A pre.length cap) pre.length (pre.map encStr) ∧ (∀ j, rowOf A j → w.heap.size ≤ j) ∧ Fr (fun _ => False) w wr)
  case atStart => exact ⟨0, [], none, 0, rfl, Nat.zero_le _, rfl, rfl, rfl, HO.out.2, Nat.le_refl _, own_nil _ _ _, fun j h => absurd h (rowOf_none j), Fr.refl _ _⟩
  case round =>
    obtain ⟨k, pre, A, cap, rfl, hk, rfl, rfl, hlab, hok, hpl, hown, hA, hfr⟩ := hrel
    have HR := Lib.hid (And.intro hlab (And.intro hok (And.intro hown (And.intro hA hfr))))
    clear hlab hok hown hA hfr
    by_cases hlt : k < s.size
    · have hll : s.data.toList.length = s.size := size_l s
      have hix := run_index_oc' s (k : Int) k rfl hlt
      obtain ⟨c, hd, hoc⟩ : ∃ c : UInt8, s.data.toList.drop k = c :: s.data.toList.drop (k + 1) ∧ oc s.data.toList k = c.toNat :=
        ⟨s.data.toList[k]'(by omega), List.drop_eq_getElem_cons (by omega), by unfold oc; rw [List.getD_eq_getElem?_getD, List.getElem?_eq_getElem (by omega)]; rfl⟩
      have hok := HR.out.2.1
      have hlab := HR.out.1
      rw [hd] at hok hlab
      rw [okN_cons] at hok
      rw [labs_cons] at hlab
      obtain ⟨k1, k2, k3, k4⟩ := hok
      rw [List.length_drop, hll] at k3
      rw [List.drop_drop] at k4 hlab
      rw [← hoc] at k1 k2 k3 k4 hlab
      generalize oc s.data.toList k = K at *
      have q1 : IntKind.i64.wrap ((k : Int) + 1) = (k : Int) + 1 := IntWalk.i64_in _ (by omega)
      have q2 : IntKind.i64.wrap ((k : Int) + 1 + (K : Int)) = (k : Int) + 1 + (K : Int) := IntWalk.i64_in _ (by omega)
      obtain ⟨X, hX⟩ : ∃ X : ByteArray, X = s.extract (k + 1) (k + 1 + K) := ⟨_, rfl⟩
      have hXe : Value.string X = encStr ((s.data.toList.drop (k + 1)).take K) := by
        rw [hX]
        have := str_sub s.data.toList (k + 1) (k + 1 + K)
        rw [show (⟨s.data.toList.toArray⟩ : ByteArray) = s from by simp] at this
        rw [this, show k + 1 + K - (k + 1) = K from by omega]
        try rfl
      have hsl : ∀ w, (Instr.slice 23 (.string s) (some (.int .i64 ((k : Int) + 1))) (some (.int .i64 ((k : Int) + 1 + (K : Int)))) none).run Try.prog w = .ok (.string X) w := fun w => by
        rw [run_slice_string (P := Try.prog) w 23 s .i64 .i64 _ _ Try.underlying23 (by omega) (by omega) (by omega), hX]
        rw [show ((k : Int) + 1).toNat = k + 1 from by omega, show ((k : Int) + 1 + (K : Int)).toNat = k + 1 + K from by omega]
      have hlen2 : k + 1 + K ≤ s.size := by omega
      have HX := Lib.hid (And.intro hXe (And.intro hlab k4))
      clear hX hXe hlab k4 hd hoc hll
      go_wp2_with (first
        | (at_builtin; refine wpList_append_src rfl (.tmp 17) (.tmp 26) _ _ rfl 9 i0 _ 1 16 Try.underlying59 hi hz0 hz1 hz2 rfl (by decide) A pre.length cap (pre.map encStr) (by rfl) (HR.out.2.2.1.alloc _) _ 1 [.string X] (by rfl)
             (Src.ofSlice _ Try.underlying59 ⟨wr.heap.size, 0, none⟩ 1 1 [.string X] rfl (str_new _ _ _) (str_one _)) (by simp only [maxLen]; omega) (by omega) ?_
           intro A2 c2 w4 o1 o2 o3
           have HQ := Lib.hid (And.intro o1 (And.intro (((Fr.refl (rowOf A) wr).alloc _).then o2) o3))
           clear o1 o2 o3)
        | fail "no arm")
      go_roundg (s.size + 1 - (k + 1 + K))
      case measure => omega
      case rel =>
        refine ⟨k + 1 + K, pre ++ [(s.data.toList.drop (k + 1)).take K], A2, c2, rfl, hlen2, by go_num, by rw [List.length_append]; rfl, ?_, HX.out.2.2, by rw [List.length_append]; show _ + 1 ≤ _; omega, ?_, ?_, ?_⟩
        · rw [List.append_assoc]; exact HX.out.2.1
        · rw [List.length_append, List.map_append]
          show w4.ownsRow 0 _ 1 (.slice A2 (pre.length + 1) c2) (pre.length + 1) (_ ++ [encStr _])
          rw [← HX.out.1]
          exact HQ.out.1
        · exact fun j hj => (HQ.out.2.2 j hj).elim (HR.out.2.2.2.1 j) (fun h => Nat.le_trans HR.out.2.2.2.2.size (by rw [World.size_alloc] at h; omega))
        · exact HR.out.2.2.2.2.step HQ.out.2.1 fun j hj => .inr (HR.out.2.2.2.1 j hj)
    · have hke : k = s.size := by omega
      have hall : labs s.data.toList = pre := by
        rw [HR.out.1, hke, List.drop_eq_nil_of_le (by rw [size_l]; exact Nat.le_refl _), labs_nil, List.append_nil]
      have HA := Lib.hid hall
      clear hall hke
      go_wp2_with fail
      go_ret
      unfold LabsPost
      rw [HA.out]
      exact ⟨A, cap, rfl, HR.out.2.2.1, HR.out.2.2.2.1, HR.out.2.2.2.2⟩
theorem rlabels_bad (s : ByteArray) (w : World) (hs : ckN s ≠ 0) : Calls Try.prog 61 #[.string s] w fun e w' => e = .returned (.slice none 0 0) ∧ w = w' := by
  obtain ⟨k, hk⟩ : ∃ k, k = ckN s := ⟨_, rfl⟩
  have hne : (k != 0) = true := by rw [hk]; simp [hs]
  have HK := Lib.hid hk
  clear hk hs
  go_enter Try.func61, Try.ntmps61
  go_wp2_with (first
    | (refine (rcheck_any s _).mono ?_
       rintro e w1 ⟨rfl, rfl⟩
       rw [← HK.out])
    | fail "no arm")
  go_ret
  exact ⟨rfl, rfl⟩
end Go.Proofs.Ytncfdfgcnblicaa

/-
  LAYER 2, THE REFERENCE: Make.
-/
namespace Go.Proofs.Ytncfdfgcnblicaa
open Go.RowKit Go.Maps Go.Sort Go.Shelf
set_option linter.unusedVariables false
set_option linter.unusedSimpArgs false

theorem row_str1 (w : World) (x0 : UInt8) : (convert 120 9 (.slice (some ⟨w.heap.size, 0, none⟩) 1 1)).run Try.prog (w.alloc (.cells #[.int .u8 x0.toNat] 5)) = .ok (.string ⟨[x0].toArray⟩) (w.alloc (.cells #[.int .u8 x0.toNat] 5)) := by
  have hb := Blk.new w 5 #[.int .u8 x0.toNat]
  exact run_convert_bytes_back _ _ _ 5 ⟨w.heap.size, 0, none⟩ 1 [x0] Try.underlying120 Try.underlying5 Try.underlying9 (fun j hj => by
    rw [show ((⟨w.heap.size, 0, none⟩ : Addr).add j) = ⟨w.heap.size, j, none⟩ from by unfold Addr.add; split <;> simp_all, hb.cell j]
    have h4 : j < 1 := hj
    obtain rfl : j = 0 := by omega
    rfl)
theorem mkN_take_mono (L : List (List UInt8)) (k : Nat) : (mkN (L.take k)).length ≤ (mkN L).length := by
  have h := mkN_app (L.take k) (L.drop k)
  rw [List.take_append_drop] at h
  rw [h, List.length_append]
  omega
set_option maxRecDepth 100000 in
set_option maxHeartbeats 2000000 in
theorem rmake_any (A : Option Addr) (cap : Nat) (l : List ByteArray) (w : World) (h : Strs w A l) (hl : ∀ x ∈ l, 1 ≤ x.size ∧ x.size ≤ 63) (hn : l.length ≤ 1000) (hm : (mkN (l.map fun x => x.data.toList)).length ≤ 254) :
    Calls Try.prog 44 #[.slice A l.length cap] w fun e w' => e = .returned (.tuple #[.string ⟨(mkN (l.map fun x => x.data.toList)).toArray⟩, .int .i64 0]) ∧ Fr (fun _ => False) w w' := by
  obtain ⟨L, hL⟩ : ∃ L, L = l.map fun x => x.data.toList := ⟨_, rfl⟩
  rw [← hL] at hm ⊢
  have HL := Lib.hid (And.intro hL (And.intro hm (And.intro h hl)))
  clear hL h hl hm
  go_enter Try.func44, Try.ntmps44
  go_upto_region 3 with fail
  go_loop [5] (fun i => ∃ k : Nat, k ≤ l.length ∧ i = .int .i64 (k : Nat)) (fun i => l.length - (intOf i).toNat)
  case atStart => exact ⟨0, Nat.zero_le _, rfl⟩
  case round =>
    obtain ⟨k, hk, rfl⟩ := hrel
    by_cases hlt : k < l.length
    · obtain ⟨x, hx⟩ : ∃ x, l[k]? = some x := ⟨l[k], List.getElem?_eq_getElem hlt⟩
      obtain ⟨b, off, rfl, hbs, hc⟩ := HL.out.2.2.1 (by rw [List.length_map]; omega)
      have hcx := hc k (.string x) (by rw [List.getElem?_map, hx]; rfl)
      have hx2 := HL.out.2.2.2 x (List.mem_of_getElem? hx)
      have hck : ckL x.size = 0 := by unfold ckL; rw [if_neg (by omega), if_neg (by omega)]
      have HC := Lib.hid (And.intro hck hx2)
      clear hc hx hck hx2
      go_wp2_with (first
        | (refine (rlcheck_any x _).mono ?_
           rintro e w' ⟨rfl, rfl⟩
           rw [HC.out.1])
        | fail "no arm")
      go_round
      case rel => exact ⟨k + 1, by omega, by go_num⟩
      case measure => simp [intOf]; omega
    · go_upto_region 9 with fail
      go_loopw [4, 7] (fun v i wr => ∃ k : Nat, k ≤ l.length ∧ i = .int .i64 (k : Nat) ∧ v = .string ⟨(mkN (L.take k)).toArray⟩ ∧ Fr (fun _ => False) w wr) (fun _ i _ => l.length - (intOf i).toNat)
      case atStart => exact ⟨0, Nat.zero_le _, rfl, rfl, Fr.refl _ _⟩
      case round =>
        obtain ⟨j, hj, rfl, rfl, hfr⟩ := hrel
        have HF := Lib.hid hfr
        have hlen := Nat.le_trans (mkN_take_mono L j) HL.out.2.1
        by_cases hlt2 : j < l.length
        · obtain ⟨x, hx⟩ : ∃ x, l[j]? = some x := ⟨l[j], List.getElem?_eq_getElem hlt2⟩
          have hst := HL.out.2.2.1.fr0 hfr
          obtain ⟨b, off, rfl, hbs, hc⟩ := hst (by rw [List.length_map]; omega)
          have hcx := hc j (.string x) (by rw [List.getElem?_map, hx]; rfl)
          have hx2 := HL.out.2.2.2 x (List.mem_of_getElem? hx)
          have hLx : L[j]? = some x.data.toList := by rw [HL.out.1, List.getElem?_map, hx]; rfl
          have hsnoc := mkN_take hLx
          rw [size_l] at hsnoc
          have hlen2 := Nat.le_trans (mkN_take_mono L (j + 1)) HL.out.2.1
          obtain ⟨y, hy⟩ : ∃ y, y = UInt8.ofNat x.size := ⟨_, rfl⟩
          have hcv : IntKind.u8.wrap ((x.size : Nat) : Int) = (y.toNat : Nat) := by rw [hy]; exact wrap_u8 _
          rw [← hy] at hsnoc
          obtain ⟨M, hM⟩ : ∃ M, M = mkN (L.take j) := ⟨_, rfl⟩
          rw [← hM] at hlen hsnoc ⊢
          have hMx : M.length + 1 + x.size ≤ 254 := by
            rw [hsnoc] at hlen2
            simp only [List.length_append, List.length_cons, List.length_nil, size_l] at hlen2
            omega
          have hif1 : (9223372036854775807 < M.length + 1) = False := eq_false (by omega)
          have hif2 : (9223372036854775807 < M.length + 1 + x.size) = False := eq_false (by omega)
          have hj0 : (0 : Int) ≤ (j : Int) := by omega
          have hjl : (j : Int) < (l.length : Int) := by omega
          have HC := Lib.hid (And.intro hcx (And.intro hsnoc hx2))
          have HU := Lib.hid hcv
          clear hc hx hst hfr hsnoc hLx hx2 hcv hy hM hlen2 hcx
          go_wp2_with fail
          refine wp_region_held_drew (S := fun w' => w'.cell? ⟨b, off + j, none⟩ = some (.string x)) (by kernel_rfl) (HC.out.1) (fun hHeld => ?_)
          obtain ⟨W2, hW2⟩ : ∃ W2, W2 = wr.drew := ⟨_, rfl⟩
          rw [← hW2] at hHeld ⊢
          have hfW : Fr (fun _ => False) wr W2 := by rw [hW2]; exact (Fr.refl _ _).drew
          have HF2 := Lib.hid hfW
          clear hfW hW2
          refine wpAnyH_take (i := 0) (v := ?_) rfl (by kernel_rfl) (by kernel_rfl) (by kernel_rfl) (fun _ _ _ h => h) (Or.inl ⟨by rfl, ?_⟩) (by assumption) ?_
          rotate_left
          · intro w hSw
            go_simp
            try with_reducible rfl
          try simp only [Act.put, List.setIfInBounds_toArray, List.set_cons_zero, List.set_cons_succ, List.getElem_toArray, List.getElem_cons_zero, List.getElem_cons_succ]
          refine wpAnyH_take (i := 1) (v := ?_) rfl (by kernel_rfl) (by kernel_rfl) (by kernel_rfl) (fun _ _ _ h => h) (Or.inl ⟨by rfl, ?_⟩) (by assumption) ?_
          rotate_left
          · intro w hSw
            go_simp
            try with_reducible rfl
          try simp only [Act.put, List.setIfInBounds_toArray, List.set_cons_zero, List.set_cons_succ, List.getElem_toArray, List.getElem_cons_zero, List.getElem_cons_succ]
          refine wpAnyH_take (i := 2) (v := ?_) rfl (by kernel_rfl) (by kernel_rfl) (by kernel_rfl) (fun _ _ _ h => h) (Or.inl ⟨by rfl, ?_⟩) (by assumption) ?_
          rotate_left
          · intro w hSw
            go_simp
            try with_reducible rfl
          try simp only [Act.put, List.setIfInBounds_toArray, List.set_cons_zero, List.set_cons_succ, List.getElem_toArray, List.getElem_cons_zero, List.getElem_cons_succ]
          refine wpAnyH_take (i := 3) (v := ?_) rfl (by kernel_rfl) (by kernel_rfl) (by kernel_rfl) (fun _ _ _ h => h) (Or.inl ⟨by rfl, ?_⟩) (by assumption) ?_
          rotate_left
          · intro w hSw
            go_simp
            try with_reducible rfl
          try simp only [Act.put, List.setIfInBounds_toArray, List.set_cons_zero, List.set_cons_succ, List.getElem_toArray, List.getElem_cons_zero, List.getElem_cons_succ]
          refine wpAnyH_take (i := 4) (v := ?_) rfl (by kernel_rfl) (by kernel_rfl) (by kernel_rfl) (fun _ _ _ h => h) (Or.inl ⟨by rfl, ?_⟩) (by assumption) ?_
          rotate_left
          · intro w hSw
            have hc0 : w.cell? _ = _ := hSw
            go_simp
            try with_reducible rfl
          try simp only [Act.put, List.setIfInBounds_toArray, List.set_cons_zero, List.set_cons_succ, List.getElem_toArray, List.getElem_cons_zero, List.getElem_cons_succ]
          refine wpAnyH_take (i := 5) (v := ?_) rfl (by kernel_rfl) (by kernel_rfl) (by kernel_rfl) (fun _ _ _ h => h) (Or.inl ⟨by rfl, ?_⟩) (by assumption) ?_
          rotate_left
          · intro w hSw
            go_simp
            try with_reducible rfl
          try simp only [Act.put, List.setIfInBounds_toArray, List.set_cons_zero, List.set_cons_succ, List.getElem_toArray, List.getElem_cons_zero, List.getElem_cons_succ]
          refine wpAnyH_take (i := 6) (v := ?_) rfl (by kernel_rfl) (by kernel_rfl) (by kernel_rfl) (fun _ _ _ h => h) (Or.inl ⟨by rfl, ?_⟩) (by assumption) ?_
          rotate_left
          · intro w hSw
            go_simp
            try with_reducible rfl
          try simp only [Act.put, List.setIfInBounds_toArray, List.set_cons_zero, List.set_cons_succ, List.getElem_toArray, List.getElem_cons_zero, List.getElem_cons_succ]
          refine wpAnyH_take (i := 10) (v := ?_) rfl (by kernel_rfl) (by kernel_rfl) (by kernel_rfl) (fun _ _ _ h => h) (Or.inl ⟨by rfl, ?_⟩) (by assumption) ?_
          rotate_left
          · intro w hSw
            go_simp
            try with_reducible rfl
          try simp only [Act.put, List.setIfInBounds_toArray, List.set_cons_zero, List.set_cons_succ, List.getElem_toArray, List.getElem_cons_zero, List.getElem_cons_succ]
          refine wpAnyH_take (i := 11) (v := ?_) rfl (by kernel_rfl) (by kernel_rfl) (by kernel_rfl) (fun _ _ _ h => h) (Or.inl ⟨by rfl, ?_⟩) (by assumption) ?_
          rotate_left
          · intro w hSw
            go_simp
            try with_reducible rfl
          try simp only [Act.put, List.setIfInBounds_toArray, List.set_cons_zero, List.set_cons_succ, List.getElem_toArray, List.getElem_cons_zero, List.getElem_cons_succ]
          refine wpAnyH_take (i := 12) (v := ?_) rfl (by kernel_rfl) (by kernel_rfl) (by kernel_rfl) (fun _ _ _ h => h) (Or.inl ⟨by rfl, ?_⟩) (by assumption) ?_
          rotate_left
          · intro w hSw
            go_simp
            try with_reducible rfl
          try simp only [Act.put, List.setIfInBounds_toArray, List.set_cons_zero, List.set_cons_succ, List.getElem_toArray, List.getElem_cons_zero, List.getElem_cons_succ]
          refine wpAnyH_take (i := 13) (v := ?_) rfl (by kernel_rfl) (by kernel_rfl) (by kernel_rfl) (fun _ _ _ h => h) (Or.inl ⟨by rfl, ?_⟩) (by assumption) ?_
          rotate_left
          · intro w hSw
            have hc0 : w.cell? _ = _ := hSw
            go_simp
            try with_reducible rfl
          try simp only [Act.put, List.setIfInBounds_toArray, List.set_cons_zero, List.set_cons_succ, List.getElem_toArray, List.getElem_cons_zero, List.getElem_cons_succ]
          rw [HU.out]
          refine wpAnyH_ready (rs := [7]) (by kernel_rfl) (by simp) ?_
          refine AllReadyH.cons rfl (fun K hK => ?_) AllReadyH.nil
          go_simp
          have d2 := ((Fr.refl (fun _ => False) W2).alloc (Obj.cells #[Value.int IntKind.u8 y.toNat] 5)).cell (p := ⟨b, off + j, none⟩) (World.block_lt_of_cell? _ _ hHeld) id
          refine hK.out _ _ (d2.trans hHeld) (fun hHeld => ?_)
          clear hK K
          try simp only [Act.put, List.setIfInBounds_toArray, List.set_cons_zero, List.set_cons_succ, List.getElem_toArray, List.getElem_cons_zero, List.getElem_cons_succ]
          have hcv := row_str1 W2 y
          refine wpAnyH_ready (rs := [8]) (by kernel_rfl) (by simp) ?_
          refine AllReadyH.cons rfl (fun K hK => ?_) AllReadyH.nil
          go_simp
          refine hK.out _ _ hHeld (fun hHeld => ?_)
          clear hK K hcv
          try simp only [Act.put, List.setIfInBounds_toArray, List.set_cons_zero, List.set_cons_succ, List.getElem_toArray, List.getElem_cons_zero, List.getElem_cons_succ]
          refine wpAnyH_take (i := 9) (v := ?_) rfl (by kernel_rfl) (by kernel_rfl) (by kernel_rfl) (fun _ _ _ h => h) (Or.inl ⟨by rfl, ?_⟩) (by assumption) ?_
          rotate_left
          · intro w hSw
            go_simp
            try with_reducible rfl
          try simp only [Act.put, List.setIfInBounds_toArray, List.set_cons_zero, List.set_cons_succ, List.getElem_toArray, List.getElem_cons_zero, List.getElem_cons_succ]
          refine wpAnyH_take (i := 14) (v := ?_) rfl (by kernel_rfl) (by kernel_rfl) (by kernel_rfl) (fun _ _ _ h => h) (Or.inl ⟨by rfl, ?_⟩) (by assumption) ?_
          rotate_left
          · intro w hSw
            go_simp
            try with_reducible rfl
          try simp only [Act.put, List.setIfInBounds_toArray, List.set_cons_zero, List.set_cons_succ, List.getElem_toArray, List.getElem_cons_zero, List.getElem_cons_succ]
          refine wpAnyH_take (i := 15) (v := ?_) rfl (by kernel_rfl) (by kernel_rfl) (by kernel_rfl) (fun _ _ _ h => h) (Or.inl ⟨by rfl, ?_⟩) (by assumption) ?_
          rotate_left
          · intro w hSw
            go_simp
            try with_reducible rfl
          try simp only [Act.put, List.setIfInBounds_toArray, List.set_cons_zero, List.set_cons_succ, List.getElem_toArray, List.getElem_cons_zero, List.getElem_cons_succ]
          refine wpAnyH_done (by kernel_rfl) ?_ _
          clear hHeld d2
          have hcat : ((⟨M.toArray⟩ : ByteArray) ++ ⟨#[y]⟩ ++ x) = ⟨(mkN (L.take (j + 1))).toArray⟩ := by rw [HC.out.2.1]; apply ByteArray.ext; simp [ByteArray.data_append]
          rw [hcat]
          have hlen3 := Nat.le_trans (mkN_take_mono L (j + 1)) HL.out.2.1
          clear hcat hif1 hif2 hj0 hjl
          obtain ⟨M2, hM2⟩ : ∃ M2, M2 = mkN (L.take (j + 1)) := ⟨_, rfl⟩
          rw [← hM2] at hlen3 ⊢
          have HM2 := Lib.hid hM2
          clear hM2
          have HF3 := Lib.hid ((HF.out.then HF2.out).then ((Fr.refl (fun _ => False) W2).alloc (Obj.cells #[Value.int IntKind.u8 y.toNat] 5)))
          generalize W2.alloc (Obj.cells #[Value.int IntKind.u8 y.toNat] 5) = W3 at *
          go_wp2_with fail
          go_roundw
          case rel => exact ⟨j + 1, by omega, by go_num, by rw [HM2.out], HF3.out⟩
          case measure => simp [intOf]; omega
        · have hje : j = l.length := by omega
          subst hje
          have hLl : L.length = l.length := by rw [HL.out.1, List.length_map]
          have hall : L.take l.length = L := by rw [← hLl]; exact List.take_length
          rw [hall]
          clear hfr hall hLl
          go_wp2_with fail
          go_ret2
          exact ⟨rfl, HF.out⟩
end Go.Proofs.Ytncfdfgcnblicaa

/-
  LAYER 25: the law's helpers: host, ask, reply; the reference's Query.
-/
namespace Go.Proofs.Ytncfdfgcnblicaa
open Go.RowKit
set_option linter.unusedVariables false
set_option linter.unusedSimpArgs false

set_option maxRecDepth 100000 in
set_option maxHeartbeats 4000000 in
theorem host_any (A : Option Addr) (cap : Nat) (l : List ByteArray) (w : World) (h : Strs w A l) (hl : ∀ x ∈ l, 1 ≤ x.size ∧ x.size ≤ 63) (hn : l.length ≤ 1000) (hm : (mkN (l.map fun x => x.data.toList)).length ≤ 254) :
    Calls Try.prog 19 #[.slice A l.length cap] w fun e w' => e = .returned (.string ⟨(mkN (l.map fun x => x.data.toList)).toArray⟩) ∧ Fr (fun _ => False) w w' := by
  have HC := Lib.hid (rmake_any A cap l w h hl hn hm)
  clear h hl hn hm
  go_enter Try.func19, Try.ntmps19
  go_wp2_with (first
    | (go_at_call 44
       refine HC.out.mono ?_
       rintro e w1 ⟨rfl, f1⟩
       have H1 := Lib.hid f1
       clear f1)
    | fail "no arm")
  go_ret
  exact ⟨rfl, H1.out⟩
set_option maxRecDepth 100000 in
set_option maxHeartbeats 4000000 in
theorem ask_any (n : ByteArray) (w : World) :
    Calls Try.prog 18 #[.string n] w fun e w' => e = .returned (.agg #[.string n, .int .i64 1, .int .i64 1]) ∧ Fr (fun _ => False) w w' := by
  have hz : Blk (w.alloc (.cells #[.string ⟨#[]⟩, .int .i64 0, .int .i64 0] 25)) w.heap.size 25 #[.string ⟨#[]⟩, .int .i64 0, .int .i64 0] := Blk.new _ _ _
  have HZ := Lib.hid hz
  clear hz
  go_enter Try.func18, Try.ntmps18
  go_wp2_with (first
    | (refine wpList_store_part rfl 25 _ _ rfl w.heap.size 0 (by rfl) _ (by rfl) 25 _ HZ.out (by kernel_rfl) (by simp [Value.oneCell']) (by simp) #[.string n, .int .i64 1, .int .i64 1] (by rfl) ?_
       intro w3 b3 f3
       have H3 := Lib.hid (And.intro b3 (((Fr.refl (fun _ => False) w).alloc _).step f3 (fun k hk => .inr (by subst hk; exact Nat.le_refl _))))
       clear b3 f3)
    | fail "no arm")
  have hu : Try.prog.underlying 25 = _ := Try.underlying25
  refine bodyPost_ret (results_cell_blk Try.results18 H3.out.1 rfl hu rfl (by kernel_rfl)) rfl ?_
  exact ⟨rfl, H3.out.2⟩
/-- A message of one question. -/
def AskPost (w : World) (idn : Nat) (resp rd : Bool) (q : Qn) (e : Ending) (w' : World) : Prop :=
  ∃ g, e = .returned (.agg #[.int .u16 (idn : Nat), .bool resp, .int .i64 0, .bool false, .bool false, .bool rd, .bool false, .bool false, .bool false, .int .i64 0, .int .i64 1, .int .i64 0, .int .i64 0, .int .i64 0, .slice (some ⟨g, 0, none⟩) 1 1, .slice none 0 0, .slice none 0 0, .slice none 0 0]) ∧ Blk w' g 25 #[.string q.1, .int .i64 q.2.1, .int .i64 q.2.2] ∧ w.heap.size ≤ g ∧ Fr (fun _ => False) w w'
set_option maxRecDepth 100000 in
set_option maxHeartbeats 4000000 in
theorem query_any (idn : Nat) (q : Qn) (rd : Bool) (w : World) :
    Calls Try.prog 28 #[.int .u16 (idn : Nat), .agg #[.string q.1, .int .i64 q.2.1, .int .i64 q.2.2], .bool rd] w (AskPost w idn false rd q) := by
  obtain ⟨V, hV⟩ : ∃ V, V = (w.alloc (.cells #[.string q.1, .int .i64 q.2.1, .int .i64 q.2.2] 25)).alloc (.cells #[.int .u16 0, .bool false, .int .i64 0, .bool false, .bool false, .bool false, .bool false, .bool false, .bool false, .int .i64 0, .int .i64 0, .int .i64 0, .int .i64 0, .int .i64 0, .slice none 0 0, .slice none 0 0, .slice none 0 0, .slice none 0 0] 37) := ⟨_, rfl⟩
  have hf : Fr (fun _ => False) w V := by rw [hV]; exact ((Fr.refl _ _).alloc _).alloc _
  have v1 : Blk V w.heap.size 25 #[.string q.1, .int .i64 q.2.1, .int .i64 q.2.2] := by rw [hV]; exact (Blk.new w 25 _).alloc _
  have v2 : Blk V (w.heap.size + 1) 37 #[.int .u16 0, .bool false, .int .i64 0, .bool false, .bool false, .bool false, .bool false, .bool false, .bool false, .int .i64 0, .int .i64 0, .int .i64 0, .int .i64 0, .int .i64 0, .slice none 0 0, .slice none 0 0, .slice none 0 0, .slice none 0 0] := by
    rw [hV]
    have := Blk.new (w.alloc (.cells #[.string q.1, .int .i64 q.2.1, .int .i64 q.2.2] 25)) 37 #[.int .u16 0, .bool false, .int .i64 0, .bool false, .bool false, .bool false, .bool false, .bool false, .bool false, .int .i64 0, .int .i64 0, .int .i64 0, .int .i64 0, .int .i64 0, .slice none 0 0, .slice none 0 0, .slice none 0 0, .slice none 0 0]
    rwa [World.size_alloc] at this
  have HV := Lib.hid hV
  have c0 := v1.cell 0
  have c1 := v1.cell 1
  have c2 := v1.cell 2
  have HB := Lib.hid (And.intro v1 (And.intro v2 hf))
  clear hV v1 v2 hf
  go_enter Try.func28, Try.ntmps28
  go_upto_region 1 with fail
  rw [← HV.out]
  go_wp2_with (first
    | (refine wpList_store_part rfl 37 _ _ rfl (w.heap.size + 1) 0 (by rfl) _ (by rfl) 37 _ (HB.out.2.1.alloc (.cells #[.string q.1, .int .i64 q.2.1, .int .i64 q.2.2] 25)) (by kernel_rfl) (by simp [Value.oneCell']) (by simp) #[.int .u16 (idn : Nat), .bool false, .int .i64 0, .bool false, .bool false, .bool rd, .bool false, .bool false, .bool false, .int .i64 0, .int .i64 1, .int .i64 0, .int .i64 0, .int .i64 0, .slice (some ⟨V.heap.size, 0, none⟩) 1 1, .slice none 0 0, .slice none 0 0, .slice none 0 0] (by rfl) ?_
       intro w3 b3 f3
       have hlt := HB.out.2.1.lt
       have H3 := Lib.hid (And.intro b3 (And.intro ((Blk.new V 25 #[.string q.1, .int .i64 q.2.1, .int .i64 q.2.2]).fr f3 (by omega)) ((HB.out.2.2.alloc _).step f3 (fun k hk => .inr (by omega)))))
       clear b3 f3)
    | fail "no arm")
  have hu : Try.prog.underlying 37 = _ := Try.underlying37
  refine bodyPost_ret (results_cell_blk Try.results28 H3.out.1 rfl hu rfl (by kernel_rfl)) rfl ?_
  exact ⟨V.heap.size, rfl, H3.out.2.1, by have := HB.out.2.2.size; omega, H3.out.2.2⟩
set_option maxRecDepth 100000 in
set_option maxHeartbeats 4000000 in
theorem lreply_any (idn : Nat) (q : Qn) (w : World) :
    Calls Try.prog 11 #[.int .u16 (idn : Nat), .agg #[.string q.1, .int .i64 q.2.1, .int .i64 q.2.2]] w (AskPost w idn true true q) := by
  obtain ⟨V, hV⟩ : ∃ V, V = (w.alloc (.cells #[.string q.1, .int .i64 q.2.1, .int .i64 q.2.2] 25)).alloc (.cells #[.int .u16 0, .bool false, .int .i64 0, .bool false, .bool false, .bool false, .bool false, .bool false, .bool false, .int .i64 0, .int .i64 0, .int .i64 0, .int .i64 0, .int .i64 0, .slice none 0 0, .slice none 0 0, .slice none 0 0, .slice none 0 0] 37) := ⟨_, rfl⟩
  have hf : Fr (fun _ => False) w V := by rw [hV]; exact ((Fr.refl _ _).alloc _).alloc _
  have v1 : Blk V w.heap.size 25 #[.string q.1, .int .i64 q.2.1, .int .i64 q.2.2] := by rw [hV]; exact (Blk.new w 25 _).alloc _
  have v2 : Blk V (w.heap.size + 1) 37 #[.int .u16 0, .bool false, .int .i64 0, .bool false, .bool false, .bool false, .bool false, .bool false, .bool false, .int .i64 0, .int .i64 0, .int .i64 0, .int .i64 0, .int .i64 0, .slice none 0 0, .slice none 0 0, .slice none 0 0, .slice none 0 0] := by
    rw [hV]
    have := Blk.new (w.alloc (.cells #[.string q.1, .int .i64 q.2.1, .int .i64 q.2.2] 25)) 37 #[.int .u16 0, .bool false, .int .i64 0, .bool false, .bool false, .bool false, .bool false, .bool false, .bool false, .int .i64 0, .int .i64 0, .int .i64 0, .int .i64 0, .int .i64 0, .slice none 0 0, .slice none 0 0, .slice none 0 0, .slice none 0 0]
    rwa [World.size_alloc] at this
  have HV := Lib.hid hV
  have c0 := v1.cell 0
  have c1 := v1.cell 1
  have c2 := v1.cell 2
  have HB := Lib.hid (And.intro v1 (And.intro v2 hf))
  clear hV v1 v2 hf
  go_enter Try.func11, Try.ntmps11
  go_upto_region 1 with fail
  rw [← HV.out]
  go_upto_region 2 with (first
    | (go_at_call 28
       (with_reducible refine (query_any idn q true V).mono ?_)
       rintro e w1 ⟨g, rfl, b1, g1, f1⟩
       have H1 := Lib.hid (And.intro (HB.out.2.1.fr f1 id) (And.intro b1 (And.intro g1 (HB.out.2.2.then f1))))
       clear b1 g1 f1 c0 c1 c2)
    | (refine wpList_store_part rfl 37 _ _ rfl w1.heap.size 0 (by rfl) _ (by rfl) 37 _ (Blk.new w1 37 _) (by kernel_rfl) (by simp [Value.oneCell']) (by simp) #[.int .u16 (idn : Nat), .bool false, .int .i64 0, .bool false, .bool false, .bool true, .bool false, .bool false, .bool false, .int .i64 0, .int .i64 1, .int .i64 0, .int .i64 0, .int .i64 0, .slice (some ⟨g, 0, none⟩) 1 1, .slice none 0 0, .slice none 0 0, .slice none 0 0] (by rfl) ?_
       intro w3 b3 f3
       have f13 : Fr (fun _ => False) w1 w3 := ((Fr.refl (fun _ => False) w1).alloc _).step f3 (fun k hk => .inr (by subst hk; exact Nat.le_refl _))
       have hl1 := H1.out.1.lt
       have hl2 := H1.out.2.1.lt
       have z1 := b3.cell 1
       have zf := b3.frozen 1
       have H3 := Lib.hid (And.intro b3 (And.intro (H1.out.1.fr f13 id) (And.intro (H1.out.2.1.fr f13 id) (H1.out.2.2.2.then f13))))
       clear b3 f3 f13)
    | fail "no arm")
  go_upto_region 3 with fail
  obtain ⟨W5, hW5⟩ : ∃ W5, W5 = w3.setCell ⟨w1.heap.size, 1, none⟩ (.bool true) := ⟨_, rfl⟩
  rw [← hW5]
  have b5 : Blk W5 w1.heap.size 37 #[.int .u16 (idn : Nat), .bool true, .int .i64 0, .bool false, .bool false, .bool true, .bool false, .bool false, .bool false, .int .i64 0, .int .i64 1, .int .i64 0, .int .i64 0, .int .i64 0, .slice (some ⟨g, 0, none⟩) 1 1, .slice none 0 0, .slice none 0 0, .slice none 0 0] := by rw [hW5]; exact H3.out.1.set_ 1 (.bool true)
  have f35 : Fr (· = w1.heap.size) w3 W5 := by rw [hW5]; exact (Fr.refl (· = w1.heap.size) _).setCell (p := ⟨w1.heap.size, 1, none⟩) (fun _ => rfl) _
  have hvs := HB.out.2.2.size
  have hvl := HB.out.2.1.lt
  have hg1 := H1.out.2.2.1
  have H5 := Lib.hid (And.intro b5 (And.intro (H3.out.2.1.fr f35 (by omega)) (And.intro (H3.out.2.2.1.fr f35 (by omega)) (H3.out.2.2.2.step f35 (fun k hk => .inr (by omega))))))
  clear hW5 b5 f35 z1 zf
  go_wp2_with (first
    | (refine wpList_load_blk rfl 37 _ rfl w1.heap.size (by rfl) 37 _ _ H5.out.1 Try.underlying37 rfl (by kernel_rfl) ?_)
    | (refine wpList_store_part rfl 37 _ _ rfl (w.heap.size + 1) 0 (by rfl) _ (by rfl) 37 _ H5.out.2.1 (by kernel_rfl) (by simp [Value.oneCell']) (by simp) #[.int .u16 (idn : Nat), .bool true, .int .i64 0, .bool false, .bool false, .bool true, .bool false, .bool false, .bool false, .int .i64 0, .int .i64 1, .int .i64 0, .int .i64 0, .int .i64 0, .slice (some ⟨g, 0, none⟩) 1 1, .slice none 0 0, .slice none 0 0, .slice none 0 0] (by rfl) ?_
       intro w6 b6 f6
       have H6 := Lib.hid (And.intro b6 f6)
       clear b6 f6)
    | fail "no arm")
  have hu : Try.prog.underlying 37 = _ := Try.underlying37
  refine bodyPost_ret (results_cell_blk Try.results11 H6.out.1 rfl hu rfl (by kernel_rfl)) rfl ?_
  exact ⟨g, rfl, H5.out.2.2.1.fr H6.out.2 (by omega), by omega, H5.out.2.2.2.step H6.out.2 (fun k hk => .inr (by omega))⟩
end Go.Proofs.Ytncfdfgcnblicaa

/-
  LAYER 24, THE REFERENCE: which questions, ticks, waiters may be.
-/
namespace Go.Proofs.Ytncfdfgcnblicaa
open Go.RowKit
set_option linter.unusedVariables false
set_option linter.unusedSimpArgs false

theorem rsix_any (x : Int) (w : World) : Calls Try.prog 66 #[.int .i64 x] w fun e w' => e = .returned (.bool (decide (0 ≤ x ∧ x ≤ 65535))) ∧ w = w' := by
  by_cases h0 : 0 ≤ x
  · go_enter Try.func66, Try.ntmps66
    go_wp2_with fail
    go_ret
    exact ⟨ret_bool (by simp [h0]), rfl⟩
  · go_enter Try.func66, Try.ntmps66
    go_wp2_with fail
    go_ret
    exact ⟨ret_bool (by first | (simp; omega) | simp_all), rfl⟩
theorem rtick_any (x : Int) (w : World) : Calls Try.prog 49 #[.int .i64 x] w fun e w' => e = .returned (.int .i64 (tickE x)) ∧ w = w' := by
  unfold tickE
  by_cases h0 : x < 0
  · have hR : (if 0 ≤ x ∧ x ≤ 1099511627776 then (0 : Int) else 2) = 2 := if_neg (by omega)
    rw [hR]
    clear hR
    go_enter Try.func49, Try.ntmps49
    go_wp2_with fail
    go_ret
    exact ⟨rfl, rfl⟩
  · by_cases h1 : 1099511627776 < x
    · have hR : (if 0 ≤ x ∧ x ≤ 1099511627776 then (0 : Int) else 2) = 2 := if_neg (by omega)
      rw [hR]
      clear hR
      go_enter Try.func49, Try.ntmps49
      go_wp2_with fail
      go_ret
      exact ⟨rfl, rfl⟩
    · have hR : (if 0 ≤ x ∧ x ≤ 1099511627776 then (0 : Int) else 2) = 0 := if_pos (by omega)
      rw [hR]
      clear hR
      go_enter Try.func49, Try.ntmps49
      go_wp2_with fail
      go_ret
      exact ⟨rfl, rfl⟩
set_option maxRecDepth 100000 in
set_option maxHeartbeats 2000000 in
theorem rqcheck_any (n : ByteArray) (t cl : Int) (w : World) :
    Calls Try.prog 48 #[.agg #[.string n, .int .i64 t, .int .i64 cl]] w (IntPost w (qcheck n t cl)) := by
  obtain ⟨W, hW⟩ : ∃ W, W = w.alloc (.cells #[.string n, .int .i64 t, .int .i64 cl] 25) := ⟨_, rfl⟩
  have hb : Blk W w.heap.size 25 #[.string n, .int .i64 t, .int .i64 cl] := by rw [hW]; exact Blk.new _ _ _
  have hf : Fr (fun _ => False) w W := by rw [hW]; exact (Fr.refl _ _).alloc _
  obtain ⟨k, hk⟩ : ∃ k, k = ckN n := ⟨_, rfl⟩
  obtain ⟨R, hR⟩ : ∃ R, R = qcheck n t cl := ⟨_, rfl⟩
  rw [← hR]
  unfold qcheck at hR
  rw [← hk] at hR
  have c0 := hb.cell 0
  have c1 := hb.cell 1
  have c2 := hb.cell 2
  obtain ⟨a, ha⟩ : ∃ a, a = decide (0 ≤ t ∧ t ≤ 65535) := ⟨_, rfl⟩
  obtain ⟨b, hb'⟩ : ∃ b, b = decide (0 ≤ cl ∧ cl ≤ 65535) := ⟨_, rfl⟩
  have HR := Lib.hid (And.intro hk (And.intro hR (And.intro hf (And.intro ha hb'))))
  have HW := Lib.hid hW
  clear hb hf hR hk hW ha hb'
  have key : ∀ e : Int, k = 0 → e = (if a = true then (if b = true then 0 else 2) else 2) → e = R := fun e hk0 he => by
    rw [HR.out.2.1, if_neg (by simp [hk0]), he, HR.out.2.2.2.1, HR.out.2.2.2.2]
    simp only [decide_eq_true_eq]
    repeat' split
    all_goals first | rfl | (exfalso; omega)
  have HKEY := Lib.hid key
  clear key
  by_cases h1 : k = 0
  · have e1 : (k == 0) = true := by simp [h1]
    have H1 := Lib.hid h1
    clear h1
    rcases a with _ | _ <;> rcases b with _ | _
    all_goals
      go_enter Try.func48, Try.ntmps48
      go_upto_region 1 with fail
      rw [← HW.out]
      clear HW
      go_wp2_with (first
        | (go_at_call 9
           (with_reducible refine (rcheck_any n _).mono ?_)
           rintro e w1 ⟨rfl, rfl⟩
           rw [← HR.out.1])
        | (go_at_call 66
           (with_reducible refine (rsix_any _ _).mono ?_)
           rintro e w1 ⟨rfl, rfl⟩
           first | rw [← HR.out.2.2.2.1] | rw [← HR.out.2.2.2.2])
        | fail "no arm")
      go_ret
      exact ⟨ret_int (HKEY.out _ H1.out (by first | rfl | exact H1.out)), HR.out.2.2.1⟩
  · have e1 : (k == 0) = false := by simp [h1]
    have H1 := Lib.hid h1
    clear h1
    go_enter Try.func48, Try.ntmps48
    go_upto_region 1 with fail
    rw [← HW.out]
    clear HW
    go_wp2_with (first
      | (go_at_call 9
         (with_reducible refine (rcheck_any n _).mono ?_)
         rintro e w1 ⟨rfl, rfl⟩
         rw [← HR.out.1])
      | fail "no arm")
    go_ret
    exact ⟨ret_int (by rw [HR.out.2.1, if_pos H1.out]), HR.out.2.2.1⟩
set_option maxRecDepth 100000 in
set_option maxHeartbeats 4000000 in
theorem rwaits_any (x : Wt) (w : World) (hx : x.ok) : Calls Try.prog 50 #[.agg #[.int .i64 x.cl, .int .u16 x.h.id, .bool x.h.resp, .int .i64 x.h.op, .bool x.h.aa, .bool x.h.tc, .bool x.h.rd, .bool x.h.ra, .bool x.h.ad, .bool x.h.cd, .int .i64 x.h.rc, .int .i64 x.h.c0, .int .i64 x.h.c1, .int .i64 x.h.c2, .int .i64 x.h.c3, .string x.q.1, .int .i64 x.q.2.1, .int .i64 x.q.2.2]] w (EqPost w x.may) := by
  obtain ⟨W, hW⟩ : ∃ W, W = w.alloc (.cells #[.int .i64 x.cl, .int .u16 x.h.id, .bool x.h.resp, .int .i64 x.h.op, .bool x.h.aa, .bool x.h.tc, .bool x.h.rd, .bool x.h.ra, .bool x.h.ad, .bool x.h.cd, .int .i64 x.h.rc, .int .i64 x.h.c0, .int .i64 x.h.c1, .int .i64 x.h.c2, .int .i64 x.h.c3, .string x.q.1, .int .i64 x.q.2.1, .int .i64 x.q.2.2] 69) := ⟨_, rfl⟩
  have hb : Blk W w.heap.size 69 #[.int .i64 x.cl, .int .u16 x.h.id, .bool x.h.resp, .int .i64 x.h.op, .bool x.h.aa, .bool x.h.tc, .bool x.h.rd, .bool x.h.ra, .bool x.h.ad, .bool x.h.cd, .int .i64 x.h.rc, .int .i64 x.h.c0, .int .i64 x.h.c1, .int .i64 x.h.c2, .int .i64 x.h.c3, .string x.q.1, .int .i64 x.q.2.1, .int .i64 x.q.2.2] := by rw [hW]; exact Blk.new _ _ _
  have hf : Fr (fun _ => False) w W := by rw [hW]; exact (Fr.refl _ _).alloc _
  obtain ⟨kq, hkq⟩ : ∃ k, k = qcheck x.q.1 x.q.2.1 x.q.2.2 := ⟨_, rfl⟩
  obtain ⟨R, hR⟩ : ∃ R, R = x.may := ⟨_, rfl⟩
  rw [← hR]
  unfold Wt.may at hR
  rw [← hkq] at hR
  have c0 := hb.cell 15
  have c1 := hb.cell 16
  have c2 := hb.cell 17
  have HB := Lib.hid (And.intro hb hf)
  have HR := Lib.hid (And.intro hkq (And.intro hR hx))
  have HW := Lib.hid hW
  clear hb hf hR hkq hW hx
  by_cases h1 : kq = 0
  · have e1 : (kq == 0) = true := by simp [h1]
    have H1 := Lib.hid h1
    clear h1
    go_enter Try.func50, Try.ntmps50
    go_upto_region 1 with fail
    rw [← HW.out]
    clear HW
    go_wp2_with (first
      | (go_at_call 48
         (with_reducible refine (rqcheck_any x.q.1 x.q.2.1 x.q.2.2 _).mono ?_)
         rintro e w1 ⟨rfl, f1⟩
         rw [← HR.out.1]
         have H2 := Lib.hid (And.intro (HB.out.1.fr f1 id) (HB.out.2.then f1))
         clear f1 c0 c1 c2)
      | (refine wpList_load_partg (by first | rfl | (simp [Region.wanted, yielded]; done)) 33 _ rfl w.heap.size 1 (by rfl) 69 _ 14 _ H2.out.1 Try.underlying33 rfl (by kernel_rfl) (by simp) #[.int .u16 x.h.id, .bool x.h.resp, .int .i64 x.h.op, .bool x.h.aa, .bool x.h.tc, .bool x.h.rd, .bool x.h.ra, .bool x.h.ad, .bool x.h.cd, .int .i64 x.h.rc, .int .i64 x.h.c0, .int .i64 x.h.c1, .int .i64 x.h.c2, .int .i64 x.h.c3] (by rfl) ?_)
      | (go_at_call 67
         (with_reducible refine (rcheck6_any x.h _).mono ?_)
         rintro e w3 ⟨rfl, f3⟩
         have H3 := Lib.hid (H2.out.2.then f3)
         clear f3)
      | fail "no arm")
    go_ret
    refine ⟨ret_bool ?_, H3.out⟩
    rw [HR.out.2.1, H1.out]
    unfold Hd.check
    by_cases hm : x.h.may = true
    · rw [hm]; rfl
    · have hm' : x.h.may = false := by simpa using hm
      rw [hm']; rfl
  · have e1 : (kq == 0) = false := by simp [h1]
    have H1 := Lib.hid h1
    clear h1
    go_enter Try.func50, Try.ntmps50
    go_upto_region 1 with fail
    rw [← HW.out]
    clear HW
    go_wp2_with (first
      | (go_at_call 48
         (with_reducible refine (rqcheck_any x.q.1 x.q.2.1 x.q.2.2 _).mono ?_)
         rintro e w1 ⟨rfl, f1⟩
         rw [← HR.out.1]
         have H2 := Lib.hid (HB.out.2.then f1)
         clear f1 c0 c1 c2)
      | fail "no arm")
    go_ret
    exact ⟨ret_bool (by rw [HR.out.2.1, decide_eq_false H1.out]; rfl), H2.out⟩

end Go.Proofs.Ytncfdfgcnblicaa

/-
  LAYER 24, THE REFERENCE: check.
-/
namespace Go.Proofs.Ytncfdfgcnblicaa
open Go.RowKit
set_option linter.unusedVariables false
set_option linter.unusedSimpArgs false

set_option maxRecDepth 100000 in
set_option maxHeartbeats 8000000 in
theorem rpcheck_any (p : Pn) (A : Option Addr) (cap : Nat) (most : Int) (w : World) (hp : PnIn w A p) : Calls Try.prog 23 #[.agg #[.int .u16 (p.id : Nat), .string p.q.1, .int .i64 p.q.2.1, .int .i64 p.q.2.2, .int .i64 p.sv, .int .i64 p.tr, .int .i64 p.dl, .slice A p.ws.length cap], .int .i64 most] w (IntPost w (if p.may most = true then 0 else 2)) := by
  obtain ⟨W, hW⟩ : ∃ W, W = w.alloc (.cells #[.int .u16 (p.id : Nat), .string p.q.1, .int .i64 p.q.2.1, .int .i64 p.q.2.2, .int .i64 p.sv, .int .i64 p.tr, .int .i64 p.dl, .slice A p.ws.length cap] 28) := ⟨_, rfl⟩
  have hb : Blk W w.heap.size 28 #[.int .u16 (p.id : Nat), .string p.q.1, .int .i64 p.q.2.1, .int .i64 p.q.2.2, .int .i64 p.sv, .int .i64 p.tr, .int .i64 p.dl, .slice A p.ws.length cap] := by rw [hW]; exact Blk.new _ _ _
  have hf : Fr (fun _ => False) w W := by rw [hW]; exact (Fr.refl _ _).alloc _
  obtain ⟨kq, hkq⟩ : ∃ k, k = qcheck p.q.1 p.q.2.1 p.q.2.2 := ⟨_, rfl⟩
  obtain ⟨tk, htk⟩ : ∃ k, k = tickE p.dl := ⟨_, rfl⟩
  obtain ⟨R, hR⟩ : ∃ R : Int, R = if p.may most = true then 0 else 2 := ⟨_, rfl⟩
  rw [← hR]
  have hwhy := @may_why p most
  rw [← hkq, ← htk] at hwhy
  have hbare : p.bare most → kq = 0 ∧ 0 ≤ p.sv ∧ 0 ≤ p.tr ∧ tk = 0 ∧ 1 ≤ (p.ws.length : Int) ∧ (p.ws.length : Int) ≤ most := fun h => by
    obtain ⟨a, b, c, d, e, f⟩ := h
    exact ⟨hkq.trans a, b, c, by rw [htk]; unfold tickE; rw [if_pos d], e, f⟩
  have c0 := hb.cell 1
  have c1 := hb.cell 2
  have c2 := hb.cell 3
  have hln := hp.len
  have HB := Lib.hid (And.intro hb hf)
  have HR := Lib.hid (And.intro hkq (And.intro htk (And.intro hR (hp.fr0 hf))))
  have HW := Lib.hid hW
  clear hb hf hR hkq hW htk hp
  by_cases hbr : p.bare most
  · obtain ⟨h1, h2, h3, h4, h5, h6⟩ := hbare hbr
    have e1 : (kq == 0) = true := by simp [h1]
    have e2 : (tk == 0) = true := by simp [h4]
    have H1 := Lib.hid (And.intro h1 (And.intro h4 hbr))
    clear h1 h4 hbr hwhy hbare
    go_enter Try.func23, Try.ntmps23
    go_upto_region 1 with fail
    rw [← HW.out]
    clear HW
    go_upto_region 3 with (first
      | (go_at_call 48
         (with_reducible refine (rqcheck_any p.q.1 p.q.2.1 p.q.2.2 _).mono ?_)
         rintro e w1 ⟨rfl, f1⟩
         rw [← HR.out.1]
         have hb1 := HB.out.1.fr f1 id
         have c2' := hb1.cell 4
         have c3' := hb1.cell 5
         have c4' := hb1.cell 6
         have c5' := hb1.cell 7
         have H2 := Lib.hid (And.intro hb1 (f1))
         clear f1 hb1 c0 c1 c2)
      | (go_at_call 49
         (with_reducible refine (rtick_any p.dl _).mono ?_)
         rintro e w2 ⟨rfl, rfl⟩
         rw [← HR.out.2.1])
      | fail "no arm")
    go_loopw [5, 6] (fun o i wr => ∃ k : Nat, k ≤ p.ws.length ∧ i = .int .i64 (k : Nat) ∧ o = .bool ((p.ws.take k).all Wt.may) ∧ Fr (fun _ => False) W wr) (fun _ i _ => p.ws.length - (intOf i).toNat)
    case atStart => exact ⟨0, Nat.zero_le _, rfl, by first | rfl | simp, H2.out.2⟩
    case round =>
      obtain ⟨k, hk, rfl, rfl, hfr⟩ := hrel
      have hb1 := HB.out.1.fr hfr id
      have c5'' := hb1.cell 7
      have HF := Lib.hid hfr
      clear hfr hb1
      obtain ⟨o, ho⟩ : ∃ o, o = (p.ws.take k).all Wt.may := ⟨_, rfl⟩
      rw [← ho]
      have HO := Lib.hid ho
      clear ho
      by_cases hlt : k < p.ws.length
      · have hk0 : (0 : Int) ≤ (k : Int) := by omega
        have hlti : (k : Int) < (p.ws.length : Int) := by omega
        rcases o with _ | _
        · go_wp2_with fail
          go_ret
          refine ⟨ret_int ?_, HB.out.2.then HF.out⟩
          have hm : p.may most = false := by
            unfold Pn.may
            have : p.ws.all Wt.may = false := by
              rw [List.all_eq_false]
              have h := HO.out.symm
              rw [List.all_eq_false] at h
              obtain ⟨x, hx, h⟩ := h
              exact ⟨x, List.mem_of_mem_take hx, h⟩
            rw [this, Bool.and_false]
          rw [HR.out.2.2.1, hm]; rfl
        · obtain ⟨x, hx⟩ : ∃ x, p.ws[k]? = some x := ⟨p.ws[k], List.getElem?_eq_getElem hlt⟩
          obtain ⟨b, off, rfl, hbs, hrg⟩ := rowIn_w HR.out.2.2.2.row hx
          have HX := Lib.hid (And.intro hx (HR.out.2.2.2.ws x (List.mem_of_getElem? hx)))
          have HG := Lib.hid (range_fr0 HF.out hbs hrg)
          clear hx hrg
          go_wp2_with (first
            | (refine wpList_load_mid rfl 69 _ rfl b (off + k * 18) (by rfl) [.int .i64 x.cl, .int .u16 x.h.id, .bool x.h.resp, .int .i64 x.h.op, .bool x.h.aa, .bool x.h.tc, .bool x.h.rd, .bool x.h.ra, .bool x.h.ad, .bool x.h.cd, .int .i64 x.h.rc, .int .i64 x.h.c0, .int .i64 x.h.c1, .int .i64 x.h.c2, .int .i64 x.h.c3, .string x.q.1, .int .i64 x.q.2.1, .int .i64 x.q.2.2] _ HG.out Try.underlying69 rfl (by kernel_rfl) ?_)
            | (go_at_call 50
               (with_reducible refine (rwaits_any x _ HX.out.2).mono ?_)
               rintro e w1 ⟨rfl, f1⟩
               have H3 := Lib.hid (HF.out.then f1)
               clear f1)
            | fail "no arm")
          go_roundw
          case rel => exact ⟨k + 1, by omega, by go_num, by rw [take_succ_of0 HX.out.1, List.all_append, ← HO.out]; simp, H3.out⟩
          case measure => simp [intOf]; omega
      · have hlti : ¬ (k : Int) < (p.ws.length : Int) := by omega
        have hke : k = p.ws.length := by omega
        have hm : p.may most = o := by
          unfold Pn.may
          rw [decide_eq_true H1.out.2.2, HO.out, hke, List.take_length, Bool.true_and]
        have HM := Lib.hid hm
        have HKE := Lib.hid hke
        clear hm hke
        rcases o with _ | _
        · go_wp2_with fail
          go_ret
          exact ⟨ret_int (by rw [HR.out.2.2.1, HM.out]; rfl), HB.out.2.then HF.out⟩
        · go_wp2_with fail
          go_ret
          exact ⟨ret_int (by rw [HR.out.2.2.1, HM.out]; rfl), HB.out.2.then HF.out⟩
  · have hw := hwhy hbr
    have HRF := Lib.hid (show R = 2 from by rw [HR.out.2.2.1]; unfold Pn.may; rw [decide_eq_false hbr]; rfl)
    clear hwhy hbare hbr
    rcases hw with h1 | ⟨h1, h2⟩ | ⟨h1, h2, h3⟩ | ⟨h1, h2, h3, h4⟩ | ⟨h1, h2, h3, h4, h5⟩ | ⟨h1, h2, h3, h4, h5, h6⟩
    · have e1 : (kq == 0) = false := by simp [h1]
      clear h1
      go_enter Try.func23, Try.ntmps23
      go_upto_region 1 with fail
      rw [← HW.out]
      clear HW
      go_upto_region 3 with (first
        | (go_at_call 48
           (with_reducible refine (rqcheck_any p.q.1 p.q.2.1 p.q.2.2 _).mono ?_)
           rintro e w1 ⟨rfl, f1⟩
           rw [← HR.out.1]
           have hb1 := HB.out.1.fr f1 id
           have c2' := hb1.cell 4
           have c3' := hb1.cell 5
           have c4' := hb1.cell 6
           have c5' := hb1.cell 7
           have H2 := Lib.hid (And.intro hb1 (f1))
           clear f1 hb1 c0 c1 c2)
        | (go_at_call 49
           (with_reducible refine (rtick_any p.dl _).mono ?_)
           rintro e w2 ⟨rfl, rfl⟩
           rw [← HR.out.2.1])
        | fail "no arm")
      go_loopw [5, 6] (fun o i wr => o = .bool false ∧ i = .int .i64 0 ∧ Fr (fun _ => False) W wr) (fun _ _ _ => 0)
      case atStart => exact ⟨by first | rfl | exact congrArg Value.bool (decide_eq_false (by omega)), rfl, H2.out.2⟩
      case round =>
        obtain ⟨rfl, rfl, hfr⟩ := hrel
        have hb1 := HB.out.1.fr hfr id
        have c5' := hb1.cell 7
        have HF := Lib.hid hfr
        clear hfr hb1
        by_cases hz : 0 < (p.ws.length : Int)
        · first
          | (exfalso; omega)
          | (go_wp2_with fail
             go_ret
             exact ⟨ret_int HRF.out.symm, HB.out.2.then HF.out⟩)
        · first
          | (exfalso; omega)
          | (go_wp2_with fail
             go_ret
             exact ⟨ret_int HRF.out.symm, HB.out.2.then HF.out⟩)
    · have e1 : (kq == 0) = true := by simp [h1]
      clear h1
      go_enter Try.func23, Try.ntmps23
      go_upto_region 1 with fail
      rw [← HW.out]
      clear HW
      go_upto_region 3 with (first
        | (go_at_call 48
           (with_reducible refine (rqcheck_any p.q.1 p.q.2.1 p.q.2.2 _).mono ?_)
           rintro e w1 ⟨rfl, f1⟩
           rw [← HR.out.1]
           have hb1 := HB.out.1.fr f1 id
           have c2' := hb1.cell 4
           have c3' := hb1.cell 5
           have c4' := hb1.cell 6
           have c5' := hb1.cell 7
           have H2 := Lib.hid (And.intro hb1 (f1))
           clear f1 hb1 c0 c1 c2)
        | (go_at_call 49
           (with_reducible refine (rtick_any p.dl _).mono ?_)
           rintro e w2 ⟨rfl, rfl⟩
           rw [← HR.out.2.1])
        | fail "no arm")
      go_loopw [5, 6] (fun o i wr => o = .bool false ∧ i = .int .i64 0 ∧ Fr (fun _ => False) W wr) (fun _ _ _ => 0)
      case atStart => exact ⟨by first | rfl | exact congrArg Value.bool (decide_eq_false (by omega)), rfl, H2.out.2⟩
      case round =>
        obtain ⟨rfl, rfl, hfr⟩ := hrel
        have hb1 := HB.out.1.fr hfr id
        have c5' := hb1.cell 7
        have HF := Lib.hid hfr
        clear hfr hb1
        by_cases hz : 0 < (p.ws.length : Int)
        · first
          | (exfalso; omega)
          | (go_wp2_with fail
             go_ret
             exact ⟨ret_int HRF.out.symm, HB.out.2.then HF.out⟩)
        · first
          | (exfalso; omega)
          | (go_wp2_with fail
             go_ret
             exact ⟨ret_int HRF.out.symm, HB.out.2.then HF.out⟩)
    · have e1 : (kq == 0) = true := by simp [h1]
      clear h1
      go_enter Try.func23, Try.ntmps23
      go_upto_region 1 with fail
      rw [← HW.out]
      clear HW
      go_upto_region 3 with (first
        | (go_at_call 48
           (with_reducible refine (rqcheck_any p.q.1 p.q.2.1 p.q.2.2 _).mono ?_)
           rintro e w1 ⟨rfl, f1⟩
           rw [← HR.out.1]
           have hb1 := HB.out.1.fr f1 id
           have c2' := hb1.cell 4
           have c3' := hb1.cell 5
           have c4' := hb1.cell 6
           have c5' := hb1.cell 7
           have H2 := Lib.hid (And.intro hb1 (f1))
           clear f1 hb1 c0 c1 c2)
        | (go_at_call 49
           (with_reducible refine (rtick_any p.dl _).mono ?_)
           rintro e w2 ⟨rfl, rfl⟩
           rw [← HR.out.2.1])
        | fail "no arm")
      go_loopw [5, 6] (fun o i wr => o = .bool false ∧ i = .int .i64 0 ∧ Fr (fun _ => False) W wr) (fun _ _ _ => 0)
      case atStart => exact ⟨by first | rfl | exact congrArg Value.bool (decide_eq_false (by omega)), rfl, H2.out.2⟩
      case round =>
        obtain ⟨rfl, rfl, hfr⟩ := hrel
        have hb1 := HB.out.1.fr hfr id
        have c5' := hb1.cell 7
        have HF := Lib.hid hfr
        clear hfr hb1
        by_cases hz : 0 < (p.ws.length : Int)
        · first
          | (exfalso; omega)
          | (go_wp2_with fail
             go_ret
             exact ⟨ret_int HRF.out.symm, HB.out.2.then HF.out⟩)
        · first
          | (exfalso; omega)
          | (go_wp2_with fail
             go_ret
             exact ⟨ret_int HRF.out.symm, HB.out.2.then HF.out⟩)
    · have e1 : (kq == 0) = true := by simp [h1]
      have e2 : (tk == 0) = false := by simp [h4]
      clear h1 h4
      go_enter Try.func23, Try.ntmps23
      go_upto_region 1 with fail
      rw [← HW.out]
      clear HW
      go_upto_region 3 with (first
        | (go_at_call 48
           (with_reducible refine (rqcheck_any p.q.1 p.q.2.1 p.q.2.2 _).mono ?_)
           rintro e w1 ⟨rfl, f1⟩
           rw [← HR.out.1]
           have hb1 := HB.out.1.fr f1 id
           have c2' := hb1.cell 4
           have c3' := hb1.cell 5
           have c4' := hb1.cell 6
           have c5' := hb1.cell 7
           have H2 := Lib.hid (And.intro hb1 (f1))
           clear f1 hb1 c0 c1 c2)
        | (go_at_call 49
           (with_reducible refine (rtick_any p.dl _).mono ?_)
           rintro e w2 ⟨rfl, rfl⟩
           rw [← HR.out.2.1])
        | fail "no arm")
      go_loopw [5, 6] (fun o i wr => o = .bool false ∧ i = .int .i64 0 ∧ Fr (fun _ => False) W wr) (fun _ _ _ => 0)
      case atStart => exact ⟨by first | rfl | exact congrArg Value.bool (decide_eq_false (by omega)), rfl, H2.out.2⟩
      case round =>
        obtain ⟨rfl, rfl, hfr⟩ := hrel
        have hb1 := HB.out.1.fr hfr id
        have c5' := hb1.cell 7
        have HF := Lib.hid hfr
        clear hfr hb1
        by_cases hz : 0 < (p.ws.length : Int)
        · first
          | (exfalso; omega)
          | (go_wp2_with fail
             go_ret
             exact ⟨ret_int HRF.out.symm, HB.out.2.then HF.out⟩)
        · first
          | (exfalso; omega)
          | (go_wp2_with fail
             go_ret
             exact ⟨ret_int HRF.out.symm, HB.out.2.then HF.out⟩)
    · have e1 : (kq == 0) = true := by simp [h1]
      have e2 : (tk == 0) = true := by simp [h4]
      clear h1 h4
      go_enter Try.func23, Try.ntmps23
      go_upto_region 1 with fail
      rw [← HW.out]
      clear HW
      go_upto_region 3 with (first
        | (go_at_call 48
           (with_reducible refine (rqcheck_any p.q.1 p.q.2.1 p.q.2.2 _).mono ?_)
           rintro e w1 ⟨rfl, f1⟩
           rw [← HR.out.1]
           have hb1 := HB.out.1.fr f1 id
           have c2' := hb1.cell 4
           have c3' := hb1.cell 5
           have c4' := hb1.cell 6
           have c5' := hb1.cell 7
           have H2 := Lib.hid (And.intro hb1 (f1))
           clear f1 hb1 c0 c1 c2)
        | (go_at_call 49
           (with_reducible refine (rtick_any p.dl _).mono ?_)
           rintro e w2 ⟨rfl, rfl⟩
           rw [← HR.out.2.1])
        | fail "no arm")
      go_loopw [5, 6] (fun o i wr => o = .bool false ∧ i = .int .i64 0 ∧ Fr (fun _ => False) W wr) (fun _ _ _ => 0)
      case atStart => exact ⟨by first | rfl | exact congrArg Value.bool (decide_eq_false (by omega)), rfl, H2.out.2⟩
      case round =>
        obtain ⟨rfl, rfl, hfr⟩ := hrel
        have hb1 := HB.out.1.fr hfr id
        have c5' := hb1.cell 7
        have HF := Lib.hid hfr
        clear hfr hb1
        by_cases hz : 0 < (p.ws.length : Int)
        · first
          | (exfalso; omega)
          | (go_wp2_with fail
             go_ret
             exact ⟨ret_int HRF.out.symm, HB.out.2.then HF.out⟩)
        · first
          | (exfalso; omega)
          | (go_wp2_with fail
             go_ret
             exact ⟨ret_int HRF.out.symm, HB.out.2.then HF.out⟩)
    · have e1 : (kq == 0) = true := by simp [h1]
      have e2 : (tk == 0) = true := by simp [h4]
      clear h1 h4
      go_enter Try.func23, Try.ntmps23
      go_upto_region 1 with fail
      rw [← HW.out]
      clear HW
      go_upto_region 3 with (first
        | (go_at_call 48
           (with_reducible refine (rqcheck_any p.q.1 p.q.2.1 p.q.2.2 _).mono ?_)
           rintro e w1 ⟨rfl, f1⟩
           rw [← HR.out.1]
           have hb1 := HB.out.1.fr f1 id
           have c2' := hb1.cell 4
           have c3' := hb1.cell 5
           have c4' := hb1.cell 6
           have c5' := hb1.cell 7
           have H2 := Lib.hid (And.intro hb1 (f1))
           clear f1 hb1 c0 c1 c2)
        | (go_at_call 49
           (with_reducible refine (rtick_any p.dl _).mono ?_)
           rintro e w2 ⟨rfl, rfl⟩
           rw [← HR.out.2.1])
        | fail "no arm")
      go_loopw [5, 6] (fun o i wr => o = .bool false ∧ i = .int .i64 0 ∧ Fr (fun _ => False) W wr) (fun _ _ _ => 0)
      case atStart => exact ⟨by first | rfl | exact congrArg Value.bool (decide_eq_false (by omega)), rfl, H2.out.2⟩
      case round =>
        obtain ⟨rfl, rfl, hfr⟩ := hrel
        have hb1 := HB.out.1.fr hfr id
        have c5' := hb1.cell 7
        have HF := Lib.hid hfr
        clear hfr hb1
        by_cases hz : 0 < (p.ws.length : Int)
        · first
          | (exfalso; omega)
          | (go_wp2_with fail
             go_ret
             exact ⟨ret_int HRF.out.symm, HB.out.2.then HF.out⟩)
        · first
          | (exfalso; omega)
          | (go_wp2_with fail
             go_ret
             exact ⟨ret_int HRF.out.symm, HB.out.2.then HF.out⟩)
end Go.Proofs.Ytncfdfgcnblicaa

/-
  LAYERS 2, 23, THE REFERENCE: Fold, Same.
-/
namespace Go.Proofs.Ytncfdfgcnblicaa
open Go.RowKit Go.Maps Go.Sort Go.Shelf
set_option linter.unusedVariables false
set_option linter.unusedSimpArgs false

set_option maxRecDepth 100000 in
set_option maxHeartbeats 4000000 in
theorem rnfold_any (s : ByteArray) (w : World) : Calls Try.prog 37 #[.string s] w fun e w' => e = .returned (.string ⟨(foldN s).toArray⟩) ∧ Fr (fun _ => False) w w' := by
  have hstr : ∀ w : World, Strs w none ([] : List ByteArray) := fun w h => by simp at h
  by_cases hs : ckN s = 0
  · obtain ⟨g1, g2⟩ := (ckN_okN s).1 hs
    obtain ⟨N, hN⟩ : ∃ N, N = s.data.toList := ⟨_, rfl⟩
    have hNl : N.length ≤ 254 := by rw [hN, size_l]; exact g1
    rw [← hN] at g2
    have hfn : foldN s = mkN ((labs N).map foldL) := by unfold foldN; rw [if_pos hs, ← hN, mkN_fold _ N (Nat.le_refl _) g2]
    have hml : (mkN ((labs N).map foldL)).length ≤ 254 := by rw [mkN_fold _ N (Nat.le_refl _) g2, foldL_length]; exact hNl
    have hall : ∀ x ∈ labs N, 1 ≤ x.length ∧ x.length ≤ 63 := labs_all _ N (Nat.le_refl _) g2
    have hLn : (labs N).length ≤ 254 := Nat.le_trans (labs_len _ N (Nat.le_refl _) g2) hNl
    have hlb := rlabels_any s w hs
    rw [← hN] at hlb
    rw [hfn]
    obtain ⟨L, hL⟩ : ∃ L, L = labs N := ⟨_, rfl⟩
    rw [← hL] at hml hall hLn ⊢
    have HL := Lib.hid (And.intro hL (And.intro hall hml))
    have HLB := Lib.hid hlb
    clear hlb hfn hL hall hN hNl hml g1 g2
    go_enter Try.func37, Try.ntmps37
    go_upto_region 3 with (first
      | (go_at_call 61
         refine HLB.out.mono ?_
         unfold LabsPost
         rintro e w1 ⟨A, cap, rfl, o1, o2, o3⟩
         rw [← HL.out.1] at o1 ⊢
         have H1 := Lib.hid (And.intro o1 (And.intro o2 o3))
         clear o1 o2 o3)
      | fail "no arm")
    go_loopw [4] (fun i wr => ∃ k : Nat, k ≤ L.length ∧ i = .int .i64 (k : Nat) ∧ (∀ g, A = some ⟨g, 0, none⟩ → 0 < L.length → SB wr g L k) ∧ Fr (fun _ => False) w wr) (fun i _ => L.length - (intOf i).toNat)
    case atStart =>
      refine ⟨0, Nat.zero_le _, rfl, fun g hg h0 => ?_, H1.out.2.2⟩
      obtain ⟨g', hg', hsb⟩ := SB.own H1.out.1 h0
      rw [hg] at hg'
      injection hg' with hg'
      injection hg' with hg'
      rw [hg']
      exact hsb
    case round =>
      obtain ⟨k, hk, rfl, hsb, hfr⟩ := hrel
      have HF := Lib.hid (And.intro hsb hfr)
      clear hsb hfr
      by_cases hlt : k < L.length
      · obtain ⟨g, rfl, _⟩ := SB.own H1.out.1 (by omega)
        have hsb := HF.out.1 g rfl (by omega)
        have hc := hsb.c k hlt
        rw [if_neg (by omega)] at hc
        have hgw : w.heap.size ≤ g := H1.out.2.1 g ⟨_, rfl, rfl⟩
        obtain ⟨x, hx⟩ : ∃ x, x = L[k] := ⟨_, rfl⟩
        have hx63 := (HL.out.2.1 L[k] (List.getElem_mem hlt)).2
        rw [← hx] at hc hx63
        have HSB := Lib.hid (And.intro hsb hx)
        clear hx hsb
        have hxs : (⟨x.toArray⟩ : ByteArray).size ≤ 1000 := by simp [ByteArray.size]; omega
        have hxd : (⟨x.toArray⟩ : ByteArray).data.toList = x := by simp
        have HXD := Lib.hid hxd
        clear hxd
        go_wp2_with (first
          | (refine (rlfold_any ⟨x.toArray⟩ _ hxs).mono ?_
             rintro e w2 ⟨rfl, f2⟩
             have hs2 := HSB.out.1.fr0 f2
             have hc2 := hs2.c k hlt
             rw [if_neg (by omega)] at hc2
             have hz2 := hs2.z k hlt
             have H2 := Lib.hid (And.intro hs2 (HF.out.2.then f2))
             clear hs2 f2 hc)
          | fail "no arm")
        go_roundw
        case rel =>
          refine ⟨k + 1, by omega, by go_num, fun g' hg' _ => ?_, H2.out.2.setCell (p := ⟨g, k, none⟩) (fun h => absurd h (Nat.not_lt.2 hgw)) _⟩
          injection hg' with hg'
          injection hg' with hg'
          rw [← hg', HSB.out.2]
          exact H2.out.1.next hlt
        case measure => simp [intOf]; omega
      · have hke : k = L.length := by omega
        subst hke
        have hst : Strs wr A ((L.map foldL).map fun x => ⟨x.toArray⟩) := by
          by_cases h0 : 0 < L.length
          · obtain ⟨g, rfl, _⟩ := SB.own H1.out.1 h0
            exact (HF.out.1 g rfl h0).strs
          · have hL0 : L = [] := List.eq_nil_of_length_eq_zero (by omega)
            rw [hL0]
            exact fun h => by simp at h
        have hmk := rmake_any A cap ((L.map foldL).map fun x => ⟨x.toArray⟩) wr hst (fun x hx => by
          obtain ⟨y, hy, rfl⟩ := List.mem_map.1 hx
          obtain ⟨z, hz, rfl⟩ := List.mem_map.1 hy
          have := HL.out.2.1 z hz
          rw [show (⟨(foldL z).toArray⟩ : ByteArray).size = z.length from by simp [ByteArray.size, foldL_length]]
          exact this) (by simp; omega) (by
          rw [show ((L.map foldL).map fun x => (⟨x.toArray⟩ : ByteArray)).map (fun x => x.data.toList) = L.map foldL from by simp [List.map_map, Function.comp_def]]
          exact HL.out.2.2)
        have hmm : ((L.map foldL).map fun x => (⟨x.toArray⟩ : ByteArray)).map (fun x => x.data.toList) = L.map foldL := by simp [List.map_map, Function.comp_def]
        rw [hmm, List.length_map, List.length_map] at hmk
        have HM := Lib.hid hmk
        clear hmk hmm hst
        go_wp2_with (first
          | (refine HM.out.mono ?_
             rintro e w3 ⟨rfl, f3⟩
             have H3 := Lib.hid f3
             clear f3)
          | fail "no arm")
        go_ret
        exact ⟨rfl, HF.out.2.then H3.out⟩
  · have hfn : foldN s = [] := by unfold foldN; rw [if_neg hs]
    rw [hfn]
    have hlb := rlabels_bad s w hs
    have hmk := fun w' => rmake_any none 0 [] w' (hstr w') (fun x hx => by cases hx) (Nat.zero_le _) (Nat.zero_le _)
    have HM := Lib.hid (And.intro hlb hmk)
    clear hlb hmk hfn
    go_enter Try.func37, Try.ntmps37
    go_upto_region 3 with (first
      | (go_at_call 61
         refine HM.out.1.mono ?_
         rintro e w1 ⟨rfl, hw1⟩
         have H1 := Lib.hid (show Fr (fun _ => False) w w1 from by rw [← hw1]; exact Fr.refl _ _)
         clear hw1)
      | fail "no arm")
    go_loop [4] (fun i => i = .int .i64 0) (fun _ => 0)
    case atStart => rfl
    case round =>
      subst hrel
      have hmk := HM.out.2 w1
      have HMK := Lib.hid hmk
      clear hmk
      go_wp2_with (first
        | (refine HMK.out.mono ?_
           rintro e w3 ⟨rfl, f3⟩
           have H3 := Lib.hid f3
           clear f3)
        | fail "no arm")
      go_ret
      exact ⟨rfl, H1.out.then H3.out⟩
/-- Are names the same, folded? -/
noncomputable def nsameB (a b : ByteArray) : Bool := decide (ckN a = 0 ∧ ckN b = 0 ∧ foldN a = foldN b)
set_option maxRecDepth 100000 in
set_option maxHeartbeats 2000000 in
theorem rnsame_any (a b : ByteArray) (w : World) : Calls Try.prog 15 #[.string a, .string b] w fun e w' => e = .returned (.bool (nsameB a b)) ∧ Fr (fun _ => False) w w' := by
  obtain ⟨ka, hka⟩ : ∃ k, k = ckN a := ⟨_, rfl⟩
  obtain ⟨kb, hkb⟩ : ∃ k, k = ckN b := ⟨_, rfl⟩
  obtain ⟨R, hR⟩ : ∃ R, R = nsameB a b := ⟨_, rfl⟩
  rw [← hR]
  unfold nsameB at hR
  rw [← hka, ← hkb] at hR
  have HK := Lib.hid (And.intro hka (And.intro hkb hR))
  clear hka hkb hR
  by_cases h1 : ka = 0
  · have e1 : (ka == 0) = true := by simp [h1]
    by_cases h2 : kb = 0
    · have e2 : (kb == 0) = true := by simp [h2]
      have H12 := Lib.hid (And.intro h1 h2)
      clear h1 h2
      go_enter Try.func15, Try.ntmps15
      go_wp2_with (first
        | (go_at_call 9
           first
             | ((with_reducible refine (rcheck_any a _).mono ?_); rintro e w' ⟨rfl, rfl⟩; rw [← HK.out.1])
             | ((with_reducible refine (rcheck_any b _).mono ?_); rintro e w' ⟨rfl, rfl⟩; rw [← HK.out.2.1]))
        | (go_at_call 37
           first
             | ((with_reducible refine (rnfold_any a _).mono ?_); rintro e w1 ⟨rfl, f1⟩; have H1 := Lib.hid f1; clear f1)
             | ((with_reducible refine (rnfold_any b _).mono ?_); rintro e w2 ⟨rfl, f2⟩; have H2 := Lib.hid f2; clear f2))
        | fail "no arm")
      go_ret
      refine ⟨ret_bool ?_, H1.out.then H2.out⟩
      rw [HK.out.2.2, H12.out.1, H12.out.2]
      simp [Bool.beq_eq_decide_eq]
    · have e2 : (kb == 0) = false := by simp [h2]
      have H12 := Lib.hid (And.intro h1 h2)
      clear h1 h2
      go_enter Try.func15, Try.ntmps15
      go_wp2_with (first
        | (go_at_call 9
           first
             | ((with_reducible refine (rcheck_any a _).mono ?_); rintro e w' ⟨rfl, rfl⟩; rw [← HK.out.1])
             | ((with_reducible refine (rcheck_any b _).mono ?_); rintro e w' ⟨rfl, rfl⟩; rw [← HK.out.2.1]))
        | fail "no arm")
      go_ret
      exact ⟨ret_bool (by rw [HK.out.2.2, eq_comm, decide_eq_false_iff_not]; exact fun h => H12.out.2 h.2.1), Fr.refl _ _⟩
  · have e1 : (ka == 0) = false := by simp [h1]
    have H12 := Lib.hid h1
    clear h1
    go_enter Try.func15, Try.ntmps15
    go_wp2_with (first
      | (go_at_call 9
         (with_reducible refine (rcheck_any a _).mono ?_)
         rintro e w' ⟨rfl, rfl⟩
         rw [← HK.out.1])
      | fail "no arm")
    go_ret
    exact ⟨ret_bool (by rw [HK.out.2.2, eq_comm, decide_eq_false_iff_not]; exact fun h => H12.out h.1), Fr.refl _ _⟩
end Go.Proofs.Ytncfdfgcnblicaa

/-
  LAYER 23, THE REFERENCE: Key.
-/
namespace Go.Proofs.Ytncfdfgcnblicaa
open Go.RowKit Go.Maps Go.Sort Go.Shelf
set_option linter.unusedVariables false
set_option linter.unusedSimpArgs false

set_option maxRecDepth 100000 in
set_option maxHeartbeats 4000000 in
theorem rkey_any (n : ByteArray) (t cl : Int) (w : World) (ht : i64ok' t) (hc : i64ok' cl) : Calls Try.prog 72 #[.agg #[.string n, .int .i64 t, .int .i64 cl]] w fun e w' => e = .returned (.string ⟨(keyQ n t cl).toArray⟩) ∧ Fr (fun _ => False) w w' := by
  obtain ⟨a, ha⟩ : ∃ a : Nat, a = (t % 65536).toNat := ⟨_, rfl⟩
  obtain ⟨b, hb⟩ : ∃ b : Nat, b = (cl % 65536).toNat := ⟨_, rfl⟩
  have hka : keyQ n t cl = foldN n ++ (octs a 2 ++ octs b 2) := by unfold keyQ; rw [← ha, ← hb]
  have hko : octs a 2 ++ octs b 2 = [UInt8.ofNat (a / 256), UInt8.ofNat a, UInt8.ofNat (b / 256), UInt8.ofNat b] := by simp [octs]
  rw [hko] at hka
  rw [hka]
  have hx0 : IntKind.u8.wrap (t / 256) = ((UInt8.ofNat (a / 256)).toNat : Nat) := by rw [← wrap_u8]; unfold IntKind.wrap; simp [IntKind.signed, IntKind.bits]; omega
  have hx1 : IntKind.u8.wrap t = ((UInt8.ofNat a).toNat : Nat) := by rw [← wrap_u8]; unfold IntKind.wrap; simp [IntKind.signed, IntKind.bits]; omega
  have hx2 : IntKind.u8.wrap (cl / 256) = ((UInt8.ofNat (b / 256)).toNat : Nat) := by rw [← wrap_u8]; unfold IntKind.wrap; simp [IntKind.signed, IntKind.bits]; omega
  have hx3 : IntKind.u8.wrap cl = ((UInt8.ofNat b).toNat : Nat) := by rw [← wrap_u8]; unfold IntKind.wrap; simp [IntKind.signed, IntKind.bits]; omega
  generalize UInt8.ofNat (a / 256) = x0 at *
  generalize UInt8.ofNat a = x1 at *
  generalize UInt8.ofNat (b / 256) = x2 at *
  generalize UInt8.ofNat b = x3 at *
  have HX := Lib.hid (And.intro hx0 (And.intro hx1 (And.intro hx2 hx3)))
  unfold i64ok' at ht hc
  obtain ⟨ht1, ht2⟩ := ht
  obtain ⟨hc1, hc2⟩ := hc
  clear hka ha hb hko hx0 hx1 hx2 hx3
  go_enter Try.func72, Try.ntmps72
  go_wp2_with fail
  obtain ⟨W1, hW⟩ : ∃ W, W = w.alloc (.cells #[.string n, .int .i64 t, .int .i64 cl] 25) := ⟨_, rfl⟩
  rw [← hW]
  have hbl : Blk W1 w.heap.size 25 #[.string n, .int .i64 t, .int .i64 cl] := by rw [hW]; exact Blk.new _ _ _
  have hfr : Fr (fun _ => False) w W1 := by rw [hW]; exact (Fr.refl _ _).alloc _
  have HB1 := Lib.hid (And.intro hbl hfr)
  clear hW hbl hfr
  refine wp_region_held_drew (S := fun w' => w'.cell? ⟨w.heap.size, 0, none⟩ = some (.string n) ∧ w'.cell? ⟨w.heap.size, 1, none⟩ = some (.int .i64 t) ∧ w'.cell? ⟨w.heap.size, 2, none⟩ = some (.int .i64 cl)) (by kernel_rfl) ⟨HB1.out.1.cell 0, HB1.out.1.cell 1, HB1.out.1.cell 2⟩ (fun hHeld => ?_)
  obtain ⟨W2, hW2⟩ : ∃ W2, W2 = W1.drew := ⟨_, rfl⟩
  rw [← hW2] at hHeld ⊢
  have hB2 : Blk W2 w.heap.size 25 #[.string n, .int .i64 t, .int .i64 cl] ∧ Fr (fun _ => False) w W2 := by rw [hW2]; exact ⟨HB1.out.1.drew, HB1.out.2.drew⟩
  have HB2 := Lib.hid hB2
  clear hW2 hB2
  refine wpAnyH_take (i := 0) (v := ?_) rfl (by kernel_rfl) (by kernel_rfl) (by kernel_rfl) (fun _ _ _ h => h) (Or.inl ⟨by rfl, ?_⟩) (by assumption) ?_
  rotate_left
  · intro w hSw
    go_simp
    try with_reducible rfl
  try simp only [Act.put, List.setIfInBounds_toArray, List.set_cons_zero, List.set_cons_succ, List.getElem_toArray, List.getElem_cons_zero, List.getElem_cons_succ]
  refine wpAnyH_take (i := 1) (v := ?_) rfl (by kernel_rfl) (by kernel_rfl) (by kernel_rfl) (fun _ _ _ h => h) (Or.inl ⟨by rfl, ?_⟩) (by assumption) ?_
  rotate_left
  · intro w hSw
    obtain ⟨hc0, hc1, hc2⟩ : w.cell? _ = _ ∧ w.cell? _ = _ ∧ w.cell? _ = _ := hSw
    go_simp
    try with_reducible rfl
  try simp only [Act.put, List.setIfInBounds_toArray, List.set_cons_zero, List.set_cons_succ, List.getElem_toArray, List.getElem_cons_zero, List.getElem_cons_succ]
  refine wpAnyH_take (i := 3) (v := ?_) rfl (by kernel_rfl) (by kernel_rfl) (by kernel_rfl) (fun _ _ _ h => h) (Or.inl ⟨by rfl, ?_⟩) (by assumption) ?_
  rotate_left
  · intro w hSw
    go_simp
    try with_reducible rfl
  try simp only [Act.put, List.setIfInBounds_toArray, List.set_cons_zero, List.set_cons_succ, List.getElem_toArray, List.getElem_cons_zero, List.getElem_cons_succ]
  refine wpAnyH_take (i := 4) (v := ?_) rfl (by kernel_rfl) (by kernel_rfl) (by kernel_rfl) (fun _ _ _ h => h) (Or.inl ⟨by rfl, ?_⟩) (by assumption) ?_
  rotate_left
  · intro w hSw
    obtain ⟨hc0, hc1, hc2⟩ : w.cell? _ = _ ∧ w.cell? _ = _ ∧ w.cell? _ = _ := hSw
    go_simp
    try with_reducible rfl
  try simp only [Act.put, List.setIfInBounds_toArray, List.set_cons_zero, List.set_cons_succ, List.getElem_toArray, List.getElem_cons_zero, List.getElem_cons_succ]
  refine wpAnyH_take (i := 5) (v := ?_) rfl (by kernel_rfl) (by kernel_rfl) (by kernel_rfl) (fun _ _ _ h => h) (Or.inl ⟨by rfl, ?_⟩) (by assumption) ?_
  rotate_left
  · intro w hSw
    go_simp
    try with_reducible rfl
  try simp only [Act.put, List.setIfInBounds_toArray, List.set_cons_zero, List.set_cons_succ, List.getElem_toArray, List.getElem_cons_zero, List.getElem_cons_succ]
  refine wpAnyH_take (i := 6) (v := ?_) rfl (by kernel_rfl) (by kernel_rfl) (by kernel_rfl) (fun _ _ _ h => h) (Or.inl ⟨by rfl, ?_⟩) (by assumption) ?_
  rotate_left
  · intro w hSw
    go_simp
    try with_reducible rfl
  try simp only [Act.put, List.setIfInBounds_toArray, List.set_cons_zero, List.set_cons_succ, List.getElem_toArray, List.getElem_cons_zero, List.getElem_cons_succ]
  refine wpAnyH_take (i := 7) (v := ?_) rfl (by kernel_rfl) (by kernel_rfl) (by kernel_rfl) (fun _ _ _ h => h) (Or.inl ⟨by rfl, ?_⟩) (by assumption) ?_
  rotate_left
  · intro w hSw
    go_simp
    try with_reducible rfl
  try simp only [Act.put, List.setIfInBounds_toArray, List.set_cons_zero, List.set_cons_succ, List.getElem_toArray, List.getElem_cons_zero, List.getElem_cons_succ]
  refine wpAnyH_take (i := 8) (v := ?_) rfl (by kernel_rfl) (by kernel_rfl) (by kernel_rfl) (fun _ _ _ h => h) (Or.inl ⟨by rfl, ?_⟩) (by assumption) ?_
  rotate_left
  · intro w hSw
    obtain ⟨hc0, hc1, hc2⟩ : w.cell? _ = _ ∧ w.cell? _ = _ ∧ w.cell? _ = _ := hSw
    go_simp
    try with_reducible rfl
  try simp only [Act.put, List.setIfInBounds_toArray, List.set_cons_zero, List.set_cons_succ, List.getElem_toArray, List.getElem_cons_zero, List.getElem_cons_succ]
  refine wpAnyH_take (i := 9) (v := ?_) rfl (by kernel_rfl) (by kernel_rfl) (by kernel_rfl) (fun _ _ _ h => h) (Or.inl ⟨by rfl, ?_⟩) (by assumption) ?_
  rotate_left
  · intro w hSw
    go_simp
    try with_reducible rfl
  try simp only [Act.put, List.setIfInBounds_toArray, List.set_cons_zero, List.set_cons_succ, List.getElem_toArray, List.getElem_cons_zero, List.getElem_cons_succ]
  refine wpAnyH_take (i := 10) (v := ?_) rfl (by kernel_rfl) (by kernel_rfl) (by kernel_rfl) (fun _ _ _ h => h) (Or.inl ⟨by rfl, ?_⟩) (by assumption) ?_
  rotate_left
  · intro w hSw
    go_simp
    try with_reducible rfl
  try simp only [Act.put, List.setIfInBounds_toArray, List.set_cons_zero, List.set_cons_succ, List.getElem_toArray, List.getElem_cons_zero, List.getElem_cons_succ]
  refine wpAnyH_take (i := 11) (v := ?_) rfl (by kernel_rfl) (by kernel_rfl) (by kernel_rfl) (fun _ _ _ h => h) (Or.inl ⟨by rfl, ?_⟩) (by assumption) ?_
  rotate_left
  · intro w hSw
    obtain ⟨hc0, hc1, hc2⟩ : w.cell? _ = _ ∧ w.cell? _ = _ ∧ w.cell? _ = _ := hSw
    go_simp
    try with_reducible rfl
  try simp only [Act.put, List.setIfInBounds_toArray, List.set_cons_zero, List.set_cons_succ, List.getElem_toArray, List.getElem_cons_zero, List.getElem_cons_succ]
  refine wpAnyH_take (i := 12) (v := ?_) rfl (by kernel_rfl) (by kernel_rfl) (by kernel_rfl) (fun _ _ _ h => h) (Or.inl ⟨by rfl, ?_⟩) (by assumption) ?_
  rotate_left
  · intro w hSw
    go_simp
    try with_reducible rfl
  try simp only [Act.put, List.setIfInBounds_toArray, List.set_cons_zero, List.set_cons_succ, List.getElem_toArray, List.getElem_cons_zero, List.getElem_cons_succ]
  refine wpAnyH_take (i := 13) (v := ?_) rfl (by kernel_rfl) (by kernel_rfl) (by kernel_rfl) (fun _ _ _ h => h) (Or.inl ⟨by rfl, ?_⟩) (by assumption) ?_
  rotate_left
  · intro w hSw
    go_simp
    try with_reducible rfl
  try simp only [Act.put, List.setIfInBounds_toArray, List.set_cons_zero, List.set_cons_succ, List.getElem_toArray, List.getElem_cons_zero, List.getElem_cons_succ]
  refine wpAnyH_take (i := 14) (v := ?_) rfl (by kernel_rfl) (by kernel_rfl) (by kernel_rfl) (fun _ _ _ h => h) (Or.inl ⟨by rfl, ?_⟩) (by assumption) ?_
  rotate_left
  · intro w hSw
    go_simp
    try with_reducible rfl
  try simp only [Act.put, List.setIfInBounds_toArray, List.set_cons_zero, List.set_cons_succ, List.getElem_toArray, List.getElem_cons_zero, List.getElem_cons_succ]
  refine wpAnyH_take (i := 15) (v := ?_) rfl (by kernel_rfl) (by kernel_rfl) (by kernel_rfl) (fun _ _ _ h => h) (Or.inl ⟨by rfl, ?_⟩) (by assumption) ?_
  rotate_left
  · intro w hSw
    obtain ⟨hc0, hc1, hc2⟩ : w.cell? _ = _ ∧ w.cell? _ = _ ∧ w.cell? _ = _ := hSw
    go_simp
    try with_reducible rfl
  try simp only [Act.put, List.setIfInBounds_toArray, List.set_cons_zero, List.set_cons_succ, List.getElem_toArray, List.getElem_cons_zero, List.getElem_cons_succ]
  refine wpAnyH_take (i := 16) (v := ?_) rfl (by kernel_rfl) (by kernel_rfl) (by kernel_rfl) (fun _ _ _ h => h) (Or.inl ⟨by rfl, ?_⟩) (by assumption) ?_
  rotate_left
  · intro w hSw
    go_simp
    try with_reducible rfl
  try simp only [Act.put, List.setIfInBounds_toArray, List.set_cons_zero, List.set_cons_succ, List.getElem_toArray, List.getElem_cons_zero, List.getElem_cons_succ]
  rw [HX.out.1, HX.out.2.1, HX.out.2.2.1, HX.out.2.2.2]
  have hif : (9223372036854775807 < (foldN n).length + 4) = False := eq_false (by have := foldN_len n; omega)
  refine wpAnyH_ready (rs := [2, 17]) (by kernel_rfl) (by simp) ?_
  refine AllReadyH.cons rfl (fun K hK => ?_) (AllReadyH.cons rfl (fun K hK => ?_) AllReadyH.nil)
  · go_simp
    (with_reducible refine (rnfold_any n W2).mono ?_)
    rintro e w2 ⟨rfl, f2⟩
    have B2 := HB2.out.1.fr f2 id
    have c_w2 : w2.cell? ⟨w.heap.size, 0, none⟩ = some (.string n) ∧ w2.cell? ⟨w.heap.size, 1, none⟩ = some (.int .i64 t) ∧ w2.cell? ⟨w.heap.size, 2, none⟩ = some (.int .i64 cl) := ⟨B2.cell 0, B2.cell 1, B2.cell 2⟩
    have F2 := Lib.hid f2
    clear f2
    refine hK.out _ _ c_w2 (fun hHeld => ?_)
    clear hK K
    try simp only [Act.put, List.setIfInBounds_toArray, List.set_cons_zero, List.set_cons_succ, List.getElem_toArray, List.getElem_cons_zero, List.getElem_cons_succ]
    refine wpAnyH_ready (rs := [17]) (by kernel_rfl) (by simp) ?_
    refine AllReadyH.cons rfl (fun K hK => ?_) AllReadyH.nil
    go_simp
    have B3 := B2.alloc (Obj.cells #[Value.int IntKind.u8 x0.toNat, Value.int IntKind.u8 x1.toNat, Value.int IntKind.u8 x2.toNat, Value.int IntKind.u8 x3.toNat] 5)
    have c3 : (w2.alloc (Obj.cells #[Value.int IntKind.u8 x0.toNat, Value.int IntKind.u8 x1.toNat, Value.int IntKind.u8 x2.toNat, Value.int IntKind.u8 x3.toNat] 5)).cell? ⟨w.heap.size, 0, none⟩ = some (.string n) ∧ (w2.alloc (Obj.cells #[Value.int IntKind.u8 x0.toNat, Value.int IntKind.u8 x1.toNat, Value.int IntKind.u8 x2.toNat, Value.int IntKind.u8 x3.toNat] 5)).cell? ⟨w.heap.size, 1, none⟩ = some (.int .i64 t) ∧ (w2.alloc (Obj.cells #[Value.int IntKind.u8 x0.toNat, Value.int IntKind.u8 x1.toNat, Value.int IntKind.u8 x2.toNat, Value.int IntKind.u8 x3.toNat] 5)).cell? ⟨w.heap.size, 2, none⟩ = some (.int .i64 cl) := ⟨B3.cell 0, B3.cell 1, B3.cell 2⟩
    refine hK.out _ _ c3 (fun hHeld => ?_)
    clear hK K
    try simp only [Act.put, List.setIfInBounds_toArray, List.set_cons_zero, List.set_cons_succ, List.getElem_toArray, List.getElem_cons_zero, List.getElem_cons_succ]
    refine wpAnyH_ready (rs := [18]) (by kernel_rfl) (by simp) ?_
    refine AllReadyH.cons rfl (fun K hK => ?_) AllReadyH.nil
    have hcv := row_str w2 x0 x1 x2 x3
    go_simp
    refine hK.out _ _ c3 (fun hHeld => ?_)
    clear hK K
    try simp only [Act.put, List.setIfInBounds_toArray, List.set_cons_zero, List.set_cons_succ, List.getElem_toArray, List.getElem_cons_zero, List.getElem_cons_succ]
    clear hcv
    refine wpAnyH_take (i := 19) (v := ?_) rfl (by kernel_rfl) (by kernel_rfl) (by kernel_rfl) (fun _ _ _ h => h) (Or.inl ⟨by rfl, ?_⟩) (by assumption) ?_
    rotate_left
    · intro w hSw
      go_simp
      try with_reducible rfl
    try simp only [Act.put, List.setIfInBounds_toArray, List.set_cons_zero, List.set_cons_succ, List.getElem_toArray, List.getElem_cons_zero, List.getElem_cons_succ]
    refine wpAnyH_take (i := 20) (v := ?_) rfl (by kernel_rfl) (by kernel_rfl) (by kernel_rfl) (fun _ _ _ h => h) (Or.inl ⟨by rfl, ?_⟩) (by assumption) ?_
    rotate_left
    · intro w hSw
      go_simp
      try with_reducible rfl
    try simp only [Act.put, List.setIfInBounds_toArray, List.set_cons_zero, List.set_cons_succ, List.getElem_toArray, List.getElem_cons_zero, List.getElem_cons_succ]
    refine wpAnyH_done (by kernel_rfl) ?_ _
    clear hHeld
    go_wp2_with fail
    go_ret
    exact ⟨ret_str (str_app2 _ _), HB2.out.2.then (F2.out.alloc _)⟩
  · go_simp
    have B3 := HB2.out.1.alloc (Obj.cells #[Value.int IntKind.u8 x0.toNat, Value.int IntKind.u8 x1.toNat, Value.int IntKind.u8 x2.toNat, Value.int IntKind.u8 x3.toNat] 5)
    have c3 : (W2.alloc (Obj.cells #[Value.int IntKind.u8 x0.toNat, Value.int IntKind.u8 x1.toNat, Value.int IntKind.u8 x2.toNat, Value.int IntKind.u8 x3.toNat] 5)).cell? ⟨w.heap.size, 0, none⟩ = some (.string n) ∧ (W2.alloc (Obj.cells #[Value.int IntKind.u8 x0.toNat, Value.int IntKind.u8 x1.toNat, Value.int IntKind.u8 x2.toNat, Value.int IntKind.u8 x3.toNat] 5)).cell? ⟨w.heap.size, 1, none⟩ = some (.int .i64 t) ∧ (W2.alloc (Obj.cells #[Value.int IntKind.u8 x0.toNat, Value.int IntKind.u8 x1.toNat, Value.int IntKind.u8 x2.toNat, Value.int IntKind.u8 x3.toNat] 5)).cell? ⟨w.heap.size, 2, none⟩ = some (.int .i64 cl) := ⟨B3.cell 0, B3.cell 1, B3.cell 2⟩
    refine hK.out _ _ c3 (fun hHeld => ?_)
    clear hK K
    try simp only [Act.put, List.setIfInBounds_toArray, List.set_cons_zero, List.set_cons_succ, List.getElem_toArray, List.getElem_cons_zero, List.getElem_cons_succ]
    refine wpAnyH_ready (rs := [2, 18]) (by kernel_rfl) (by simp) ?_
    refine AllReadyH.cons rfl (fun K hK => ?_) (AllReadyH.cons rfl (fun K hK => ?_) AllReadyH.nil)
    · go_simp
      (with_reducible refine (rnfold_any n _).mono ?_)
      rintro e w2 ⟨rfl, f2⟩
      have B2 := B3.fr f2 id
      have c_w2 : w2.cell? ⟨w.heap.size, 0, none⟩ = some (.string n) ∧ w2.cell? ⟨w.heap.size, 1, none⟩ = some (.int .i64 t) ∧ w2.cell? ⟨w.heap.size, 2, none⟩ = some (.int .i64 cl) := ⟨B2.cell 0, B2.cell 1, B2.cell 2⟩
      have F2 := Lib.hid f2
      have hcv := row_str2 f2
      clear f2
      refine hK.out _ _ c_w2 (fun hHeld => ?_)
      clear hK K
      try simp only [Act.put, List.setIfInBounds_toArray, List.set_cons_zero, List.set_cons_succ, List.getElem_toArray, List.getElem_cons_zero, List.getElem_cons_succ]
      refine wpAnyH_ready (rs := [18]) (by kernel_rfl) (by simp) ?_
      refine AllReadyH.cons rfl (fun K hK => ?_) AllReadyH.nil
      go_simp
      refine hK.out _ _ c_w2 (fun hHeld => ?_)
      clear hK K
      try simp only [Act.put, List.setIfInBounds_toArray, List.set_cons_zero, List.set_cons_succ, List.getElem_toArray, List.getElem_cons_zero, List.getElem_cons_succ]
      clear hcv
      refine wpAnyH_take (i := 19) (v := ?_) rfl (by kernel_rfl) (by kernel_rfl) (by kernel_rfl) (fun _ _ _ h => h) (Or.inl ⟨by rfl, ?_⟩) (by assumption) ?_
      rotate_left
      · intro w hSw
        go_simp
        try with_reducible rfl
      try simp only [Act.put, List.setIfInBounds_toArray, List.set_cons_zero, List.set_cons_succ, List.getElem_toArray, List.getElem_cons_zero, List.getElem_cons_succ]
      refine wpAnyH_take (i := 20) (v := ?_) rfl (by kernel_rfl) (by kernel_rfl) (by kernel_rfl) (fun _ _ _ h => h) (Or.inl ⟨by rfl, ?_⟩) (by assumption) ?_
      rotate_left
      · intro w hSw
        go_simp
        try with_reducible rfl
      try simp only [Act.put, List.setIfInBounds_toArray, List.set_cons_zero, List.set_cons_succ, List.getElem_toArray, List.getElem_cons_zero, List.getElem_cons_succ]
      refine wpAnyH_done (by kernel_rfl) ?_ _
      clear hHeld
      go_wp2_with fail
      go_ret
      exact ⟨ret_str (str_app2 _ _), HB2.out.2.then (((Fr.refl (fun _ => False) W2).alloc _).then F2.out)⟩
    · have hcv := row_str W2 x0 x1 x2 x3
      go_simp
      refine hK.out _ _ c3 (fun hHeld => ?_)
      clear hK K
      try simp only [Act.put, List.setIfInBounds_toArray, List.set_cons_zero, List.set_cons_succ, List.getElem_toArray, List.getElem_cons_zero, List.getElem_cons_succ]
      clear hcv
      refine wpAnyH_ready (rs := [2]) (by kernel_rfl) (by simp) ?_
      refine AllReadyH.cons rfl (fun K hK => ?_) AllReadyH.nil
      go_simp
      (with_reducible refine (rnfold_any n _).mono ?_)
      rintro e w2 ⟨rfl, f2⟩
      have B2 := B3.fr f2 id
      have c_w2 : w2.cell? ⟨w.heap.size, 0, none⟩ = some (.string n) ∧ w2.cell? ⟨w.heap.size, 1, none⟩ = some (.int .i64 t) ∧ w2.cell? ⟨w.heap.size, 2, none⟩ = some (.int .i64 cl) := ⟨B2.cell 0, B2.cell 1, B2.cell 2⟩
      have F2 := Lib.hid f2
      clear f2
      refine hK.out _ _ c_w2 (fun hHeld => ?_)
      clear hK K
      try simp only [Act.put, List.setIfInBounds_toArray, List.set_cons_zero, List.set_cons_succ, List.getElem_toArray, List.getElem_cons_zero, List.getElem_cons_succ]
      refine wpAnyH_take (i := 19) (v := ?_) rfl (by kernel_rfl) (by kernel_rfl) (by kernel_rfl) (fun _ _ _ h => h) (Or.inl ⟨by rfl, ?_⟩) (by assumption) ?_
      rotate_left
      · intro w hSw
        go_simp
        try with_reducible rfl
      try simp only [Act.put, List.setIfInBounds_toArray, List.set_cons_zero, List.set_cons_succ, List.getElem_toArray, List.getElem_cons_zero, List.getElem_cons_succ]
      refine wpAnyH_take (i := 20) (v := ?_) rfl (by kernel_rfl) (by kernel_rfl) (by kernel_rfl) (fun _ _ _ h => h) (Or.inl ⟨by rfl, ?_⟩) (by assumption) ?_
      rotate_left
      · intro w hSw
        go_simp
        try with_reducible rfl
      try simp only [Act.put, List.setIfInBounds_toArray, List.set_cons_zero, List.set_cons_succ, List.getElem_toArray, List.getElem_cons_zero, List.getElem_cons_succ]
      refine wpAnyH_done (by kernel_rfl) ?_ _
      clear hHeld
      go_wp2_with fail
      go_ret
      exact ⟨ret_str (str_app2 _ _), HB2.out.2.then (((Fr.refl (fun _ => False) W2).alloc _).then F2.out)⟩
end Go.Proofs.Ytncfdfgcnblicaa

/-
  LAYER 24, THE REFERENCE: copied, New.
-/
namespace Go.Proofs.Ytncfdfgcnblicaa
open Go.RowKit
set_option linter.unusedVariables false
set_option linter.unusedSimpArgs false

set_option maxRecDepth 100000 in
set_option maxHeartbeats 4000000 in
theorem rcopied_any (p : Pn) (A : Option Addr) (cap : Nat) (w : World) (hp : PnIn w A p) (hne : p.ws ≠ []) :
    Calls Try.prog 60 #[.agg #[.int .u16 (p.id : Nat), .string p.q.1, .int .i64 p.q.2.1, .int .i64 p.q.2.2, .int .i64 p.sv, .int .i64 p.tr, .int .i64 p.dl, .slice A p.ws.length cap]] w (PclonePost w p) := by
  obtain ⟨i0, hi, hz0, hz1, hz2⟩ := info_parts Try.infoWt
  obtain ⟨a, rfl⟩ : ∃ a, A = some a := by
    obtain ⟨b, off, h, _⟩ := hp.row (by rw [flat_len wcl 18 wcl_len]; have := List.length_pos_iff.2 hne; omega)
    exact ⟨_, h⟩
  obtain ⟨W, hW⟩ : ∃ W, W = ((w.alloc (.cells #[.int .u16 (p.id : Nat), .string p.q.1, .int .i64 p.q.2.1, .int .i64 p.q.2.2, .int .i64 p.sv, .int .i64 p.tr, .int .i64 p.dl, .slice (some a) p.ws.length cap] 28)).alloc (.cells #[.int .u16 0, .string ⟨#[]⟩, .int .i64 0, .int .i64 0, .int .i64 0, .int .i64 0, .int .i64 0, .slice none 0 0] 28)) := ⟨_, rfl⟩
  have hb1 : Blk W w.heap.size 28 #[.int .u16 (p.id : Nat), .string p.q.1, .int .i64 p.q.2.1, .int .i64 p.q.2.2, .int .i64 p.sv, .int .i64 p.tr, .int .i64 p.dl, .slice (some a) p.ws.length cap] := by rw [hW]; exact (Blk.new w 28 _).alloc _
  have hb2 : Blk W (w.heap.size + 1) 28 #[.int .u16 0, .string ⟨#[]⟩, .int .i64 0, .int .i64 0, .int .i64 0, .int .i64 0, .int .i64 0, .slice none 0 0] := by
    rw [hW]
    have := Blk.new (w.alloc (.cells #[.int .u16 (p.id : Nat), .string p.q.1, .int .i64 p.q.2.1, .int .i64 p.q.2.2, .int .i64 p.sv, .int .i64 p.tr, .int .i64 p.dl, .slice (some a) p.ws.length cap] 28)) 28 #[.int .u16 0, .string ⟨#[]⟩, .int .i64 0, .int .i64 0, .int .i64 0, .int .i64 0, .int .i64 0, .slice none 0 0]
    rwa [World.size_alloc] at this
  have hf : Fr (fun _ => False) w W := by rw [hW]; exact ((Fr.refl _ _).alloc _).alloc _
  have hfe : Fr (fun _ => False) W (W.alloc (.cells #[] 69)) := (Fr.refl _ W).alloc _
  have HS := Lib.hid (src_row (P := Try.prog) (cap := cap) Try.underlying26 (flat_len wcl 18 wcl_len p.ws) (rowIn_fr0 (rowIn_fr0 hp.row hf) hfe) (wflat_one p.ws))
  have hln := hp.len
  have hc7 := (hb1.fr hfe id).cell 7
  have hz7 := (hb1.fr hfe id).frozen 7
  have c7 := hb1.cell 7
  have HB := Lib.hid (And.intro (hb1.fr hfe id) (And.intro (hb2.fr hfe id) (And.intro (hf.then hfe) (And.intro hf.size hb2.lt))))
  have HW := Lib.hid hW
  clear hb1 hb2 hf hW hfe hp
  go_enter Try.func60, Try.ntmps60
  go_upto_region 1 with fail
  rw [← HW.out]
  clear HW
  go_wp2_with (first
    | (at_builtin; refine wpList_append_src rfl (.tmp 3) (.tmp 5) _ _ rfl 69 i0 _ 18 104 Try.underlying26 hi hz0 hz1 hz2 rfl (by decide) (some ⟨W.heap.size, 0, none⟩) 0 0 [] (by rfl) (own_empty (Blk.new W _ _)) _ p.ws.length (p.ws.flatMap wcl) (by rfl)
         HS.out (by simp only [maxLen]; omega) (by omega) ?_
       intro A2 c2 w4 o1 o2 o3
       rw [Nat.zero_add, List.nil_append] at o1
       have hk : ∀ k, rowOf A2 k → W.heap.size ≤ k := fun k hk => by
         rcases o3 k hk with ⟨b, hb, rfl⟩ | h
         · injection hb with hb
           rw [← hb]
           exact Nat.le_refl _
         · rw [World.size_alloc] at h; omega
       have hS : ∀ k, rowOf (some ⟨W.heap.size, 0, none⟩) k → k = W.heap.size := fun k hk => by
         obtain ⟨b, hb, rfl⟩ := hk
         injection hb with hb
         rw [← hb]
       have n1 : ¬ rowOf (some ⟨W.heap.size, 0, none⟩) w.heap.size := fun h => by have := hS _ h; have := HB.out.2.2.2.2; omega
       have n2 : ¬ rowOf (some ⟨W.heap.size, 0, none⟩) (w.heap.size + 1) := fun h => by have := hS _ h; have := HB.out.2.2.2.2; omega
       have hb3 := HB.out.1.fr o2 n1
       have c7' := hb3.cell 7
       have z7' := hb3.frozen 7
       have H1 := Lib.hid (And.intro hb3 (And.intro (HB.out.2.1.fr o2 n2) (And.intro o1 (And.intro hk (HB.out.2.2.1.step o2 fun k h => .inr (by have := hS _ h; have := HB.out.2.2.2.1; omega))))))
       clear o1 o2 o3 hb3 hc7 hz7 hk hS n1 n2)
    | (refine wpList_load_blk rfl 28 _ rfl w.heap.size (by rfl) 28 _ _ (H1.out.1.set_ 7 (.slice A2 p.ws.length c2)) Try.underlying28 rfl (by kernel_rfl) ?_)
    | (refine wpList_store_part rfl 28 _ _ rfl (w.heap.size + 1) 0 (by rfl) _ (by rfl) 28 _ (H1.out.2.1.far (p := ⟨w.heap.size, 7, none⟩) (by simp) (.slice A2 p.ws.length c2)) (by kernel_rfl) (by simp [Value.oneCell']) (by simp) #[.int .u16 (p.id : Nat), .string p.q.1, .int .i64 p.q.2.1, .int .i64 p.q.2.2, .int .i64 p.sv, .int .i64 p.tr, .int .i64 p.dl, .slice A2 p.ws.length c2] (by rfl) ?_
       intro w2 b2 f2
       have H2 := Lib.hid (And.intro b2 f2)
       clear b2 f2)
    | fail "no arm")
  have hu : Try.prog.underlying 28 = _ := Try.underlying28
  refine bodyPost_ret (results_cell_blk Try.results60 H2.out.1 rfl hu rfl (by kernel_rfl)) rfl ?_
  have hs := H1.out.2.2.2.2.size
  have f12 : Fr (fun k => k = w.heap.size ∨ k = w.heap.size + 1) w4 w2 := ((Fr.refl _ w4).setCell (p := ⟨w.heap.size, 7, none⟩) (fun _ => .inl rfl) _).then (H2.out.2.mono fun k _ h => .inr h)
  have hbs := HB.out.2.2.2.2
  have hWs := HB.out.2.2.2.1
  refine ⟨A2, c2, rfl, own_fr H1.out.2.2.1 f12 (fun k hk h => ?_), fun k hk => Nat.le_trans hWs (H1.out.2.2.2.1 k hk), H1.out.2.2.2.2.step f12 fun k h => .inr ?_⟩
  · have := H1.out.2.2.2.1 k hk
    rcases h with rfl | rfl <;> omega
  · rcases h with rfl | rfl <;> omega

/-- The reference's book without a question. -/
def RkE (w : World) (p : Nat) (most wt : Int) : Prop := Blk w p 108 #[.int .i64 most, .int .i64 wt, .slice none 0 0]
set_option maxRecDepth 100000 in
set_option maxHeartbeats 2000000 in
theorem rbnew_any (most wt : Int) (w : World) (h1 : 1 ≤ most) (h2 : most ≤ 256) (h3 : 1 ≤ wt) (h4 : wt ≤ 64) :
    Calls Try.prog 25 #[.int .i64 most, .int .i64 wt] w fun e w' => e = .returned (.tuple #[.pointer (some ⟨w.heap.size, 0, none⟩), .int .i64 0]) ∧ RkE w' w.heap.size most wt ∧ Fr (fun _ => False) w w' := by
  go_enter Try.func25, Try.ntmps25
  go_wp2_with fail
  go_ret2
  exact ⟨rfl, Blk.new _ _ _, (Fr.refl _ _).alloc _⟩
set_option maxRecDepth 100000 in
set_option maxHeartbeats 2000000 in
theorem rfind_e (p : Nat) (most wt : Int) (n : ByteArray) (t cl : Int) (w : World) (hb : RkE w p most wt) (ht : i64ok' t) (hc : i64ok' cl) :
    Calls Try.prog 58 #[.pointer (some ⟨p, 0, none⟩), .agg #[.string n, .int .i64 t, .int .i64 cl]] w (IntPost w (-1)) := by
  obtain ⟨W, hW⟩ : ∃ W, W = w.alloc (.cells #[.string n, .int .i64 t, .int .i64 cl] 25) := ⟨_, rfl⟩
  have hf : Fr (fun _ => False) w W := by rw [hW]; exact (Fr.refl _ _).alloc _
  have hb1 : Blk W w.heap.size 25 #[.string n, .int .i64 t, .int .i64 cl] := by rw [hW]; exact Blk.new _ _ _
  have HB := Lib.hid (And.intro (Blk.fr hb hf id) (And.intro hb1 hf))
  have HT := Lib.hid (And.intro ht hc)
  have HW := Lib.hid hW
  clear hb hf hW ht hc hb1
  go_enter Try.func58, Try.ntmps58
  go_upto_region 1 with fail
  rw [← HW.out]
  clear HW
  go_upto_region 3 with (first
    | (refine wpList_load_blk rfl 25 _ rfl w.heap.size (by rfl) 25 _ _ HB.out.2.1 Try.underlying25 rfl (by kernel_rfl) ?_)
    | (go_at_call 72
       (with_reducible refine (rkey_any n t cl W HT.out.1 HT.out.2).mono ?_)
       rintro e w1 ⟨rfl, f1⟩
       have H1 := Lib.hid (And.intro (HB.out.1.fr f1 id) (HB.out.2.2.then f1))
       clear f1)
    | fail "no arm")
  go_loopw [6] (fun i wr => i = .int .i64 0 ∧ wr = w1) (fun _ _ => 0)
  case atStart => exact ⟨rfl, rfl⟩
  case round =>
    obtain ⟨rfl, rfl⟩ := hrel
    have c2 := H1.out.1.cell 2
    go_wp2_with fail
    go_ret
    exact ⟨rfl, H1.out.2⟩
set_option maxRecDepth 100000 in
set_option maxHeartbeats 2000000 in
theorem rid_e (p : Nat) (most wt : Int) (k : Nat) (w : World) (hb : RkE w p most wt) :
    Calls Try.prog 59 #[.pointer (some ⟨p, 0, none⟩), .int .u16 (k : Nat)] w fun e w' => e = .returned (.int .i64 (-1)) ∧ w = w' := by
  have c2 := Blk.cell hb 2
  clear hb
  go_enter Try.func59, Try.ntmps59
  go_upto_region 2 with fail
  go_loopw [5] (fun i wr => i = .int .i64 0 ∧ wr = w) (fun _ _ => 0)
  case atStart => exact ⟨rfl, rfl⟩
  case round =>
    obtain ⟨rfl, rfl⟩ := hrel
    go_wp2_with fail
    go_ret
    exact ⟨rfl, rfl⟩
end Go.Proofs.Ytncfdfgcnblicaa

/-
  LAYER 24, THE REFERENCE: a first question added to a book.
-/
namespace Go.Proofs.Ytncfdfgcnblicaa
open Go.RowKit Go.Maps Go.ChangeMaps Go.WideMaps
set_option linter.unusedVariables false
set_option linter.unusedSimpArgs false

theorem Try.infoPn : (Try.prog.info? 28).map (fun i => (i.zero, i.size, i.bytes)) = some (some (.agg #[.int .u16 0, .string ⟨#[]⟩, .int .i64 0, .int .i64 0, .int .i64 0, .int .i64 0, .int .i64 0, .slice none 0 0]), 8, 88) := by kernel_rfl
/-- The reference's book with one question. -/
def RkO (w : World) (p : Nat) (most wt : Int) (q : Pn) (A : Option Addr) (cap : Nat) : Prop :=
  ∃ K c, Blk w p 108 #[.int .i64 most, .int .i64 wt, .slice K 1 c] ∧ w.ownsRow 0 28 8 (.slice K 1 c) 1 [.int .u16 (q.id : Nat), .string q.q.1, .int .i64 q.q.2.1, .int .i64 q.q.2.2, .int .i64 q.sv, .int .i64 q.tr, .int .i64 q.dl, .slice A q.ws.length cap] ∧ PnIn w A q
/-- While a first question is added. -/
structure RAddS (w W : World) (p : Nat) (most wt : Int) (q : Pn) (A : Option Addr) (cap : Nat) : Prop where
  bk : RkE W p most wt
  bx : Blk W w.heap.size 28 #[.int .u16 (q.id : Nat), .string q.q.1, .int .i64 q.q.2.1, .int .i64 q.q.2.2, .int .i64 q.sv, .int .i64 q.tr, .int .i64 q.dl, .slice A q.ws.length cap]
  fr : Fr (fun _ => False) w W
theorem RAddS.fr0 {w W W' : World} {p : Nat} {most wt : Int} {q : Pn} {A : Option Addr} {cap : Nat} (h : RAddS w W p most wt q A cap) (f : Fr (fun _ => False) W W') : RAddS w W' p most wt q A cap :=
  ⟨Blk.fr h.bk f id, h.bx.fr f id, h.fr.then f⟩
section
variable {w W : World} {p : Nat} {most wt : Int} {q : Pn} {A : Option Addr} {cap : Nat}
theorem RAddS.rg (h : RAddS w W p most wt q A cap) : W.rangeAt w.heap.size 0 [.int .u16 (q.id : Nat), .string q.q.1, .int .i64 q.q.2.1, .int .i64 q.q.2.2, .int .i64 q.sv, .int .i64 q.tr, .int .i64 q.dl, .slice A q.ws.length cap] := blk_rg h.bx
theorem RAddS.c0 (h : RAddS w W p most wt q A cap) : W.cell? ⟨p, 0, none⟩ = some (.int .i64 most) := h.bk.cell 0
theorem RAddS.c1 (h : RAddS w W p most wt q A cap) : W.cell? ⟨p, 1, none⟩ = some (.int .i64 wt) := h.bk.cell 1
theorem RAddS.c2 (h : RAddS w W p most wt q A cap) : W.cell? ⟨p, 2, none⟩ = some (.slice none 0 0) := h.bk.cell 2
end
set_option maxRecDepth 100000 in
set_option maxHeartbeats 8000000 in
theorem radd_no (p : Nat) (most wt : Int) (q : Pn) (A : Option Addr) (cap : Nat) (w : World) (hb : RkE w p most wt) (hq : PnIn w A q) (hm : q.may wt = false) :
    Calls Try.prog 27 #[.pointer (some ⟨p, 0, none⟩), .agg #[.int .u16 (q.id : Nat), .string q.q.1, .int .i64 q.q.2.1, .int .i64 q.q.2.2, .int .i64 q.sv, .int .i64 q.tr, .int .i64 q.dl, .slice A q.ws.length cap]] w (IntPost w 2) := by
  obtain ⟨W, hW⟩ : ∃ W, W = w.alloc (.cells #[.int .u16 (q.id : Nat), .string q.q.1, .int .i64 q.q.2.1, .int .i64 q.q.2.2, .int .i64 q.sv, .int .i64 q.tr, .int .i64 q.dl, .slice A q.ws.length cap] 28) := ⟨_, rfl⟩
  have hf : Fr (fun _ => False) w W := by rw [hW]; exact (Fr.refl _ _).alloc _
  have HS0 := Lib.hid (RAddS.mk (Blk.fr hb hf id) (by rw [hW]; exact Blk.new w 28 #[.int .u16 (q.id : Nat), .string q.q.1, .int .i64 q.q.2.1, .int .i64 q.q.2.2, .int .i64 q.sv, .int .i64 q.tr, .int .i64 q.dl, .slice A q.ws.length cap]) hf : RAddS w W p most wt q A cap)
  have HP := Lib.hid ((hq.fr0 hf).fr0 ((Fr.refl _ W).drew))
  have HM := Lib.hid (show (if q.may wt = true then (0 : Int) else 2) = 2 from by rw [hm]; rfl)
  have HW := Lib.hid hW
  clear hf hb hq hm hW
  go_enter Try.func27, Try.ntmps27
  go_upto_region 1 with fail
  rw [← HW.out]
  clear HW
  refine wp_region_held_drew (S := fun w' => RAddS w w' p most wt q A cap) (by kernel_rfl) (HS0.out.fr0 ((Fr.refl _ _).drew)) (fun hHeld => ?_)
  refine wpAnyH_take (i := 0) rfl (by kernel_rfl) (by kernel_rfl) (by kernel_rfl) (fun _ _ _ h => h) (yieldsIf_load_mid (by rfl) _ _ rfl w.heap.size 0 (by rfl) [.int .u16 (q.id : Nat), .string q.q.1, .int .i64 q.q.2.1, .int .i64 q.q.2.2, .int .i64 q.sv, .int .i64 q.tr, .int .i64 q.dl, .slice A q.ws.length cap] _ (fun w' h => h.rg) Try.underlying28 rfl (by kernel_rfl)) (by assumption) ?_
  try simp only [Act.put, List.setIfInBounds_toArray, List.set_cons_zero, List.set_cons_succ, List.getElem_toArray, List.getElem_cons_zero, List.getElem_cons_succ]
  refine wpAnyH_take (i := 1) (v := ?_) rfl (by kernel_rfl) (by kernel_rfl) (by kernel_rfl) (fun _ _ _ h => h) (Or.inl ⟨by rfl, ?_⟩) (by assumption) ?_
  rotate_left
  · intro w hSw
    go_simp
    try with_reducible rfl
  try simp only [Act.put, List.setIfInBounds_toArray, List.set_cons_zero, List.set_cons_succ, List.getElem_toArray, List.getElem_cons_zero, List.getElem_cons_succ]
  refine wpAnyH_take (i := 2) (v := ?_) rfl (by kernel_rfl) (by kernel_rfl) (by kernel_rfl) (fun _ _ _ h => h) (Or.inl ⟨by rfl, ?_⟩) (by assumption) ?_
  rotate_left
  · intro w hSw
    go_simp
    try with_reducible rfl
  try simp only [Act.put, List.setIfInBounds_toArray, List.set_cons_zero, List.set_cons_succ, List.getElem_toArray, List.getElem_cons_zero, List.getElem_cons_succ]
  refine wpAnyH_take (i := 3) (v := ?_) rfl (by kernel_rfl) (by kernel_rfl) (by kernel_rfl) (fun _ _ _ h => h) (Or.inl ⟨by rfl, ?_⟩) (by assumption) ?_
  rotate_left
  · intro w hSw
    go_simp
    try with_reducible rfl
  try simp only [Act.put, List.setIfInBounds_toArray, List.set_cons_zero, List.set_cons_succ, List.getElem_toArray, List.getElem_cons_zero, List.getElem_cons_succ]
  refine wpAnyH_take (i := 4) (v := ?_) rfl (by kernel_rfl) (by kernel_rfl) (by kernel_rfl) (fun _ _ _ h => h) (Or.inl ⟨by rfl, ?_⟩) (by assumption) ?_
  rotate_left
  · intro w hSw
    have hc0 := RAddS.c1 hSw
    go_simp
    try with_reducible rfl
  try simp only [Act.put, List.setIfInBounds_toArray, List.set_cons_zero, List.set_cons_succ, List.getElem_toArray, List.getElem_cons_zero, List.getElem_cons_succ]
  refine wpAnyH_ready (rs := [5]) (by kernel_rfl) (by simp) ?_
  refine AllReadyH.cons rfl (fun K hK => ?_) AllReadyH.nil
  go_simp
  (with_reducible refine (rpcheck_any q A cap wt W.drew HP.out).mono ?_)
  rintro e w1 ⟨rfl, f1⟩
  rw [HM.out]
  have H1 := Lib.hid (HS0.out.fr0 f1.fromD)
  refine hK.out _ _ H1.out (fun hHeld => ?_)
  clear hK K
  try simp only [Act.put, List.setIfInBounds_toArray, List.set_cons_zero, List.set_cons_succ, List.getElem_toArray, List.getElem_cons_zero, List.getElem_cons_succ]
  refine wpAnyH_take (i := 6) (v := ?_) rfl (by kernel_rfl) (by kernel_rfl) (by kernel_rfl) (fun _ _ _ h => h) (Or.inl ⟨by rfl, ?_⟩) (by assumption) ?_
  rotate_left
  · intro w hSw
    go_simp
    try with_reducible rfl
  try simp only [Act.put, List.setIfInBounds_toArray, List.set_cons_zero, List.set_cons_succ, List.getElem_toArray, List.getElem_cons_zero, List.getElem_cons_succ]
  refine wpAnyH_done (by kernel_rfl) ?_ _
  clear hHeld f1
  go_wp2_with fail
  go_ret
  exact ⟨rfl, H1.out.fr⟩
set_option maxRecDepth 100000 in
set_option maxHeartbeats 8000000 in
theorem radd_yes (p : Nat) (most wt : Int) (q : Pn) (A : Option Addr) (cap : Nat) (w : World) (hb : RkE w p most wt) (hq : PnIn w A q) (hm : q.may wt = true) (h1 : 1 ≤ most) :
    Calls Try.prog 27 #[.pointer (some ⟨p, 0, none⟩), .agg #[.int .u16 (q.id : Nat), .string q.q.1, .int .i64 q.q.2.1, .int .i64 q.q.2.2, .int .i64 q.sv, .int .i64 q.tr, .int .i64 q.dl, .slice A q.ws.length cap]] w fun e w' => e = .returned (.int .i64 0) ∧ (∃ A' cap', RkO w' p most wt q A' cap') ∧ Fr (· = p) w w' := by
  obtain ⟨i0, hi, hz0, hz1, hz2⟩ := info_parts Try.infoPn
  have hne : q.ws ≠ [] := by
    intro h
    unfold Pn.may at hm
    rw [Bool.and_eq_true] at hm
    have := (of_decide_eq_true hm.1).2.2.2.2.1
    rw [h] at this
    simp at this
  obtain ⟨W, hW⟩ : ∃ W, W = w.alloc (.cells #[.int .u16 (q.id : Nat), .string q.q.1, .int .i64 q.q.2.1, .int .i64 q.q.2.2, .int .i64 q.sv, .int .i64 q.tr, .int .i64 q.dl, .slice A q.ws.length cap] 28) := ⟨_, rfl⟩
  have hf : Fr (fun _ => False) w W := by rw [hW]; exact (Fr.refl _ _).alloc _
  have HS0 := Lib.hid (RAddS.mk (Blk.fr hb hf id) (by rw [hW]; exact Blk.new w 28 #[.int .u16 (q.id : Nat), .string q.q.1, .int .i64 q.q.2.1, .int .i64 q.q.2.2, .int .i64 q.sv, .int .i64 q.tr, .int .i64 q.dl, .slice A q.ws.length cap]) hf : RAddS w W p most wt q A cap)
  have HP := Lib.hid ((hq.fr0 hf).fr0 ((Fr.refl _ W).drew))
  have HQ := Lib.hid (And.intro hq hne)
  have HLT := Lib.hid (show p < w.heap.size from Blk.lt hb)
  have HM := Lib.hid (show (if q.may wt = true then (0 : Int) else 2) = 0 from by rw [hm]; rfl)
  have HW := Lib.hid hW
  clear hf hb hq hm hW hne
  go_enter Try.func27, Try.ntmps27
  go_upto_region 1 with fail
  rw [← HW.out]
  clear HW
  refine wp_region_held_drew (S := fun w' => RAddS w w' p most wt q A cap) (by kernel_rfl) (HS0.out.fr0 ((Fr.refl _ _).drew)) (fun hHeld => ?_)
  refine wpAnyH_take (i := 0) rfl (by kernel_rfl) (by kernel_rfl) (by kernel_rfl) (fun _ _ _ h => h) (yieldsIf_load_mid (by rfl) _ _ rfl w.heap.size 0 (by rfl) [.int .u16 (q.id : Nat), .string q.q.1, .int .i64 q.q.2.1, .int .i64 q.q.2.2, .int .i64 q.sv, .int .i64 q.tr, .int .i64 q.dl, .slice A q.ws.length cap] _ (fun w' h => h.rg) Try.underlying28 rfl (by kernel_rfl)) (by assumption) ?_
  try simp only [Act.put, List.setIfInBounds_toArray, List.set_cons_zero, List.set_cons_succ, List.getElem_toArray, List.getElem_cons_zero, List.getElem_cons_succ]
  refine wpAnyH_take (i := 1) (v := ?_) rfl (by kernel_rfl) (by kernel_rfl) (by kernel_rfl) (fun _ _ _ h => h) (Or.inl ⟨by rfl, ?_⟩) (by assumption) ?_
  rotate_left
  · intro w hSw
    go_simp
    try with_reducible rfl
  try simp only [Act.put, List.setIfInBounds_toArray, List.set_cons_zero, List.set_cons_succ, List.getElem_toArray, List.getElem_cons_zero, List.getElem_cons_succ]
  refine wpAnyH_take (i := 2) (v := ?_) rfl (by kernel_rfl) (by kernel_rfl) (by kernel_rfl) (fun _ _ _ h => h) (Or.inl ⟨by rfl, ?_⟩) (by assumption) ?_
  rotate_left
  · intro w hSw
    go_simp
    try with_reducible rfl
  try simp only [Act.put, List.setIfInBounds_toArray, List.set_cons_zero, List.set_cons_succ, List.getElem_toArray, List.getElem_cons_zero, List.getElem_cons_succ]
  refine wpAnyH_take (i := 3) (v := ?_) rfl (by kernel_rfl) (by kernel_rfl) (by kernel_rfl) (fun _ _ _ h => h) (Or.inl ⟨by rfl, ?_⟩) (by assumption) ?_
  rotate_left
  · intro w hSw
    go_simp
    try with_reducible rfl
  try simp only [Act.put, List.setIfInBounds_toArray, List.set_cons_zero, List.set_cons_succ, List.getElem_toArray, List.getElem_cons_zero, List.getElem_cons_succ]
  refine wpAnyH_take (i := 4) (v := ?_) rfl (by kernel_rfl) (by kernel_rfl) (by kernel_rfl) (fun _ _ _ h => h) (Or.inl ⟨by rfl, ?_⟩) (by assumption) ?_
  rotate_left
  · intro w hSw
    have hc0 := RAddS.c1 hSw
    go_simp
    try with_reducible rfl
  try simp only [Act.put, List.setIfInBounds_toArray, List.set_cons_zero, List.set_cons_succ, List.getElem_toArray, List.getElem_cons_zero, List.getElem_cons_succ]
  refine wpAnyH_ready (rs := [5]) (by kernel_rfl) (by simp) ?_
  refine AllReadyH.cons rfl (fun K hK => ?_) AllReadyH.nil
  go_simp
  (with_reducible refine (rpcheck_any q A cap wt W.drew HP.out).mono ?_)
  rintro e w1 ⟨rfl, f1⟩
  rw [HM.out]
  have H1 := Lib.hid (HS0.out.fr0 f1.fromD)
  refine hK.out _ _ H1.out (fun hHeld => ?_)
  clear hK K
  try simp only [Act.put, List.setIfInBounds_toArray, List.set_cons_zero, List.set_cons_succ, List.getElem_toArray, List.getElem_cons_zero, List.getElem_cons_succ]
  refine wpAnyH_take (i := 6) (v := ?_) rfl (by kernel_rfl) (by kernel_rfl) (by kernel_rfl) (fun _ _ _ h => h) (Or.inl ⟨by rfl, ?_⟩) (by assumption) ?_
  rotate_left
  · intro w hSw
    go_simp
    try with_reducible rfl
  try simp only [Act.put, List.setIfInBounds_toArray, List.set_cons_zero, List.set_cons_succ, List.getElem_toArray, List.getElem_cons_zero, List.getElem_cons_succ]
  refine wpAnyH_done (by kernel_rfl) ?_ _
  clear hHeld f1
  have hk1 : i64ok' q.q.2.1 := HQ.out.1.q.2.1
  have hk2 : i64ok' q.q.2.2 := HQ.out.1.q.2.2
  have HKS := Lib.hid (And.intro hk1 hk2)
  clear hk1 hk2
  have x0 := H1.out.bx.cell 1
  have x1 := H1.out.bx.cell 2
  have x2 := H1.out.bx.cell 3
  go_upto_region 6 with (first
    | (go_at_call 58
       (with_reducible refine (rfind_e p most wt q.q.1 q.q.2.1 q.q.2.2 w1 H1.out.bk HKS.out.1 HKS.out.2).mono ?_)
       rintro e w2 ⟨rfl, f2⟩
       have h2s := H1.out.fr0 f2
       have y0 := h2s.bx.cell 0
       have H2 := Lib.hid h2s
       clear f2 h2s x0 x1 x2)
    | (go_at_call 59
       (with_reducible refine (rid_e p most wt q.id w2 H2.out.bk).mono ?_)
       rintro e w3 ⟨rfl, rfl⟩)
    | fail "no arm")
  have z0 := H2.out.c0
  have z2 := H2.out.c2
  go_quiet (fail)
  have h6s := H2.out.fr0 ((Fr.refl (fun _ => False) w2).drewN nq)
  generalize w2.drewN nq = W6 at *
  have H6 := Lib.hid h6s
  have HP6 := Lib.hid (And.intro (HQ.out.1.fr0 (h6s.fr.drew)) HQ.out.2)
  clear h6s y0 z0 z2
  go_upto_region 8 with fail
  have hSA := (H6.out.fr0 ((Fr.refl _ _).drew)).rg
  have hcA := (H6.out.fr0 ((Fr.refl _ _).drew)).c2
  refine wp_region_held_drew (S := fun w' => w'.rangeAt w.heap.size 0 [.int .u16 (q.id : Nat), .string q.q.1, .int .i64 q.q.2.1, .int .i64 q.q.2.2, .int .i64 q.sv, .int .i64 q.tr, .int .i64 q.dl, .slice A q.ws.length cap]) (by kernel_rfl) hSA (fun hHeld => ?_)
  refine wpAnyH_take (i := 0) (v := ?_) rfl (by kernel_rfl) (by kernel_rfl) (by kernel_rfl) (fun _ _ _ h => h) (Or.inl ⟨by rfl, ?_⟩) (by assumption) ?_
  rotate_left
  · intro w hSw
    go_simp
    try with_reducible rfl
  try simp only [Act.put, List.setIfInBounds_toArray, List.set_cons_zero, List.set_cons_succ, List.getElem_toArray, List.getElem_cons_zero, List.getElem_cons_succ]
  refine wpAnyH_take (i := 1) (v := ?_) rfl (by kernel_rfl) (by kernel_rfl) (by kernel_rfl) (fun _ _ _ h => h) (Or.inl ⟨by rfl, ?_⟩) (by assumption) ?_
  rotate_left
  · intro w hSw
    go_simp
    try with_reducible rfl
  try simp only [Act.put, List.setIfInBounds_toArray, List.set_cons_zero, List.set_cons_succ, List.getElem_toArray, List.getElem_cons_zero, List.getElem_cons_succ]
  refine wpAnyH_take (i := 2) (v := ?_) rfl (by kernel_rfl) (by kernel_rfl) (by kernel_rfl) (fun _ _ _ h => h) (Or.inl ⟨by rfl, ?_⟩) (by assumption) ?_
  rotate_left
  · intro w hSw
    go_simp
    try with_reducible rfl
  try simp only [Act.put, List.setIfInBounds_toArray, List.set_cons_zero, List.set_cons_succ, List.getElem_toArray, List.getElem_cons_zero, List.getElem_cons_succ]
  refine wpAnyH_take (i := 3) (v := ?_) rfl (by kernel_rfl) (by kernel_rfl) (by kernel_rfl) (fun _ _ _ h => h) (Or.inl ⟨by rfl, ?_⟩) (by assumption) ?_
  rotate_left
  · intro w hSw
    go_simp
    try with_reducible rfl
  try simp only [Act.put, List.setIfInBounds_toArray, List.set_cons_zero, List.set_cons_succ, List.getElem_toArray, List.getElem_cons_zero, List.getElem_cons_succ]
  refine wpAnyH_take (i := 5) rfl (by kernel_rfl) (by kernel_rfl) (by kernel_rfl) (fun _ _ _ h => h) (yieldsIf_load_mid (by rfl) _ _ rfl w.heap.size 0 (by rfl) [.int .u16 (q.id : Nat), .string q.q.1, .int .i64 q.q.2.1, .int .i64 q.q.2.2, .int .i64 q.sv, .int .i64 q.tr, .int .i64 q.dl, .slice A q.ws.length cap] _ (fun w' h => h) Try.underlying28 rfl (by kernel_rfl)) (by assumption) ?_
  try simp only [Act.put, List.setIfInBounds_toArray, List.set_cons_zero, List.set_cons_succ, List.getElem_toArray, List.getElem_cons_zero, List.getElem_cons_succ]
  refine wpAnyH_ready (rs := [4, 6]) (by kernel_rfl) (by simp) ?_
  refine AllReadyH.cons rfl (fun K hK => ?_) (AllReadyH.cons rfl (fun K hK => ?_) AllReadyH.nil)
  · go_simp
    refine hK.out _ _ hSA (fun hHeld => ?_)
    clear hK K
    try simp only [Act.put, List.setIfInBounds_toArray, List.set_cons_zero, List.set_cons_succ, List.getElem_toArray, List.getElem_cons_zero, List.getElem_cons_succ]
    refine wpAnyH_ready (rs := [6]) (by kernel_rfl) (by simp) ?_
    refine AllReadyH.cons rfl (fun K hK => ?_) AllReadyH.nil
    go_simp
    (with_reducible refine (rcopied_any q A cap W6.drew HP6.out.1 HP6.out.2).mono ?_)
    rintro e w7 ⟨A2, cap2, rfl, o1, o2, o3⟩
    have h7s := H6.out.fr0 o3.fromD
    have hSB := h7s.rg
    have hcB := h7s.c2
    have H7 := Lib.hid (And.intro h7s (And.intro o1 (And.intro o2 o3.fromD)))
    clear h7s o1 o2 o3
    refine hK.out _ _ hSB (fun hHeld => ?_)
    clear hK K
    try simp only [Act.put, List.setIfInBounds_toArray, List.set_cons_zero, List.set_cons_succ, List.getElem_toArray, List.getElem_cons_zero, List.getElem_cons_succ]
    refine wpAnyH_ready (rs := [7]) (by kernel_rfl) (by simp) ?_
    refine AllReadyH.cons rfl (fun K hK => ?_) AllReadyH.nil
    go_simp
    have h8s := H7.out.1.fr0 ((Fr.refl (fun _ => False) w7).alloc (.cells #[.int .u16 (q.id : Nat), .string q.q.1, .int .i64 q.q.2.1, .int .i64 q.q.2.2, .int .i64 q.sv, .int .i64 q.tr, .int .i64 q.dl, .slice A2 q.ws.length cap2] 28))
    have hSC := h8s.rg
    have hcC := h8s.c2
    have H8 := Lib.hid h8s
    clear h8s
    refine hK.out _ _ hSC (fun hHeld => ?_)
    clear hK K
    try simp only [Act.put, List.setIfInBounds_toArray, List.set_cons_zero, List.set_cons_succ, List.getElem_toArray, List.getElem_cons_zero, List.getElem_cons_succ]
    refine wpAnyH_ready (rs := [8]) (by kernel_rfl) (by simp) ?_
    refine AllReadyH.cons rfl (fun K hK => ?_) AllReadyH.nil
    rw [if_pos (by rfl)]
    refine wp_append_src (.tmp 44) (.tmp 47) _ _ rfl 28 i0 _ 8 88 Try.underlying106 hi hz0 hz1 hz2 rfl (by decide) none 0 0 [] (by rfl) (own_nil _ _ _) _ 1 [.int .u16 (q.id : Nat), .string q.q.1, .int .i64 q.q.2.1, .int .i64 q.q.2.2, .int .i64 q.sv, .int .i64 q.tr, .int .i64 q.dl, .slice A2 q.ws.length cap2] (by rfl)
      (src_blk Try.underlying106 (vs := [.int .u16 (q.id : Nat), .string q.q.1, .int .i64 q.q.2.1, .int .i64 q.q.2.2, .int .i64 q.sv, .int .i64 q.tr, .int .i64 q.dl, .slice A2 q.ws.length cap2]) (Blk.new w7 28 _) (by intro u hu; simp at hu; rcases hu with rfl | rfl | rfl | rfl | rfl | rfl | rfl | rfl <;> rfl)) (by simp only [maxLen]; omega) (by omega) ?_
    intro K1 c1 w9 o1 o2 o3
    rw [Nat.zero_add, List.nil_append] at o1
    have f89 : Fr (fun _ => False) _ w9 := o2.mono (fun k _ h => absurd h (rowOf_none k))
    have h9s := H8.out.fr0 f89
    have hSD := h9s.rg
    have hcD := h9s.c2
    have hzD := Blk.frozen h9s.bk 2
    have hK1 : ∀ k, rowOf K1 k → w7.heap.size ≤ k := fun k hk => (o3 k hk).elim (fun h => absurd h (rowOf_none k)) (fun h => by rw [World.size_alloc] at h; omega)
    have f79 : Fr (fun _ => False) w7 w9 := ((Fr.refl (fun _ => False) w7).alloc _).then f89
    have H9 := Lib.hid (And.intro h9s (And.intro o1 (And.intro hK1 f79)))
    clear h9s o1 o2 o3 f89 hK1 f79
    refine hK.out _ _ hSD (fun hHeld => ?_)
    clear hK K
    try simp only [Act.put, List.setIfInBounds_toArray, List.set_cons_zero, List.set_cons_succ, List.getElem_toArray, List.getElem_cons_zero, List.getElem_cons_succ]
    refine wpAnyH_take (i := 9) (v := ?_) rfl (by kernel_rfl) (by kernel_rfl) (by kernel_rfl) (fun _ _ _ h => h) (Or.inl ⟨by rfl, ?_⟩) (by assumption) ?_
    rotate_left
    · intro w hSw
      go_simp
      try with_reducible rfl
    try simp only [Act.put, List.setIfInBounds_toArray, List.set_cons_zero, List.set_cons_succ, List.getElem_toArray, List.getElem_cons_zero, List.getElem_cons_succ]
    refine wpAnyH_take (i := 10) (v := ?_) rfl (by kernel_rfl) (by kernel_rfl) (by kernel_rfl) (fun _ _ _ h => h) (Or.inl ⟨by rfl, ?_⟩) (by assumption) ?_
    rotate_left
    · intro w hSw
      go_simp
      try with_reducible rfl
    try simp only [Act.put, List.setIfInBounds_toArray, List.set_cons_zero, List.set_cons_succ, List.getElem_toArray, List.getElem_cons_zero, List.getElem_cons_succ]
    refine wpAnyH_ready (rs := [11]) (by kernel_rfl) (by simp) ?_
    refine AllReadyH.cons rfl (fun K hK => ?_) AllReadyH.nil
    go_simp
    have hpl : p < w.heap.size := HLT.out
    have hSE : (w9.setCell ⟨p, 2, none⟩ (.slice K1 1 c1)).rangeAt w.heap.size 0 [.int .u16 (q.id : Nat), .string q.q.1, .int .i64 q.q.2.1, .int .i64 q.q.2.2, .int .i64 q.sv, .int .i64 q.tr, .int .i64 q.dl, .slice A q.ws.length cap] := blk_rg (H9.out.1.bx.far (p := ⟨p, 2, none⟩) (by dsimp only; omega) _)
    refine hK.out _ _ hSE (fun hHeld => ?_)
    clear hK K
    try simp only [Act.put, List.setIfInBounds_toArray, List.set_cons_zero, List.set_cons_succ, List.getElem_toArray, List.getElem_cons_zero, List.getElem_cons_succ]
    refine wpAnyH_done (by kernel_rfl) ?_ _
    clear hHeld
    go_wp2_with fail
    go_ret
    have hb9 : Blk (w9.setCell ⟨p, 2, none⟩ (.slice K1 1 c1)) p 108 #[.int .i64 most, .int .i64 wt, .slice K1 1 c1] := (Blk.set_ H9.out.1.bk 2 (.slice K1 1 c1))
    have f9 : Fr (· = p) w9 (w9.setCell ⟨p, 2, none⟩ (.slice K1 1 c1)) := (Fr.refl (· = p) _).setCell (p := ⟨p, 2, none⟩) (fun _ => rfl) _
    have hsz7 : w.heap.size ≤ w7.heap.size := H7.out.1.fr.size
    have hsz6 : w.heap.size ≤ W6.drew.heap.size := by have h := H6.out.fr.size; exact h
    have hr7 := own_rowIn0 H7.out.2.1
    have hr9 := rowIn_fr (rowIn_fr0 hr7 H9.out.2.2.2) f9 (fun k hk h => by have := H7.out.2.2.1 k hk; omega)
    refine ⟨by rfl, ⟨A2, cap2, K1, c1, hb9, own_fr H9.out.2.1 f9 (fun k hk h => by have := H9.out.2.2.1 k hk; omega), ⟨hr9, HQ.out.1.ws, HQ.out.1.id, HQ.out.1.q, HQ.out.1.sv, HQ.out.1.tr, HQ.out.1.dl, HQ.out.1.len⟩⟩, ?_⟩
    exact (H9.out.1.fr.mono (fun _ _ h => h.elim)).then f9
  · go_simp
    (with_reducible refine (rcopied_any q A cap W6.drew HP6.out.1 HP6.out.2).mono ?_)
    rintro e w7 ⟨A2, cap2, rfl, o1, o2, o3⟩
    have h7s := H6.out.fr0 o3.fromD
    have hSB := h7s.rg
    have hcB := h7s.c2
    have H7 := Lib.hid (And.intro h7s (And.intro o1 (And.intro o2 o3.fromD)))
    clear h7s o1 o2 o3
    refine hK.out _ _ hSB (fun hHeld => ?_)
    clear hK K
    try simp only [Act.put, List.setIfInBounds_toArray, List.set_cons_zero, List.set_cons_succ, List.getElem_toArray, List.getElem_cons_zero, List.getElem_cons_succ]
    refine wpAnyH_ready (rs := [4, 7]) (by kernel_rfl) (by simp) ?_
    refine AllReadyH.cons rfl (fun K hK => ?_) (AllReadyH.cons rfl (fun K hK => ?_) AllReadyH.nil)
    · go_simp
      refine hK.out _ _ hSB (fun hHeld => ?_)
      clear hK K
      try simp only [Act.put, List.setIfInBounds_toArray, List.set_cons_zero, List.set_cons_succ, List.getElem_toArray, List.getElem_cons_zero, List.getElem_cons_succ]
      refine wpAnyH_ready (rs := [7]) (by kernel_rfl) (by simp) ?_
      refine AllReadyH.cons rfl (fun K hK => ?_) AllReadyH.nil
      go_simp
      have h8s := H7.out.1.fr0 ((Fr.refl (fun _ => False) w7).alloc (.cells #[.int .u16 (q.id : Nat), .string q.q.1, .int .i64 q.q.2.1, .int .i64 q.q.2.2, .int .i64 q.sv, .int .i64 q.tr, .int .i64 q.dl, .slice A2 q.ws.length cap2] 28))
      have hSC := h8s.rg
      have hcC := h8s.c2
      have H8 := Lib.hid h8s
      clear h8s
      refine hK.out _ _ hSC (fun hHeld => ?_)
      clear hK K
      try simp only [Act.put, List.setIfInBounds_toArray, List.set_cons_zero, List.set_cons_succ, List.getElem_toArray, List.getElem_cons_zero, List.getElem_cons_succ]
      refine wpAnyH_ready (rs := [8]) (by kernel_rfl) (by simp) ?_
      refine AllReadyH.cons rfl (fun K hK => ?_) AllReadyH.nil
      rw [if_pos (by rfl)]
      refine wp_append_src (.tmp 44) (.tmp 47) _ _ rfl 28 i0 _ 8 88 Try.underlying106 hi hz0 hz1 hz2 rfl (by decide) none 0 0 [] (by rfl) (own_nil _ _ _) _ 1 [.int .u16 (q.id : Nat), .string q.q.1, .int .i64 q.q.2.1, .int .i64 q.q.2.2, .int .i64 q.sv, .int .i64 q.tr, .int .i64 q.dl, .slice A2 q.ws.length cap2] (by rfl)
        (src_blk Try.underlying106 (vs := [.int .u16 (q.id : Nat), .string q.q.1, .int .i64 q.q.2.1, .int .i64 q.q.2.2, .int .i64 q.sv, .int .i64 q.tr, .int .i64 q.dl, .slice A2 q.ws.length cap2]) (Blk.new w7 28 _) (by intro u hu; simp at hu; rcases hu with rfl | rfl | rfl | rfl | rfl | rfl | rfl | rfl <;> rfl)) (by simp only [maxLen]; omega) (by omega) ?_
      intro K1 c1 w9 o1 o2 o3
      rw [Nat.zero_add, List.nil_append] at o1
      have f89 : Fr (fun _ => False) _ w9 := o2.mono (fun k _ h => absurd h (rowOf_none k))
      have h9s := H8.out.fr0 f89
      have hSD := h9s.rg
      have hcD := h9s.c2
      have hzD := Blk.frozen h9s.bk 2
      have hK1 : ∀ k, rowOf K1 k → w7.heap.size ≤ k := fun k hk => (o3 k hk).elim (fun h => absurd h (rowOf_none k)) (fun h => by rw [World.size_alloc] at h; omega)
      have f79 : Fr (fun _ => False) w7 w9 := ((Fr.refl (fun _ => False) w7).alloc _).then f89
      have H9 := Lib.hid (And.intro h9s (And.intro o1 (And.intro hK1 f79)))
      clear h9s o1 o2 o3 f89 hK1 f79
      refine hK.out _ _ hSD (fun hHeld => ?_)
      clear hK K
      try simp only [Act.put, List.setIfInBounds_toArray, List.set_cons_zero, List.set_cons_succ, List.getElem_toArray, List.getElem_cons_zero, List.getElem_cons_succ]
      refine wpAnyH_take (i := 9) (v := ?_) rfl (by kernel_rfl) (by kernel_rfl) (by kernel_rfl) (fun _ _ _ h => h) (Or.inl ⟨by rfl, ?_⟩) (by assumption) ?_
      rotate_left
      · intro w hSw
        go_simp
        try with_reducible rfl
      try simp only [Act.put, List.setIfInBounds_toArray, List.set_cons_zero, List.set_cons_succ, List.getElem_toArray, List.getElem_cons_zero, List.getElem_cons_succ]
      refine wpAnyH_take (i := 10) (v := ?_) rfl (by kernel_rfl) (by kernel_rfl) (by kernel_rfl) (fun _ _ _ h => h) (Or.inl ⟨by rfl, ?_⟩) (by assumption) ?_
      rotate_left
      · intro w hSw
        go_simp
        try with_reducible rfl
      try simp only [Act.put, List.setIfInBounds_toArray, List.set_cons_zero, List.set_cons_succ, List.getElem_toArray, List.getElem_cons_zero, List.getElem_cons_succ]
      refine wpAnyH_ready (rs := [11]) (by kernel_rfl) (by simp) ?_
      refine AllReadyH.cons rfl (fun K hK => ?_) AllReadyH.nil
      go_simp
      have hpl : p < w.heap.size := HLT.out
      have hSE : (w9.setCell ⟨p, 2, none⟩ (.slice K1 1 c1)).rangeAt w.heap.size 0 [.int .u16 (q.id : Nat), .string q.q.1, .int .i64 q.q.2.1, .int .i64 q.q.2.2, .int .i64 q.sv, .int .i64 q.tr, .int .i64 q.dl, .slice A q.ws.length cap] := blk_rg (H9.out.1.bx.far (p := ⟨p, 2, none⟩) (by dsimp only; omega) _)
      refine hK.out _ _ hSE (fun hHeld => ?_)
      clear hK K
      try simp only [Act.put, List.setIfInBounds_toArray, List.set_cons_zero, List.set_cons_succ, List.getElem_toArray, List.getElem_cons_zero, List.getElem_cons_succ]
      refine wpAnyH_done (by kernel_rfl) ?_ _
      clear hHeld
      go_wp2_with fail
      go_ret
      have hb9 : Blk (w9.setCell ⟨p, 2, none⟩ (.slice K1 1 c1)) p 108 #[.int .i64 most, .int .i64 wt, .slice K1 1 c1] := (Blk.set_ H9.out.1.bk 2 (.slice K1 1 c1))
      have f9 : Fr (· = p) w9 (w9.setCell ⟨p, 2, none⟩ (.slice K1 1 c1)) := (Fr.refl (· = p) _).setCell (p := ⟨p, 2, none⟩) (fun _ => rfl) _
      have hsz7 : w.heap.size ≤ w7.heap.size := H7.out.1.fr.size
      have hsz6 : w.heap.size ≤ W6.drew.heap.size := by have h := H6.out.fr.size; exact h
      have hr7 := own_rowIn0 H7.out.2.1
      have hr9 := rowIn_fr (rowIn_fr0 hr7 H9.out.2.2.2) f9 (fun k hk h => by have := H7.out.2.2.1 k hk; omega)
      refine ⟨by rfl, ⟨A2, cap2, K1, c1, hb9, own_fr H9.out.2.1 f9 (fun k hk h => by have := H9.out.2.2.1 k hk; omega), ⟨hr9, HQ.out.1.ws, HQ.out.1.id, HQ.out.1.q, HQ.out.1.sv, HQ.out.1.tr, HQ.out.1.dl, HQ.out.1.len⟩⟩, ?_⟩
      exact (H9.out.1.fr.mono (fun _ _ h => h.elim)).then f9
    · go_simp
      have h8s := H7.out.1.fr0 ((Fr.refl (fun _ => False) w7).alloc (.cells #[.int .u16 (q.id : Nat), .string q.q.1, .int .i64 q.q.2.1, .int .i64 q.q.2.2, .int .i64 q.sv, .int .i64 q.tr, .int .i64 q.dl, .slice A2 q.ws.length cap2] 28))
      have hSC := h8s.rg
      have hcC := h8s.c2
      have H8 := Lib.hid h8s
      clear h8s
      refine hK.out _ _ hSC (fun hHeld => ?_)
      clear hK K
      try simp only [Act.put, List.setIfInBounds_toArray, List.set_cons_zero, List.set_cons_succ, List.getElem_toArray, List.getElem_cons_zero, List.getElem_cons_succ]
      refine wpAnyH_ready (rs := [4]) (by kernel_rfl) (by simp) ?_
      refine AllReadyH.cons rfl (fun K hK => ?_) AllReadyH.nil
      go_simp
      refine hK.out _ _ hSC (fun hHeld => ?_)
      clear hK K
      try simp only [Act.put, List.setIfInBounds_toArray, List.set_cons_zero, List.set_cons_succ, List.getElem_toArray, List.getElem_cons_zero, List.getElem_cons_succ]
      refine wpAnyH_ready (rs := [8]) (by kernel_rfl) (by simp) ?_
      refine AllReadyH.cons rfl (fun K hK => ?_) AllReadyH.nil
      rw [if_pos (by rfl)]
      refine wp_append_src (.tmp 44) (.tmp 47) _ _ rfl 28 i0 _ 8 88 Try.underlying106 hi hz0 hz1 hz2 rfl (by decide) none 0 0 [] (by rfl) (own_nil _ _ _) _ 1 [.int .u16 (q.id : Nat), .string q.q.1, .int .i64 q.q.2.1, .int .i64 q.q.2.2, .int .i64 q.sv, .int .i64 q.tr, .int .i64 q.dl, .slice A2 q.ws.length cap2] (by rfl)
        (src_blk Try.underlying106 (vs := [.int .u16 (q.id : Nat), .string q.q.1, .int .i64 q.q.2.1, .int .i64 q.q.2.2, .int .i64 q.sv, .int .i64 q.tr, .int .i64 q.dl, .slice A2 q.ws.length cap2]) (Blk.new w7 28 _) (by intro u hu; simp at hu; rcases hu with rfl | rfl | rfl | rfl | rfl | rfl | rfl | rfl <;> rfl)) (by simp only [maxLen]; omega) (by omega) ?_
      intro K1 c1 w9 o1 o2 o3
      rw [Nat.zero_add, List.nil_append] at o1
      have f89 : Fr (fun _ => False) _ w9 := o2.mono (fun k _ h => absurd h (rowOf_none k))
      have h9s := H8.out.fr0 f89
      have hSD := h9s.rg
      have hcD := h9s.c2
      have hzD := Blk.frozen h9s.bk 2
      have hK1 : ∀ k, rowOf K1 k → w7.heap.size ≤ k := fun k hk => (o3 k hk).elim (fun h => absurd h (rowOf_none k)) (fun h => by rw [World.size_alloc] at h; omega)
      have f79 : Fr (fun _ => False) w7 w9 := ((Fr.refl (fun _ => False) w7).alloc _).then f89
      have H9 := Lib.hid (And.intro h9s (And.intro o1 (And.intro hK1 f79)))
      clear h9s o1 o2 o3 f89 hK1 f79
      refine hK.out _ _ hSD (fun hHeld => ?_)
      clear hK K
      try simp only [Act.put, List.setIfInBounds_toArray, List.set_cons_zero, List.set_cons_succ, List.getElem_toArray, List.getElem_cons_zero, List.getElem_cons_succ]
      refine wpAnyH_take (i := 9) (v := ?_) rfl (by kernel_rfl) (by kernel_rfl) (by kernel_rfl) (fun _ _ _ h => h) (Or.inl ⟨by rfl, ?_⟩) (by assumption) ?_
      rotate_left
      · intro w hSw
        go_simp
        try with_reducible rfl
      try simp only [Act.put, List.setIfInBounds_toArray, List.set_cons_zero, List.set_cons_succ, List.getElem_toArray, List.getElem_cons_zero, List.getElem_cons_succ]
      refine wpAnyH_take (i := 10) (v := ?_) rfl (by kernel_rfl) (by kernel_rfl) (by kernel_rfl) (fun _ _ _ h => h) (Or.inl ⟨by rfl, ?_⟩) (by assumption) ?_
      rotate_left
      · intro w hSw
        go_simp
        try with_reducible rfl
      try simp only [Act.put, List.setIfInBounds_toArray, List.set_cons_zero, List.set_cons_succ, List.getElem_toArray, List.getElem_cons_zero, List.getElem_cons_succ]
      refine wpAnyH_ready (rs := [11]) (by kernel_rfl) (by simp) ?_
      refine AllReadyH.cons rfl (fun K hK => ?_) AllReadyH.nil
      go_simp
      have hpl : p < w.heap.size := HLT.out
      have hSE : (w9.setCell ⟨p, 2, none⟩ (.slice K1 1 c1)).rangeAt w.heap.size 0 [.int .u16 (q.id : Nat), .string q.q.1, .int .i64 q.q.2.1, .int .i64 q.q.2.2, .int .i64 q.sv, .int .i64 q.tr, .int .i64 q.dl, .slice A q.ws.length cap] := blk_rg (H9.out.1.bx.far (p := ⟨p, 2, none⟩) (by dsimp only; omega) _)
      refine hK.out _ _ hSE (fun hHeld => ?_)
      clear hK K
      try simp only [Act.put, List.setIfInBounds_toArray, List.set_cons_zero, List.set_cons_succ, List.getElem_toArray, List.getElem_cons_zero, List.getElem_cons_succ]
      refine wpAnyH_done (by kernel_rfl) ?_ _
      clear hHeld
      go_wp2_with fail
      go_ret
      have hb9 : Blk (w9.setCell ⟨p, 2, none⟩ (.slice K1 1 c1)) p 108 #[.int .i64 most, .int .i64 wt, .slice K1 1 c1] := (Blk.set_ H9.out.1.bk 2 (.slice K1 1 c1))
      have f9 : Fr (· = p) w9 (w9.setCell ⟨p, 2, none⟩ (.slice K1 1 c1)) := (Fr.refl (· = p) _).setCell (p := ⟨p, 2, none⟩) (fun _ => rfl) _
      have hsz7 : w.heap.size ≤ w7.heap.size := H7.out.1.fr.size
      have hsz6 : w.heap.size ≤ W6.drew.heap.size := by have h := H6.out.fr.size; exact h
      have hr7 := own_rowIn0 H7.out.2.1
      have hr9 := rowIn_fr (rowIn_fr0 hr7 H9.out.2.2.2) f9 (fun k hk h => by have := H7.out.2.2.1 k hk; omega)
      refine ⟨by rfl, ⟨A2, cap2, K1, c1, hb9, own_fr H9.out.2.1 f9 (fun k hk h => by have := H9.out.2.2.1 k hk; omega), ⟨hr9, HQ.out.1.ws, HQ.out.1.id, HQ.out.1.q, HQ.out.1.sv, HQ.out.1.tr, HQ.out.1.dl, HQ.out.1.len⟩⟩, ?_⟩
      exact (H9.out.1.fr.mono (fun _ _ h => h.elim)).then f9

end Go.Proofs.Ytncfdfgcnblicaa
