/-
  TEXTS OF THIS CLAIM, TOGETHER: Dlp, Rcif, Rcdf, Tol.
-/
import Derived.Test.YtncfdfgcnblicaaBunM
import Derived.Test.YtncfdfgcnblicaaBunK
import Derived.Test.YtncfdfgcnblicaaBunQ
import Derived.IntWalk
/-
  ROWS OF STRUCTS: the place of the first that a condition strikes; what is kept; a row's part laid anew.
-/
namespace Go.Proofs.Ytncfdfgcnblicaa
open Go.RowKit
set_option linter.unusedVariables false
set_option linter.unusedSimpArgs false

/-- The first place that is struck, or -1. -/
def idxI {α : Type} (p : α → Bool) : List α → Int
  | [] => -1
  | x :: l => if p x = true then 0 else if idxI p l < 0 then -1 else idxI p l + 1
theorem idxI_none {α : Type} {p : α → Bool} : ∀ {l : List α}, (∀ x ∈ l, p x = false) → idxI p l = -1
  | [], _ => rfl
  | x :: l, h => by
    unfold idxI
    rw [idxI_none (fun y hy => h y (List.mem_cons_of_mem _ hy)), h x List.mem_cons_self]
    rfl
theorem idxI_hit {α : Type} {p : α → Bool} : ∀ {l : List α} {k : Nat} {x : α}, l[k]? = some x → p x = true → (∀ y ∈ l.take k, p y = false) → idxI p l = (k : Nat)
  | [], k, x, h, _, _ => by simp at h
  | y :: l, 0, x, h, hp, _ => by
    obtain rfl : y = x := by simpa using h
    unfold idxI
    rw [if_pos hp]
    rfl
  | y :: l, k + 1, x, h, hp, ht => by
    have hy : p y = false := ht y (by simp)
    have ih := idxI_hit (l := l) (k := k) (x := x) (by simpa using h) hp (fun z hz => ht z (by simp [hz]))
    unfold idxI
    rw [ih, hy, if_neg (by decide), if_neg (by omega)]
    omega
theorem idxI_cases {α : Type} (p : α → Bool) : ∀ l : List α, (idxI p l = -1 ∧ ∀ x ∈ l, p x = false) ∨ ∃ k x, k < l.length ∧ idxI p l = (k : Nat) ∧ l[k]? = some x ∧ p x = true ∧ ∀ y ∈ l.take k, p y = false
  | [] => .inl ⟨rfl, fun x hx => by simp at hx⟩
  | y :: l => by
    rcases hb : p y with _ | _
    · rcases idxI_cases p l with ⟨h1, h2⟩ | ⟨k, x, h0, h1, h2, h3, h4⟩
      · refine .inl ⟨?_, fun x hx => ?_⟩
        · unfold idxI; rw [h1, hb]; rfl
        · rcases List.mem_cons.1 hx with rfl | hx
          · exact hb
          · exact h2 x hx
      · refine .inr ⟨k + 1, x, by simp; omega, ?_, by simpa using h2, h3, fun z hz => ?_⟩
        · unfold idxI; rw [h1, hb, if_neg (by decide), if_neg (by omega)]; omega
        · rw [List.take_succ_cons, List.mem_cons] at hz
          rcases hz with rfl | hz
          · exact hb
          · exact h4 z hz
    · exact .inr ⟨0, y, by simp, by unfold idxI; rw [hb]; rfl, rfl, hb, by simp⟩
theorem rowIn_mk {α : Type} {w : World} {A : Option Addr} {l : List α} (mk : α → List Value) (K : Nat) (hk : ∀ x, (mk x).length = K) (h : RowIn w A (l.flatMap mk)) {i : Nat} {x : α} (hq : l[i]? = some x) (hK : 0 < K := by decide) :
    ∃ b off, A = some ⟨b, off, none⟩ ∧ b < w.heap.size ∧ w.rangeAt b (off + i * K) (mk x) := by
  have hl := (List.getElem?_eq_some_iff.1 hq).1
  obtain ⟨b, off, h1, h2, h3⟩ := h (by rw [flat_len mk K hk]; exact Nat.mul_pos (by omega) hK)
  exact ⟨b, off, h1, h2, fun j v hj => by rw [Nat.add_assoc]; exact h3 _ _ (flat_put mk K hk l i j x v hq hj)⟩
/-- A row's element laid anew. -/
theorem lay_flat {α : Type} (mk : α → List Value) (K : Nat) (hk : ∀ x, (mk x).length = K) (R : List α) (i : Nat) (x : α) (sp : List Value) (hi : i < R.length) :
    lay (R.flatMap mk ++ sp).toArray (i * K) (mk x) = ((R.set i x).flatMap mk ++ sp).toArray := by
  unfold lay
  congr 1
  have e : R = R.take i ++ R[i] :: R.drop (i + 1) := by rw [List.getElem_cons_drop, List.take_append_drop]
  have hl : ((R.take i).flatMap mk).length = i * K := by rw [flat_len mk K hk, List.length_take, Nat.min_eq_left (by omega)]
  have e1 : (R.flatMap mk ++ sp) = (R.take i).flatMap mk ++ (mk R[i] ++ ((R.drop (i + 1)).flatMap mk ++ sp)) := by
    calc R.flatMap mk ++ sp = (R.take i ++ R[i] :: R.drop (i + 1)).flatMap mk ++ sp := by rw [← e]
      _ = _ := by rw [List.flatMap_append, List.flatMap_cons, List.append_assoc, List.append_assoc]
  have e2 : ((R.set i x).flatMap mk ++ sp) = (R.take i).flatMap mk ++ (mk x ++ ((R.drop (i + 1)).flatMap mk ++ sp)) := by
    rw [List.set_eq_take_append_cons_drop, if_pos hi]
    simp [List.flatMap_append]
  rw [e1, e2]
  dsimp only
  rw [List.take_left' hl, ← List.drop_drop, List.drop_left' hl, List.drop_left' (by rw [hk, hk])]
theorem flat_take {α : Type} (mk : α → List Value) (K : Nat) (hk : ∀ x, (mk x).length = K) (R : List α) (sp : List Value) (i : Nat) (hi : i ≤ R.length) :
    ((R.flatMap mk ++ sp).toArray.toList).take (i * K) = (R.take i).flatMap mk := by
  have hl : ((R.take i).flatMap mk).length = i * K := by rw [flat_len mk K hk, List.length_take, Nat.min_eq_left hi]
  show (R.flatMap mk ++ sp).take (i * K) = _
  have e : R.flatMap mk ++ sp = (R.take i).flatMap mk ++ ((R.drop i).flatMap mk ++ sp) := by
    calc R.flatMap mk ++ sp = (R.take i ++ R.drop i).flatMap mk ++ sp := by rw [List.take_append_drop]
      _ = _ := by rw [List.flatMap_append, List.append_assoc]
  rw [e, List.take_left' hl]
theorem blk_range {α : Type} {w : World} {g : Nat} {T : TypeId} (mk : α → List Value) (K : Nat) (hk : ∀ x, (mk x).length = K) {R : List α} {sp : List Value} (h : Blk w g T (R.flatMap mk ++ sp).toArray) {i : Nat} {x : α} (hx : R[i]? = some x) : w.rangeAt g (i * K) (mk x) := fun j v hv => by
  rw [h.cell, List.getElem?_toArray]
  have := flat_put mk K hk R i j x v hx hv
  rw [List.getElem?_append_left (List.getElem?_eq_some_iff.1 this).1]
  exact this
theorem zero_one {z : Array Value} {n : Nat} (h : ∀ v ∈ z, v.oneCell' = true) (h0 : 0 < z.size) : ∀ v ∈ (Builtin.zeroCells z n).toList, v.oneCell' = true := fun v hv => by
  unfold Builtin.zeroCells at hv
  simp only [Array.toList_map, List.mem_map] at hv
  obtain ⟨i, _, rfl⟩ := hv
  rw [getElem!_pos z (i % z.size) (Nat.mod_lt _ h0)]
  exact h _ (Array.getElem_mem _)
/-- clear of a row's end. -/
theorem run_clear_own {P : Program} (w : World) (t e : TypeId) (z : Value) (ht : P.underlying t = some (.slice e)) (hv : ∀ w, (zeroValue e).run P w = .ok z w) (hz : ∀ v ∈ z.cells, v.oneCell' = true) (h0 : 0 < z.cells.size) (g o n c : Nat) (hn : 0 < n)
    {T : TypeId} {cur : Array Value} (hg : Blk w g T cur) (hfit : o + n * z.cells.size ≤ cur.size) :
    ∃ w' cur', (∀ ty, (Builtin.clear_ #[t] ty #[.slice (some ⟨g, o, none⟩) n c]).run P w = .ok (.tuple #[]) w') ∧ Blk w' g T cur' ∧ cur'.size = cur.size ∧ cur'.toList.take o = cur.toList.take o ∧ Fr (· = g) w w' := by
  have hst := run_storeCells_at (P := P) g o T (Builtin.zeroCells z.cells n).toList 0 cur w hg (by simp [size_zeroCells]; omega) (zero_one hz h0)
  simp only [Nat.add_zero] at hst
  obtain ⟨m, rfl⟩ : ∃ m, n = m + 1 := ⟨n - 1, by omega⟩
  refine ⟨_, _, fun ty => by simp [Builtin.clear_, run_underlying ht, hv, hst]; rfl, blk_setRow hg _, ?_, ?_, (Fr.refl (· = g) _).setRow (fun _ => rfl) _⟩
  · simp only [List.size_toArray, List.length_append, List.length_take, List.length_drop, Array.length_toList, size_zeroCells]
    generalize (m + 1) * z.cells.size = q at hfit ⊢
    omega
  · have hl : (cur.toList.take o).length = o := by rw [List.length_take, Array.length_toList]; exact Nat.min_eq_left (Nat.le_trans (Nat.le_add_right _ _) hfit)
    simp only [List.append_assoc]
    rw [List.take_left' hl]
end Go.Proofs.Ytncfdfgcnblicaa

/-
  slices.IndexFunc AT API.RECORD: any closure that leaves memory as it lies.
-/
namespace Go.Proofs.Ytncfdfgcnblicaa
open Go.RowKit
set_option linter.unusedVariables false
set_option linter.unusedSimpArgs false

set_option maxRecDepth 100000 in
set_option maxHeartbeats 4000000 in
theorem rcindex_any {α : Type} (mk : α → List Value) (hk : ∀ x, (mk x).length = 16) (h1 : ∀ x, ∀ v ∈ mk x, v.oneCell' = true) (p : α → Bool) (fn : FuncId) (he : ∀ args w, (callFunc fn args).run Try.prog w = .ok (.enter fn args) w)
    (A : Option Addr) (cap : Nat) (l : List α) (w : World) (hf : ∀ x ∈ l, ∀ w, Calls Try.prog fn #[.agg (mk x).toArray] w (EqPost w (p x))) (h : RowIn w A (l.flatMap mk)) (hn : l.length ≤ 1048576) :
    Calls Try.prog 41 #[.slice A l.length cap, .func (.func fn) #[] #[]] w fun e w' => e = .returned (.int .i64 (idxI p l)) ∧ Fr (fun _ => False) w w' := by
  have hsz : ∀ x, (Try.prog.info? 63).map (·.size) = some (mk x).length := fun x => by rw [hk]; kernel_rfl
  have HL := Lib.hid (And.intro hf (And.intro h (And.intro hk hsz)))
  clear h hf hk hsz h1
  go_enter Try.func41, Try.ntmps41
  go_upto_region 2 with fail
  go_loopw [8] (fun i wr => ∃ k : Nat, k ≤ l.length ∧ i = .int .i64 (k : Nat) ∧ (∀ x ∈ l.take k, p x = false) ∧ Fr (fun _ => False) w wr) (fun i _ => l.length - (intOf i).toNat)
  case atStart => exact ⟨0, Nat.zero_le _, rfl, by simp, Fr.refl _ _⟩
  case round =>
    obtain ⟨k, hk, rfl, hall, hfr⟩ := hrel
    have HF := Lib.hid (And.intro hall hfr)
    clear hall hfr
    by_cases hlt : k < l.length
    · obtain ⟨x, hx⟩ : ∃ x, l[k]? = some x := ⟨l[k], List.getElem?_eq_getElem hlt⟩
      obtain ⟨b, off, rfl, hbs, hrg⟩ := rowIn_mk mk 16 HL.out.2.2.1 HL.out.2.1 hx
      have HX := Lib.hid (And.intro hx (HL.out.1 x (List.mem_of_getElem? hx)))
      have HR := Lib.hid (And.intro (range_fr0 HF.out.2 hbs hrg) (HL.out.2.2.2 x))
      clear hx hrg
      have hk0 : (0 : Int) ≤ (k : Int) := by omega
      obtain ⟨bb, hbb⟩ : ∃ bb, bb = p x := ⟨_, rfl⟩
      have HB := Lib.hid hbb
      clear hbb
      rcases bb with _ | _
      · go_wp2_with (first
          | (refine wpList_load_mid rfl 63 _ rfl b (off + k * 16) (by rfl) (mk x) _ HR.out.1 Try.underlying63 rfl HR.out.2 ?_)
          | ((with_reducible refine (HX.out.2 _).mono ?_)
             rintro e w1 ⟨rfl, f1⟩
             rw [← HB.out]
             have H1 := Lib.hid (HF.out.2.then f1)
             clear f1)
          | fail "no arm")
        go_roundw
        case rel => exact ⟨k + 1, by omega, by go_num, fun y hy => by
            rw [take_succ_of0 HX.out.1, List.mem_append, List.mem_singleton] at hy
            rcases hy with hy | rfl
            · exact HF.out.1 y hy
            · exact HB.out.symm, H1.out⟩
        case measure => simp [intOf]; omega
      · go_wp2_with (first
          | (refine wpList_load_mid rfl 63 _ rfl b (off + k * 16) (by rfl) (mk x) _ HR.out.1 Try.underlying63 rfl HR.out.2 ?_)
          | ((with_reducible refine (HX.out.2 _).mono ?_)
             rintro e w1 ⟨rfl, f1⟩
             rw [← HB.out]
             have H1 := Lib.hid (HF.out.2.then f1)
             clear f1)
          | fail "no arm")
        go_ret
        exact ⟨ret_int (idxI_hit HX.out.1 HB.out.symm HF.out.1).symm, H1.out⟩
    · have hke : k = l.length := by omega
      subst hke
      go_wp2_with fail
      go_ret
      exact ⟨ret_int (idxI_none (by have := HF.out.1; rwa [List.take_length] at this)).symm, HF.out.2⟩
end Go.Proofs.Ytncfdfgcnblicaa

/-
  slices.DeleteFunc AT API.RECORD, on a row of the call's own.
-/
namespace Go.Proofs.Ytncfdfgcnblicaa
open Go.RowKit
set_option linter.unusedVariables false
set_option linter.unusedSimpArgs false

/-- While elements are struck. -/
structure Dlr {α : Type} (mk : α → List Value) (p : α → Bool) (w wr : World) (g : Nat) (l R : List α) (sp : List Value) (i j : Nat) : Prop where
  bk : Blk wr g 63 (R.flatMap mk ++ sp).toArray
  len : R.length = l.length
  hd : R.take i = (l.take j).filter (fun x => !p x)
  tl : ∀ m, j ≤ m → R[m]? = l[m]?
  ij : i < j ∧ j ≤ l.length
  fr : Fr (· = g) w wr
set_option maxRecDepth 100000 in
set_option maxHeartbeats 4000000 in
theorem rcdelete_any {α : Type} (mk : α → List Value) (hk : ∀ x, (mk x).length = 16) (h1 : ∀ x, ∀ v ∈ mk x, v.oneCell' = true) (p : α → Bool) (fn : FuncId) (he : ∀ args w, (callFunc fn args).run Try.prog w = .ok (.enter fn args) w)
    (A : Option Addr) (cap : Nat) (l : List α) (w : World) (hf : ∀ x ∈ l, ∀ w, Calls Try.prog fn #[.agg (mk x).toArray] w (EqPost w (p x))) (h : w.ownsRow 0 63 16 (.slice A l.length cap) l.length (l.flatMap mk)) (hn : l.length ≤ 1048576) :
    Calls Try.prog 38 #[.slice A l.length cap, .func (.func fn) #[] #[]] w fun e w' => e = .returned (.slice A (l.filter (fun x => !p x)).length cap) ∧ w'.ownsRow 0 63 16 (.slice A (l.filter (fun x => !p x)).length cap) (l.filter (fun x => !p x)).length ((l.filter (fun x => !p x)).flatMap mk) ∧ Fr (rowOf A) w w' := by
  have hsz : ∀ x, (Try.prog.info? 63).map (·.size) = some (mk x).length := fun x => by rw [hk]; kernel_rfl
  have hci := rcindex_any mk hk h1 p fn he A cap l w hf (own_rowIn h) hn
  have HI := Lib.hid hci
  have HO := Lib.hid h
  rcases idxI_cases p l with ⟨hi, hall⟩ | ⟨k, x, hkl, hi, hx, hp, hlow⟩
  · rw [hi] at HI
    have hflt : l.filter (fun x => !p x) = l := List.filter_eq_self.2 (fun x hx => by rw [hall x hx]; rfl)
    rw [hflt]
    clear hci h hi hall hflt hf hk h1 hsz
    go_enter Try.func38, Try.ntmps38
    go_wp2_with (first
      | (go_at_call 41
         (with_reducible refine HI.out.mono ?_)
         rintro e w1 ⟨rfl, f1⟩
         have H1 := Lib.hid f1
         clear f1)
      | fail "no arm")
    go_ret
    exact ⟨rfl, own_fr HO.out H1.out (fun k _ h => h), H1.out.mono fun k _ h => h.elim⟩
  · rw [hi] at HI
    rcases h.2 with ⟨h2, h0⟩ | ⟨g, cp, cur, hv, _, hg, h3, h4, h5, h6⟩
    · omega
    injection hv with hA _ hcp
    subst hA hcp
    have hfl : (l.flatMap mk).length = l.length * 16 := flat_len mk 16 hk l
    obtain ⟨sp, hsp⟩ : ∃ sp, cur = (l.flatMap mk ++ sp).toArray := ⟨cur.toList.drop (l.length * 16), by rw [← h6, List.take_append_drop]⟩
    have hspl : l.length * 16 + sp.length = cap * 16 := by
      have := congrArg Array.size hsp
      simp only [List.size_toArray, List.length_append, hfl] at this
      omega
    have HG := Lib.hid (And.intro (show Blk w g 63 (l.flatMap mk ++ sp).toArray by rw [← hsp]; exact hg) (And.intro hspl h4))
    have HX := Lib.hid (And.intro hx (And.intro hp hlow))
    have HK := Lib.hid (And.intro hk (And.intro h1 (And.intro hf hsz)))
    have hcap := h3
    have hcm := h4
    simp only [maxLen] at hcm
    have hk0 : (0 : Int) ≤ (k : Int) := by omega
    clear hci h hi hx hp hlow hf hk h1 hsz h6 hspl hsp hg h5 h4 hfl h3
    go_enter Try.func38, Try.ntmps38
    go_upto_region 5 with (first
      | (go_at_call 41
         (with_reducible refine HI.out.mono ?_)
         rintro e w1 ⟨rfl, f1⟩
         have H1 := Lib.hid f1
         clear f1)
      | fail "no arm")
    go_loopg [5, 6] (l.length - (k + 1)) (fun gh i j wr => ∃ (ii jj : Nat) (R : List α), gh = l.length - jj ∧ i = .int .i64 (ii : Nat) ∧ j = .int .i64 (jj : Nat) ∧ Dlr mk p w wr g l R sp ii jj)
    case atStart =>
      refine ⟨k, k + 1, l, rfl, rfl, by go_num, ⟨HG.out.1.fr H1.out id, rfl, ?_, fun _ _ => rfl, ⟨by omega, by omega⟩, H1.out.mono fun k _ h => h.elim⟩⟩
      rw [take_succ_of0 HX.out.1, List.filter_append, List.filter_eq_self.2 (fun y hy => by rw [HX.out.2.2 y hy]; rfl)]
      simp [HX.out.2.1]
    case round =>
      obtain ⟨ii, jj, R, hgh, rfl, rfl, hd⟩ := hrel
      have HGH := Lib.hid hgh
      clear hgh
      obtain ⟨hij, hjl⟩ := hd.ij
      have hi0 : (0 : Int) ≤ (ii : Int) := by omega
      have hj0 : (0 : Int) ≤ (jj : Int) := by omega
      have HD := Lib.hid hd
      clear hd
      by_cases hlt : jj < l.length
      · obtain ⟨v, hv⟩ : ∃ v, l[jj]? = some v := ⟨l[jj], List.getElem?_eq_getElem hlt⟩
        have hRv : R[jj]? = some v := (HD.out.tl jj (Nat.le_refl _)).trans hv
        have hlti : (jj : Int) < (l.length : Int) := by omega
        have hilt : (ii : Int) < (l.length : Int) := by omega
        have HV := Lib.hid (And.intro hv (And.intro (blk_range mk 16 HK.out.1 HD.out.bk hRv) (And.intro (HK.out.2.2.1 v (List.mem_of_getElem? hv)) (And.intro (HK.out.2.2.2 v) (And.intro (HK.out.1 v) (HK.out.2.1 v))))))
        clear hv hRv
        have hgl := HD.out.bk.lt
        have hsv : (Try.prog.info? 63).map (·.size) = some (mk v).toArray.size := by rw [List.size_toArray]; exact HV.out.2.2.2.1
        obtain ⟨bb, hbb⟩ : ∃ bb, bb = p v := ⟨_, rfl⟩
        have HB := Lib.hid (And.intro hbb hsv)
        clear hbb hsv
        have hz : 0 + (mk v).length ≤ (#[.string ⟨#[]⟩, .int .i64 0, .int .i64 0, .int .u32 0, .bool false, .int .u64 0, .int .u64 0, .string ⟨#[]⟩, .string ⟨#[]⟩, .int .u32 0, .int .u32 0, .int .u32 0, .int .u32 0, .int .u32 0, .slice none 0 0, .string ⟨#[]⟩] : Array Value).size := by rw [HV.out.2.2.2.2.1]; decide
        have hly : lay #[.string ⟨#[]⟩, .int .i64 0, .int .i64 0, .int .u32 0, .bool false, .int .u64 0, .int .u64 0, .string ⟨#[]⟩, .string ⟨#[]⟩, .int .u32 0, .int .u32 0, .int .u32 0, .int .u32 0, .int .u32 0, .slice none 0 0, .string ⟨#[]⟩] 0 (mk v) = (mk v).toArray := lay_all (by rw [HV.out.2.2.2.2.1]; rfl)
        have HZ := Lib.hid (And.intro hz hly)
        clear hz hly
        rcases bb with _ | _
        · have hfit : ii * 16 + (mk v).length ≤ (R.flatMap mk ++ sp).toArray.size := by
            rw [HV.out.2.2.2.2.1, List.size_toArray, List.length_append, flat_len mk 16 HK.out.1, HD.out.len]
            have := HG.out.2.1
            omega
          have hlf := lay_flat mk 16 HK.out.1 R ii v sp (by rw [HD.out.len]; omega)
          have HF := Lib.hid (And.intro hfit hlf)
          clear hfit hlf
          go_wp2_with (first
            | (refine wpList_load_mid rfl 63 _ rfl g (jj * 16) (by rfl) (mk v) _ HV.out.2.1 Try.underlying63 rfl HV.out.2.2.2.1 ?_)
            | (refine wpList_store_part rfl 63 _ _ rfl wr.heap.size 0 (by rfl) (mk v) (by rfl) 63 _ (Blk.new wr 63 _) HV.out.2.2.2.1 HV.out.2.2.2.2.2 HZ.out.1 (mk v).toArray HZ.out.2 ?_
               intro w2 b2 f2
               have H2 := Lib.hid (And.intro b2 (((Fr.refl (fun _ => False) wr).alloc _).step f2 (fun k hk => .inr (by subst hk; exact Nat.le_refl _))))
               clear b2 f2)
            | (refine wpList_load_blk rfl 63 _ rfl wr.heap.size (by rfl) 63 _ _ (by first | with_reducible exact H2.out.1 | with_reducible exact H3.out.1) Try.underlying63 rfl HB.out.2 ?_)
            | ((with_reducible refine (HV.out.2.2.1 _).mono ?_)
               rintro e w3 ⟨rfl, f3⟩
               rw [← HB.out.1]
               have H3 := Lib.hid (And.intro (H2.out.1.fr f3 id) (H2.out.2.then f3))
               clear f3)
            | (refine wpList_store_part rfl 63 _ _ rfl g (ii * 16) (by rfl) (mk v) (by rfl) 63 _ (HD.out.bk.fr H3.out.2 id) HV.out.2.2.2.1 HV.out.2.2.2.2.2 HF.out.1 _ HF.out.2 ?_
               intro w4 b4 f4
               have H4 := Lib.hid (And.intro b4 (H3.out.2.mono (fun _ _ h => h.elim) |>.then f4))
               clear b4 f4)
            | fail "no arm")
          go_roundg (l.length - (jj + 1))
          case rel =>
            refine ⟨ii + 1, jj + 1, R.set ii v, rfl, by go_num, by go_num, ⟨H4.out.1, by rw [List.length_set, HD.out.len], ?_, fun m hm => ?_, ⟨by omega, by omega⟩, HD.out.fr.then H4.out.2⟩⟩
            · rw [List.take_add_one, List.take_set, List.set_eq_of_length_le (by rw [List.length_take]; omega), HD.out.hd, List.getElem?_set_self (by rw [HD.out.len]; omega), take_succ_of0 HV.out.1, List.filter_append]
              simp [← HB.out.1]
            · rw [List.getElem?_set_ne (by omega)]
              exact HD.out.tl m (by omega)
          case measure => have := HGH.out; omega
        · go_wp2_with (first
            | (refine wpList_load_mid rfl 63 _ rfl g (jj * 16) (by rfl) (mk v) _ HV.out.2.1 Try.underlying63 rfl HV.out.2.2.2.1 ?_)
            | (refine wpList_store_part rfl 63 _ _ rfl wr.heap.size 0 (by rfl) (mk v) (by rfl) 63 _ (Blk.new wr 63 _) HV.out.2.2.2.1 HV.out.2.2.2.2.2 HZ.out.1 (mk v).toArray HZ.out.2 ?_
               intro w2 b2 f2
               have H2 := Lib.hid (And.intro b2 (((Fr.refl (fun _ => False) wr).alloc _).step f2 (fun k hk => .inr (by subst hk; exact Nat.le_refl _))))
               clear b2 f2)
            | (refine wpList_load_blk rfl 63 _ rfl wr.heap.size (by rfl) 63 _ _ (by first | with_reducible exact H2.out.1 | with_reducible exact H3.out.1) Try.underlying63 rfl HB.out.2 ?_)
            | ((with_reducible refine (HV.out.2.2.1 _).mono ?_)
               rintro e w3 ⟨rfl, f3⟩
               rw [← HB.out.1]
               have H3 := Lib.hid (And.intro (H2.out.1.fr f3 id) (H2.out.2.then f3))
               clear f3)
            | fail "no arm")
          go_roundg (l.length - (jj + 1))
          case rel =>
            refine ⟨ii, jj + 1, R, rfl, rfl, by go_num, ⟨HD.out.bk.fr H3.out.2 id, HD.out.len, ?_, fun m hm => HD.out.tl m (by omega), ⟨by omega, by omega⟩, HD.out.fr.then (H3.out.2.mono fun _ _ h => h.elim)⟩⟩
            rw [HD.out.hd, take_succ_of0 HV.out.1, List.filter_append]
            simp [← HB.out.1]
          case measure => have := HGH.out; omega
      · have hje : jj = l.length := by omega
        subst hje
        have hiln : (ii : Int) < (l.length : Int) := by omega
        have hlc : (l.length : Int) ≤ (cap : Int) := by omega
        have hic : (ii : Int) ≤ (cap : Int) := by omega
        have hfit : ii * 16 + (l.length - ii) * 16 ≤ (R.flatMap mk ++ sp).toArray.size := by
          rw [List.size_toArray, List.length_append, flat_len mk 16 HK.out.1, HD.out.len]
          omega
        obtain ⟨wc, cur2, hcl, hb2, hs2, ht2, hf2⟩ := run_clear_own (P := Try.prog) wr 35 63 (.agg #[.string ⟨#[]⟩, .int .i64 0, .int .i64 0, .int .u32 0, .bool false, .int .u64 0, .int .u64 0, .string ⟨#[]⟩, .string ⟨#[]⟩, .int .u32 0, .int .u32 0, .int .u32 0, .int .u32 0, .int .u32 0, .slice none 0 0, .string ⟨#[]⟩]) Try.underlying35 Try.zeroValue63 (by simp [Value.cells, Value.oneCell']) (by simp [Value.cells]) g (ii * 16) (l.length - ii) (cap - ii) (by omega) HD.out.bk hfit
        have HE := Lib.hid (And.intro hb2 (And.intro hs2 (And.intro ht2 hf2)))
        clear hb2 hs2 ht2 hf2 hfit
        go_wp2_with fail
        go_ret
        have hkp : R.take ii = l.filter (fun x => !p x) := by rw [HD.out.hd, List.take_length]
        have hkl : (l.filter (fun x => !p x)).length = ii := by rw [← hkp, List.length_take, HD.out.len]; omega
        have ht := HE.out.2.2.1
        have hs := HE.out.2.1
        rw [hkl]
        refine ⟨rfl, ⟨by rw [flat_len mk 16 HK.out.1, hkl], .inr ⟨g, cap, cur2, rfl, Nat.zero_le _, HE.out.1, by omega, HG.out.2.2, ?_, ?_⟩⟩, ?_⟩
        · rw [hs, List.size_toArray, List.length_append, flat_len mk 16 HK.out.1, HD.out.len]
          have := HG.out.2.1
          omega
        · rw [ht, ← hkp]
          exact flat_take mk 16 HK.out.1 R sp ii (by rw [HD.out.len]; omega)
        · exact (HD.out.fr.mono (fun k _ h => ⟨_, rfl, h.symm⟩)).then (HE.out.2.2.2.mono fun k _ h => ⟨_, rfl, h.symm⟩)
end Go.Proofs.Ytncfdfgcnblicaa

/-
  LAYER 25: what a reply tells.
-/
namespace Go.Proofs.Ytncfdfgcnblicaa
open Go.RowKit
set_option linter.unusedVariables false
set_option linter.unusedSimpArgs false

theorem Try.infoRcd25 : (Try.prog.info? 63).map (fun i => (i.zero, i.size, i.bytes)) = some (some (.agg #[.string ⟨#[]⟩, .int .i64 0, .int .i64 0, .int .u32 0, .bool false, .int .u64 0, .int .u64 0, .string ⟨#[]⟩, .string ⟨#[]⟩, .int .u32 0, .int .u32 0, .int .u32 0, .int .u32 0, .int .u32 0, .slice none 0 0, .string ⟨#[]⟩]), 16, 160) := by kernel_rfl
theorem rcl_len (x : Rcd × Option Addr × Nat) : (rcl x).length = 16 := rfl
theorem rcl_one (x : Rcd × Option Addr × Nat) : ∀ u ∈ rcl x, u.oneCell' = true := by
  intro u hu
  simp only [rcl, Rcd.cells, List.mem_cons, List.not_mem_nil, or_false] at hu
  rcases hu with rfl | rfl | rfl | rfl | rfl | rfl | rfl | rfl | rfl | rfl | rfl | rfl | rfl | rfl | rfl | rfl <;> rfl
theorem rflat_one (l : List (Rcd × Option Addr × Nat)) : ∀ u ∈ l.flatMap rcl, u.oneCell' = true := by
  intro u hu
  obtain ⟨x, _, hx⟩ := List.mem_flatMap.1 hu
  exact rcl_one x u hx
/-- What a clone of records leaves. -/
def RclonePost (w : World) (l : List (Rcd × Option Addr × Nat)) (e : Ending) (w' : World) : Prop :=
  ∃ A cap, e = .returned (.slice A l.length cap) ∧ w'.ownsRow 0 63 16 (.slice A l.length cap) l.length (l.flatMap rcl) ∧ (∀ k, rowOf A k → w.heap.size ≤ k) ∧ Fr (fun _ => False) w w'
set_option maxRecDepth 100000 in
set_option maxHeartbeats 4000000 in
theorem rclone_any (A : Option Addr) (cap : Nat) (l : List (Rcd × Option Addr × Nat)) (w : World) (h : RowIn w A (l.flatMap rcl)) (hn : l.length ≤ 1048576) (hA : A = none → l = []) (hcap : A = none → cap = 0) :
    Calls Try.prog 39 #[.slice A l.length cap] w (RclonePost w l) := by
  obtain ⟨i0, hi, hz0, hz1, hz2⟩ := info_parts Try.infoRcd25
  rcases A with _ | a
  · obtain rfl := hA rfl
    obtain rfl := hcap rfl
    have hne : ∀ w : World, (Go.binOp .eql 35 (.slice none 0 0) (.slice none 0 0)).run Try.prog w = .ok (.bool true) w := fun w => by
      have := Lib.run_eql_slice_nil (P := Try.prog) w 35 63 none 0 0 0 0 Try.underlying35
      simpa using this
    go_enter Try.func39, Try.ntmps39
    go_wp2_with fail
    go_ret
    exact ⟨none, 0, rfl, own_nil _ _ _, fun k h => absurd h (rowOf_none k), Fr.refl _ _⟩
  · have hne : ∀ w : World, (Go.binOp .eql 35 (.slice (some a) l.length cap) (.slice none 0 0)).run Try.prog w = .ok (.bool false) w := fun w => by
      have := Lib.run_eql_slice_nil (P := Try.prog) w 35 63 (some a) l.length cap 0 0 Try.underlying35
      simpa using this
    have HS := Lib.hid (src_row (P := Try.prog) (cap := cap) Try.underlying35 (flat_len rcl 16 rcl_len l) (rowIn_fr0 h ((Fr.refl _ w).alloc (.cells #[] 63))) (rflat_one l))
    go_enter Try.func39, Try.ntmps39
    go_wp2_with (first
      | (at_builtin; refine wpList_append_src rfl (.tmp 5) (.tmp 6) _ _ rfl 63 i0 _ 16 160 Try.underlying35 hi hz0 hz1 hz2 rfl (by decide) (some ⟨w.heap.size, 0, none⟩) 0 0 [] (by rfl) (own_empty (Blk.new w _ _)) _ l.length (l.flatMap rcl) (by rfl)
           HS.out (by simp only [maxLen]; omega) (by omega) ?_
         intro A2 c2 w4 o1 o2 o3
         rw [Nat.zero_add, List.nil_append] at o1
         have HQ := Lib.hid (And.intro o1 (And.intro o2 o3))
         clear o1 o2 o3)
      | fail "no arm")
    go_ret
    refine ⟨A2, c2, rfl, HQ.out.1, fun k hk => ?_, ((Fr.refl (fun _ => False) w).alloc _).step HQ.out.2.1 fun k hk => .inr ?_⟩
    · rcases HQ.out.2.2 k hk with ⟨b, hb, rfl⟩ | h
      · injection hb with hb
        rw [← hb]
        exact Nat.le_refl _
      · rw [World.size_alloc] at h; omega
    · obtain ⟨b, hb, rfl⟩ := hk
      injection hb with hb
      rw [← hb]
      exact Nat.le_refl _

def told1 (x : Rcd × Option Addr × Nat) : Bool := (x.1.cl != 1) || (x.1.t == 41)
def told2 (x : Rcd × Option Addr × Nat) : Bool := (x.1.cl == 1) && (x.1.t == 6)
set_option maxRecDepth 100000 in
set_option maxHeartbeats 1000000 in
theorem told1_any (x : Rcd × Option Addr × Nat) (w : World) : Calls Try.prog 40 #[.agg (rcl x).toArray] w (EqPost w (told1 x)) := by
  have hb : Blk (w.alloc (.cells #[.string x.1.name, .int .i64 x.1.t, .int .i64 x.1.cl, .int .u32 x.1.ttl, .bool x.1.d.six, .int .u64 x.1.d.hi, .int .u64 x.1.d.lo, .string x.1.d.name, .string x.1.d.mail, .int .u32 x.1.d.n0, .int .u32 x.1.d.n1, .int .u32 x.1.d.n2, .int .u32 x.1.d.n3, .int .u32 x.1.d.n4, .slice x.2.1 x.1.d.texts.length x.2.2, .string x.1.d.raw] 63)) w.heap.size 63 #[.string x.1.name, .int .i64 x.1.t, .int .i64 x.1.cl, .int .u32 x.1.ttl, .bool x.1.d.six, .int .u64 x.1.d.hi, .int .u64 x.1.d.lo, .string x.1.d.name, .string x.1.d.mail, .int .u32 x.1.d.n0, .int .u32 x.1.d.n1, .int .u32 x.1.d.n2, .int .u32 x.1.d.n3, .int .u32 x.1.d.n4, .slice x.2.1 x.1.d.texts.length x.2.2, .string x.1.d.raw] := Blk.new _ _ _
  have c1 := hb.cell 1
  have c2 := hb.cell 2
  have hf : Fr (fun _ => False) w (w.alloc (.cells #[.string x.1.name, .int .i64 x.1.t, .int .i64 x.1.cl, .int .u32 x.1.ttl, .bool x.1.d.six, .int .u64 x.1.d.hi, .int .u64 x.1.d.lo, .string x.1.d.name, .string x.1.d.mail, .int .u32 x.1.d.n0, .int .u32 x.1.d.n1, .int .u32 x.1.d.n2, .int .u32 x.1.d.n3, .int .u32 x.1.d.n4, .slice x.2.1 x.1.d.texts.length x.2.2, .string x.1.d.raw] 63)) := (Fr.refl _ _).alloc _
  obtain ⟨W, hW⟩ : ∃ W, W = w.alloc (.cells #[.string x.1.name, .int .i64 x.1.t, .int .i64 x.1.cl, .int .u32 x.1.ttl, .bool x.1.d.six, .int .u64 x.1.d.hi, .int .u64 x.1.d.lo, .string x.1.d.name, .string x.1.d.mail, .int .u32 x.1.d.n0, .int .u32 x.1.d.n1, .int .u32 x.1.d.n2, .int .u32 x.1.d.n3, .int .u32 x.1.d.n4, .slice x.2.1 x.1.d.texts.length x.2.2, .string x.1.d.raw] 63) := ⟨_, rfl⟩
  rw [← hW] at c1 c2 hf
  obtain ⟨R, hR⟩ : ∃ R, R = told1 x := ⟨_, rfl⟩
  rw [← hR]
  unfold told1 at hR
  have HR := Lib.hid (And.intro hR hf)
  have HW := Lib.hid hW
  clear hb hW hR hf
  change Calls Try.prog 40 #[.agg #[.string x.1.name, .int .i64 x.1.t, .int .i64 x.1.cl, .int .u32 x.1.ttl, .bool x.1.d.six, .int .u64 x.1.d.hi, .int .u64 x.1.d.lo, .string x.1.d.name, .string x.1.d.mail, .int .u32 x.1.d.n0, .int .u32 x.1.d.n1, .int .u32 x.1.d.n2, .int .u32 x.1.d.n3, .int .u32 x.1.d.n4, .slice x.2.1 x.1.d.texts.length x.2.2, .string x.1.d.raw]] w _
  by_cases h1 : x.1.cl = 1
  · have e1 : (x.1.cl != 1) = false := by simp [h1]
    have H1 := Lib.hid e1
    clear h1 e1
    have e1 := H1.out
    go_enter Try.func40, Try.ntmps40
    go_upto_region 1 with fail
    rw [← HW.out]
    clear HW
    go_wp2_with fail
    go_ret
    exact ⟨ret_bool (by rw [HR.out.1, H1.out]; simp), HR.out.2⟩
  · have e1 : (x.1.cl != 1) = true := by simp [h1]
    have H1 := Lib.hid e1
    clear h1 e1
    have e1 := H1.out
    go_enter Try.func40, Try.ntmps40
    go_upto_region 1 with fail
    rw [← HW.out]
    clear HW
    go_wp2_with fail
    go_ret
    exact ⟨ret_bool (by rw [HR.out.1, H1.out]; simp), HR.out.2⟩
set_option maxRecDepth 100000 in
set_option maxHeartbeats 1000000 in
theorem told2_any (x : Rcd × Option Addr × Nat) (w : World) : Calls Try.prog 42 #[.agg (rcl x).toArray] w (EqPost w (told2 x)) := by
  have hb : Blk (w.alloc (.cells #[.string x.1.name, .int .i64 x.1.t, .int .i64 x.1.cl, .int .u32 x.1.ttl, .bool x.1.d.six, .int .u64 x.1.d.hi, .int .u64 x.1.d.lo, .string x.1.d.name, .string x.1.d.mail, .int .u32 x.1.d.n0, .int .u32 x.1.d.n1, .int .u32 x.1.d.n2, .int .u32 x.1.d.n3, .int .u32 x.1.d.n4, .slice x.2.1 x.1.d.texts.length x.2.2, .string x.1.d.raw] 63)) w.heap.size 63 #[.string x.1.name, .int .i64 x.1.t, .int .i64 x.1.cl, .int .u32 x.1.ttl, .bool x.1.d.six, .int .u64 x.1.d.hi, .int .u64 x.1.d.lo, .string x.1.d.name, .string x.1.d.mail, .int .u32 x.1.d.n0, .int .u32 x.1.d.n1, .int .u32 x.1.d.n2, .int .u32 x.1.d.n3, .int .u32 x.1.d.n4, .slice x.2.1 x.1.d.texts.length x.2.2, .string x.1.d.raw] := Blk.new _ _ _
  have c1 := hb.cell 1
  have c2 := hb.cell 2
  have hf : Fr (fun _ => False) w (w.alloc (.cells #[.string x.1.name, .int .i64 x.1.t, .int .i64 x.1.cl, .int .u32 x.1.ttl, .bool x.1.d.six, .int .u64 x.1.d.hi, .int .u64 x.1.d.lo, .string x.1.d.name, .string x.1.d.mail, .int .u32 x.1.d.n0, .int .u32 x.1.d.n1, .int .u32 x.1.d.n2, .int .u32 x.1.d.n3, .int .u32 x.1.d.n4, .slice x.2.1 x.1.d.texts.length x.2.2, .string x.1.d.raw] 63)) := (Fr.refl _ _).alloc _
  obtain ⟨W, hW⟩ : ∃ W, W = w.alloc (.cells #[.string x.1.name, .int .i64 x.1.t, .int .i64 x.1.cl, .int .u32 x.1.ttl, .bool x.1.d.six, .int .u64 x.1.d.hi, .int .u64 x.1.d.lo, .string x.1.d.name, .string x.1.d.mail, .int .u32 x.1.d.n0, .int .u32 x.1.d.n1, .int .u32 x.1.d.n2, .int .u32 x.1.d.n3, .int .u32 x.1.d.n4, .slice x.2.1 x.1.d.texts.length x.2.2, .string x.1.d.raw] 63) := ⟨_, rfl⟩
  rw [← hW] at c1 c2 hf
  obtain ⟨R, hR⟩ : ∃ R, R = told2 x := ⟨_, rfl⟩
  rw [← hR]
  unfold told2 at hR
  have HR := Lib.hid (And.intro hR hf)
  have HW := Lib.hid hW
  clear hb hW hR hf
  change Calls Try.prog 42 #[.agg #[.string x.1.name, .int .i64 x.1.t, .int .i64 x.1.cl, .int .u32 x.1.ttl, .bool x.1.d.six, .int .u64 x.1.d.hi, .int .u64 x.1.d.lo, .string x.1.d.name, .string x.1.d.mail, .int .u32 x.1.d.n0, .int .u32 x.1.d.n1, .int .u32 x.1.d.n2, .int .u32 x.1.d.n3, .int .u32 x.1.d.n4, .slice x.2.1 x.1.d.texts.length x.2.2, .string x.1.d.raw]] w _
  by_cases h1 : x.1.cl = 1
  · have e1 : (x.1.cl == 1) = true := by simp [h1]
    have H1 := Lib.hid e1
    clear h1 e1
    have e1 := H1.out
    go_enter Try.func42, Try.ntmps42
    go_upto_region 1 with fail
    rw [← HW.out]
    clear HW
    go_wp2_with fail
    go_ret
    exact ⟨ret_bool (by rw [HR.out.1, H1.out]; simp), HR.out.2⟩
  · have e1 : (x.1.cl == 1) = false := by simp [h1]
    have H1 := Lib.hid e1
    clear h1 e1
    have e1 := H1.out
    go_enter Try.func42, Try.ntmps42
    go_upto_region 1 with fail
    rw [← HW.out]
    clear HW
    go_wp2_with fail
    go_ret
    exact ⟨ret_bool (by rw [HR.out.1, H1.out]; simp), HR.out.2⟩

abbrev RL := List (Rcd × Option Addr × Nat)
def toldA (la : RL) : RL := la.filter (fun x => !told1 x)
def toldB (la lb : RL) : RL := if toldA la = [] then (lb.filter told2).take 1 else []
def ToldPost (w : World) (rc : Int) (la lb : RL) (e : Ending) (w' : World) : Prop :=
  ∃ (r1 : RL) (A1 : Option Addr) (c1 : Nat) (r2 : RL) (A2 : Option Addr) (c2 : Nat), e = .returned (.tuple #[.int .i64 rc, .slice A1 r1.length c1, .slice A2 r2.length c2]) ∧ r1 = toldA la ∧ r2 = toldB la lb ∧ RowIn w' A1 (r1.flatMap rcl) ∧ RowIn w' A2 (r2.flatMap rcl) ∧ Fr (fun _ => False) w w'
theorem filter_idx {α : Type} {p : α → Bool} : ∀ {l : List α} {k : Nat} {x : α}, l[k]? = some x → p x = true → (∀ y ∈ l.take k, p y = false) → (l.filter p).take 1 = [x]
  | [], k, x, h, _, _ => by simp at h
  | y :: l, 0, x, h, hp, _ => by
    obtain rfl : y = x := by simpa using h
    rw [List.filter_cons_of_pos hp]
    rfl
  | y :: l, k + 1, x, h, hp, ht => by
    have hy : p y = false := ht y (by simp)
    rw [List.filter_cons_of_neg (by simp [hy])]
    exact filter_idx (l := l) (k := k) (x := x) (by simpa using h) hp (fun z hz => ht z (by simp [hz]))
theorem rowIn_nil (w : World) (A : Option Addr) : RowIn w A [] := fun h => by simp at h
set_option maxRecDepth 100000 in
set_option maxHeartbeats 4000000 in
theorem told_any (h : Hd) (Aq Aa Ab A3 : Option Addr) (nq cq ca cb n3 c3 : Nat) (la lb : RL) (w : World) (ha : RowIn w Aa (la.flatMap rcl)) (hb : RowIn w Ab (lb.flatMap rcl)) (na : la.length ≤ 1048576) (nb : lb.length ≤ 1048576) (hA : Aa = none → la = []) (hca : Aa = none → ca = 0) (hcb : lb.length ≤ cb) (hcm : cb ≤ 9223372036854775807) :
    Calls Try.prog 16 #[.agg #[.int .u16 h.id, .bool h.resp, .int .i64 h.op, .bool h.aa, .bool h.tc, .bool h.rd, .bool h.ra, .bool h.ad, .bool h.cd, .int .i64 h.rc, .int .i64 h.c0, .int .i64 h.c1, .int .i64 h.c2, .int .i64 h.c3, .slice Aq nq cq, .slice Aa la.length ca, .slice Ab lb.length cb, .slice A3 n3 c3]] w (ToldPost w h.rc la lb) := by
  obtain ⟨W, hW⟩ : ∃ W, W = w.alloc (.cells #[.int .u16 h.id, .bool h.resp, .int .i64 h.op, .bool h.aa, .bool h.tc, .bool h.rd, .bool h.ra, .bool h.ad, .bool h.cd, .int .i64 h.rc, .int .i64 h.c0, .int .i64 h.c1, .int .i64 h.c2, .int .i64 h.c3, .slice Aq nq cq, .slice Aa la.length ca, .slice Ab lb.length cb, .slice A3 n3 c3] 37) := ⟨_, rfl⟩
  have hm : Blk W w.heap.size 37 #[.int .u16 h.id, .bool h.resp, .int .i64 h.op, .bool h.aa, .bool h.tc, .bool h.rd, .bool h.ra, .bool h.ad, .bool h.cd, .int .i64 h.rc, .int .i64 h.c0, .int .i64 h.c1, .int .i64 h.c2, .int .i64 h.c3, .slice Aq nq cq, .slice Aa la.length ca, .slice Ab lb.length cb, .slice A3 n3 c3] := by rw [hW]; exact Blk.new _ _ _
  have hf : Fr (fun _ => False) w W := by rw [hW]; exact (Fr.refl _ _).alloc _
  obtain ⟨nk, hnk⟩ : ∃ n, n = (toldA la).length := ⟨_, rfl⟩
  have HA := Lib.hid (And.intro (rowIn_fr0 ha hf) (And.intro na (And.intro hA hca)))
  have HBB := Lib.hid (And.intro (rowIn_fr0 hb hf) (And.intro nb (And.intro hcb hcm)))
  have HB := Lib.hid (And.intro hm hf)
  have HN := Lib.hid hnk
  have HW := Lib.hid hW
  have c15 := hm.cell 15
  clear hm hf hW ha na hA hca hb nb hnk
  go_enter Try.func16, Try.ntmps16
  go_upto_region 1 with fail
  rw [← HW.out]
  clear HW
  go_upto_region 2 with (first
    | (go_at_call 39
       (with_reducible refine (rclone_any Aa ca la W HA.out.1 HA.out.2.1 HA.out.2.2.1 HA.out.2.2.2).mono ?_)
       rintro e w1 ⟨A1, c1, rfl, o1, o2, o3⟩
       have H1 := Lib.hid (And.intro o1 (And.intro (fun k (hk : rowOf A1 k) => o2 k hk) o3))
       clear o1 o2 o3 c15)
    | (go_at_call 38
       (with_reducible refine (rcdelete_any rcl rcl_len rcl_one told1 40 (fun _ _ => rfl) A1 c1 la w1 (fun x _ w => told1_any x w) H1.out.1 HA.out.2.1).mono ?_)
       rintro e w2 ⟨rfl, o1, o2⟩
       have H2 := Lib.hid (And.intro (HB.out.2.then (H1.out.2.2.step o2 (fun k hk => .inr (H1.out.2.1 k hk)))) (And.intro (H1.out.2.2.step o2 (fun k hk => .inr (H1.out.2.1 k hk))) (own_rowIn0 o1)))
       clear o1 o2)
    | fail "no arm")
  obtain ⟨r1, hr1⟩ : ∃ r, r = la.filter (fun x => !told1 x) := ⟨_, rfl⟩
  rw [← hr1] at H2 ⊢
  have HR := Lib.hid (show r1 = toldA la from hr1)
  clear hr1
  have hm2 : Blk w2 w.heap.size 37 #[.int .u16 h.id, .bool h.resp, .int .i64 h.op, .bool h.aa, .bool h.tc, .bool h.rd, .bool h.ra, .bool h.ad, .bool h.cd, .int .i64 h.rc, .int .i64 h.c0, .int .i64 h.c1, .int .i64 h.c2, .int .i64 h.c3, .slice Aq nq cq, .slice Aa la.length ca, .slice Ab lb.length cb, .slice A3 n3 c3] := HB.out.1.fr H2.out.2.1 id
  have c9 := hm2.cell 9
  have c16 := hm2.cell 16
  clear hm2
  rcases r1 with _ | ⟨y, r1⟩
  · obtain ⟨ix, hix⟩ : ∃ n, n = idxI told2 lb := ⟨_, rfl⟩
    have hci := rcindex_any rcl rcl_len rcl_one told2 42 (fun _ _ => rfl) Ab cb lb w2 (fun x _ w => told2_any x w) (rowIn_fr0 HBB.out.1 H2.out.2.1) HBB.out.2.1
    rw [← hix] at hci
    have HI := Lib.hid hci
    have HX := Lib.hid hix
    clear hci hix
    rcases idxI_cases told2 lb with ⟨hi, hall⟩ | ⟨k, x, hkl, hi, hx, hp, hlow⟩
    · obtain rfl : ix = -1 := HX.out.trans hi
      have HAL := Lib.hid hall
      clear hi hall
      go_wp2_with (first
        | (go_at_call 41
           (with_reducible refine HI.out.mono ?_)
           rintro e w3 ⟨rfl, f3⟩
           have H3 := Lib.hid f3
           have c9' : w3.cell? ⟨w.heap.size, 9, none⟩ = some (.int .i64 h.rc) := ((HB.out.1.fr H2.out.2.1 id).fr f3 id).cell 9
           clear f3)
        | fail "no arm")
      refine bodyPost_ret (v := .tuple #[.int .i64 h.rc, .slice none 0 0, .slice none 0 0]) (by simp [results, Try.results16, go_sem]) rfl ?_
      refine ⟨[], none, 0, [], none, 0, rfl, HR.out, ?_, rowIn_nil _ _, rowIn_nil _ _, H2.out.1.then H3.out⟩
      unfold toldB
      rw [if_pos HR.out.symm, List.filter_eq_nil_iff.2 (fun x hx => by rw [HAL.out x hx]; decide)]
      rfl
    · obtain rfl : ix = (k : Nat) := HX.out.trans hi
      have HLO := Lib.hid (And.intro hx (And.intro hp hlow))
      obtain ⟨b, off, rfl, hbs, hrg⟩ := rowIn_mk rcl 16 rcl_len (rowIn_fr0 HBB.out.1 H2.out.2.1) hx
      have HRG := Lib.hid (And.intro hbs hrg)
      clear hi hx hp hlow hbs hrg
      have hcb' := HBB.out.2.2.1
      have hcm' := HBB.out.2.2.2
      have k0 : (0 : Int) ≤ (k : Int) := by omega
      have k1 : IntKind.i64.wrap ((k : Int) + 1) = (k : Int) + 1 := IntWalk.i64_in _ (by omega)
      have k2 : (k : Int) ≤ (k : Int) + 1 := by omega
      have k3 : (k : Int) + 1 ≤ (cb : Int) := by omega
      have k4 : ((k : Int) + 1).toNat = k + 1 := by omega
      have HKK := Lib.hid k1
      clear k1
      go_upto_region 7 with (first
        | (go_at_call 41
           (with_reducible refine HI.out.mono ?_)
           rintro e w3 ⟨rfl, f3⟩
           have H3 := Lib.hid f3
           have c9' : w3.cell? ⟨w.heap.size, 9, none⟩ = some (.int .i64 h.rc) := ((HB.out.1.fr H2.out.2.1 id).fr f3 id).cell 9
           have c16' : w3.cell? ⟨w.heap.size, 16, none⟩ = some (.slice (some ⟨b, off, none⟩) lb.length cb) := ((HB.out.1.fr H2.out.2.1 id).fr f3 id).cell 16
           clear f3 c9 c16)
        | fail "no arm")
      have k1 := HKK.out
      go_quiet (fail)
      go_wp2_with fail
      refine bodyPost_ret (v := .tuple #[.int .i64 h.rc, .slice none 0 0, .slice (some ⟨b, off + k * 16, none⟩) 1 1]) (by simp [results, Try.results16, go_sem]) rfl ?_
      refine ⟨[], none, 0, [x], some ⟨b, off + k * 16, none⟩, 1, rfl, HR.out, ?_, rowIn_nil _ _, ?_, (H2.out.1.then H3.out).drewN _⟩
      · unfold toldB
        rw [if_pos HR.out.symm, filter_idx HLO.out.1 HLO.out.2.1 HLO.out.2.2]
      · have hrg := range_fr0 (H3.out.drewN nq) HRG.out.1 HRG.out.2
        intro _
        exact ⟨b, off + k * 16, rfl, Nat.lt_of_lt_of_le HRG.out.1 (H3.out.drewN nq).size, fun i v hv => hrg i v (by simpa using hv)⟩
  · go_wp2_with fail
    refine bodyPost_ret (v := .tuple #[.int .i64 h.rc, .slice A1 (y :: r1).length c1, .slice none 0 0]) (by simp [results, Try.results16, go_sem]) rfl ?_
    refine ⟨y :: r1, A1, c1, [], none, 0, rfl, HR.out, ?_, H2.out.2.2, rowIn_nil _ _, H2.out.1⟩
    unfold toldB
    rw [if_neg (by rw [← HR.out]; exact List.cons_ne_nil _ _)]
end Go.Proofs.Ytncfdfgcnblicaa
