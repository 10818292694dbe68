/-
  strings.Builder, WHEREVER IT LIES: in a field of a block that is known whole (block p, of type T, at cell o).
-/
import Derived.Test.YtbemackcdccpaaaProg
import Derived.Test.YtbemackcdccpaaaBase
import Derived.Lib.Builder
import Derived.Lib.UnsafeStr
namespace Go.Proofs.Ytbemackcdccpaaa
open Go.RowKit

theorem Try.infoU8 : (Try.prog.info? 5).map (fun i => (i.zero, i.size, i.bytes)) = some (some (.int .u8 0), 1, 1) := by kernel_rfl
theorem Try.sizeBuilder : (Try.prog.info? 125).map (fun i => i.size) = some 2 := by kernel_rfl
theorem Try.cellsU8 : Try.prog.cellsOf 5 = 1 := by kernel_rfl

theorem Blk.shape {w : World} {g : Nat} {t : TypeId} {cs : Array Value} (h : Blk w g t cs) : w.shape? g = some (t, cs.size) := by
  unfold Blk at h
  simp [World.shape?, h]

/-- The builder's own address, or none yet. -/
def selfOr (p o : Nat) (v : Value) : Prop := v = .pointer none ∨ v = .pointer (some ⟨p, o, none⟩)

set_option maxHeartbeats 1000000 in
set_option maxRecDepth 100000 in
theorem copyCheck_used (p o : Nat) (w : World) (h0 : w.cell? ⟨p, o, none⟩ = some (.pointer (some ⟨p, o, none⟩))) :
    Calls Try.prog 99 #[.pointer (some ⟨p, o, none⟩)] w fun e w' => e = .returned (.tuple #[]) ∧ w = w' := by
  obtain ⟨j, hj, _⟩ := Option.map_eq_some_iff.1 Try.sizeBuilder
  go_enter Try.func99, Try.ntmps99
  go_wp2_with fail
  rw [Lib.run_neq_ptr_same w _ Try.underlying123 hj]
  go_wp2_with fail
  go_end0
  exact ⟨rfl, rfl⟩

set_option maxHeartbeats 1000000 in
set_option maxRecDepth 100000 in
theorem copyCheck_fresh (p o : Nat) (T : TypeId) (cs : Array Value) (w : World) (hb : Blk w p T cs) (h0 : cs[o]? = some (.pointer none))
    (hlies : liesAt Try.prog Try.prog.depth T (cs.size / Try.prog.cellsOf T) o 125 1 = true) :
    Calls Try.prog 99 #[.pointer (some ⟨p, o, none⟩)] w fun e w' => e = .returned (.tuple #[]) ∧ w.setCell ⟨p, o, none⟩ (.pointer (some ⟨p, o, none⟩)) = w' := by
  obtain ⟨j, hj, hjs⟩ := Option.map_eq_some_iff.1 Try.sizeBuilder
  have c0 : w.cell? ⟨p, o, none⟩ = some (.pointer none) := (hb.cell o).trans h0
  have f0 := hb.frozen o
  have hsh := hb.shape
  have ho : o < cs.size := (Array.getElem?_eq_some_iff.1 h0).1
  go_enter Try.func99, Try.ntmps99
  go_wp2_with fail
  rw [Lib.run_to_unsafe w ⟨p, o, none⟩ Try.underlying123 Try.underlying148 hj (by rw [hjs]; decide) hsh ho]
  simp only [Result.andThen]
  rw [Oper.upon_value]
  go_wp2_with fail
  rw [run_callFunc_extern Try.func100 (by kernel_rfl) (by kernel_rfl) (by kernel_rfl) (e := Extern.AbiNoEscape.same) (by kernel_rfl)]
  rw [Lib.run_noEscape]
  simp only [Result.andThen]
  rw [Oper.upon_value]
  go_wp2_with fail
  rw [Lib.run_from_unsafe w ⟨p, o, none⟩ Try.underlying148 Try.underlying123 hj hsh hlies]
  simp only [Result.andThen]
  rw [Oper.upon_value]
  go_wp2_with fail
  go_end0
  exact ⟨rfl, rfl⟩

theorem copyCheck_any (p o : Nat) (T : TypeId) (cs : Array Value) (v : Value) (w : World) (hb : Blk w p T cs) (h0 : cs[o]? = some v) (hv : selfOr p o v)
    (hlies : liesAt Try.prog Try.prog.depth T (cs.size / Try.prog.cellsOf T) o 125 1 = true) :
    Calls Try.prog 99 #[.pointer (some ⟨p, o, none⟩)] w fun e w' => e = .returned (.tuple #[]) ∧ Blk w' p T (cs.setIfInBounds o (.pointer (some ⟨p, o, none⟩))) ∧ Fr (· = p) w w' := by
  rcases hv with rfl | rfl
  · refine (copyCheck_fresh p o T cs w hb h0 hlies).mono ?_
    rintro e w' ⟨rfl, rfl⟩
    exact ⟨rfl, hb.set_ o _, Fr.setCell (S := (· = p)) (Fr.refl _ w) (p := ⟨p, o, none⟩) (fun _ => rfl) _⟩
  · refine (copyCheck_used p o w ((hb.cell o).trans h0)).mono ?_
    rintro e w' ⟨rfl, rfl⟩
    have : cs.setIfInBounds o (.pointer (some ⟨p, o, none⟩)) = cs := by
      obtain ⟨ho, he⟩ := Array.getElem?_eq_some_iff.1 h0
      apply Array.ext
      · simp
      · intro i h1 h2
        by_cases hi : o = i
        · subst hi
          rw [Array.getElem_setIfInBounds_self, he]
        · rw [Array.getElem_setIfInBounds, if_neg hi]
    rw [this]
    exact ⟨rfl, hb, Fr.refl _ _⟩

/-- What writing into a builder leaves. -/
def BldPost (w : World) (p o : Nat) (T : TypeId) (cs : Array Value) (A : Option Addr) (l : List UInt8) (v : Value) (e : Ending) (w' : World) : Prop :=
  e = .returned v ∧ ∃ A' cap', Blk w' p T ((cs.setIfInBounds o (.pointer (some ⟨p, o, none⟩))).setIfInBounds (o + 1) (.slice A' l.length cap')) ∧ w'.ownsRow 0 5 1 (.slice A' l.length cap') l.length (u8s l) ∧
    Fr (fun k => k = p ∨ rowOf A k) w w' ∧ ∀ k, rowOf A' k → rowOf A k ∨ w.heap.size ≤ k

set_option maxHeartbeats 2000000 in
set_option maxRecDepth 100000 in
theorem writeString_any (p o : Nat) (T : TypeId) (cs : Array Value) (v : Value) (A : Option Addr) (cap : Nat) (l : List UInt8) (s : ByteArray) (w : World) (hb : Blk w p T cs) (h0 : cs[o]? = some v) (hv : selfOr p o v)
    (h1 : cs[o + 1]? = some (.slice A l.length cap)) (hown : w.ownsRow 0 5 1 (.slice A l.length cap) l.length (u8s l)) (hT : T ≠ 5)
    (hlies : liesAt Try.prog Try.prog.depth T (cs.size / Try.prog.cellsOf T) o 125 1 = true) (hs : l.length + s.size ≤ 140737488355328) :
    Calls Try.prog 97 #[.pointer (some ⟨p, o, none⟩), .string s] w (BldPost w p o T cs A (l ++ s.data.toList) (.tuple #[.int .i64 s.size, .nilIface])) := by
  obtain ⟨i0, hi, hz0, hz1, hz2⟩ := info_parts Try.infoU8
  go_enter Try.func97, Try.ntmps97
  go_wp2_with fail
  refine (copyCheck_any p o T cs v _ hb h0 hv hlies).mono ?_
  rintro e w1 ⟨rfl, hb1, f1⟩
  have hrow : ¬ rowOf A p := own_ne hown hb (fun h => hT h.symm)
  have hown1 := own_fr hown f1 (fun k hk e => hrow (e ▸ hk))
  have hc1 : (cs.setIfInBounds o (.pointer (some ⟨p, o, none⟩)))[o + 1]? = some (.slice A l.length cap) := by
    rw [Array.getElem?_setIfInBounds, if_neg (by omega)]; exact h1
  have ho : o + 1 < cs.size := (Array.getElem?_eq_some_iff.1 h1).1
  have c1 : w1.cell? ⟨p, o + 1, none⟩ = some (.slice A l.length cap) := (hb1.cell (o + 1)).trans hc1
  have H1 := Lib.hid hown1
  have F1 := Lib.hid f1
  have HB1 := Lib.hid hb1
  clear hown1 f1 hb1 hown hv h0
  go_wp2_with (first
    | (at_builtin; refine wpList_append_src rfl (.tmp 12) (.tmp 13) _ _ rfl 5 i0 _ 1 1 Try.underlying78 hi hz0 hz1 hz2 rfl (by decide) A l.length cap (u8s l) (by rfl) H1.out _ _ _ (by rfl) (Src.ofString _ Try.underlying9 s) (by simp only [maxLen]; omega) (by omega) ?_
       intro A' cap' w2 hown2 hfr2 hat2
       have hB2 := HB1.out.fr hfr2 hrow
       have d1 : w2.cell? ⟨p, o + 1, none⟩ = some (.slice A l.length cap) := (hB2.cell (o + 1)).trans hc1
       have g1 := hB2.frozen (o + 1)
       have Hown := Lib.hid hown2
       have HF2 := Lib.hid hfr2
       have HAT := Lib.hid hat2
       have HB2 := Lib.hid hB2
       clear hown2 hfr2 hat2 hB2))
  go_ret2
  have hrow' : ¬ rowOf A' p := own_ne Hown.out HB2.out (fun h => hT h.symm)
  have hf3 : Fr (· = p) w2 (w2.setCell ⟨p, o + 1, none⟩ (.slice A' (l.length + s.size) cap')) := Fr.setCell (S := (· = p)) (Fr.refl _ w2) (p := ⟨p, o + 1, none⟩) (fun _ => rfl) _
  have hl : (l ++ s.data.toList).length = l.length + s.size := by simp
  refine ⟨rfl, A', cap', ?_, ?_, ?_, ?_⟩
  · rw [hl]
    exact HB2.out.set_ (o + 1) _
  · rw [hl, u8s_append]
    exact own_fr Hown.out hf3 (fun k hk e => hrow' (e ▸ hk))
  · exact ((F1.out.mono (fun _ _ h => .inl h)).then ((HF2.out.mono (fun _ _ h => .inr h)).then (hf3.mono (fun _ _ h => .inl h))))
  · exact fun k hk => (HAT.out k hk).imp id (fun h => Nat.le_trans F1.out.size h)

set_option maxHeartbeats 1000000 in
set_option maxRecDepth 100000 in
theorem bldLen_any (p o : Nat) (A : Option Addr) (n cap : Nat) (w : World) (h0 : w.cell? ⟨p, o + 1, none⟩ = some (.slice A n cap)) :
    Calls Try.prog 98 #[.pointer (some ⟨p, o, none⟩)] w fun e w' => e = .returned (.int .i64 n) ∧ w = w' := by
  go_enter Try.func98, Try.ntmps98
  go_wp2_with fail
  go_ret
  exact ⟨rfl, rfl⟩

theorem fr_freeze {S : Nat → Prop} {a w : World} (h : Fr S a w) {p : Addr} (hp : p.block < a.heap.size → S p.block) (n : Nat) : Fr S a (w.freeze p n) := by
  unfold World.freeze
  split
  · exact h
  · refine ⟨h.os, h.tape, h.output, by simpa using h.size, fun k hk hS => ?_⟩
    rw [← h.block k hk hS]
    simp only [Array.getElem?_modify]
    rw [if_neg (by rintro rfl; exact hS (hp hk))]

section
variable (p o : Nat) (T : TypeId) (cs : Array Value) (w : World)

set_option maxHeartbeats 2000000 in
set_option maxRecDepth 100000 in
theorem bldString_row (g cap : Nat) (cur : Array Value) (l : List UInt8) (h0 : l ≠ []) (hc1 : w.cell? ⟨p, o + 1, none⟩ = some (.slice (some ⟨g, 0, none⟩) l.length cap))
    (hg : w.heap[g]? = some (.cells cur 5 (0, 0))) (hcap : l.length ≤ cap) (hcm : cap ≤ maxLen) (hcs : cur.size = cap) (hcell : ∀ j x, l[j]? = some x → w.cell? ((⟨g, 0, none⟩ : Addr).add j) = some (.int .u8 x.toNat)) :
    Calls Try.prog 93 #[.pointer (some ⟨p, o, none⟩)] w fun e w' => e = .returned (.string ⟨l.toArray⟩) ∧ Fr (· = g) w w' := by
  have hl0 : l.length ≠ 0 := by simpa using h0
  have c1 : w.drew.cell? ⟨p, o + 1, none⟩ = some (.slice (some ⟨g, 0, none⟩) l.length cap) := hc1
  have hSD : (Builtin.unsafeSliceData_ #[78] 143 #[.slice (some ⟨g, 0, none⟩) l.length cap]).run Try.prog w.drew = .ok (.pointer (some ⟨g, 0, none⟩)) w.drew :=
    Lib.run_unsafeSliceData_row _ _ _ _ _ _ (by omega)
  have hUS : (Builtin.unsafeString_ #[143, 3] 9 #[.pointer (some ⟨g, 0, none⟩), .int .i64 l.length]).run Try.prog w.drew = .ok (.string ⟨l.toArray⟩) (w.drew.freeze ⟨g, 0, none⟩ l.length) := by
    refine Lib.run_unsafeString_row w.drew 143 3 9 5 Try.underlying143 Try.cellsU8 g cur.size (by have hg' : w.drew.heap[g]? = some (.cells cur 5 (0, 0)) := hg; simp [World.shape?, hg']) l h0 (by omega) (by unfold maxLen at hcm; omega) ?_
    intro j x hx
    exact hcell j x hx
  have hfin : Fr (· = g) w (w.drew.freeze ⟨g, 0, none⟩ l.length) := fr_freeze (S := (· = g)) (Fr.refl _ w).drew (p := ⟨g, 0, none⟩) (fun _ => rfl) _
  clear hcell hg
  go_enter Try.func93, Try.ntmps93
  go_wp2
  go_region
  all_goals (go_wp2; go_ret; exact ⟨rfl, hfin⟩)

set_option maxHeartbeats 2000000 in
set_option maxRecDepth 100000 in
theorem bldString_nil (hc1 : w.cell? ⟨p, o + 1, none⟩ = some (.slice none 0 0)) :
    Calls Try.prog 93 #[.pointer (some ⟨p, o, none⟩)] w fun e w' => e = .returned (.string ⟨#[]⟩) ∧ Fr (fun _ => False) w w' := by
  have hUS : ∀ W q, (Builtin.unsafeString_ #[143, 3] 9 #[.pointer q, .int .i64 0]).run Try.prog W = .ok (.string .empty) W := fun W q => Lib.run_unsafeString_none W _ _ _ q
  have c1 : w.drew.cell? ⟨p, o + 1, none⟩ = some (.slice none 0 0) := hc1
  have hSD : (Builtin.unsafeSliceData_ #[78] 143 #[.slice none 0 0]).run Try.prog w.drew = .ok (.pointer none) w.drew := rfl
  have hfin : Fr (fun _ => False) w w.drew := (Fr.refl _ w).drew
  go_enter Try.func93, Try.ntmps93
  go_wp2
  go_region
  all_goals (go_wp2; go_ret; exact ⟨rfl, hfin⟩)

set_option maxHeartbeats 2000000 in
set_option maxRecDepth 100000 in
theorem bldString_room (g cap : Nat) (hc0 : cap ≠ 0) (hc1 : w.cell? ⟨p, o + 1, none⟩ = some (.slice (some ⟨g, 0, none⟩) 0 cap)) :
    Calls Try.prog 93 #[.pointer (some ⟨p, o, none⟩)] w fun e w' => e = .returned (.string ⟨#[]⟩) ∧ Fr (fun _ => False) w w' := by
  have hUS : ∀ W q, (Builtin.unsafeString_ #[143, 3] 9 #[.pointer q, .int .i64 0]).run Try.prog W = .ok (.string .empty) W := fun W q => Lib.run_unsafeString_none W _ _ _ q
  have c1 : w.drew.cell? ⟨p, o + 1, none⟩ = some (.slice (some ⟨g, 0, none⟩) 0 cap) := hc1
  have hSD : (Builtin.unsafeSliceData_ #[78] 143 #[.slice (some ⟨g, 0, none⟩) 0 cap]).run Try.prog w.drew = .ok (.pointer (some ⟨g, 0, none⟩)) w.drew := Lib.run_unsafeSliceData_row _ _ _ _ _ _ hc0
  have hfin : Fr (fun _ => False) w w.drew := (Fr.refl _ w).drew
  clear hc0
  go_enter Try.func93, Try.ntmps93
  go_wp2
  go_region
  all_goals (go_wp2; go_ret; exact ⟨rfl, hfin⟩)

set_option maxHeartbeats 2000000 in
set_option maxRecDepth 100000 in
theorem bldString_noroom (g : Nat) (cur : Array Value) (hb : Blk w p T cs) (h1 : cs[o + 1]? = some (.slice (some ⟨g, 0, none⟩) 0 0)) (hg : w.heap[g]? = some (.cells cur 5 (0, 0))) :
    Calls Try.prog 93 #[.pointer (some ⟨p, o, none⟩)] w fun e w' => e = .returned (.string ⟨#[]⟩) ∧ Fr (fun _ => False) w w' := by
  have hUS : ∀ W q, (Builtin.unsafeString_ #[143, 3] 9 #[.pointer q, .int .i64 0]).run Try.prog W = .ok (.string .empty) W := fun W q => Lib.run_unsafeString_none W _ _ _ q
  have c0 : w.cell? ⟨p, o + 1, none⟩ = some (.slice (some ⟨g, 0, none⟩) 0 0) := (hb.cell _).trans h1
  have c1 : w.drew.cell? ⟨p, o + 1, none⟩ = some (.slice (some ⟨g, 0, none⟩) 0 0) := c0
  have hSD : (Builtin.unsafeSliceData_ #[78] 143 #[.slice (some ⟨g, 0, none⟩) 0 0]).run Try.prog w.drew = .ok (.pointer (some ⟨w.drew.heap.size, 0, none⟩)) (w.drew.alloc (.view ⟨g, 0, none⟩ 5)) :=
    Lib.run_unsafeSliceData_zero w.drew _ _ 5 Try.underlying143 ⟨g, 0, none⟩ 0 (5, cur.size) (by have hg' : w.drew.heap[g]? = some (.cells cur 5 (0, 0)) := hg; simp [World.shape?, hg'])
  have c2 : (w.drew.alloc (.view ⟨g, 0, none⟩ 5)).cell? ⟨p, o + 1, none⟩ = some (.slice (some ⟨g, 0, none⟩) 0 0) := ((hb.drew.alloc _).cell _).trans h1
  have c3 : (w.alloc (.view ⟨g, 0, none⟩ 5)).drew.cell? ⟨p, o + 1, none⟩ = some (.slice (some ⟨g, 0, none⟩) 0 0) := c2
  have hfin : Fr (fun _ => False) w (w.drew.alloc (.view ⟨g, 0, none⟩ 5)) := (Fr.refl _ w).drew.alloc _
  go_enter Try.func93, Try.ntmps93
  go_wp2
  go_region
  all_goals (go_wp2; go_ret; exact ⟨rfl, hfin⟩)

/-- String(), whatever the builder holds. -/
theorem bldString_any (A : Option Addr) (cap : Nat) (l : List UInt8) (hb : Blk w p T cs) (h1 : cs[o + 1]? = some (.slice A l.length cap)) (hown : w.ownsRow 0 5 1 (.slice A l.length cap) l.length (u8s l)) :
    Calls Try.prog 93 #[.pointer (some ⟨p, o, none⟩)] w fun e w' => e = .returned (.string ⟨l.toArray⟩) ∧ Fr (rowOf A) w w' := by
  have hc := (hb.cell (o + 1)).trans h1
  rcases hown.2 with ⟨hv, hn⟩ | ⟨g, cp, cur, hv, _, hg, hnc, hcm, hcs, _⟩
  · have hl : l = [] := List.eq_nil_of_length_eq_zero hn
    subst hl
    rw [hv] at hc
    refine (bldString_nil p o w hc).mono ?_
    rintro e w' ⟨rfl, f⟩
    exact ⟨rfl, f.mono fun _ _ h => h.elim⟩
  · injection hv with hA _ hcp
    subst hA hcp
    by_cases hl : l = []
    · subst hl
      by_cases hc0 : cap = 0
      · subst hc0
        refine (bldString_noroom p o T cs w g cur hb h1 hg).mono ?_
        rintro e w' ⟨rfl, f⟩
        exact ⟨rfl, f.mono fun _ _ h => h.elim⟩
      · refine (bldString_room p o w g cap hc0 hc).mono ?_
        rintro e w' ⟨rfl, f⟩
        exact ⟨rfl, f.mono fun _ _ h => h.elim⟩
    · refine (bldString_row p o w g cap cur l hl hc hg hnc hcm (by omega) ?_).mono ?_
      · intro j x hx
        exact hown.cells (g := g) rfl j (.int .u8 x.toNat) (by rw [u8s_get, hx]; rfl)
      · rintro e w' ⟨rfl, f⟩
        exact ⟨rfl, f.mono fun k _ h => ⟨_, rfl, h.symm⟩⟩
end
end Go.Proofs.Ytbemackcdccpaaa
