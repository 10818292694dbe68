/-
  TEXTS OF THIS CLAIM, TOGETHER: Crd, Rdq, Rdr, Rds.
-/
import Derived.Test.YtmbgejiahmhffaaGreatUunI
import Derived.Test.YtmbgejiahmhffaaGreatUunD
import Derived.Deep.RegionHeld3
import Derived.Test.YtmbgejiahmhffaaGreatUunC
import Derived.Test.YtmbgejiahmhffaaGreatUunG
/-
  LAYER 10: the cursor that reads a record's parts.
-/
namespace Go.Proofs.YtmbgejiahmhffaaGreat
set_option linter.unusedVariables false
set_option linter.unusedSimpArgs false
open Go.RowKit

/-- The cursor lies at block p, its reader at block r. -/
structure CR (w : World) (p r : Nat) (s : ByteArray) (c : Cu) : Prop where
  blk : Blk w p 139 #[.string s, .pointer (some ⟨r, 0, none⟩), .int .i64 c.e]
  rd : Rd w r ⟨s, c.at_⟩
  ne : p ≠ r
section
variable {w w' : World} {p r : Nat} {s : ByteArray} {c : Cu}
theorem CR.fr {S : Nat → Prop} (h : CR w p r s c) (hf : Fr S w w') (h1 : ¬ S p) (h2 : ¬ S r) : CR w' p r s c := ⟨h.blk.fr hf h1, h.rd.fr hf h2, h.ne⟩
theorem CR.fr0 (h : CR w p r s c) (hf : Fr (fun _ => False) w w') : CR w' p r s c := h.fr hf id id
theorem CR.set (h : CR w p r s c) {a : Nat} {e : Int} (hr : Rd w' r ⟨s, a⟩) (hf : Fr (· = r) w w') :
    CR (w'.setCell ⟨p, 2, none⟩ (.int .i64 e)) p r s ⟨a, e⟩ ∧ Fr (fun k => k = p ∨ k = r) w (w'.setCell ⟨p, 2, none⟩ (.int .i64 e)) := by
  have hb := (h.blk.fr hf h.ne).set_ 2 (.int .i64 e)
  have hs : Fr (· = p) w' (w'.setCell ⟨p, 2, none⟩ (.int .i64 e)) := (Fr.refl (· = p) w').setCell (p := ⟨p, 2, none⟩) (fun _ => rfl) _
  exact ⟨⟨hb, hr.fr hs (fun e => h.ne e.symm), h.ne⟩, (hf.mono fun _ _ e => .inr e).then (hs.mono fun _ _ e => .inl e)⟩
end
def crAt (s : ByteArray) (a : Int) : Cu := if a < 0 ∨ (s.size : Int) < a then ⟨0, 2⟩ else ⟨a.toNat, 0⟩
def CrNew (w : World) (s : ByteArray) (c : Cu) (e : Ending) (w' : World) : Prop :=
  ∃ p r, e = .returned (.pointer (some ⟨p, 0, none⟩)) ∧ CR w' p r s c ∧ Fr (fun _ => False) w w' ∧ w.heap.size ≤ p ∧ w.heap.size ≤ r
set_option maxRecDepth 100000 in
set_option maxHeartbeats 4000000 in
theorem crat_any (s : ByteArray) (a : Int) (w : World) (hs : s.size ≤ 140737488351232) :
    Calls Tryz.prog 74 #[.string s, .int .i64 a] w (CrNew w s (crAt s a)) := by
  go_enter Tryz.func74, Tryz.ntmps74
  go_upto_region 2 with (first
    | (go_at_call 72
       (with_reducible refine (newReader_c s hs _).mono ?_)
       rintro e w1 ⟨r, rfl, h1, f1, z1⟩
       have H1 := Lib.hid (And.intro h1 (And.intro f1 z1))
       clear h1 f1 z1))
  have hr : r < w1.heap.size := World.block_lt_of_cell? w1 ⟨r, 0, none⟩ (H1.out.1.1.cell 0)
  obtain ⟨W3, hW3⟩ : ∃ W3, W3 = w1.alloc (.cells #[.string s, .pointer (some ⟨r, 0, none⟩), .int .i64 0] 139) := ⟨_, rfl⟩
  have hc : CR W3 w1.heap.size r s ⟨0, 0⟩ := by
    rw [hW3]
    exact ⟨Blk.new _ _ _, H1.out.1.fr ((Fr.refl (fun _ => False) _).alloc _) id, by omega⟩
  have hf3 : Fr (fun _ => False) w W3 := by rw [hW3]; exact H1.out.2.1.alloc _
  have hp0 : w.heap.size ≤ w1.heap.size ∧ w.heap.size ≤ r := ⟨H1.out.2.1.size, H1.out.2.2⟩
  rw [← hW3]
  generalize w1.heap.size = p at *
  have H3 := Lib.hid (And.intro hc (And.intro hf3 hp0))
  have k1 := hc.blk.cell 1
  simp only [List.getElem?_toArray, List.getElem?_cons_zero, List.getElem?_cons_succ] at k1
  clear hc hf3 hp0 hW3 hr
  obtain ⟨c, hc⟩ : ∃ c, c = crAt s a := ⟨_, rfl⟩
  rw [← hc]
  have hsk : (Rst.mk s 0).seek a = (Rst.mk s c.at_, c.e) := by
    rw [hc]
    unfold Rst.seek crAt
    split <;> rfl
  have HC := Lib.hid hsk
  have HCC := Lib.hid hc
  clear hsk hc
  go_wp2_with (first
    | (go_at_call 105
       (with_reducible refine (seek_any r ⟨s, 0⟩ a _ H3.out.1.rd).mono ?_)
       rintro e w4 ⟨rfl, h4, f4⟩
       rw [HC.out] at h4 ⊢
       have hb := H3.out.1.blk.fr f4 H3.out.1.ne
       have f2 := hb.frozen 2
       have c2 := hb.cell 2
       simp only [List.getElem?_toArray, List.getElem?_cons_zero, List.getElem?_cons_succ] at c2
       have H4 := Lib.hid (And.intro h4 f4)
       clear h4 f4 hb k1))
  go_ret
  obtain ⟨g1, g2⟩ := H3.out.1.set (e := c.e) H4.out.1 H4.out.2
  exact ⟨p, r, rfl, by rw [← HCC.out]; exact g1, H3.out.2.1.step g2 (fun k hk => .inr (by rcases hk with rfl | rfl; exact H3.out.2.2.1; exact H3.out.2.2.2)), H3.out.2.2⟩
/-- So many octets must be left. -/
def Cu.has (s : ByteArray) (c : Cu) (n : Nat) : Cu := if c.e = 0 ∧ s.size - c.at_ < n then ⟨c.at_, 8⟩ else c
def CrPost (w : World) (p r : Nat) (s : ByteArray) (c : Cu) (e : Ending) (w' : World) : Prop :=
  e = .returned (.pointer (some ⟨p, 0, none⟩)) ∧ CR w' p r s c ∧ Fr (fun k => k = p ∨ k = r) w w'
set_option maxRecDepth 100000 in
set_option maxHeartbeats 4000000 in
theorem crhas_any (p r : Nat) (s : ByteArray) (c : Cu) (n : Nat) (w : World) (h : CR w p r s c) :
    Calls Tryz.prog 76 #[.pointer (some ⟨p, 0, none⟩), .int .i64 n] w (CrPost w p r s (c.has s n)) := by
  have H := Lib.hid h
  have c1 := h.blk.cell 1
  have c2 := h.blk.cell 2
  have z2 := h.blk.frozen 2
  simp only [List.getElem?_toArray, List.getElem?_cons_zero, List.getElem?_cons_succ] at c1 c2
  have hat : c.at_ ≤ s.size := h.rd.2.1
  have hss : s.size ≤ 140737488351232 := h.rd.2.2
  clear h
  by_cases he : c.e = 0
  · have he' : (c.e == 0) = true := by simp [he]
    by_cases hl : s.size - c.at_ < n
    · have hz : c.has s n = ⟨c.at_, 8⟩ := by unfold Cu.has; rw [if_pos ⟨he, hl⟩]
      rw [hz]
      clear hz he
      have hl' : (s.size : Int) - c.at_ < n := by omega
      go_enter Tryz.func76, Tryz.ntmps76
      go_wp2_with (first
        | (go_at_call 107
           (with_reducible refine (left_any r ⟨s, c.at_⟩ _ H.out.rd).mono ?_)
           rintro e w' ⟨rfl, nq, rfl⟩))
      go_ret
      obtain ⟨g1, g2⟩ := (H.out.fr0 ((Fr.refl _ w).drewN nq)).set (e := 8) (H.out.rd.fr (S := fun _ => False) ((Fr.refl _ w).drewN nq) id) (Fr.refl _ _)
      exact ⟨rfl, g1, g2.fromN⟩
    · have hz : c.has s n = c := by unfold Cu.has; rw [if_neg (fun h => hl h.2)]
      rw [hz]
      clear hz he
      have hl' : ¬ (s.size : Int) - c.at_ < n := by omega
      go_enter Tryz.func76, Tryz.ntmps76
      go_wp2_with (first
        | (go_at_call 107
           (with_reducible refine (left_any r ⟨s, c.at_⟩ _ H.out.rd).mono ?_)
           rintro e w' ⟨rfl, nq, rfl⟩))
      go_ret
      exact ⟨rfl, H.out.fr0 ((Fr.refl _ w).drewN nq), (Fr.refl _ _).drewN _⟩
  · have he' : (c.e == 0) = false := by simp [he]
    have hz : c.has s n = c := by unfold Cu.has; rw [if_neg (fun h => he h.1)]
    rw [hz]
    clear hz he
    go_enter Tryz.func76, Tryz.ntmps76
    go_wp2_with fail
    go_ret
    exact ⟨rfl, H.out, Fr.refl _ _⟩
theorem ext_all (s : ByteArray) : s.extract 0 s.size = s := by
  apply ByteArray.ext
  apply Array.ext'
  simp only [ByteArray.data_extract, Array.toList_extract, List.extract_eq_take_drop, List.drop_zero, Nat.sub_zero]
  rw [List.take_of_length_le]
  rw [Array.length_toList]
  exact Nat.le_refl _
theorem crnum_eq {s : ByteArray} {c : Cu} (h0 : c.e = 0) (ha : c.at_ ≤ s.size) {n : Nat} (h1 : 1 ≤ n) (h4 : n ≤ 4) :
    (Rst.mk s c.at_).number n = (Rst.mk s (c.number s.data.toList s.size n).2.at_, (((c.number s.data.toList s.size n).1 : Nat) : Int), (c.number s.data.toList s.size n).2.e) := by
  obtain ⟨t1, t2, t3⟩ := Cu.take_eq (Nat.le_refl s.size) h0 ha n
  rw [ext_all] at t1 t2 t3
  unfold Rst.number Cu.number
  rw [if_neg (by omega), t1, t2, t3]
theorem crnum_lt (s : ByteArray) (c : Cu) {n : Nat} (h4 : n ≤ 4) : (c.number s.data.toList s.size n).1 < 4294967296 := by
  unfold Cu.number
  have h := numOf_lt (c.take s.data.toList s.size n).1
  have hl : (c.take s.data.toList s.size n).1.length ≤ n := by
    unfold Cu.take
    split
    · simp
    · split
      · simp
      · simp; omega
  exact Nat.lt_of_lt_of_le h (Nat.le_trans (Nat.pow_le_pow_right (by decide) (Nat.le_trans hl h4)) (by decide))
/-- What a reading leaves: the cursor, and the cell it was told to fill. -/
def CrvPost (w : World) (p r b : Nat) (T : TypeId) (s : ByteArray) (cs : Array Value) (c : Cu) (e : Ending) (w' : World) : Prop :=
  e = .returned (.pointer (some ⟨p, 0, none⟩)) ∧ CR w' p r s c ∧ Blk w' b T cs ∧ Fr (fun k => k = p ∨ k = r ∨ k = b) w w'
set_option maxRecDepth 100000 in
set_option maxHeartbeats 4000000 in
theorem crnumber_any (p r : Nat) (s : ByteArray) (c : Cu) (n b off : Nat) (T : TypeId) (cs : Array Value) (w : World) (h : CR w p r s c) (hb : Blk w b T cs) (hoff : off < cs.size) (hp : b ≠ p) (hr : b ≠ r) (h1 : 1 ≤ n) (h4 : n ≤ 4) :
    Calls Tryz.prog 77 #[.pointer (some ⟨p, 0, none⟩), .int .i64 n, .pointer (some ⟨b, off, none⟩)] w
      (CrvPost w p r b T s (if c.e = 0 then cs.setIfInBounds off (.int .i64 ((c.number s.data.toList s.size n).1 : Nat)) else cs) (c.number s.data.toList s.size n).2) := by
  have H := Lib.hid (And.intro h (And.intro hb (And.intro hp hr)))
  have c1 := h.blk.cell 1
  have c2 := h.blk.cell 2
  simp only [List.getElem?_toArray, List.getElem?_cons_zero, List.getElem?_cons_succ] at c1 c2
  have hat : c.at_ ≤ s.size := h.rd.2.1
  by_cases he : c.e = 0
  · have he' : (c.e == 0) = true := by simp [he]
    have hn := crnum_eq he hat h1 h4
    have hv := crnum_lt s c h4
    rw [if_pos he]
    obtain ⟨z, hz⟩ : ∃ z, z = c.number s.data.toList s.size n := ⟨_, rfl⟩
    rw [← hz] at hn hv ⊢
    have hwr : IntKind.i64.wrap ((z.1 : Nat) : Int) = ((z.1 : Nat) : Int) := IntWalk.i64_in _ (by omega)
    have HN := Lib.hid hn
    have hge : ∃ v0, w.cell? ⟨b, off, none⟩ = some v0 := ⟨cs[off], by rw [hb.cell off]; exact Array.getElem?_eq_getElem hoff⟩
    have HG := Lib.hid hge
    clear h hb hp hr he hn hz hge hat
    go_enter Tryz.func77, Tryz.ntmps77
    go_upto_region 4 with (first
      | (go_at_call 73
         (with_reducible refine (rdnumber_any r ⟨s, c.at_⟩ n _ H.out.1.rd).mono ?_)
         rintro e w1 ⟨rfl, g1, f1⟩
         rw [HN.out] at g1 ⊢
         have hb1 := H.out.1.blk.fr f1 H.out.1.ne
         have f2 := hb1.frozen 2
         have c2 := hb1.cell 2
         simp only [List.getElem?_toArray, List.getElem?_cons_zero, List.getElem?_cons_succ] at c2
         have H1 := Lib.hid (And.intro g1 f1)
         clear g1 f1 hb1 c1))
    have hs := H.out.1.set (e := z.2.e) H1.out.1 H1.out.2
    have hbb : Blk (w1.setCell ⟨p, 2, none⟩ (.int .i64 z.2.e)) b T cs := H.out.2.1.fr hs.2 (by rintro (e | e); exact H.out.2.2.1 e; exact H.out.2.2.2 e)
    obtain ⟨v0, hv0⟩ : ∃ v0, (w1.setCell ⟨p, 2, none⟩ (.int .i64 z.2.e)).cell? ⟨b, off, none⟩ = some v0 := ⟨cs[off], by rw [hbb.cell off]; exact Array.getElem?_eq_getElem hoff⟩
    have hz0 := hbb.frozen off
    have H2 := Lib.hid (And.intro hs hbb)
    clear hs hbb f2 c2
    generalize w1.setCell ⟨p, 2, none⟩ (.int .i64 z.2.e) = w2 at *
    go_wp2_with fail
    go_ret
    have fb : Fr (· = b) w2 (w2.setCell ⟨b, off, none⟩ (.int .i64 (z.1 : Nat))) := (Fr.refl (· = b) w2).setCell (p := ⟨b, off, none⟩) (fun _ => rfl) _
    exact ⟨rfl, H2.out.1.1.fr fb (fun e => H.out.2.2.1 e.symm) (fun e => H.out.2.2.2 e.symm), H2.out.2.set_ off _, (H2.out.1.2.mono fun k _ g => by rcases g with g | g; exact .inl g; exact .inr (.inl g)).then (fb.mono fun k _ g => .inr (.inr g))⟩
  · have he' : (c.e == 0) = false := by simp [he]
    have hz : (c.number s.data.toList s.size n).2 = c := by unfold Cu.number Cu.take; rw [if_pos he]
    rw [if_neg he, hz]
    clear h hb hp hr he hz
    go_enter Tryz.func77, Tryz.ntmps77
    go_wp2_with fail
    go_ret
    exact ⟨rfl, H.out.1, H.out.2.1, Fr.refl _ _⟩
/-- A name is read. -/
def Cu.rname (s : ByteArray) (c : Cu) : Cu := if c.e ≠ 0 then c else if (nameAt s c.at_ true).err ≠ 0 then ⟨c.at_, (nameAt s c.at_ true).err⟩ else ⟨(nameAt s c.at_ true).fin.toNat, 0⟩
theorem nameAt_ok {s : ByteArray} {a : Nat} (ha : a ≤ s.size) (h : (nameAt s a true).err = 0) : 0 ≤ (nameAt s a true).fin ∧ (nameAt s a true).fin ≤ s.size := by
  cases hu : nameAt s a true with
  | done z => exact nameAt_fin ha hu
  | bad e =>
    rw [hu] at h
    unfold nameAt at hu
    rw [if_neg (by omega)] at hu
    exact absurd h (uread_bad_ne hu)
  | on z => exact ⟨Int.le_refl _, by show (0 : Int) ≤ _; omega⟩
theorem Blk.set2 {w : World} {b p off j : Nat} {T U : TypeId} {cs ds : Array Value} (hb : Blk w b T cs) (hp : Blk w p U ds) (hne : b ≠ p) (u v : Value) :
    Blk ((w.setCell ⟨b, off, none⟩ u).setCell ⟨p, j, none⟩ v) b T (cs.setIfInBounds off u) ∧ Blk ((w.setCell ⟨b, off, none⟩ u).setCell ⟨p, j, none⟩ v) p U (ds.setIfInBounds j v) ∧
      Blk ((w.setCell ⟨p, j, none⟩ v).setCell ⟨b, off, none⟩ u) b T (cs.setIfInBounds off u) ∧ Blk ((w.setCell ⟨p, j, none⟩ v).setCell ⟨b, off, none⟩ u) p U (ds.setIfInBounds j v) :=
  ⟨(hb.set_ off u).far hne v, (hp.far (p := ⟨b, off, none⟩) (fun e => hne e.symm) u).set_ j v, (hb.far (p := ⟨p, j, none⟩) hne v).set_ off u, (hp.set_ j v).far (p := ⟨b, off, none⟩) (fun e => hne e.symm) u⟩
set_option maxRecDepth 100000 in
set_option maxHeartbeats 8000000 in
theorem crname_any (p r : Nat) (s : ByteArray) (c : Cu) (b off : Nat) (T : TypeId) (cs : Array Value) (w : World) (h : CR w p r s c) (hb : Blk w b T cs) (hoff : off < cs.size) (hp : b ≠ p) (hr : b ≠ r) :
    Calls Tryz.prog 75 #[.pointer (some ⟨p, 0, none⟩), .pointer (some ⟨b, off, none⟩)] w
      (CrvPost w p r b T s (if c.e = 0 then cs.setIfInBounds off (.string (nameAt s c.at_ true).name) else cs) (c.rname s)) := by
  have H := Lib.hid (And.intro h (And.intro hb (And.intro hp hr)))
  have c2 := h.blk.cell 2
  simp only [List.getElem?_toArray, List.getElem?_cons_zero, List.getElem?_cons_succ] at c2
  have hat : c.at_ ≤ s.size := h.rd.2.1
  have hss : s.size ≤ 140737488351232 := h.rd.2.2
  by_cases he : c.e = 0
  rotate_left
  · have he' : (c.e != 0) = true := by simp [he]
    have hz : c.rname s = c := by unfold Cu.rname; rw [if_pos he]
    rw [if_neg he, hz]
    clear h hb hp hr he hz
    go_enter Tryz.func75, Tryz.ntmps75
    go_wp2_with fail
    go_ret
    exact ⟨rfl, H.out.1, H.out.2.1, Fr.refl _ _⟩
  have he' : (c.e != 0) = false := by simp [he]
  rw [if_pos he]
  obtain ⟨z, hz⟩ : ∃ z, z = c.rname s := ⟨_, rfl⟩
  rw [← hz]
  unfold Cu.rname at hz
  rw [if_neg (by simp [he])] at hz
  have hfin := nameAt_ok (a := c.at_) hat
  generalize hu : nameAt s c.at_ true = u at *
  obtain ⟨v0, hv0⟩ : ∃ v0, cs[off]? = some v0 := ⟨cs[off], Array.getElem?_eq_getElem hoff⟩
  have HZ := Lib.hid (And.intro hu (And.intro hz (And.intro hfin hv0)))
  have c0 : w.drew.cell? ⟨p, 0, none⟩ = some (.string s) := h.blk.cell 0
  have c1 : w.drew.cell? ⟨p, 1, none⟩ = some (.pointer (some ⟨r, 0, none⟩)) := h.blk.cell 1
  clear h hb hp hr he hu hz hfin hv0 hat
  go_enter Tryz.func75, Tryz.ntmps75
  go_wp2_with fail
  go_region_held3 (fun w' => w'.cell? ⟨p, 0, none⟩ = some (.string s) ∧ w'.cell? ⟨p, 1, none⟩ = some (.pointer (some ⟨r, 0, none⟩)))
    (first | exact ⟨c0, c1⟩ | exact ⟨k0, k1⟩ | exact ⟨HK.out.1 _, HK.out.2.1 _⟩ | exact ⟨HK.out.2.2.1 _, HK.out.2.2.2.1 _⟩ | exact ⟨HK.out.2.2.2.2.1 _ _, HK.out.2.2.2.2.2.1 _ _⟩ | exact ⟨HK.out.2.2.2.2.2.2.1 _ _, HK.out.2.2.2.2.2.2.2 _ _⟩)
    (first
    | (go_at_call 78
       (with_reducible refine (at_any r ⟨s, c.at_⟩ w.drew (H.out.1.rd.fr (S := fun _ => False) ((Fr.refl _ w).drew) id)).mono ?_)
       rintro e w' ⟨rfl, rfl⟩)
    | (go_at_call 106
       (with_reducible refine (name8_any s c.at_ w.drew hss).mono ?_)
       rintro e w5 ⟨rfl, f5⟩
       rw [HZ.out.1]
       have hc5 := H.out.1.fr0 f5.fromD
       have hb5 := H.out.2.1.fr f5.fromD id
       have k0 : w5.cell? ⟨p, 0, none⟩ = some (.string s) := hc5.blk.cell 0
       have k1 : w5.cell? ⟨p, 1, none⟩ = some (.pointer (some ⟨r, 0, none⟩)) := hc5.blk.cell 1
       have a1 : w5.cell? ⟨b, off, none⟩ = some v0 := (hb5.cell off).trans HZ.out.2.2.2
       have a2 := hb5.frozen off
       have a3 : w5.cell? ⟨p, 2, none⟩ = some (.int .i64 c.e) := hc5.blk.cell 2
       have a4 := hc5.blk.frozen 2
       have a5 : ∀ u, (w5.setCell ⟨b, off, none⟩ u).cell? ⟨p, 2, none⟩ = some (.int .i64 c.e) := fun u => (hc5.blk.far (p := ⟨b, off, none⟩) (fun e => H.out.2.2.1 e.symm) u).cell 2
       have a6 : ∀ u, (w5.setCell ⟨b, off, none⟩ u).frozen? ⟨p, 2, none⟩ = false := fun u => (hc5.blk.far (p := ⟨b, off, none⟩) (fun e => H.out.2.2.1 e.symm) u).frozen 2
       have a7 : ∀ v, (w5.setCell ⟨p, 2, none⟩ v).cell? ⟨b, off, none⟩ = some v0 := fun v => ((hb5.far (p := ⟨p, 2, none⟩) H.out.2.2.1 v).cell off).trans HZ.out.2.2.2
       have a8 : ∀ v, (w5.setCell ⟨p, 2, none⟩ v).frozen? ⟨b, off, none⟩ = false := fun v => (hb5.far (p := ⟨p, 2, none⟩) H.out.2.2.1 v).frozen off
       have HK : Hid ((∀ u, (w5.setCell ⟨b, off, none⟩ u).cell? ⟨p, 0, none⟩ = some (.string s)) ∧ (∀ u, (w5.setCell ⟨b, off, none⟩ u).cell? ⟨p, 1, none⟩ = some (.pointer (some ⟨r, 0, none⟩))) ∧ (∀ u, (w5.setCell ⟨p, 2, none⟩ u).cell? ⟨p, 0, none⟩ = some (.string s)) ∧ (∀ u, (w5.setCell ⟨p, 2, none⟩ u).cell? ⟨p, 1, none⟩ = some (.pointer (some ⟨r, 0, none⟩))) ∧
         (∀ u v, ((w5.setCell ⟨b, off, none⟩ u).setCell ⟨p, 2, none⟩ v).cell? ⟨p, 0, none⟩ = some (.string s)) ∧ (∀ u v, ((w5.setCell ⟨b, off, none⟩ u).setCell ⟨p, 2, none⟩ v).cell? ⟨p, 1, none⟩ = some (.pointer (some ⟨r, 0, none⟩))) ∧ (∀ u v, ((w5.setCell ⟨p, 2, none⟩ v).setCell ⟨b, off, none⟩ u).cell? ⟨p, 0, none⟩ = some (.string s)) ∧ (∀ u v, ((w5.setCell ⟨p, 2, none⟩ v).setCell ⟨b, off, none⟩ u).cell? ⟨p, 1, none⟩ = some (.pointer (some ⟨r, 0, none⟩)))) := by
         have hf := fun u => hc5.blk.far (p := ⟨b, off, none⟩) (fun e => H.out.2.2.1 e.symm) u
         exact ⟨fun u => (hf u).cell 0, fun u => (hf u).cell 1, fun u => (hc5.blk.set_ 2 u).cell 0, fun u => (hc5.blk.set_ 2 u).cell 1, fun u v => ((hf u).set_ 2 v).cell 0, fun u v => ((hf u).set_ 2 v).cell 1,
           fun u v => ((hc5.blk.set_ 2 v).far (p := ⟨b, off, none⟩) (fun e => H.out.2.2.1 e.symm) u).cell 0, fun u v => ((hc5.blk.set_ 2 v).far (p := ⟨b, off, none⟩) (fun e => H.out.2.2.1 e.symm) u).cell 1⟩
       have H5 := Lib.hid (And.intro hc5 (And.intro hb5 f5.fromD))
       clear hc5 hb5 f5)
    | fail "no arm")
  all_goals
    have hs2 := Blk.set2 (off := off) (j := 2) H5.out.2.1 H5.out.1.blk H.out.2.2.1 (.string u.name) (.int .i64 u.err)
    have hfr : ∀ X, X = (w5.setCell ⟨b, off, none⟩ (.string u.name)).setCell ⟨p, 2, none⟩ (.int .i64 u.err) ∨ X = (w5.setCell ⟨p, 2, none⟩ (.int .i64 u.err)).setCell ⟨b, off, none⟩ (.string u.name) → CR X p r s ⟨c.at_, u.err⟩ ∧ Blk X b T (cs.setIfInBounds off (.string u.name)) ∧ Fr (fun k => k = p ∨ k = b) w X := by
      have g1 : Fr (fun k => k = p ∨ k = b) w5 ((w5.setCell ⟨b, off, none⟩ (.string u.name)).setCell ⟨p, 2, none⟩ (.int .i64 u.err)) := ((Fr.refl _ w5).setCell (p := ⟨b, off, none⟩) (fun _ => .inr rfl) _).setCell (p := ⟨p, 2, none⟩) (fun _ => .inl rfl) _
      have g2 : Fr (fun k => k = p ∨ k = b) w5 ((w5.setCell ⟨p, 2, none⟩ (.int .i64 u.err)).setCell ⟨b, off, none⟩ (.string u.name)) := ((Fr.refl _ w5).setCell (p := ⟨p, 2, none⟩) (fun _ => .inl rfl) _).setCell (p := ⟨b, off, none⟩) (fun _ => .inr rfl) _
      have hrr : ¬ (r = p ∨ r = b) := by rintro (e | e); exact H.out.1.ne e.symm; exact H.out.2.2.2 e.symm
      have gw : Fr (fun k => k = p ∨ k = b) w w5 := H5.out.2.2.mono fun _ _ h => h.elim
      rintro X (rfl | rfl)
      · exact ⟨⟨hs2.2.1, H5.out.1.rd.fr g1 hrr, H.out.1.ne⟩, hs2.1, gw.then g1⟩
      · exact ⟨⟨hs2.2.2.2, H5.out.1.rd.fr g2 hrr, H.out.1.ne⟩, hs2.2.2.1, gw.then g2⟩
    have HFR := Lib.hid hfr
    clear hs2 hfr a1 a2 a3 a4 a5 a6 a7 a8 k0 k1 c0 c1 c2
    first
      | (have hX := HFR.out _ (.inl rfl)
         generalize (w5.setCell ⟨b, off, none⟩ (.string u.name)).setCell ⟨p, 2, none⟩ (.int .i64 u.err) = W at *)
      | (have hX := HFR.out _ (.inr rfl)
         generalize (w5.setCell ⟨p, 2, none⟩ (.int .i64 u.err)).setCell ⟨b, off, none⟩ (.string u.name) = W at *)
    have HX := Lib.hid hX
    have d2 := hX.1.blk.cell 2
    have d1 := hX.1.blk.cell 1
    simp only [List.getElem?_toArray, List.getElem?_cons_zero, List.getElem?_cons_succ] at d1 d2
    clear hX
    have hz := HZ.out.2.1
    have hfin := HZ.out.2.2.1
    by_cases hue : u.err = 0
    · have hb1 : (u.err == 0) = true := by simp [hue]
      have hff := hfin hue
      have hz' : z = ⟨u.fin.toNat, 0⟩ := by rw [hz, if_neg (by simp [hue])]
      have hsk : (Rst.mk s c.at_).seek u.fin = (Rst.mk s u.fin.toNat, 0) := by
        unfold Rst.seek
        rw [if_neg]
        dsimp only
        omega
      have HS := Lib.hid (And.intro hsk hz')
      clear hz hfin hue hff hz' hsk
      go_wp2_with (first
        | (go_at_call 105
           (with_reducible refine (seek_any r ⟨s, c.at_⟩ u.fin _ HX.out.1.rd).mono ?_)
           rintro e w7 ⟨rfl, h7, f7⟩
           rw [HS.out.1] at h7 ⊢
           have hb7 := HX.out.1.blk.fr f7 H.out.1.ne
           have f2 := hb7.frozen 2
           have c2 := hb7.cell 2
           simp only [List.getElem?_toArray, List.getElem?_cons_zero, List.getElem?_cons_succ] at c2
           have H7 := Lib.hid (And.intro h7 f7)
           clear h7 f7 hb7 d1 d2))
      go_ret
      obtain ⟨g1, g2⟩ := HX.out.1.set (e := 0) H7.out.1 H7.out.2
      refine ⟨rfl, by rw [HS.out.2]; exact g1, HX.out.2.1.fr g2 (by rintro (e | e); exact H.out.2.2.1 e; exact H.out.2.2.2 e), (HX.out.2.2.mono fun k _ g => by rcases g with g | g; exact .inl g; exact .inr (.inr g)).then (g2.mono fun k _ g => by rcases g with g | g; exact .inl g; exact .inr (.inl g))⟩
    · have hb1 : (u.err == 0) = false := by rw [beq_eq_false_iff_ne]; exact hue
      have hz' : z = ⟨c.at_, u.err⟩ := by rw [hz, if_pos hue]
      have HS := Lib.hid hz'
      clear hz hfin hue hz'
      go_wp2_with fail
      go_ret
      exact ⟨rfl, by rw [HS.out]; exact HX.out.1, HX.out.2.1, HX.out.2.2.mono fun k _ g => by rcases g with g | g; exact .inl g; exact .inr (.inr g)⟩
end Go.Proofs.YtmbgejiahmhffaaGreat

/-
  LAYER 10: ReadQuestion.
-/
namespace Go.Proofs.YtmbgejiahmhffaaGreat
set_option linter.unusedVariables false
set_option linter.unusedSimpArgs false
open Go.RowKit

theorem crnum2_any (p r : Nat) (s : ByteArray) (c : Cu) (b off : Nat) (T : TypeId) (cs : Array Value) (w : World) (h : CR w p r s c) (hb : Blk w b T cs) (hoff : off < cs.size) (hp : b ≠ p) (hr : b ≠ r) :
    Calls Tryz.prog 77 #[.pointer (some ⟨p, 0, none⟩), .int .i64 2, .pointer (some ⟨b, off, none⟩)] w
      (CrvPost w p r b T s (if c.e = 0 then cs.setIfInBounds off (.int .i64 ((c.number s.data.toList s.size 2).1 : Nat)) else cs) (c.number s.data.toList s.size 2).2) := crnumber_any p r s c 2 b off T cs w h hb hoff hp hr (by decide) (by decide)
theorem crnum4_any (p r : Nat) (s : ByteArray) (c : Cu) (b off : Nat) (T : TypeId) (cs : Array Value) (w : World) (h : CR w p r s c) (hb : Blk w b T cs) (hoff : off < cs.size) (hp : b ≠ p) (hr : b ≠ r) :
    Calls Tryz.prog 77 #[.pointer (some ⟨p, 0, none⟩), .int .i64 4, .pointer (some ⟨b, off, none⟩)] w
      (CrvPost w p r b T s (if c.e = 0 then cs.setIfInBounds off (.int .i64 ((c.number s.data.toList s.size 4).1 : Nat)) else cs) (c.number s.data.toList s.size 4).2) := crnumber_any p r s c 4 b off T cs w h hb hoff hp hr (by decide) (by decide)
theorem crhas4_any (p r : Nat) (s : ByteArray) (c : Cu) (w : World) (h : CR w p r s c) :
    Calls Tryz.prog 76 #[.pointer (some ⟨p, 0, none⟩), .int .i64 4] w (CrPost w p r s (c.has s 4)) := crhas_any p r s c 4 w h
theorem crhas10_any (p r : Nat) (s : ByteArray) (c : Cu) (w : World) (h : CR w p r s c) :
    Calls Tryz.prog 76 #[.pointer (some ⟨p, 0, none⟩), .int .i64 10] w (CrPost w p r s (c.has s 10)) := crhas_any p r s c 10 w h
/-! ### The cursor's states, in plain Lean -/
theorem Cu.number_err {S : List UInt8} {en n : Nat} {c : Cu} (h : c.e ≠ 0) : (c.number S en n).2 = c := by unfold Cu.number Cu.take; rw [if_pos h]
theorem Cu.number_ok {S : List UInt8} {en n : Nat} {c : Cu} (h : c.e = 0) (hl : n ≤ en - c.at_) : c.number S en n = (numAt S c.at_ n, ⟨c.at_ + n, 0⟩) := by
  unfold Cu.number Cu.take numAt
  rw [if_neg (by simp [h]), if_neg (by omega)]
theorem Cu.number_e {S : List UInt8} {en n : Nat} {c : Cu} (h : (c.number S en n).2.e = 0) : c.e = 0 := by
  apply Classical.byContradiction
  intro h0
  rw [Cu.number_err h0] at h
  exact h0 h
theorem Cu.has_err {s : ByteArray} {n : Nat} {c : Cu} (h : c.e ≠ 0) : c.has s n = c := by unfold Cu.has; rw [if_neg (fun g => h g.1)]
theorem Cu.has_e {s : ByteArray} {n : Nat} {c : Cu} (h : (c.has s n).e = 0) : c.e = 0 ∧ n ≤ s.size - c.at_ ∧ c.has s n = c := by
  unfold Cu.has at h ⊢
  by_cases g : c.e = 0 ∧ s.size - c.at_ < n
  · rw [if_pos g] at h
    cases h
  · rw [if_neg g] at h
    exact ⟨h, by omega, by rw [if_neg g]⟩
theorem Cu.rname_err {s : ByteArray} {c : Cu} (h : c.e ≠ 0) : c.rname s = c := by unfold Cu.rname; rw [if_pos h]
theorem Cu.rname_e {s : ByteArray} {c : Cu} (h : (c.rname s).e = 0) : c.e = 0 := by
  apply Classical.byContradiction
  intro h0
  rw [Cu.rname_err h0] at h
  exact h0 h
/-- What ReadQuestion tells. -/
def qreadC (s : ByteArray) (a : Int) : (ByteArray × Int × Int) × Int × Int :=
  if ((((((crAt s a).rname s).has s 4).number s.data.toList s.size 2).2.number s.data.toList s.size 2).2).e ≠ 0 then ((⟨#[]⟩, 0, 0), 0, ((((((crAt s a).rname s).has s 4).number s.data.toList s.size 2).2.number s.data.toList s.size 2).2).e)
  else (((nameAt s (crAt s a).at_ true).name, ((((((crAt s a).rname s).has s 4).number s.data.toList s.size 2).1 : Nat) : Int), (((((((crAt s a).rname s).has s 4).number s.data.toList s.size 2).2.number s.data.toList s.size 2).1 : Nat) : Int)), (((((((crAt s a).rname s).has s 4).number s.data.toList s.size 2).2.number s.data.toList s.size 2).2).at_ : Nat), 0)
theorem qreadC_eq (s : ByteArray) (a : Int) : qreadC s a = qreadN s.data.toList a := by
  have hl : s.data.toList.length = s.size := by rw [Array.length_toList]; rfl
  have herr : ∀ c2 : Cu, c2.e ≠ 0 → ((((c2.has s 4).number s.data.toList s.size 2).2.number s.data.toList s.size 2).2) = c2 := fun c2 h => by rw [Cu.has_err h, Cu.number_err h, Cu.number_err h]
  unfold qreadC qreadN
  rw [hl]
  by_cases h : a < 0 ∨ (s.size : Int) < a
  · have h1 : crAt s a = ⟨0, 2⟩ := by unfold crAt; rw [if_pos h]
    have h2 : (crAt s a).rname s = ⟨0, 2⟩ := by rw [h1]; exact Cu.rname_err (by decide)
    rw [if_pos h, h2, herr _ (by decide)]
    rfl
  · have h1 : crAt s a = ⟨a.toNat, 0⟩ := by unfold crAt; rw [if_neg h]
    rw [if_neg h]
    have hn : nameAt s ((a.toNat : Nat) : Int) true = uread s.data.toList true ⟨a.toNat, a.toNat, -1, 0, []⟩ := by
      unfold nameAt
      rw [if_neg (by omega), Int.toNat_natCast]
    have h3 : (nameAt s (crAt s a).at_ true).name = (nameAt s ((a.toNat : Nat) : Int) true).name := by rw [h1]
    rw [h3, hn]
    cases hu : uread s.data.toList true ⟨a.toNat, a.toNat, -1, 0, []⟩ with
    | done z =>
      have hf : 0 ≤ z.fin ∧ z.fin ≤ s.size := nameAt_fin (f := true) (a := a.toNat) (by omega) (hn.trans hu)
      have hc2 : (crAt s a).rname s = ⟨z.fin.toNat, 0⟩ := by
        rw [h1]
        unfold Cu.rname
        dsimp only
        rw [hn, hu]
        rfl
      rw [hc2]
      dsimp only [Ust.name]
      by_cases h4 : s.size - z.fin.toNat < 4
      · have h2 : (Cu.mk z.fin.toNat 0).has s 4 = ⟨z.fin.toNat, 8⟩ := by unfold Cu.has; rw [if_pos ⟨rfl, h4⟩]
        have h5 := herr ⟨z.fin.toNat, 8⟩ (show (8 : Int) ≠ 0 by decide)
        rw [Cu.has_err (show (Cu.mk z.fin.toNat 8).e ≠ 0 from (by decide : (8 : Int) ≠ 0))] at h5
        rw [h2, h5, if_pos (show (8 : Int) ≠ 0 by decide), if_pos h4]
      · have h2 : (Cu.mk z.fin.toNat 0).has s 4 = ⟨z.fin.toNat, 0⟩ := by unfold Cu.has; rw [if_neg (fun g => h4 g.2)]
        have h5 : (Cu.mk z.fin.toNat 0).number s.data.toList s.size 2 = (numAt s.data.toList z.fin.toNat 2, ⟨z.fin.toNat + 2, 0⟩) := Cu.number_ok rfl (by dsimp only; omega)
        have h6 : (Cu.mk (z.fin.toNat + 2) 0).number s.data.toList s.size 2 = (numAt s.data.toList (z.fin.toNat + 2) 2, ⟨z.fin.toNat + 2 + 2, 0⟩) := Cu.number_ok rfl (by dsimp only; omega)
        rw [h2, h5]
        dsimp only
        rw [h6]
        dsimp only
        rw [if_neg (show ¬ (0 : Int) ≠ 0 by simp), if_neg h4]
    | bad e =>
      have hne := uread_bad_ne hu
      have hc2 : (crAt s a).rname s = ⟨a.toNat, e⟩ := by
        rw [h1]
        unfold Cu.rname
        dsimp only
        rw [hn, hu]
        dsimp only [Ust.err]
        simp [hne]
      rw [hc2, herr ⟨a.toNat, e⟩ hne, if_pos hne]
    | on z =>
      rcases uread_cases s.data.toList true ⟨a.toNat, a.toNat, -1, 0, []⟩ with ⟨y, hy⟩ | ⟨e, hy⟩
      · rw [hu] at hy
        cases hy
      · rw [hu] at hy
        cases hy
end Go.Proofs.YtmbgejiahmhffaaGreat

/-
  LAYER 10: ReadQuestion, walked.
-/
namespace Go.Proofs.YtmbgejiahmhffaaGreat
set_option linter.unusedVariables false
set_option linter.unusedSimpArgs false
open Go.RowKit

/-- What ReadQuestion leaves. -/
def QrdPost (w : World) (s : ByteArray) (a : Int) (e : Ending) (w' : World) : Prop :=
  e = .returned (.tuple #[.agg #[.string (qreadC s a).1.1, .int .i64 (qreadC s a).1.2.1, .int .i64 (qreadC s a).1.2.2], .int .i64 (qreadC s a).2.1, .int .i64 (qreadC s a).2.2]) ∧ Fr (fun _ => False) w w'
/-- While it reads: the cursor, the question's cells, and what was turned. -/
structure QI (w : World) (s : ByteArray) (p r : Nat) (c : Cu) (T : TypeId) (cs : Array Value) (w' : World) : Prop where
  cr : CR w' p r s c
  bl : Blk w' w.heap.size T cs
  fr : Fr (fun _ => False) w w'
  hp : w.heap.size < p
  hr : w.heap.size < r
  sz : cs.size = 3
section
variable {w w1 w' : World} {s : ByteArray} {p r : Nat} {c d : Cu} {T : TypeId} {cs : Array Value}
theorem QI.has (h : QI w s p r c T cs w1) (h1 : CR w' p r s d) (hf : Fr (fun k => k = p ∨ k = r) w1 w') : QI w s p r d T cs w' :=
  have hp := h.hp
  have hr := h.hr
  ⟨h1, h.bl.fr hf (by omega), h.fr.step hf (fun k hk => .inr (by omega)), hp, hr, h.sz⟩
theorem QI.num (h : QI w s p r c T cs w1) {q : Prop} [Decidable q] {off : Nat} {v : Value} (h1 : CR w' p r s d) (hb : Blk w' w.heap.size T (if q then cs.setIfInBounds off v else cs)) (hf : Fr (fun k => k = p ∨ k = r ∨ k = w.heap.size) w1 w') :
    QI w s p r d T (if q then cs.setIfInBounds off v else cs) w' :=
  have hp := h.hp
  have hr := h.hr
  ⟨h1, hb, h.fr.step hf (fun k hk => .inr (by omega)), hp, hr, by have := h.sz; split <;> simp [this]⟩
end
set_option maxRecDepth 100000 in
set_option maxHeartbeats 8000000 in
theorem readq_any (s : ByteArray) (a : Int) (w : World) (hs : s.size ≤ 140737488351232) :
    Calls Tryz.prog 42 #[.string s, .int .i64 a] w (QrdPost w s a) := by
  have hu : Tryz.prog.underlying 40 = _ := Tryz.underlying40
  obtain ⟨c0, hc0⟩ : ∃ c0, c0 = crAt s a := ⟨_, rfl⟩
  obtain ⟨c1, hc1⟩ : ∃ c1, c1 = c0.rname s := ⟨_, rfl⟩
  obtain ⟨c2, hc2⟩ : ∃ c2, c2 = c1.has s 4 := ⟨_, rfl⟩
  obtain ⟨n3, hn3⟩ : ∃ n3, n3 = c2.number s.data.toList s.size 2 := ⟨_, rfl⟩
  obtain ⟨n4, hn4⟩ : ∃ n4, n4 = n3.2.number s.data.toList s.size 2 := ⟨_, rfl⟩
  obtain ⟨nm, hnm⟩ : ∃ nm, nm = (nameAt s c0.at_ true).name := ⟨_, rfl⟩
  have hq : qreadC s a = if n4.2.e ≠ 0 then ((⟨#[]⟩, 0, 0), 0, n4.2.e) else ((nm, ((n3.1 : Nat) : Int), ((n4.1 : Nat) : Int)), ((n4.2.at_ : Nat) : Int), 0) := by
    rw [hnm, hn4, hn3, hc2, hc1, hc0]
    rfl
  have hz : n4.2.e = 0 → c0.e = 0 ∧ c2.e = 0 ∧ n3.2.e = 0 := fun h => by
    have h3 : n3.2.e = 0 := Cu.number_e (by rw [← hn4]; exact h)
    have h2 : c2.e = 0 := Cu.number_e (by rw [← hn3]; exact h3)
    have h1 := (Cu.has_e (by rw [← hc2]; exact h2)).1
    exact ⟨Cu.rname_e (by rw [← hc1]; exact h1), h2, h3⟩
  have HQ := Lib.hid (And.intro hq hz)
  have HC := Lib.hid (And.intro hc0 (And.intro hc1 (And.intro hc2 (And.intro hn3 (And.intro hn4 hnm)))))
  clear hq hz hc0 hc1 hc2 hn3 hn4 hnm
  obtain ⟨W, hW⟩ : ∃ W, W = w.alloc (.cells #[.string ⟨#[]⟩, .int .i64 0, .int .i64 0] 40) := ⟨_, rfl⟩
  have hwf : Fr (fun _ => False) w W := by rw [hW]; exact (Fr.refl _ _).alloc _
  have hwb : Blk W w.heap.size 40 #[.string ⟨#[]⟩, .int .i64 0, .int .i64 0] := by rw [hW]; exact Blk.new _ _ _
  have hws : W.heap.size = w.heap.size + 1 := by rw [hW, World.size_alloc]
  have HW := Lib.hid hW
  have H0 := Lib.hid (And.intro hwf (And.intro hwb hws))
  clear hW hwf hwb hws
  go_enter Tryz.func42, Tryz.ntmps42
  go_upto_region 1 with fail
  rw [← HW.out]
  clear HW
  go_upto_region 2 with (first
    | (go_at_call 74
       (with_reducible refine (crat_any s a W hs).mono ?_)
       rintro e w1 ⟨p, r, rfl, g1, f1, z1, z2⟩
       rw [← HC.out.1] at g1
       have H1 := Lib.hid (⟨g1, H0.out.2.1.fr f1 id, H0.out.1.then f1, by have := H0.out.2.2; omega, by have := H0.out.2.2; omega, rfl⟩ : QI w s p r c0 40 #[.string ⟨#[]⟩, .int .i64 0, .int .i64 0] w1)
       clear g1 f1 z1 z2)
    | (go_at_call 75
       (with_reducible refine (crname_any p r s c0 w.heap.size 0 40 _ w1 H1.out.cr H1.out.bl (by decide) (Nat.ne_of_lt H1.out.hp) (Nat.ne_of_lt H1.out.hr)).mono ?_)
       rintro e w2 ⟨rfl, g1, g2, f1⟩
       rw [← HC.out.2.1] at g1
       have h2 := H1.out.num g1 g2 f1
       obtain ⟨cs2, hcs2⟩ : ∃ cs2, cs2 = (if c0.e = 0 then (#[.string ⟨#[]⟩, .int .i64 0, .int .i64 0] : Array Value).setIfInBounds 0 (.string (nameAt s c0.at_ true).name) else #[.string ⟨#[]⟩, .int .i64 0, .int .i64 0]) := ⟨_, rfl⟩
       rw [← hcs2] at h2
       have H2 := Lib.hid (And.intro h2 hcs2)
       clear g1 g2 f1 h2 hcs2)
    | (go_at_call 76
       (with_reducible refine (crhas4_any p r s c1 w2 H2.out.1.cr).mono ?_)
       rintro e w3 ⟨rfl, g1, f1⟩
       rw [← HC.out.2.2.1] at g1
       have H3 := Lib.hid (H2.out.1.has g1 f1)
       clear g1 f1)
    | (go_at_call 77
       (with_reducible refine (crnum2_any p r s c2 w.heap.size 1 40 _ w3 H3.out.cr H3.out.bl (by rw [H3.out.sz]; decide) (Nat.ne_of_lt H3.out.hp) (Nat.ne_of_lt H3.out.hr)).mono ?_)
       rintro e w4 ⟨rfl, g1, g2, f1⟩
       rw [← HC.out.2.2.2.1] at g1 g2
       have h4 := H3.out.num g1 g2 f1
       obtain ⟨cs4, hcs4⟩ : ∃ cs4, cs4 = (if c2.e = 0 then cs2.setIfInBounds 1 (.int .i64 (n3.1 : Nat)) else cs2) := ⟨_, rfl⟩
       rw [← hcs4] at h4
       have H4 := Lib.hid (And.intro h4 hcs4)
       clear g1 g2 f1 h4 hcs4)
    | (go_at_call 77
       (with_reducible refine (crnum2_any p r s n3.2 w.heap.size 2 40 _ w4 H4.out.1.cr H4.out.1.bl (by rw [H4.out.1.sz]; decide) (Nat.ne_of_lt H4.out.1.hp) (Nat.ne_of_lt H4.out.1.hr)).mono ?_)
       rintro e w5 ⟨rfl, g1, g2, f1⟩
       rw [← HC.out.2.2.2.2.1] at g1 g2
       have h5 := H4.out.1.num g1 g2 f1
       obtain ⟨cs5, hcs5⟩ : ∃ cs5, cs5 = (if n3.2.e = 0 then cs4.setIfInBounds 2 (.int .i64 (n4.1 : Nat)) else cs4) := ⟨_, rfl⟩
       rw [← hcs5] at h5
       have e2 : w5.cell? ⟨p, 2, none⟩ = some (.int .i64 n4.2.e) := h5.cr.blk.cell 2
       have H5 := Lib.hid (And.intro h5 hcs5)
       clear g1 g2 f1 h5 hcs5)
    | fail "no arm")
  by_cases he : n4.2.e = 0
  · have he' : (n4.2.e != 0) = false := by simp [he]
    obtain ⟨d0, d2, d3⟩ := HQ.out.2 he
    have hcs : cs5 = #[.string nm, .int .i64 (n3.1 : Nat), .int .i64 (n4.1 : Nat)] := by
      rw [H5.out.2, if_pos d3, H4.out.2, if_pos d2, H2.out.2, if_pos d0, HC.out.2.2.2.2.2]
      rfl
    have hq := HQ.out.1
    rw [if_neg (fun h => h he)] at hq
    have hb5 := H5.out.1.bl
    rw [hcs] at hb5
    have hcr := H5.out.1.cr
    have hb6 := hb5
    have hbs := (((hb6.set_ 0 (.string nm)).set_ 1 (.int .i64 (n3.1 : Nat))).set_ 2 (.int .i64 (n4.1 : Nat))).drew
    have fbs : Fr (· = w.heap.size) w5 (((w5.setCell ⟨w.heap.size, 0, none⟩ (.string nm)).setCell ⟨w.heap.size, 1, none⟩ (.int .i64 (n3.1 : Nat))).setCell ⟨w.heap.size, 2, none⟩ (.int .i64 (n4.1 : Nat))).drew :=
      ((((Fr.refl (· = w.heap.size) w5).setCell (p := ⟨w.heap.size, 0, none⟩) (fun _ => rfl) _).setCell (p := ⟨w.heap.size, 1, none⟩) (fun _ => rfl) _).setCell (p := ⟨w.heap.size, 2, none⟩) (fun _ => rfl) _).drew
    have hcs6 := hcr.fr fbs (Nat.ne_of_gt H5.out.1.hp) (Nat.ne_of_gt H5.out.1.hr)
    have HS := Lib.hid (And.intro hbs (And.intro fbs hcs6))
    have x0 := hb6.cell 0
    have x1 := hb6.cell 1
    have x2 := hb6.cell 2
    have z0 := hb6.frozen 0
    have z1 := hb6.frozen 1
    have z2 := hb6.frozen 2
    have x3 : w5.cell? ⟨p, 1, none⟩ = some (.pointer (some ⟨r, 0, none⟩)) := hcr.blk.cell 1
    simp only [List.getElem?_toArray, List.getElem?_cons_zero, List.getElem?_cons_succ] at x0 x1 x2
    have HY := Lib.hid (And.intro (hbs.cell 0) (And.intro (hbs.cell 1) (And.intro (hbs.cell 2) (hcs6.blk.cell 1))))
    clear hcs hb5 hb6 hbs fbs hcr hcs6 d0 d2 d3 he
    go_wp2_with fail
    go_region_held3 (fun w' => w'.cell? ⟨w.heap.size, 0, none⟩ = some (.string nm) ∧ w'.cell? ⟨w.heap.size, 1, none⟩ = some (.int .i64 (n3.1 : Nat)) ∧ w'.cell? ⟨w.heap.size, 2, none⟩ = some (.int .i64 (n4.1 : Nat)) ∧ w'.cell? ⟨p, 1, none⟩ = some (.pointer (some ⟨r, 0, none⟩)))
      (first | exact ⟨x0, x1, x2, x3⟩ | exact HY.out)
      (first
        | (go_at_call 78
           (with_reducible refine (at_any r ⟨s, n4.2.at_⟩ w5.drew (H5.out.1.cr.rd.fr (S := fun _ => False) ((Fr.refl _ w5).drew) id)).mono ?_)
           rintro e w' ⟨rfl, rfl⟩)
        | (go_at_call 78
           (with_reducible refine (at_any r ⟨s, n4.2.at_⟩ _ HS.out.2.2.rd).mono ?_)
           rintro e w' ⟨rfl, rfl⟩)
        | fail "no arm")
    go_wp2_with fail
    refine bodyPost_ret (results_cell_tmp2 Tryz.results42 HS.out.1 rfl rfl rfl hu rfl (by kernel_rfl)) rfl ?_
    exact ⟨by rw [hq]; rfl, H5.out.1.fr.step HS.out.2.1 (fun k hk => .inr (Nat.le_of_eq hk.symm))⟩
  · have he' : (n4.2.e != 0) = true := by simp [he]
    have hq := HQ.out.1
    rw [if_pos he] at hq
    go_wp2_with (first
      | (refine wpList_store_part rfl 40 _ _ rfl w.heap.size 0 (by rfl) [.string ⟨#[]⟩, .int .i64 0, .int .i64 0] (by rfl) 40 _ H5.out.1.bl (by kernel_rfl) (by simp [Value.oneCell']) (by rw [H5.out.1.sz]; decide) _ (lay_all (by rw [H5.out.1.sz]; rfl)) ?_
         intro w9 b9 f9
         have H9 := Lib.hid (And.intro b9 f9)
         clear b9 f9)
      | fail "no arm")
    refine bodyPost_ret (results_cell_tmp2 Tryz.results42 H9.out.1 rfl rfl rfl hu rfl (by kernel_rfl)) rfl ?_
    exact ⟨by rw [hq]; rfl, H5.out.1.fr.step H9.out.2 (fun k hk => .inr (Nat.le_of_eq hk.symm))⟩
end Go.Proofs.YtmbgejiahmhffaaGreat

/-
  LAYER 10: record.Read, walked.
-/
namespace Go.Proofs.YtmbgejiahmhffaaGreat
set_option linter.unusedVariables false
set_option linter.unusedSimpArgs false
open Go.RowKit

/-- The states of the cursor as Read goes. -/
def rd_rc2 (s : ByteArray) (a : Int) : Cu := ((crAt s a).rname s).has s 10
def rd_rn3 (s : ByteArray) (a : Int) : Nat × Cu := (rd_rc2 s a).number s.data.toList s.size 2
def rd_rn4 (s : ByteArray) (a : Int) : Nat × Cu := (rd_rn3 s a).2.number s.data.toList s.size 2
def rd_rn5 (s : ByteArray) (a : Int) : Nat × Cu := (rd_rn4 s a).2.number s.data.toList s.size 4
def rd_rn6 (s : ByteArray) (a : Int) : Nat × Cu := (rd_rn5 s a).2.number s.data.toList s.size 2
def rd_rlen (s : ByteArray) (a : Int) : Nat := if (rd_rn5 s a).2.e = 0 then (rd_rn6 s a).1 else 0
def rd_rc7 (s : ByteArray) (a : Int) : Cu := (rd_rn6 s a).2.has s (rd_rlen s a)
/-- What Read tells. -/
def rreadC (s : ByteArray) (a : Int) : Rcd × Int × Int :=
  if (rd_rc7 s a).e ≠ 0 then (Rcd.zero, 0, (rd_rc7 s a).e)
  else if (dreadC s ((rd_rc7 s a).at_ : Nat) (((rd_rc7 s a).at_ : Nat) + ((rd_rn6 s a).1 : Nat)) ((rd_rn3 s a).1 : Nat)).2 ≠ 0 then (Rcd.zero, 0, (dreadC s ((rd_rc7 s a).at_ : Nat) (((rd_rc7 s a).at_ : Nat) + ((rd_rn6 s a).1 : Nat)) ((rd_rn3 s a).1 : Nat)).2)
  else (⟨(nameAt s (crAt s a).at_ true).name, ((rd_rn3 s a).1 : Nat), ((rd_rn4 s a).1 : Nat), (rd_rn5 s a).1, (dreadC s ((rd_rc7 s a).at_ : Nat) (((rd_rc7 s a).at_ : Nat) + ((rd_rn6 s a).1 : Nat)) ((rd_rn3 s a).1 : Nat)).1⟩, ((rd_rc7 s a).at_ : Nat) + ((rd_rn6 s a).1 : Nat), 0)
def RreadPost (w0 : World) (R : Rcd × Int × Int) (e : Ending) (w' : World) : Prop :=
  ∃ A cap, e = .returned (.tuple #[.agg (R.1.cells (.slice A R.1.d.texts.length cap)), .int .i64 R.2.1, .int .i64 R.2.2]) ∧ Strs w' A R.1.d.texts ∧ Fr (fun _ => False) w0 w' ∧ ∀ k, rowOf A k → w0.heap.size ≤ k ∧ k < w'.heap.size
/-- While it reads: the cursor, the record's cells, the two numbers, and what was turned. -/
structure RI (w : World) (s : ByteArray) (p r : Nat) (c : Cu) (cs ct cl : Array Value) (w' : World) : Prop where
  cr : CR w' p r s c
  bl : Blk w' w.heap.size 55 cs
  bt : Blk w' (w.heap.size + 1) 3 ct
  bn : Blk w' (w.heap.size + 1 + 1) 3 cl
  fr : Fr (fun _ => False) w w'
  hp : w.heap.size + 1 + 1 < p
  hr : w.heap.size + 1 + 1 < r
  sz : cs.size = 16
section
variable {w w1 w' : World} {s : ByteArray} {p r : Nat} {c d : Cu} {cs ct cl : Array Value}
theorem RI.has (h : RI w s p r c cs ct cl w1) (h1 : CR w' p r s d) (hf : Fr (fun k => k = p ∨ k = r) w1 w') : RI w s p r d cs ct cl w' :=
  have hp := h.hp
  have hr := h.hr
  ⟨h1, h.bl.fr hf (by omega), h.bt.fr hf (by omega), h.bn.fr hf (by omega), h.fr.step hf (fun k hk => .inr (by omega)), hp, hr, h.sz⟩
theorem RI.numr (h : RI w s p r c cs ct cl w1) {q : Prop} [Decidable q] {off : Nat} {v : Value} (h1 : CR w' p r s d) (hb : Blk w' w.heap.size 55 (if q then cs.setIfInBounds off v else cs)) (hf : Fr (fun k => k = p ∨ k = r ∨ k = w.heap.size) w1 w') :
    RI w s p r d (if q then cs.setIfInBounds off v else cs) ct cl w' :=
  have hp := h.hp
  have hr := h.hr
  ⟨h1, hb, h.bt.fr hf (by omega), h.bn.fr hf (by omega), h.fr.step hf (fun k hk => .inr (by omega)), hp, hr, by have := h.sz; split <;> simp [this]⟩
theorem RI.numt (h : RI w s p r c cs ct cl w1) {dt : Array Value} (h1 : CR w' p r s d) (hb : Blk w' (w.heap.size + 1) 3 dt) (hf : Fr (fun k => k = p ∨ k = r ∨ k = w.heap.size + 1) w1 w') :
    RI w s p r d cs dt cl w' :=
  have hp := h.hp
  have hr := h.hr
  ⟨h1, h.bl.fr hf (by omega), hb, h.bn.fr hf (by omega), h.fr.step hf (fun k hk => .inr (by omega)), hp, hr, h.sz⟩
theorem RI.numl (h : RI w s p r c cs ct cl w1) {dl : Array Value} (h1 : CR w' p r s d) (hb : Blk w' (w.heap.size + 1 + 1) 3 dl) (hf : Fr (fun k => k = p ∨ k = r ∨ k = w.heap.size + 1 + 1) w1 w') :
    RI w s p r d cs ct dl w' :=
  have hp := h.hp
  have hr := h.hr
  ⟨h1, h.bl.fr hf (by omega), h.bt.fr hf (by omega), hb, h.fr.step hf (fun k hk => .inr (by omega)), hp, hr, h.sz⟩
theorem RI.fr0 (h : RI w s p r c cs ct cl w1) (hf : Fr (fun _ => False) w1 w') : RI w s p r c cs ct cl w' :=
  ⟨h.cr.fr0 hf, h.bl.fr hf id, h.bt.fr hf id, h.bn.fr hf id, h.fr.then hf, h.hp, h.hr, h.sz⟩
end
theorem blk_seta {w : World} {q : Nat} {t : TypeId} {a0 a1 a2 a3 a4 a5 a6 a7 a8 a9 a10 a11 a12 a13 a14 a15 u0 u1 u2 u3 u4 u5 u6 u7 u8 u9 u10 u11 : Value} (h : Blk w q t #[a0, a1, a2, a3, a4, a5, a6, a7, a8, a9, a10, a11, a12, a13, a14, a15]) : Blk ((((((((((((w.setCell ⟨q, 4, none⟩ u0).setCell ⟨q, 5, none⟩ u1).setCell ⟨q, 6, none⟩ u2).setCell ⟨q, 7, none⟩ u3).setCell ⟨q, 8, none⟩ u4).setCell ⟨q, 9, none⟩ u5).setCell ⟨q, 10, none⟩ u6).setCell ⟨q, 11, none⟩ u7).setCell ⟨q, 12, none⟩ u8).setCell ⟨q, 13, none⟩ u9).setCell ⟨q, 14, none⟩ u10).setCell ⟨q, 15, none⟩ u11) q t #[a0, a1, a2, a3, u0, u1, u2, u3, u4, u5, u6, u7, u8, u9, u10, u11] := by
  have h0 : Blk _ q t #[a0, a1, a2, a3, u0, a5, a6, a7, a8, a9, a10, a11, a12, a13, a14, a15] := h.set_ 4 u0
  have h1 : Blk _ q t #[a0, a1, a2, a3, u0, u1, a6, a7, a8, a9, a10, a11, a12, a13, a14, a15] := h0.set_ 5 u1
  have h2 : Blk _ q t #[a0, a1, a2, a3, u0, u1, u2, a7, a8, a9, a10, a11, a12, a13, a14, a15] := h1.set_ 6 u2
  have h3 : Blk _ q t #[a0, a1, a2, a3, u0, u1, u2, u3, a8, a9, a10, a11, a12, a13, a14, a15] := h2.set_ 7 u3
  have h4 : Blk _ q t #[a0, a1, a2, a3, u0, u1, u2, u3, u4, a9, a10, a11, a12, a13, a14, a15] := h3.set_ 8 u4
  have h5 : Blk _ q t #[a0, a1, a2, a3, u0, u1, u2, u3, u4, u5, a10, a11, a12, a13, a14, a15] := h4.set_ 9 u5
  have h6 : Blk _ q t #[a0, a1, a2, a3, u0, u1, u2, u3, u4, u5, u6, a11, a12, a13, a14, a15] := h5.set_ 10 u6
  have h7 : Blk _ q t #[a0, a1, a2, a3, u0, u1, u2, u3, u4, u5, u6, u7, a12, a13, a14, a15] := h6.set_ 11 u7
  have h8 : Blk _ q t #[a0, a1, a2, a3, u0, u1, u2, u3, u4, u5, u6, u7, u8, a13, a14, a15] := h7.set_ 12 u8
  have h9 : Blk _ q t #[a0, a1, a2, a3, u0, u1, u2, u3, u4, u5, u6, u7, u8, u9, a14, a15] := h8.set_ 13 u9
  have h10 : Blk _ q t #[a0, a1, a2, a3, u0, u1, u2, u3, u4, u5, u6, u7, u8, u9, u10, a15] := h9.set_ 14 u10
  have h11 : Blk _ q t #[a0, a1, a2, a3, u0, u1, u2, u3, u4, u5, u6, u7, u8, u9, u10, u11] := h10.set_ 15 u11
  exact h11
theorem fr_seta {w : World} {q : Nat} {u0 u1 u2 u3 u4 u5 u6 u7 u8 u9 u10 u11 : Value} : Fr (· = q) w ((((((((((((w.setCell ⟨q, 4, none⟩ u0).setCell ⟨q, 5, none⟩ u1).setCell ⟨q, 6, none⟩ u2).setCell ⟨q, 7, none⟩ u3).setCell ⟨q, 8, none⟩ u4).setCell ⟨q, 9, none⟩ u5).setCell ⟨q, 10, none⟩ u6).setCell ⟨q, 11, none⟩ u7).setCell ⟨q, 12, none⟩ u8).setCell ⟨q, 13, none⟩ u9).setCell ⟨q, 14, none⟩ u10).setCell ⟨q, 15, none⟩ u11) := (((((((((((((Fr.refl (· = q) w).setCell (p := ⟨q, 4, none⟩) (fun _ => rfl) u0).setCell (p := ⟨q, 5, none⟩) (fun _ => rfl) u1).setCell (p := ⟨q, 6, none⟩) (fun _ => rfl) u2).setCell (p := ⟨q, 7, none⟩) (fun _ => rfl) u3).setCell (p := ⟨q, 8, none⟩) (fun _ => rfl) u4).setCell (p := ⟨q, 9, none⟩) (fun _ => rfl) u5).setCell (p := ⟨q, 10, none⟩) (fun _ => rfl) u6).setCell (p := ⟨q, 11, none⟩) (fun _ => rfl) u7).setCell (p := ⟨q, 12, none⟩) (fun _ => rfl) u8).setCell (p := ⟨q, 13, none⟩) (fun _ => rfl) u9).setCell (p := ⟨q, 14, none⟩) (fun _ => rfl) u10).setCell (p := ⟨q, 15, none⟩) (fun _ => rfl) u11)
/-- The zero record's cells. -/
def zrec : List Value := [.string ⟨#[]⟩, .int .i64 0, .int .i64 0, .int .u32 0, .bool false, .int .u64 0, .int .u64 0, .string ⟨#[]⟩, .string ⟨#[]⟩, .int .u32 0, .int .u32 0, .int .u32 0, .int .u32 0, .int .u32 0, .slice none 0 0, .string ⟨#[]⟩]
theorem rread_zero (n m : Int) (w0 w' : World) (h : Fr (fun _ => False) w0 w') : RreadPost w0 (Rcd.zero, n, m) (.returned (.tuple #[.agg zrec.toArray, .int .i64 n, .int .i64 m])) w' :=
  ⟨none, 0, rfl, Strs.nil _ _, h, fun k hk => by obtain ⟨o, h1, _⟩ := hk; cases h1⟩
set_option maxRecDepth 100000 in
set_option maxHeartbeats 8000000 in
theorem rread_any (s : ByteArray) (a : Int) (w : World) (hs : s.size ≤ 999999999) :
    Calls Tryz.prog 43 #[.string s, .int .i64 a] w (RreadPost w (rreadC s a)) := by
  have hu : Tryz.prog.underlying 55 = _ := Tryz.underlying55
  obtain ⟨c0, hc0⟩ : ∃ c0, c0 = crAt s a := ⟨_, rfl⟩
  obtain ⟨c1, hc1⟩ : ∃ c1, c1 = c0.rname s := ⟨_, rfl⟩
  obtain ⟨c2, hc2⟩ : ∃ c2, c2 = c1.has s 10 := ⟨_, rfl⟩
  obtain ⟨n3, hn3⟩ : ∃ n3, n3 = c2.number s.data.toList s.size 2 := ⟨_, rfl⟩
  obtain ⟨n4, hn4⟩ : ∃ n4, n4 = n3.2.number s.data.toList s.size 2 := ⟨_, rfl⟩
  obtain ⟨n5, hn5⟩ : ∃ n5, n5 = n4.2.number s.data.toList s.size 4 := ⟨_, rfl⟩
  obtain ⟨n6, hn6⟩ : ∃ n6, n6 = n5.2.number s.data.toList s.size 2 := ⟨_, rfl⟩
  obtain ⟨ln, hln⟩ : ∃ ln, ln = (if n5.2.e = 0 then n6.1 else 0) := ⟨_, rfl⟩
  obtain ⟨c7, hc7⟩ : ∃ c7, c7 = n6.2.has s ln := ⟨_, rfl⟩
  obtain ⟨nm, hnm⟩ : ∃ nm, nm = (nameAt s c0.at_ true).name := ⟨_, rfl⟩
  obtain ⟨en, hen⟩ : ∃ en : Int, en = ((c7.at_ : Nat) : Int) + ((n6.1 : Nat) : Int) := ⟨_, rfl⟩
  obtain ⟨D, hD⟩ : ∃ D, D = dreadC s ((c7.at_ : Nat) : Int) en ((n3.1 : Nat) : Int) := ⟨_, rfl⟩
  have hq : rreadC s a = if c7.e ≠ 0 then (Rcd.zero, 0, c7.e)
      else if D.2 ≠ 0 then (Rcd.zero, 0, D.2)
      else (⟨nm, ((n3.1 : Nat) : Int), ((n4.1 : Nat) : Int), n5.1, D.1⟩, en, 0) := by
    rw [hnm, hD, hen, hc7, hln, hn6, hn5, hn4, hn3, hc2, hc1, hc0]
    rfl
  have hz : c7.e = 0 → c0.e = 0 ∧ c2.e = 0 ∧ n3.2.e = 0 ∧ n4.2.e = 0 ∧ n5.2.e = 0 ∧ c7 = n6.2 := fun h => by
    have h7 := Cu.has_e (by rw [← hc7]; exact h)
    have h5 : n5.2.e = 0 := Cu.number_e (by rw [← hn6]; exact h7.1)
    have h4 : n4.2.e = 0 := Cu.number_e (by rw [← hn5]; exact h5)
    have h3 : n3.2.e = 0 := Cu.number_e (by rw [← hn4]; exact h4)
    have h2 : c2.e = 0 := Cu.number_e (by rw [← hn3]; exact h3)
    have h1 := (Cu.has_e (by rw [← hc2]; exact h2)).1
    exact ⟨Cu.rname_e (by rw [← hc1]; exact h1), h2, h3, h4, h5, hc7.trans h7.2.2⟩
  have hlt : n3.1 < 4294967296 ∧ n4.1 < 4294967296 ∧ n5.1 < 4294967296 ∧ n6.1 < 4294967296 :=
    ⟨by rw [hn3]; exact crnum_lt s _ (by decide), by rw [hn4]; exact crnum_lt s _ (by decide), by rw [hn5]; exact crnum_lt s _ (by decide), by rw [hn6]; exact crnum_lt s _ (by decide)⟩
  have HQ := Lib.hid (And.intro hq hz)
  have HL := Lib.hid hlt
  have HN := Lib.hid hln
  have HD := Lib.hid (And.intro hD hen)
  have HC := Lib.hid (And.intro hc0 (And.intro hc1 (And.intro hc2 (And.intro hn3 (And.intro hn4 (And.intro hn5 (And.intro hn6 (And.intro hc7 hnm))))))))
  clear hq hz hc0 hc1 hc2 hn3 hn4 hn5 hn6 hc7 hnm hln hlt hD hen
  obtain ⟨W, hW⟩ : ∃ W, W = ((w.alloc (.cells #[.string ⟨#[]⟩, .int .i64 0, .int .i64 0, .int .u32 0, .bool false, .int .u64 0, .int .u64 0, .string ⟨#[]⟩, .string ⟨#[]⟩, .int .u32 0, .int .u32 0, .int .u32 0, .int .u32 0, .int .u32 0, .slice none 0 0, .string ⟨#[]⟩] 55)).alloc (.cells #[.int .i64 0] 3)).alloc (.cells #[.int .i64 0] 3) := ⟨_, rfl⟩
  have hwf : Fr (fun _ => False) w W := by rw [hW]; exact (((Fr.refl _ _).alloc _).alloc _).alloc _
  have hwb : Blk W w.heap.size 55 zrec.toArray := by rw [hW]; exact ((Blk.new w 55 zrec.toArray).alloc _).alloc _
  have hwt : Blk W (w.heap.size + 1) 3 #[.int .i64 0] := by
    rw [hW]
    have := (Blk.new (w.alloc (.cells zrec.toArray 55)) 3 #[.int .i64 0]).alloc (.cells #[.int .i64 0] 3)
    rwa [World.size_alloc] at this
  have hwn : Blk W (w.heap.size + 1 + 1) 3 #[.int .i64 0] := by
    rw [hW]
    have := Blk.new ((w.alloc (.cells zrec.toArray 55)).alloc (.cells #[.int .i64 0] 3)) 3 #[.int .i64 0]
    rwa [World.size_alloc, World.size_alloc] at this
  have hws : W.heap.size = w.heap.size + 1 + 1 + 1 := by rw [hW, World.size_alloc, World.size_alloc, World.size_alloc]
  have HW := Lib.hid hW
  have H0 := Lib.hid (And.intro hwf (And.intro hwb (And.intro hwt (And.intro hwn hws))))
  clear hW hwf hwb hwt hwn hws
  go_enter Tryz.func43, Tryz.ntmps43
  go_upto_region 2 with fail
  rw [← HW.out]
  clear HW
  go_upto_region 3 with (first
    | (go_at_call 74
       (with_reducible refine (crat_any s a W (Nat.le_trans hs (by decide))).mono ?_)
       rintro e w1 ⟨p, r, rfl, g1, f1, z1, z2⟩
       rw [← HC.out.1] at g1
       have H1 := Lib.hid (⟨g1, H0.out.2.1.fr f1 id, H0.out.2.2.1.fr f1 id, H0.out.2.2.2.1.fr f1 id, H0.out.1.then f1, by have := H0.out.2.2.2.2; omega, by have := H0.out.2.2.2.2; omega, rfl⟩ : RI w s p r c0 zrec.toArray #[.int .i64 0] #[.int .i64 0] w1)
       clear g1 f1 z1 z2)
    | (go_at_call 75
       (with_reducible refine (crname_any p r s c0 w.heap.size 0 55 _ w1 H1.out.cr H1.out.bl (by decide) (by have := H1.out.hp; omega) (by have := H1.out.hr; omega)).mono ?_)
       rintro e w2 ⟨rfl, g1, g2, f1⟩
       rw [← HC.out.2.1] at g1
       have h2 := H1.out.numr g1 g2 f1
       obtain ⟨cs2, hcs2⟩ : ∃ cs2, cs2 = (if c0.e = 0 then zrec.toArray.setIfInBounds 0 (.string (nameAt s c0.at_ true).name) else zrec.toArray) := ⟨_, rfl⟩
       rw [← hcs2] at h2
       have H2 := Lib.hid (And.intro h2 hcs2)
       clear g1 g2 f1 h2 hcs2)
    | (go_at_call 76
       (with_reducible refine (crhas10_any p r s c1 w2 H2.out.1.cr).mono ?_)
       rintro e w3 ⟨rfl, g1, f1⟩
       rw [← HC.out.2.2.1] at g1
       have H3 := Lib.hid (H2.out.1.has g1 f1)
       clear g1 f1)
    | (go_at_call 77
       (with_reducible refine (crnum2_any p r s c2 w.heap.size 1 55 _ w3 H3.out.cr H3.out.bl (by rw [H3.out.sz]; decide) (by have := H3.out.hp; omega) (by have := H3.out.hr; omega)).mono ?_)
       rintro e w4 ⟨rfl, g1, g2, f1⟩
       rw [← HC.out.2.2.2.1] at g1 g2
       have h4 := H3.out.numr g1 g2 f1
       obtain ⟨cs4, hcs4⟩ : ∃ cs4, cs4 = (if c2.e = 0 then cs2.setIfInBounds 1 (.int .i64 (n3.1 : Nat)) else cs2) := ⟨_, rfl⟩
       rw [← hcs4] at h4
       have H4 := Lib.hid (And.intro h4 hcs4)
       clear g1 g2 f1 h4 hcs4)
    | (go_at_call 77
       (with_reducible refine (crnum2_any p r s n3.2 w.heap.size 2 55 _ w4 H4.out.1.cr H4.out.1.bl (by rw [H4.out.1.sz]; decide) (by have := H4.out.1.hp; omega) (by have := H4.out.1.hr; omega)).mono ?_)
       rintro e w5 ⟨rfl, g1, g2, f1⟩
       rw [← HC.out.2.2.2.2.1] at g1 g2
       have h5 := H4.out.1.numr g1 g2 f1
       obtain ⟨cs5, hcs5⟩ : ∃ cs5, cs5 = (if n3.2.e = 0 then cs4.setIfInBounds 2 (.int .i64 (n4.1 : Nat)) else cs4) := ⟨_, rfl⟩
       rw [← hcs5] at h5
       have H5 := Lib.hid (And.intro h5 hcs5)
       clear g1 g2 f1 h5 hcs5)
    | (go_at_call 77
       (with_reducible refine (crnum4_any p r s n4.2 (w.heap.size + 1) 0 3 #[.int .i64 0] w5 H5.out.1.cr H5.out.1.bt (by decide) (by have := H5.out.1.hp; omega) (by have := H5.out.1.hr; omega)).mono ?_)
       rintro e w6 ⟨rfl, g1, g2, f1⟩
       rw [← HC.out.2.2.2.2.2.1] at g1 g2
       have H6 := Lib.hid (H5.out.1.numt g1 g2 f1)
       clear g1 g2 f1)
    | (go_at_call 77
       (with_reducible refine (crnum2_any p r s n5.2 (w.heap.size + 1 + 1) 0 3 #[.int .i64 0] w6 H6.out.cr H6.out.bn (by decide) (by have := H6.out.hp; omega) (by have := H6.out.hr; omega)).mono ?_)
       rintro e w7 ⟨rfl, g1, g2, f1⟩
       rw [← HC.out.2.2.2.2.2.2.1] at g1 g2
       rw [show (if n5.2.e = 0 then (#[.int .i64 0] : Array Value).setIfInBounds 0 (.int .i64 (n6.1 : Nat)) else #[.int .i64 0]) = #[.int .i64 (ln : Nat)] by rw [HN.out]; split <;> rfl] at g2
       have H7 := Lib.hid (H6.out.numl g1 g2 f1)
       have y0 : w7.cell? ⟨w.heap.size + 1 + 1, 0, none⟩ = some (.int .i64 (ln : Nat)) := g2.cell 0
       clear g1 g2 f1)
    | fail "no arm")
  go_upto_region 4 with (first
    | (go_at_call 76
       (with_reducible refine (crhas_any p r s n6.2 ln w7 H7.out.cr).mono ?_)
       rintro e w8 ⟨rfl, g1, f1⟩
       rw [← HC.out.2.2.2.2.2.2.2.1] at g1
       have e2 : w8.cell? ⟨p, 2, none⟩ = some (.int .i64 c7.e) := g1.blk.cell 2
       have H8 := Lib.hid (H7.out.has g1 f1)
       clear g1 f1 y0)
    | fail "no arm")
  by_cases he : c7.e = 0
  rotate_left
  · have he' : (c7.e != 0) = true := by simp [he]
    have hq := HQ.out.1
    rw [if_pos he] at hq
    go_wp2_with (first
      | (refine wpList_store_part rfl 55 _ _ rfl w.heap.size 0 (by rfl) zrec (by rfl) 55 _ H8.out.bl (by kernel_rfl) (by simp [zrec, Value.oneCell']) (by rw [H8.out.sz]; decide) _ (lay_all (by rw [H8.out.sz]; rfl)) ?_
         intro w9 b9 f9
         have H9 := Lib.hid (And.intro b9 f9)
         clear b9 f9)
      | fail "no arm")
    refine bodyPost_ret (results_cell_tmp2 Tryz.results43 H9.out.1 rfl rfl rfl hu rfl (by kernel_rfl)) rfl ?_
    rw [hq]
    exact rread_zero _ _ _ _ (H8.out.fr.step H9.out.2 (fun k hk => .inr (Nat.le_of_eq hk.symm)))
  have he' : (c7.e != 0) = false := by simp [he]
  obtain ⟨d0, d2, d3, d4, d5, d6⟩ := HQ.out.2 he
  have hcs : cs5 = #[.string nm, .int .i64 (n3.1 : Nat), .int .i64 (n4.1 : Nat), .int .u32 0, .bool false, .int .u64 0, .int .u64 0, .string ⟨#[]⟩, .string ⟨#[]⟩, .int .u32 0, .int .u32 0, .int .u32 0, .int .u32 0, .int .u32 0, .slice none 0 0, .string ⟨#[]⟩] := by
    rw [H5.out.2, if_pos d3, H4.out.2, if_pos d2, H2.out.2, if_pos d0, HC.out.2.2.2.2.2.2.2.2]
    rfl
  have hln : ln = n6.1 := by rw [HN.out, if_pos d5]
  have hq := HQ.out.1
  rw [if_neg (fun h => h he)] at hq
  have hb8 := H8.out.bl
  rw [hcs] at hb8
  have HB := Lib.hid hb8
  have x3 := hb8.cell 3
  have z3 := hb8.frozen 3
  have y1 := H8.out.bt.cell 0
  rw [if_pos d4] at y1
  simp only [List.getElem?_toArray, List.getElem?_cons_zero, List.getElem?_cons_succ] at x3
  have y1' : w8.cell? ⟨w.heap.size + 1, 0, none⟩ = some (.int .i64 (n5.1 : Nat)) := y1
  have hl5 : n5.1 < 4294967296 := HL.out.2.2.1
  have hl6 : n6.1 < 4294967296 := HL.out.2.2.2
  have hwr : IntKind.u32.wrap ((n5.1 : Nat) : Int) = ((n5.1 : Nat) : Int) := IntWalk.u32_in _ (by omega)
  have HQ1 := Lib.hid hq
  have HN1 := Lib.hid hln
  clear hb8 hcs d0 d2 d3 d4 d5 d6 y1 hq hln
  go_upto_region 7 with fail
  have h9 : RI w s p r c7 #[.string nm, .int .i64 (n3.1 : Nat), .int .i64 (n4.1 : Nat), .int .u32 (n5.1 : Nat), .bool false, .int .u64 0, .int .u64 0, .string ⟨#[]⟩, .string ⟨#[]⟩, .int .u32 0, .int .u32 0, .int .u32 0, .int .u32 0, .int .u32 0, .slice none 0 0, .string ⟨#[]⟩] (if n4.2.e = 0 then (#[.int .i64 0] : Array Value).setIfInBounds 0 (.int .i64 (n5.1 : Nat)) else #[.int .i64 0]) #[.int .i64 (ln : Nat)] (w8.setCell ⟨w.heap.size, 3, none⟩ (.int .u32 (n5.1 : Nat))) := by
    have f9 : Fr (· = w.heap.size) w8 (w8.setCell ⟨w.heap.size, 3, none⟩ (.int .u32 (n5.1 : Nat))) := (Fr.refl (· = w.heap.size) w8).setCell (p := ⟨w.heap.size, 3, none⟩) (fun _ => rfl) _
    have hp := H8.out.hp
    have hr := H8.out.hr
    exact ⟨H8.out.cr.fr f9 (by omega) (by omega), HB.out.set_ 3 _, H8.out.bt.fr f9 (by omega), H8.out.bn.fr f9 (by omega), H8.out.fr.step f9 (fun k hk => .inr (Nat.le_of_eq hk.symm)), hp, hr, rfl⟩
  generalize (if n4.2.e = 0 then (#[.int .i64 0] : Array Value).setIfInBounds 0 (.int .i64 (n5.1 : Nat)) else #[.int .i64 0]) = ct at *
  generalize w8.setCell ⟨w.heap.size, 3, none⟩ (.int .u32 (n5.1 : Nat)) = w9 at *
  have x1 : w9.cell? ⟨p, 1, none⟩ = some (.pointer (some ⟨r, 0, none⟩)) := h9.cr.blk.cell 1
  have x2 : w9.cell? ⟨w.heap.size + 1 + 1, 0, none⟩ = some (.int .i64 (ln : Nat)) := h9.bn.cell 0
  have H9 := Lib.hid h9
  have hat : c7.at_ ≤ s.size := h9.cr.rd.2.1
  have hll : ln < 4294967296 := by rw [HN1.out]; exact hl6
  have hadd : IntKind.i64.wrap (((c7.at_ : Nat) : Int) + ((ln : Nat) : Int)) = ((c7.at_ : Nat) : Int) + ((ln : Nat) : Int) := IntWalk.i64_in _ (by omega)
  clear h9 x3 z3 y1' e2
  go_region_held3 (fun w' => w'.cell? ⟨p, 1, none⟩ = some (.pointer (some ⟨r, 0, none⟩)) ∧ w'.cell? ⟨w.heap.size + 1 + 1, 0, none⟩ = some (.int .i64 (ln : Nat)))
    (exact ⟨x1, x2⟩)
    (first
      | (go_at_call 78
         (with_reducible refine (at_any r ⟨s, c7.at_⟩ w9.drew (H9.out.cr.rd.fr (S := fun _ => False) ((Fr.refl _ w9).drew) id)).mono ?_)
         rintro e w' ⟨rfl, rfl⟩)
      | fail "no arm")
  have hE : ((c7.at_ : Nat) : Int) + ((ln : Nat) : Int) = en := by rw [HD.out.2, HN1.out]
  rw [hE]
  have h10 := H9.out.fr0 ((Fr.refl (fun _ => False) w9).drew)
  clear x1 x2 H9 hE hadd
  generalize w9.drew = w10 at *
  have x1 : w10.cell? ⟨w.heap.size, 1, none⟩ = some (.int .i64 (n3.1 : Nat)) := h10.bl.cell 1
  have x2 : w10.cell? ⟨p, 1, none⟩ = some (.pointer (some ⟨r, 0, none⟩)) := h10.cr.blk.cell 1
  have H10 := Lib.hid h10
  have hrd := read_any s ((c7.at_ : Nat) : Int) en ((n3.1 : Nat) : Int) w10.drew hs (by have := HL.out.1; omega)
  rw [← HD.out.1] at hrd
  have HR := Lib.hid hrd
  clear h10 hrd
  have v1 : w10.drew.cell? ⟨w.heap.size, 1, none⟩ = some (.int .i64 (n3.1 : Nat)) := x1
  have v2 : w10.drew.cell? ⟨p, 1, none⟩ = some (.pointer (some ⟨r, 0, none⟩)) := x2
  go_wp2_with fail
  go_region_held3 (fun w' => w'.cell? ⟨w.heap.size, 1, none⟩ = some (.int .i64 (n3.1 : Nat)) ∧ w'.cell? ⟨p, 1, none⟩ = some (.pointer (some ⟨r, 0, none⟩)))
    (first | with_reducible exact ⟨x1, x2⟩ | with_reducible exact ⟨v1, v2⟩ | with_reducible exact ⟨k1, k2⟩ | with_reducible exact HS.out.2.2.2)
    (first
      | (go_at_call 78
         (with_reducible refine (at_any r ⟨s, c7.at_⟩ w10.drew (H10.out.cr.rd.fr (S := fun _ => False) ((Fr.refl _ w10).drew) id)).mono ?_)
         rintro e w' ⟨rfl, rfl⟩)
      | (go_at_call 79
         (with_reducible refine HR.out.mono ?_)
         rintro e w11 ⟨A, cap, rfl, g1, g2, g3⟩
         unfold Dt.cells
         have h11 := H10.out.fr0 g2.fromD
         have k1 : w11.cell? ⟨w.heap.size, 1, none⟩ = some (.int .i64 (n3.1 : Nat)) := h11.bl.cell 1
         have k2 : w11.cell? ⟨p, 1, none⟩ = some (.pointer (some ⟨r, 0, none⟩)) := h11.cr.blk.cell 1
         have hb11 := h11.bl
         have y4 := hb11.cell 4
         have z4 := hb11.frozen 4
         have y5 := hb11.cell 5
         have z5 := hb11.frozen 5
         have y6 := hb11.cell 6
         have z6 := hb11.frozen 6
         have y7 := hb11.cell 7
         have z7 := hb11.frozen 7
         have y8 := hb11.cell 8
         have z8 := hb11.frozen 8
         have y9 := hb11.cell 9
         have z9 := hb11.frozen 9
         have y10 := hb11.cell 10
         have z10 := hb11.frozen 10
         have y11 := hb11.cell 11
         have z11 := hb11.frozen 11
         have y12 := hb11.cell 12
         have z12 := hb11.frozen 12
         have y13 := hb11.cell 13
         have z13 := hb11.frozen 13
         have y14 := hb11.cell 14
         have z14 := hb11.frozen 14
         have y15 := hb11.cell 15
         have z15 := hb11.frozen 15
         simp only [List.getElem?_toArray, List.getElem?_cons_zero, List.getElem?_cons_succ] at y4 y5 y6 y7 y8 y9 y10 y11 y12 y13 y14 y15
         have hbs := (blk_seta (u0 := .bool D.1.six) (u1 := .int .u64 D.1.hi) (u2 := .int .u64 D.1.lo) (u3 := .string D.1.name) (u4 := .string D.1.mail) (u5 := .int .u32 D.1.n0) (u6 := .int .u32 D.1.n1) (u7 := .int .u32 D.1.n2) (u8 := .int .u32 D.1.n3) (u9 := .int .u32 D.1.n4) (u10 := .slice A D.1.texts.length cap) (u11 := .string D.1.raw) hb11)
         have hfs := (fr_seta (w := w11) (q := w.heap.size) (u0 := .bool D.1.six) (u1 := .int .u64 D.1.hi) (u2 := .int .u64 D.1.lo) (u3 := .string D.1.name) (u4 := .string D.1.mail) (u5 := .int .u32 D.1.n0) (u6 := .int .u32 D.1.n1) (u7 := .int .u32 D.1.n2) (u8 := .int .u32 D.1.n3) (u9 := .int .u32 D.1.n4) (u10 := .slice A D.1.texts.length cap) (u11 := .string D.1.raw))
         have hcs := h11.cr.fr hfs (by have := h11.hp; omega) (by have := h11.hr; omega)
         have HS := Lib.hid (And.intro hbs (And.intro hfs (And.intro hcs (And.intro ((hbs.cell 1).trans (show _ = some (.int .i64 (n3.1 : Nat)) from rfl)) ((hcs.blk.cell 1).trans (show _ = some (.pointer (some ⟨r, 0, none⟩)) from rfl))))))
         have H11 := Lib.hid (And.intro g1 (And.intro g2.fromD (And.intro g3 h11)))
         clear g1 g2 g3 h11 hb11 hbs hfs hcs)
      | fail "no arm")
  have hbs := HS.out.1
  have hfs := HS.out.2.1
  clear HS k1 k2 y4 z4 y5 z5 y6 z6 y7 z7 y8 z8 y9 z9 y10 z10 y11 z11 y12 z12 y13 z13 y14 z14 y15 z15
  generalize ((((((((((((w11.setCell ⟨w.heap.size, 4, none⟩ (.bool D.1.six)).setCell ⟨w.heap.size, 5, none⟩ (.int .u64 D.1.hi)).setCell ⟨w.heap.size, 6, none⟩ (.int .u64 D.1.lo)).setCell ⟨w.heap.size, 7, none⟩ (.string D.1.name)).setCell ⟨w.heap.size, 8, none⟩ (.string D.1.mail)).setCell ⟨w.heap.size, 9, none⟩ (.int .u32 D.1.n0)).setCell ⟨w.heap.size, 10, none⟩ (.int .u32 D.1.n1)).setCell ⟨w.heap.size, 11, none⟩ (.int .u32 D.1.n2)).setCell ⟨w.heap.size, 12, none⟩ (.int .u32 D.1.n3)).setCell ⟨w.heap.size, 13, none⟩ (.int .u32 D.1.n4)).setCell ⟨w.heap.size, 14, none⟩ (.slice A D.1.texts.length cap)).setCell ⟨w.heap.size, 15, none⟩ (.string D.1.raw)) = w12 at *
  have hf12 : Fr (fun _ => False) w w12 := (H10.out.fr.then H11.out.2.1).step hfs (fun k hk => .inr (Nat.le_of_eq hk.symm))
  have hrow : ∀ k, rowOf A k → w.heap.size < k ∧ k < w12.heap.size := fun k hk => by
    have h1 := H11.out.2.2.1 k hk
    have h2 : w.heap.size < w10.drew.heap.size := H10.out.bl.lt
    have h3 := hfs.size
    omega
  have hst : Strs w12 A D.1.texts := H11.out.1.fr hfs (fun k hk e => by have := hrow k hk; omega)
  have HF := Lib.hid (And.intro hbs (And.intro hf12 (And.intro hrow hst)))
  clear hbs hfs hf12 hrow hst
  by_cases hd : D.2 = 0
  rotate_left
  · have hd' : (D.2 != 0) = true := by simp [hd]
    have hq := HQ1.out
    rw [if_pos hd] at hq
    go_wp2_with (first
      | (refine wpList_store_part rfl 55 _ _ rfl w.heap.size 0 (by rfl) zrec (by rfl) 55 _ HF.out.1 (by kernel_rfl) (by simp [zrec, Value.oneCell']) (Nat.le_refl 16) _ (lay_all (by rfl)) ?_
         intro w13 b9 f9
         have H13 := Lib.hid (And.intro b9 f9)
         clear b9 f9)
      | fail "no arm")
    refine bodyPost_ret (results_cell_tmp2 Tryz.results43 H13.out.1 rfl rfl rfl hu rfl (by kernel_rfl)) rfl ?_
    rw [hq]
    exact rread_zero _ _ _ _ (HF.out.2.1.step H13.out.2 (fun k hk => .inr (Nat.le_of_eq hk.symm)))
  have hd' : (D.2 != 0) = false := by simp [hd]
  have hq := HQ1.out
  rw [if_neg (fun h => h hd)] at hq
  have HQ3 := Lib.hid hq
  clear hq
  go_wp2_with (first
    | (refine wpList_load_blk rfl 55 _ rfl w.heap.size (by rfl) 55 _ _ HF.out.1 Tryz.underlying55 rfl (by kernel_rfl) ?_)
    | (refine wpList_store_part rfl 55 _ _ rfl w.heap.size 0 (by rfl) [.string nm, .int .i64 (n3.1 : Nat), .int .i64 (n4.1 : Nat), .int .u32 (n5.1 : Nat), .bool D.1.six, .int .u64 D.1.hi, .int .u64 D.1.lo, .string D.1.name, .string D.1.mail, .int .u32 D.1.n0, .int .u32 D.1.n1, .int .u32 D.1.n2, .int .u32 D.1.n3, .int .u32 D.1.n4, .slice A D.1.texts.length cap, .string D.1.raw] (by rfl) 55 _ HF.out.1 (by kernel_rfl) (by simp [Value.oneCell']) (Nat.le_refl 16) _ (lay_all (by rfl)) ?_
       intro w13 b9 f9
       have H13 := Lib.hid (And.intro b9 f9)
       clear b9 f9)
    | fail "no arm")
  refine bodyPost_ret (results_cell_tmp2 Tryz.results43 H13.out.1 rfl rfl rfl hu rfl (by kernel_rfl)) rfl ?_
  rw [HQ3.out]
  refine ⟨A, cap, rfl, HF.out.2.2.2.fr H13.out.2 (fun k hk e => by have := HF.out.2.2.1 k hk; omega), HF.out.2.1.step H13.out.2 (fun k hk => .inr (Nat.le_of_eq hk.symm)), fun k hk => ?_⟩
  have h1 := HF.out.2.2.1 k hk
  have h2 := H13.out.2.size
  omega
end Go.Proofs.YtmbgejiahmhffaaGreat
