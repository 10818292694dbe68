/-
  LAYER 7: PackBack.
-/
import Derived.Test.YtbemackcdccpaaaPrd
import Derived.Test.YtbemackcdccpaaaPpb
import Derived.Deep.DeepCutAuto
import Derived.Deep.CutRange
namespace Go.Proofs.Ytbemackcdccpaaa
open Go.RowKit Go.Maps

theorem ncheck_v (x : ByteArray) (v : Int) (hv : ckN x = v) (w : World) (n : Nat) : Calls Try.prog 70 #[.string x] (w.drewN n) fun e w' => e = .returned (.int .i64 v) ∧ ∃ m, w' = w.drewN m := by
  subst hv
  refine (ncheck_any x _).mono ?_
  rintro e w' ⟨rfl, m, rfl⟩
  exact ⟨rfl, n + m, by simp⟩
theorem psize_v (x : ByteArray) (v : Int) (hv : (if ckN x = 0 then (x.size : Int) + 1 else 0) = v) (w : World) (n : Nat) : Calls Try.prog 71 #[.string x] (w.drewN n) fun e w' => e = .returned (.int .i64 v) ∧ ∃ m, w' = w.drewN m := by
  subst hv
  refine (psize_any x _).mono ?_
  rintro e w' ⟨rfl, m, rfl⟩
  exact ⟨rfl, n + m, by simp⟩
theorem plen_v (q : Nat) (F : Nat → Prop) (y : Pk) (bg : List Int) (w : World) (n : Nat) (h : PPk w q F y bg) : Calls Try.prog 63 #[.pointer (some ⟨q, 0, none⟩)] (w.drewN n) fun e w' => e = .returned (.int .i64 y.x.b.length) ∧ ∃ m, w' = w.drewN m := by
  refine (plen_any q F y bg _ (h.drewN n)).mono ?_
  rintro e w' ⟨rfl, rfl⟩
  exact ⟨rfl, n, rfl⟩

/-- A name that was put: where it stands, where it ends, which it is. -/
structure Trip where
  p : Nat
  e : Nat
  d : ByteArray
/-- It reads there. -/
def Trip.reads (t : Trip) (S : List UInt8) : Prop := t.p ≤ S.length ∧ ∃ k z, k ≤ 256 ∧ Rd8 S k ⟨t.p, t.p, -1, 0, []⟩ z ∧ z.out = t.d.data.toList ∧ z.fin = ((t.e : Nat) : Int)
theorem Trip.reads.app {t : Trip} {S : List UInt8} (h : t.reads S) (T : List UInt8) : t.reads (S ++ T) := by
  obtain ⟨h0, k, z, h1, h2, h3⟩ := h
  exact ⟨by rw [List.length_append]; omega, k, z, h1, h2.app T, h3⟩

theorem text_v (q : Nat) (F : Nat → Prop) (y : Pk) (bg : List Int) (S : ByteArray) (w : World) (n : Nat) (h : PPk w q F y bg) (hS : S = ⟨y.x.b.toArray⟩) : Calls Try.prog 62 #[.pointer (some ⟨q, 0, none⟩)] (w.drewN n) fun e w' => e = .returned (.string S) ∧ ∃ m, w' = w.drewN m := by
  subst hS
  refine (ptext_any q F y bg _ (h.drewN n)).mono ?_
  rintro e w' ⟨rfl, rfl⟩
  exact ⟨rfl, n, rfl⟩
theorem read_v (t : Trip) (y : Pk) (S : ByteArray) (w : World) (n : Nat) (h : t.reads y.x.b) (hS : S = ⟨y.x.b.toArray⟩) (hl : y.x.b.length ≤ 1000000) : Calls Try.prog 72 #[.string S, .int .i64 ((t.p : Nat) : Int)] (w.drewN n) fun e w' => e = .returned (.tuple #[.string t.d, .int .i64 ((t.e : Nat) : Int), .bool true]) ∧ ∃ m, w' = w.drewN m := by
  subst hS
  obtain ⟨h0, k, z, h1, h2, h3, h4⟩ := h
  have := read7_any ⟨y.x.b.toArray⟩ t.p k z (w.drewN n) (by simpa using h2) (by omega) (by rw [sz_mk]; omega) (by rw [sz_mk]; omega)
  refine this.mono ?_
  rintro e w' ⟨rfl, rfl⟩
  rw [h3, h4]
  exact ⟨rfl, n, rfl⟩
/-- What stands while names are put. -/
structure PB (w wr : World) (q k : Nat) (F : Nat → Prop) (y : Pk) (A8 : Option Addr) (c8 : Nat) (A9 : Option Addr) (c9 : Nat) (A10 : Option Addr) (c10 : Nat) (T : List Trip) : Prop where
  pk : PPk wr q F y []
  ug : UG y (300 + 258 * k)
  o8 : wr.ownsRow 0 3 1 (.slice A8 T.length c8) T.length (T.map fun t => .int .i64 t.p)
  o9 : wr.ownsRow 0 3 1 (.slice A9 T.length c9) T.length (T.map fun t => .int .i64 t.e)
  o10 : wr.ownsRow 0 64 1 (.slice A10 T.length c10) T.length (T.map fun t => .string t.d)
  n : T.length ≤ k
  fB : ∀ i, F i → w.heap.size ≤ i
  r8 : ∀ i, rowOf A8 i → w.heap.size ≤ i ∧ ¬ F i ∧ ¬ rowOf A9 i ∧ ¬ rowOf A10 i
  r9 : ∀ i, rowOf A9 i → w.heap.size ≤ i ∧ ¬ F i ∧ ¬ rowOf A10 i
  r10 : ∀ i, rowOf A10 i → w.heap.size ≤ i ∧ ¬ F i
  bel : Below w.heap.size w wr
  rd : ∀ t ∈ T, t.reads y.x.b

/-- The packer goes on; the rows stay. -/
theorem PB.next {w wr w4 : World} {q k : Nat} {F F4 : Nat → Prop} {y y2 : Pk} {A8 A9 A10 : Option Addr} {c8 c9 c10 : Nat} {T : List Trip} (h : PB w wr q k F y A8 c8 A9 c9 A10 c10 T) (k' : Nat) (hk : k ≤ k')
    (g1 : PPk w4 q F4 y2 []) (g2 : Fr F wr w4) (g3 : ∀ i, F4 i → F i ∨ wr.heap.size ≤ i) (hu : UG y2 (300 + 258 * k')) (hT : ∃ X, y2.x.b = y.x.b ++ X) : PB w w4 q k' F4 y2 A8 c8 A9 c9 A10 c10 T := by
  obtain ⟨X, hX⟩ := hT
  have hbw := h.bel.size
  refine ⟨g1, hu, own_fr h.o8 g2 fun i hi => (h.r8 i hi).2.1, own_fr h.o9 g2 fun i hi => (h.r9 i hi).2.1, own_fr h.o10 g2 fun i hi => (h.r10 i hi).2, Nat.le_trans h.n hk, fun i hi => (g3 i hi).elim (h.fB i) fun hl => by omega, fun i hi => ?_, fun i hi => ?_, fun i hi => ?_, h.bel.trans (g2.below h.fB hbw), fun t ht => ?_⟩
  · obtain ⟨a1, a2, a3⟩ := h.r8 i hi
    exact ⟨a1, fun hf => (g3 i hf).elim a2 fun hl => by have := own_lt h.o8 hi; omega, a3⟩
  · obtain ⟨a1, a2, a3⟩ := h.r9 i hi
    exact ⟨a1, fun hf => (g3 i hf).elim a2 fun hl => by have := own_lt h.o9 hi; omega, a3⟩
  · obtain ⟨a1, a2⟩ := h.r10 i hi
    exact ⟨a1, fun hf => (g3 i hf).elim a2 fun hl => by have := own_lt h.o10 hi; omega⟩
  · rw [hX]
    exact (h.rd t ht).app X
theorem PB.drewN {w wr : World} {q k : Nat} {F : Nat → Prop} {y : Pk} {A8 A9 A10 : Option Addr} {c8 c9 c10 : Nat} {T : List Trip} (h : PB w wr q k F y A8 c8 A9 c9 A10 c10 T) (n : Nat) : PB w (wr.drewN n) q k F y A8 c8 A9 c9 A10 c10 T :=
  h.next k (Nat.le_refl _) (h.pk.drewN n) ((Fr.refl _ _).drewN n) (fun _ h => .inl h) h.ug ⟨[], by simp⟩

theorem PPk.lt' {w : World} {q : Nat} {F : Nat → Prop} {y : Pk} {bg : List Int} (h : PPk w q F y bg) : ∀ k, F k → k < w.heap.size := by
  obtain ⟨n, _, p, G, b, C, ccap, _, _, _, _, _, _, _, _, _, h⟩ := h
  exact h
theorem own_ad {w : World} {e : TypeId} {size n cap : Nat} {A : Option Addr} {xs : List Value} (h : w.ownsRow 0 e size (.slice A n cap) n xs) (o : Obj) : (w.alloc o).drew.ownsRow 0 e size (.slice A n cap) n xs :=
  own_fr h (((Fr.refl (fun _ => False) w).alloc o).drew) (fun _ _ h => h)
theorem src_int {w : World} (v : Int) : Src Try.prog 1 49 (.slice (some ⟨w.heap.size, 0, none⟩) 1 1) 1 [.int .i64 v] (w.alloc (.cells #[.int .i64 v] 3)).drew :=
  Src.ofSlice _ Try.underlying49 ⟨w.heap.size, 0, none⟩ 1 1 [.int .i64 v] rfl (fun j u hu => by have := int_new w v 3 j u hu; exact this) (int_one _)
theorem src_str {w : World} (v : ByteArray) : Src Try.prog 1 61 (.slice (some ⟨w.heap.size, 0, none⟩) 1 1) 1 [.string v] (w.alloc (.cells #[.string v] 64)).drew :=
  Src.ofSlice _ Try.underlying61 ⟨w.heap.size, 0, none⟩ 1 1 [.string v] rfl (fun j u hu => by have := str_new w v 64 j u hu; exact this) (str_one _)
theorem src_int' {w : World} (v : Int) : Src Try.prog 1 49 (.slice (some ⟨w.heap.size, 0, none⟩) 1 1) 1 [.int .i64 v] (w.alloc (.cells #[.int .i64 v] 3)) :=
  Src.ofSlice _ Try.underlying49 ⟨w.heap.size, 0, none⟩ 1 1 [.int .i64 v] rfl (int_new w v 3) (int_one _)
theorem src_str' {w : World} (v : ByteArray) : Src Try.prog 1 61 (.slice (some ⟨w.heap.size, 0, none⟩) 1 1) 1 [.string v] (w.alloc (.cells #[.string v] 64)) :=
  Src.ofSlice _ Try.underlying61 ⟨w.heap.size, 0, none⟩ 1 1 [.string v] rfl (str_new w v 64) (str_one _)
theorem cell_alloc {w : World} {o : Obj} {a : Addr} {v : Value} (h : w.cell? a = some v) : (w.alloc o).cell? a = some v := (World.cell?_alloc_lt _ _ _ (World.block_lt_of_cell? w _ h)).trans h
theorem cell_new {X : World} {g : Nat} {v : Value} {T : TypeId} (hg : g = X.heap.size) : (X.alloc (.cells #[v] T)).cell? ⟨g, 0, none⟩ = some v := by
  subst hg
  exact (Blk.new X T #[v]).cell 0
theorem cell_drew {X : World} {a : Addr} {v : Value} (h : X.cell? a = some v) : X.drew.cell? a = some v := h
theorem own_al {w : World} {e : TypeId} {size n cap : Nat} {A : Option Addr} {xs : List Value} {o : Obj} (h : w.ownsRow 0 e size (.slice A n cap) n xs) : (w.alloc o).ownsRow 0 e size (.slice A n cap) n xs :=
  own_fr h ((Fr.refl (fun _ => False) w).alloc o) (fun _ _ h => h)
theorem own_dr {w : World} {e : TypeId} {size n cap : Nat} {A : Option Addr} {xs : List Value} (h : w.ownsRow 0 e size (.slice A n cap) n xs) : w.drew.ownsRow 0 e size (.slice A n cap) n xs :=
  own_fr h ((Fr.refl (fun _ => False) w).drew) (fun _ _ h => h)
theorem le_al {w X : World} {o : Obj} (h : w.heap.size ≤ X.heap.size) : w.heap.size ≤ (X.alloc o).heap.size := Nat.le_trans h (by simp)
theorem le_dr {w X : World} (h : w.heap.size ≤ X.heap.size) : w.heap.size ≤ X.drew.heap.size := h
theorem ppk_al {w : World} {q : Nat} {F : Nat → Prop} {y : Pk} {bg : List Int} {o : Obj} (h : PPk w q F y bg) : PPk (w.alloc o) q F y bg := h.fr (S := fun _ => False) ((Fr.refl _ w).alloc o) fun _ _ h => h
theorem ppk_dr {w : World} {q : Nat} {F : Nat → Prop} {y : Pk} {bg : List Int} (h : PPk w q F y bg) : PPk w.drew q F y bg := h.fr (S := fun _ => False) ((Fr.refl _ w).drew) fun _ _ h => h
theorem fr_al {S : Nat → Prop} {w X : World} {o : Obj} (h : Fr S w X) : Fr S w (X.alloc o) := h.alloc o
theorem src_int_at {cur : World} {g : Nat} (v : Int) (h : cur.cell? ⟨g, 0, none⟩ = some (.int .i64 v)) : Src Try.prog 1 49 (.slice (some ⟨g, 0, none⟩) 1 1) 1 [.int .i64 v] cur :=
  Src.ofSlice _ Try.underlying49 ⟨g, 0, none⟩ 1 1 [.int .i64 v] rfl (fun j u hu => by
    cases j with
    | zero => simp at hu; subst hu; exact h
    | succ j => simp at hu) (int_one _)
theorem src_str_at {cur : World} {g : Nat} (v : ByteArray) (h : cur.cell? ⟨g, 0, none⟩ = some (.string v)) : Src Try.prog 1 61 (.slice (some ⟨g, 0, none⟩) 1 1) 1 [.string v] cur :=
  Src.ofSlice _ Try.underlying61 ⟨g, 0, none⟩ 1 1 [.string v] rfl (fun j u hu => by
    cases j with
    | zero => simp at hu; subst hu; exact h
    | succ j => simp at hu) (str_one _)
/-- One more is noted in the three rows. -/
theorem PB.noted {w W w6 w7 w8 : World} {q k : Nat} {F : Nat → Prop} {y : Pk} {A8 A9 A10 B8 B9 B10 : Option Addr} {c8 c9 c10 d8 d9 d10 : Nat} {T : List Trip} (h : PB w W q k F y A8 c8 A9 c9 A10 c10 T) (t : Trip) (ht : t.reads y.x.b) (hk : T.length + 1 ≤ k)
    (o8 : w6.ownsRow 0 3 1 (.slice B8 (T.length + 1) d8) (T.length + 1) ((T.map fun t => .int .i64 t.p) ++ [.int .i64 (t.p : Nat)])) (f6 : Fr (rowOf A8) W w6) (l8 : ∀ i, rowOf B8 i → rowOf A8 i ∨ W.heap.size ≤ i)
    (o9 : w7.ownsRow 0 3 1 (.slice B9 (T.length + 1) d9) (T.length + 1) ((T.map fun t => .int .i64 t.e) ++ [.int .i64 (t.e : Nat)])) (f7 : Fr (rowOf A9) w6 w7) (l9 : ∀ i, rowOf B9 i → rowOf A9 i ∨ w6.heap.size ≤ i)
    (o10 : w8.ownsRow 0 64 1 (.slice B10 (T.length + 1) d10) (T.length + 1) ((T.map fun t => .string t.d) ++ [.string t.d])) (f8 : Fr (rowOf A10) w7 w8) (l10 : ∀ i, rowOf B10 i → rowOf A10 i ∨ w7.heap.size ≤ i) :
    PB w w8 q k F y B8 d8 B9 d9 B10 d10 (T ++ [t]) := by
  have hbw := h.bel.size
  have hl : (T ++ [t]).length = T.length + 1 := by simp
  have z6 := f6.size
  have z7 := f7.size
  have hFl := PPk.lt' h.pk
  have a9 : ∀ i, rowOf A9 i → i < W.heap.size := fun i hi => own_lt h.o9 hi
  have a10 : ∀ i, rowOf A10 i → i < W.heap.size := fun i hi => own_lt h.o10 hi
  have a8 : ∀ i, rowOf A8 i → i < W.heap.size := fun i hi => own_lt h.o8 hi
  have b8 : ∀ i, rowOf B8 i → i < w6.heap.size := fun i hi => own_lt o8 hi
  have b9 : ∀ i, rowOf B9 i → i < w7.heap.size := fun i hi => own_lt o9 hi
  have f68 : Fr (fun i => rowOf A8 i ∨ rowOf A9 i ∨ rowOf A10 i) W w8 := ((f6.mono fun _ _ h => .inl h).then (f7.mono fun _ _ h => .inr (.inl h))).then (f8.mono fun _ _ h => .inr (.inr h))
  -- who is apart from whom
  have p89 : ∀ i, rowOf B8 i → ¬ rowOf A9 i := fun i hi h9 => (l8 i hi).elim (fun h8 => (h.r8 i h8).2.2.1 h9) fun hx => by have := a9 i h9; omega
  have p810 : ∀ i, rowOf B8 i → ¬ rowOf A10 i := fun i hi h9 => (l8 i hi).elim (fun h8 => (h.r8 i h8).2.2.2 h9) fun hx => by have := a10 i h9; omega
  have p910 : ∀ i, rowOf B9 i → ¬ rowOf A10 i := fun i hi h9 => (l9 i hi).elim (fun h8 => (h.r9 i h8).2.2 h9) fun hx => by have := a10 i h9; omega
  have q8 : ∀ i, rowOf B8 i → w.heap.size ≤ i ∧ ¬ F i := fun i hi => (l8 i hi).elim (fun h8 => ⟨(h.r8 i h8).1, (h.r8 i h8).2.1⟩) fun hx => ⟨by omega, fun hf => by have := hFl i hf; omega⟩
  have q9 : ∀ i, rowOf B9 i → w.heap.size ≤ i ∧ ¬ F i := fun i hi => (l9 i hi).elim (fun h8 => ⟨(h.r9 i h8).1, (h.r9 i h8).2.1⟩) fun hx => ⟨by omega, fun hf => by have := hFl i hf; omega⟩
  have q10 : ∀ i, rowOf B10 i → w.heap.size ≤ i ∧ ¬ F i := fun i hi => (l10 i hi).elim (fun h8 => h.r10 i h8) fun hx => ⟨by omega, fun hf => by have := hFl i hf; omega⟩
  refine ⟨h.pk.fr f68 fun i hi hr => ?_, h.ug, ?_, ?_, ?_, by omega, h.fB, fun i hi => ⟨(q8 i hi).1, (q8 i hi).2, fun h9 => ?_, fun h10 => ?_⟩, fun i hi => ⟨(q9 i hi).1, (q9 i hi).2, fun h10 => ?_⟩, q10, h.bel.trans (f68.below (fun i hi => ?_) hbw), fun u hu => ?_⟩
  · rcases hr with hr | hr | hr
    · exact (h.r8 i hr).2.1 hi
    · exact (h.r9 i hr).2.1 hi
    · exact (h.r10 i hr).2 hi
  · rw [hl, List.map_append]
    exact own_fr (own_fr o8 f7 p89) f8 p810
  · rw [hl, List.map_append]
    exact own_fr o9 f8 p910
  · rw [hl, List.map_append]
    exact o10
  · exact (l9 i h9).elim (p89 i hi) fun hx => by have := b8 i hi; omega
  · exact (l10 i h10).elim (p810 i hi) fun hx => by have := b8 i hi; omega
  · exact (l10 i h10).elim (p910 i hi) fun hx => by have := b9 i hi; omega
  · rcases hi with hi | hi | hi
    · exact (h.r8 i hi).1
    · exact (h.r9 i hi).1
    · exact (h.r10 i hi).1
  · rcases List.mem_append.1 hu with hu | hu
    · exact h.rd u hu
    · rw [List.mem_singleton] at hu
      subst hu
      exact ht

set_option maxRecDepth 100000 in
set_option maxHeartbeats 16000000 in
theorem packBack_walk (A : Option Addr) (cap : Nat) (l : List ByteArray) (A1 : Option Addr) (cap1 : Nat) (l1 : List Bool) (s : ByteArray) (w : World) (h : Strs w A l ∧ (∀ x ∈ l, x.size ≤ maxLen) ∧ l.length ≤ maxLen) (h1 : Bools w A1 l1 ∧ l1.length ≤ maxLen) (_hs : s.size ≤ maxLen) :
    Calls Try.prog 20 #[.slice A l.length cap, .slice A1 l1.length cap1, .string s] w fun e w' => e = .returned (.bool true) ∧ Below w.heap.size w w' := by
  obtain ⟨i0, hi, hz0, hz1, hz2⟩ := info_parts Try.infoInt
  obtain ⟨i1, ji, jz0, jz1, jz2⟩ := info_parts Try.infoName
  obtain ⟨hA, hxs, hlm⟩ := h
  obtain ⟨hA1, hlm1⟩ := h1
  have HA := Lib.hid hA
  have HA1 := Lib.hid hA1
  have hll : l.length ≤ 9223372036854775807 := by simp only [maxLen] at hlm; omega
  have hll1 : l1.length ≤ 9223372036854775807 := by simp only [maxLen] at hlm1; omega
  clear hA hlm hA1 hlm1 hxs
  by_cases hl : 60 < l.length
  · go_enter Try.func20, Try.ntmps20
    go_wp2_with fail
    refine (lives7_any _).mono ?_
    rintro e w1 ⟨rfl, f1⟩
    go_wp2_with fail
    go_ret
    exact ⟨rfl, f1.below (fun _ h => h.elim) (Nat.le_refl _)⟩
  · by_cases hs3 : 300 < s.size
    · go_enter Try.func20, Try.ntmps20
      go_wp2_with fail
      refine (lives7_any _).mono ?_
      rintro e w1 ⟨rfl, f1⟩
      go_wp2_with fail
      go_ret
      exact ⟨rfl, f1.below (fun _ h => h.elim) (Nat.le_refl _)⟩
    · go_enter Try.func20, Try.ntmps20
      go_wp2_with fail
      refine (lives7_any _).mono ?_
      rintro e w1 ⟨rfl, f1⟩
      have F1 := Lib.hid f1
      clear f1
      go_wp2_with fail
      refine (pnew_any 65535 (by decide) _).mono ?_
      rintro e w2 ⟨q, F, rfl, g1, g2, g3⟩
      have H0 := Lib.hid (And.intro g1 (And.intro g2 g3))
      clear g1 g2 g3
      go_wp2_with fail
      refine (pput_any q F _ [] s _ H0.out.1 (by dsimp only; simp; omega)).mono ?_
      rintro e w3 ⟨rfl, F3, g1, g2, g3⟩
      have hpo := Wst.put_ok (x := ⟨[], 65535, 0⟩) (l := s.data.toList) rfl (by rw [size_l]; dsimp only; simp; omega)
      have hP : Hid (PB w w3 q 0 F3 ⟨⟨s.data.toList, 65535, 0⟩, fun _ => none⟩ none 0 none 0 none 0 []) := by
        have g1' : PPk w3 q F3 ⟨⟨s.data.toList, 65535, 0⟩, fun _ => none⟩ [] := by
          have e : (Wst.put ⟨[], max 0 65535, 0⟩ s.data.toList).1 = ⟨s.data.toList, 65535, 0⟩ := by
            rw [show (max 0 65535 : Int) = 65535 from rfl, hpo]
            rfl
          rw [e] at g1
          exact g1
        have hF : ∀ i, F i → w.heap.size ≤ i := fun i hi => Nat.le_trans F1.out.size (H0.out.2.2 i hi)
        have hb2 : Below w.heap.size w w2 := (F1.out.then H0.out.2.1).below (fun _ h => h.elim) (Nat.le_refl _)
        exact ⟨g1', ⟨rfl, rfl, (fun m a h => by cases h), by dsimp only; rw [size_l]; omega⟩, own_nil _ _ _, own_nil _ _ _, own_nil _ _ _, Nat.le_refl _, fun i hi => (g3 i hi).elim (hF i) fun h => Nat.le_trans hb2.size h,
          fun i hi => absurd hi (rowOf_none i), fun i hi => absurd hi (rowOf_none i), fun i hi => absurd hi (rowOf_none i), hb2.trans (g2.below hF hb2.size), fun t ht => by cases ht⟩
      generalize (Wst.put ⟨[], max 0 65535, 0⟩ s.data.toList).2 = ev
      clear g1 g2 g3 hpo H0 F1
      go_wp2_with fail
      go_loopg [8, 9, 10, 11] l.length (fun g a8 a9 a10 i wr => ∃ (k : Nat) (F : Nat → Prop) (y : Pk) (A8 : Option Addr) (c8 : Nat) (A9 : Option Addr) (c9 : Nat) (A10 : Option Addr) (c10 : Nat) (T : List Trip), g = l.length - k ∧ k ≤ l.length ∧ i = .int .i64 (k : Nat) ∧
        a8 = .slice A8 T.length c8 ∧ a9 = .slice A9 T.length c9 ∧ a10 = .slice A10 T.length c10 ∧ PB w wr q k F y A8 c8 A9 c9 A10 c10 T)
      case atStart => exact ⟨0, _, _, none, 0, none, 0, none, 0, [], rfl, Nat.zero_le _, rfl, rfl, rfl, rfl, hP.out⟩
      case round =>
        obtain ⟨k, F2, y, A8, c8, A9, c9, A10, c10, T, rfl, hk, rfl, rfl, rfl, rfl, hpb⟩ := hrel
        by_cases hlt : k < l.length
        · obtain ⟨x, hx⟩ : ∃ x, l[k]? = some x := ⟨l[k], List.getElem?_eq_getElem hlt⟩
          obtain ⟨b, off, rfl, hbs, hc⟩ := HA.out (by rw [List.length_map]; omega)
          have hcx := hc k (.string x) (by rw [List.getElem?_map, hx]; rfl)
          have d0 : wr.cell? ⟨b, off + k, none⟩ = some (.string x) := (hpb.bel.cell (p := ⟨b, _, none⟩) hbs).trans hcx
          have HCX := Lib.hid hcx
          have HP := Lib.hid hpb
          have hlen := hpb.ug.len
          have hTn := hpb.n
          clear hc hcx hpb hP
          obtain ⟨pl, hpl⟩ : ∃ pl : Bool, Hid (if hk1 : k < l1.length then l1[k] = pl else pl = false) := by
            by_cases hk1 : k < l1.length
            · exact ⟨l1[k], by show dite _ _ _; rw [dif_pos hk1]⟩
            · exact ⟨false, by show dite _ _ _; rw [dif_neg hk1]⟩
          go_wp2_with fail
          refine (plen_any q F2 y [] _ HP.out.pk).mono ?_
          rintro e w' ⟨rfl, rfl⟩
          go_upto_region 15 with fail
          go_cut [51] from 34 to 132 (fun v wx => v = .bool pl ∧ wx = wr)
          case first =>
            by_cases hk1 : k < l1.length
            · obtain ⟨b1, off1, rfl, hbs1, hc1⟩ := HA1.out (by rw [List.length_map]; omega)
              have hcx1 := hc1 k (.bool pl) (by rw [List.getElem?_map, List.getElem?_eq_getElem hk1]; have := hpl.out; rw [dif_pos hk1] at this; rw [this]; rfl)
              have d1 : wr.cell? ⟨b1, off1 + k, none⟩ = some (.bool pl) := (HP.out.bel.cell (p := ⟨b1, _, none⟩) hbs1).trans hcx1
              clear hc1 hcx1
              go_wp2_with fail
              go_meet
              exact ⟨rfl, rfl⟩
            · have hpf : pl = false := by have := hpl.out; rwa [dif_neg hk1] at this
              subst hpf
              go_wp2_with fail
              go_meet
              exact ⟨rfl, rfl⟩
          case rest =>
            obtain ⟨rfl, rfl⟩ := hcut
            go_upto_if 51 with fail
            go_cut [12, 13, 14, 15] from 34 to 132 (fun v12 v13 v14 v15 wx => ∃ (fr : Nat) (F4 : Nat → Prop) (y2 : Pk), v12 = .int .i64 (fr : Nat) ∧ v13 = .bool false ∧ v14 = .int .i64 (ckN x) ∧ PB w wx q (k + 1) F4 y2 A8 c8 A9 c9 A10 c10 T ∧ wx.cell? ⟨b, off + k, none⟩ = some (.string x) ∧ fr ≤ y2.x.b.length ∧ (ckN x = 0 → y2.x.b.length ≤ fr + (x.size + 1) ∧ Trip.reads ⟨fr, y2.x.b.length, x⟩ y2.x.b))
            case first =>
              cases pl with
              | true =>
                go_wp2_with fail
                have hN1 := pplain_any q F2 y [] x _ HP.out.pk (by omega)
                by_cases hck : ckN x = 0
                · obtain ⟨p1, p2, ⟨X, p3, p4, p5⟩, k9, z9, t5, t6, t7, t8⟩ := HP.out.ug.plain x hck (by omega)
                  refine hN1.mono ?_
                  rintro e w4 ⟨rfl, F4, g1, g2, g3⟩
                  have P1 := HP.out.next (k + 1) (by omega) g1 g2 g3 (p2.more (by omega)) ⟨X, p3⟩
                  have d4 : w4.cell? ⟨b, off + k, none⟩ = some (.string x) := (P1.bel.cell (p := ⟨b, _, none⟩) hbs).trans HCX.out
                  rw [p1]
                  generalize (y.plain x).1 = y2 at *
                  have hln : y2.x.b.length = y.x.b.length + X.length := by rw [p3, List.length_append]
                  have HQ : Hid (PB w w4 q (k + 1) F4 y2 A8 c8 A9 c9 A10 c10 T ∧ (y.x.b.length ≤ y2.x.b.length ∧ (y2.x.b.length ≤ y.x.b.length + (x.size + 1) ∧ Trip.reads ⟨y.x.b.length, y2.x.b.length, x⟩ y2.x.b))) := ⟨P1, by omega, by omega, by dsimp only; omega, k9, z9, t5, t6, t7, t8⟩
                  clear g1 g2 g3 p2 p3 t5 t6 t7 t8 P1 hN1 hln
                  go_wp2_with fail
                  go_meet
                  exact ⟨_, F4, y2, rfl, rfl, by rw [hck], HQ.out.1, d4, HQ.out.2.1, fun _ => HQ.out.2.2⟩
                · have hno := HP.out.ug.plain_no x hck
                  rw [hno] at hN1
                  refine hN1.mono ?_
                  rintro e w4 ⟨rfl, F4, g1, g2, g3⟩
                  have P1 := HP.out.next (k + 1) (by omega) g1 g2 g3 (HP.out.ug.more (by omega)) ⟨[], by simp⟩
                  have d4 : w4.cell? ⟨b, off + k, none⟩ = some (.string x) := (P1.bel.cell (p := ⟨b, _, none⟩) hbs).trans HCX.out
                  have HQ := Lib.hid P1
                  clear g1 g2 g3 P1 hN1 hno
                  go_wp2_with fail
                  go_meet
                  exact ⟨_, F4, y, rfl, rfl, rfl, HQ.out, d4, Nat.le_refl _, fun h => absurd h hck⟩
              | false =>
                go_wp2_with fail
                by_cases hck : ckN x = 0
                · obtain ⟨y1, y2, n1, n2, u1, u2, ⟨T1, t1⟩, ⟨T2, t2, t3, t4⟩, t5⟩ := HP.out.ug.twice x hck (by omega)
                  have hN1 := pname_any q F2 y [] x _ HP.out.pk (by omega)
                  rw [n1] at hN1
                  refine hN1.mono ?_
                  rintro e w4 ⟨rfl, F4, g1, g2, g3⟩
                  have P1 := HP.out.next (k + 1) (by omega) g1 g2 g3 (u1.more (by omega)) ⟨T1, t1⟩
                  have d4 : w4.cell? ⟨b, off + k, none⟩ = some (.string x) := (P1.bel.cell (p := ⟨b, _, none⟩) hbs).trans HCX.out
                  have hl1 := u1.len
                  have HP1 := Lib.hid P1
                  have HG := Lib.hid (And.intro n2 (And.intro u2 (And.intro t2 (And.intro t3 (And.intro t4 t5)))))
                  clear g1 g2 g3 n1 n2 u1 u2 t1 t2 t3 t4 t5 d0 P1 hN1
                  go_wp2_with fail
                  refine (plen_any q F4 y1 [] _ HP1.out.pk).mono ?_
                  rintro e w' ⟨rfl, rfl⟩
                  go_wp2_with fail
                  have hN2 := pname_any q F4 y1 [] x w4 HP1.out.pk (by omega)
                  rw [HG.out.1] at hN2
                  refine hN2.mono ?_
                  rintro e w5 ⟨rfl, F5, g1, g2, g3⟩
                  obtain ⟨_, u2, t2, t3, t4, k9, z9, t5, t6, t7, t8⟩ := HG.out
                  have P2 := HP1.out.next (k + 1) (by omega) g1 g2 g3 (u2.more (by omega)) ⟨T2, t2⟩
                  have d5 : w5.cell? ⟨b, off + k, none⟩ = some (.string x) := (P2.bel.cell (p := ⟨b, _, none⟩) hbs).trans HCX.out
                  have hln : y2.x.b.length = y1.x.b.length + T2.length := by rw [t2, List.length_append]
                  have hl2 := u2.len
                  have HQ : Hid (PB w w5 q (k + 1) F5 y2 A8 c8 A9 c9 A10 c10 T ∧ (y1.x.b.length ≤ y2.x.b.length ∧ (y2.x.b.length ≤ y1.x.b.length + (x.size + 1) ∧ Trip.reads ⟨y1.x.b.length, y2.x.b.length, x⟩ y2.x.b))) := ⟨P2, by omega, by omega, by dsimp only; omega, k9, z9, t5, t6, t7, t8⟩
                  clear g1 g2 g3 u2 t2 t3 t5 t6 t7 t8 d4 P2 hN2
                  rcases (show x = ⟨#[]⟩ ∨ x ≠ ⟨#[]⟩ by by_cases h : x = ⟨#[]⟩ <;> simp [h]) with hx0 | hx0
                  · have hxe : x.toList = [] := by rw [hx0, ByteArray.toList_eq]
                    clear hx0
                    go_wp2_with fail
                    go_meet
                    exact ⟨_, F5, y2, rfl, rfl, by rw [hck], HQ.out.1, d5, HQ.out.2.1, fun _ => HQ.out.2.2⟩
                  · have hxe : x.toList.isEmpty = false := (nonempty_facts hx0).1
                    have hxe2 : ¬ x.toList = [] := fun h => by rw [h] at hxe; exact absurd hxe (by simp)
                    have ht2 := t4 hx0
                    have q1 : IntKind.i64.wrap ((y1.x.b.length : Int) + 2) = (y2.x.b.length : Int) := by rw [IntWalk.i64_in _ (by omega)]; omega
                    clear hx0 hln ht2
                    go_wp2_with fail
                    refine (plen_any q F5 y2 [] _ HQ.out.1.pk).mono ?_
                    rintro e w' ⟨rfl, rfl⟩
                    go_wp2_with fail
                    go_meet
                    exact ⟨_, F5, y2, rfl, rfl, by rw [hck], HQ.out.1, d5, HQ.out.2.1, fun _ => HQ.out.2.2⟩
                · have hno := HP.out.ug.name_no x hck
                  have hN1 := pname_any q F2 y [] x _ HP.out.pk (by omega)
                  rw [hno] at hN1
                  refine hN1.mono ?_
                  rintro e w4 ⟨rfl, F4, g1, g2, g3⟩
                  have P1 := HP.out.next (k + 1) (by omega) g1 g2 g3 (HP.out.ug.more (by omega)) ⟨[], by simp⟩
                  have d4 : w4.cell? ⟨b, off + k, none⟩ = some (.string x) := (P1.bel.cell (p := ⟨b, _, none⟩) hbs).trans HCX.out
                  have HP1 := Lib.hid P1
                  have hck2 : (ckN x == 0) = false := by simp [hck]
                  clear g1 g2 g3 d0 P1 hN1
                  dsimp only
                  go_wp2_with fail
                  refine (plen_any q F4 y [] _ HP1.out.pk).mono ?_
                  rintro e w' ⟨rfl, rfl⟩
                  go_wp2_with fail
                  have hN2 := pname_any q F4 y [] x w4 HP1.out.pk (by omega)
                  rw [hno] at hN2
                  refine hN2.mono ?_
                  rintro e w5 ⟨rfl, F5, g1, g2, g3⟩
                  have P2 := HP1.out.next (k + 1) (by omega) g1 g2 g3 (HP.out.ug.more (by omega)) ⟨[], by simp⟩
                  have d5 : w5.cell? ⟨b, off + k, none⟩ = some (.string x) := (P2.bel.cell (p := ⟨b, _, none⟩) hbs).trans HCX.out
                  have HQ := Lib.hid P2
                  clear g1 g2 g3 P2 hN2 hno
                  go_wp2_with fail
                  go_meet
                  exact ⟨_, F5, y, rfl, rfl, rfl, HQ.out, d5, Nat.le_refl _, fun h => absurd h hck⟩
            case rest =>
              obtain ⟨fr, F4, y2, rfl, rfl, rfl, hpb2, d4, hfr, hck0⟩ := hcut
              have hl2 := hpb2.ug.len
              have HN := Lib.hid hpb2
              clear hpb2 d0
              by_cases hck : ckN x = 0
              · obtain ⟨hle, hrd⟩ := hck0 hck
                have HR := Lib.hid hrd
                clear hck0 hrd
                have q1 : IntKind.i64.wrap ((y2.x.b.length : Int) - (fr : Int)) = (y2.x.b.length : Int) - (fr : Int) := IntWalk.i64_in _ (by omega)
                have q2 : ¬ ((x.size : Int) + 1 < (y2.x.b.length : Int) - (fr : Int)) := by omega
                have q3 : decide ((x.size : Int) + 1 < (y2.x.b.length : Int) - (fr : Int)) = false := decide_eq_false q2
                rw [hck]
                go_wp2_with fail
                go_quiet (first
                  | (go_at_call 70; exact ncheck_v x 0 hck _ _)
                  | (go_at_call 63; exact plen_v q F4 y2 [] _ _ HN.out.pk)
                  | (go_at_call 71; exact psize_v x ((x.size : Int) + 1) (by rw [if_pos hck]) _ _))
                clear q1 q2 q3
                have d5 : (wc.drewN nq).cell? ⟨b, off + k, none⟩ = some (.string x) := d4
                have HM := Lib.hid (HN.out.drewN nq)
                clear d4 HN
                generalize wc.drewN nq = W at *
                go_wp2_with fail
                go_region_held3 (fun w' => w'.cell? ⟨b, off + k, none⟩ = some (.string x))
                  (repeat (first | assumption | with_reducible refine cell_alloc ?_ | with_reducible refine cell_drew ?_))
                  (first
                    | (go_at_call 63; refine (plen_any q F4 y2 [] _ ?_).mono ?_
                       · repeat (first | with_reducible exact HM.out.pk | with_reducible exact H6.out.1 | with_reducible refine ppk_al ?_ | with_reducible refine ppk_dr ?_)
                       rintro e w' ⟨rfl, rfl⟩)
                    | (refine step_append_src rfl (.tmp 117) (.tmp 119) _ _ rfl 3 i0 _ 1 8 Try.underlying49 hi hz0 hz1 hz2 rfl (by decide) A8 T.length c8 (T.map fun t => Value.int .i64 t.p) (by simp [Act.eval]) (by repeat (first | with_reducible exact HM.out.o8 | with_reducible refine own_al ?_ | with_reducible refine own_dr ?_)) _ 1 [.int .i64 (fr : Nat)] (by first | rfl | (simp [Act.eval]; rfl)) (src_int_at _ (by repeat (first | (with_reducible refine cell_new ?_; first | with_reducible rfl | (simp; done)) | with_reducible refine cell_alloc ?_ | with_reducible refine cell_drew ?_))) (by simp only [maxLen]; omega) (by omega) ?_
                       intro B8 d8 w6 o1 o2 o3
                       have f6 : Fr (rowOf A8) W w6 := Fr.then (by repeat (first | with_reducible exact Fr.refl _ _ | with_reducible refine fr_al ?_ | with_reducible refine Fr.drew ?_)) o2
                       have z6 := f6.size
                       have e6 : w6.cell? ⟨b, off + k, none⟩ = some (.string x) := (f6.cell (p := ⟨b, off + k, none⟩) (World.block_lt_of_cell? W _ d5) (fun hr => by have := (HM.out.r8 b hr).1; omega)).trans d5
                       have l8 : ∀ i, rowOf B8 i → rowOf A8 i ∨ W.heap.size ≤ i := fun i hi => (o3 i hi).imp id fun h => Nat.le_trans (by repeat (first | with_reducible exact Nat.le_refl _ | with_reducible refine le_al ?_ | with_reducible refine le_dr ?_)) h
                       have H6 := Lib.hid (And.intro (HM.out.pk.fr f6 fun i hi hr => (HM.out.r8 i hr).2.1 hi) (And.intro (own_fr HM.out.o9 f6 fun i hi hr => (HM.out.r8 i hr).2.2.1 hi) (And.intro (own_fr HM.out.o10 f6 fun i hi hr => (HM.out.r8 i hr).2.2.2 hi) (And.intro o1 (And.intro f6 l8)))))
                       have K6 := Lib.hid (fun (a : Addr) (v : Value) (hn : W.heap.size ≤ a.block) h => (o2.cell (World.block_lt_of_cell? _ a h) (fun hr => Nat.lt_irrefl _ (Nat.lt_of_lt_of_le (own_lt HM.out.o8 hr) hn))).trans (show _ = some v from h))
                       clear o1 o2 o3 f6 l8)
                    | (refine step_append_src rfl (.tmp 121) (.tmp 124) _ _ rfl 3 i0 _ 1 8 Try.underlying49 hi hz0 hz1 hz2 rfl (by decide) A9 T.length c9 (T.map fun t => Value.int .i64 t.e) (by simp [Act.eval]) (by repeat (first | with_reducible exact H6.out.2.1 | with_reducible refine own_al ?_ | with_reducible refine own_dr ?_)) _ 1 [.int .i64 (y2.x.b.length : Nat)] (by first | rfl | (simp [Act.eval]; rfl)) (src_int_at _ (by repeat (first | (with_reducible refine cell_new ?_; first | with_reducible rfl | (simp; done)) | with_reducible refine cell_alloc ?_ | with_reducible refine cell_drew ?_))) (by simp only [maxLen]; omega) (by omega) ?_
                       intro B9 d9 w7 o1 o2 o3
                       have f7 : Fr (rowOf A9) w6 w7 := Fr.then (by repeat (first | with_reducible exact Fr.refl _ _ | with_reducible refine fr_al ?_ | with_reducible refine Fr.drew ?_)) o2
                       have z7 := f7.size
                       have e7 : w7.cell? ⟨b, off + k, none⟩ = some (.string x) := (f7.cell (p := ⟨b, off + k, none⟩) (World.block_lt_of_cell? w6 _ e6) (fun hr => by have := (HM.out.r9 b hr).1; omega)).trans e6
                       have l9 : ∀ i, rowOf B9 i → rowOf A9 i ∨ w6.heap.size ≤ i := fun i hi => (o3 i hi).imp id fun h => Nat.le_trans (by repeat (first | with_reducible exact Nat.le_refl _ | with_reducible refine le_al ?_ | with_reducible refine le_dr ?_)) h
                       have H7 := Lib.hid (And.intro (own_fr H6.out.2.2.1 f7 fun i hi hr => (HM.out.r9 i hr).2.2 hi) (And.intro o1 (And.intro f7 l9)))
                       have K7 := Lib.hid (fun (a : Addr) (v : Value) (hn : W.heap.size ≤ a.block) h => (o2.cell (World.block_lt_of_cell? _ a h) (fun hr => Nat.lt_irrefl _ (Nat.lt_of_lt_of_le (own_lt HM.out.o9 hr) hn))).trans (show _ = some v from h))
                       clear o1 o2 o3 f7 l9)
                    | (refine step_append_src rfl (.tmp 126) (.tmp 131) _ _ rfl 64 i1 _ 1 16 Try.underlying61 ji jz0 jz1 jz2 rfl (by decide) A10 T.length c10 (T.map fun t => Value.string t.d) (by simp [Act.eval]) (by repeat (first | with_reducible exact H7.out.1 | with_reducible refine own_al ?_ | with_reducible refine own_dr ?_)) _ 1 [.string x] (by first | rfl | (simp [Act.eval]; rfl)) (src_str_at _ (by repeat (first | (with_reducible refine cell_new ?_; first | with_reducible rfl | (simp; done)) | with_reducible refine cell_alloc ?_ | with_reducible refine cell_drew ?_ | (with_reducible refine K7.out _ _ ?_ ?_; focus (first | with_reducible exact Nat.le_refl _ | (simp; done) | (simp; omega) | omega)) | (with_reducible refine K6.out _ _ ?_ ?_; focus (first | with_reducible exact Nat.le_refl _ | (simp; done) | (simp; omega) | omega))))) (by simp only [maxLen]; omega) (by omega) ?_
                       intro B10 d10 w8 o1 o2 o3
                       have f8 : Fr (rowOf A10) w7 w8 := Fr.then (by repeat (first | with_reducible exact Fr.refl _ _ | with_reducible refine fr_al ?_ | with_reducible refine Fr.drew ?_)) o2
                       have e8 : w8.cell? ⟨b, off + k, none⟩ = some (.string x) := (f8.cell (p := ⟨b, off + k, none⟩) (World.block_lt_of_cell? w7 _ e7) (fun hr => by have := (HM.out.r10 b hr).1; omega)).trans e7
                       have l10 : ∀ i, rowOf B10 i → rowOf A10 i ∨ w7.heap.size ≤ i := fun i hi => (o3 i hi).imp id fun h => Nat.le_trans (by repeat (first | with_reducible exact Nat.le_refl _ | with_reducible refine le_al ?_ | with_reducible refine le_dr ?_)) h
                       have H8 := Lib.hid (HM.out.noted ⟨fr, y2.x.b.length, x⟩ HR.out (by omega) H6.out.2.2.2.1 H6.out.2.2.2.2.1 H6.out.2.2.2.2.2 H7.out.2.1 H7.out.2.2.1 H7.out.2.2.2 o1 f8 l10)
                       clear o1 o2 o3 f8 l10)
                    | fail)
                all_goals
                  go_wp2_with fail
                  go_roundg (l.length - (k + 1))
                  case measure => omega
                  case rel => exact ⟨k + 1, F4, y2, B8, d8, B9, d9, B10, d10, T ++ [⟨fr, y2.x.b.length, x⟩], rfl, by omega, by go_num, by rw [List.length_append]; rfl, by rw [List.length_append]; rfl, by rw [List.length_append]; rfl, H8.out⟩
              · have hck2 : (ckN x == 0) = false := by simp [hck]
                have hv : ∃ c, c = ckN x := ⟨_, rfl⟩
                obtain ⟨c, hc⟩ := hv
                rw [← hc] at hck2 ⊢
                have HC := Lib.hid hc.symm
                clear hck0 hc hck
                go_wp2_with fail
                go_quiet (first
                  | (go_at_call 70; exact ncheck_v x c HC.out _ _))
                have HM := Lib.hid (HN.out.drewN nq)
                clear d4 HN
                generalize wc.drewN nq = W at *
                go_wp2_with fail
                go_roundg (l.length - (k + 1))
                case measure => omega
                case rel => exact ⟨k + 1, F4, y2, A8, c8, A9, c9, A10, c10, T, rfl, by omega, by go_num, rfl, rfl, rfl, HM.out⟩
        · have hke : k = l.length := by omega
          have hTn := hpb.n
          have hlen := hpb.ug.len
          have HU := Lib.hid hpb.ug.e
          have HP := Lib.hid hpb
          clear hP hpb
          obtain ⟨S, hS⟩ : ∃ S : ByteArray, S = ⟨y.x.b.toArray⟩ := ⟨_, rfl⟩
          have HS := Lib.hid hS
          clear hS
          go_wp2_with fail
          go_loopg [16] T.length (fun g v wq => ∃ (j : Nat), g = T.length - j ∧ j ≤ T.length ∧ v = .int .i64 (j : Nat) ∧ PB w wq q k F2 y A8 c8 A9 c9 A10 c10 T)
          case atStart => exact ⟨0, rfl, Nat.zero_le _, rfl, HP.out⟩
          case round =>
            obtain ⟨j, hgj, hjl, rfl, hpb⟩ := hrel
            have HJ := Lib.hid hgj
            clear hgj
            by_cases hlt2 : j < T.length
            · obtain ⟨t, ht⟩ : ∃ t, T[j]? = some t := ⟨T[j], List.getElem?_eq_getElem hlt2⟩
              have htm : t ∈ T := List.mem_of_getElem? ht
              obtain ⟨g8, rfl, e8⟩ := own_cell hpb.o8 (j := j) (u := .int .i64 ((t.p : Nat) : Int)) (by rw [List.getElem?_map, ht]; rfl)
              obtain ⟨g9, rfl, e9⟩ := own_cell hpb.o9 (j := j) (u := .int .i64 ((t.e : Nat) : Int)) (by rw [List.getElem?_map, ht]; rfl)
              obtain ⟨g10, rfl, e10⟩ := own_cell hpb.o10 (j := j) (u := .string t.d) (by rw [List.getElem?_map, ht]; rfl)
              have HR := Lib.hid (hpb.rd t htm)
              have HB := Lib.hid hpb
              have i1 : (j : Int) < (T.length : Int) := by omega
              have i2 : (0 : Int) ≤ (j : Int) := by omega
              clear ht htm hpb
              go_wp2_with fail
              go_quiet (first
                | (go_at_call 62; exact text_v q F2 y [] S _ _ HB.out.pk HS.out)
                | (go_at_call 72; exact read_v t y S _ _ HR.out HS.out (by omega)))
              have HB2 := Lib.hid (HB.out.drewN nq)
              have k9 : (wr.drewN nq).cell? ⟨g9, j, none⟩ = some (.int .i64 ((t.e : Nat) : Int)) := e9
              have k10 : (wr.drewN nq).cell? ⟨g10, j, none⟩ = some (.string t.d) := e10
              clear e8 e9 e10 HB
              generalize wr.drewN nq = W at *
              go_wp2_with fail
              go_roundg (T.length - (j + 1))
              case measure => rw [HJ.out]; omega
              case rel => exact ⟨j + 1, rfl, by omega, by go_num, HB2.out⟩
            · have hjl2 : j = T.length := by omega
              subst hjl2
              go_wp2_with fail
              refine (perr_any q F2 y [] _ hpb.pk).mono ?_
              rintro e w' ⟨rfl, rfl⟩
              rw [HU.out]
              go_wp2_with fail
              go_ret
              exact ⟨rfl, hpb.bel⟩
end Go.Proofs.Ytbemackcdccpaaa
