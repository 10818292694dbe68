/-
  TEXTS OF THIS CLAIM, TOGETHER: Base, Oct, Octb, Read3, Bld, Unpp, Unpb.
-/
import Derived.WalkKit
import Derived.WalkSpells
import Derived.WalkLawsBesides
import Derived.Deep.AppendSrc
import Derived.Deep.Draws
import Derived.Lib.Hide
import Derived.Deep.QuietTactic
import Derived.BigQuiet
import Derived.Handy
import Derived.Laws.CopyRow
import Derived.Laws.BytesString
import Derived.Deep.RegionHeld3
import Derived.StillTailTactics
import Derived.Test.YtmbgejiahmhffaaGreatProg
import Derived.Lib.ConvBytes
import Derived.Lib.Builder
import Derived.Lib.UnsafeStr
/-
  WORDS FOR MEMORY, OF NO PROGRAM: a frame over a set of blocks ('Fr'); append onto a row of the call's own from whatever source, with the place of the new row.
-/
namespace Go.Proofs.YtmbgejiahmhffaaGreat
open Go.RowKit

/-- Of the blocks of w only those of S may have turned. -/
structure Fr (S : Nat → Prop) (w w' : World) : Prop where
  os : w'.os = w.os
  tape : w'.tape = w.tape
  output : w'.output = w.output
  size : w.heap.size ≤ w'.heap.size
  block : ∀ k, k < w.heap.size → ¬ S k → w'.heap[k]? = w.heap[k]?
section
variable {S T : Nat → Prop} {w w' a b c : World}

theorem Fr.refl (S : Nat → Prop) (w : World) : Fr S w w := ⟨rfl, rfl, rfl, Nat.le_refl _, fun _ _ _ => rfl⟩
theorem Fr.mono (h : Fr S w w') (hs : ∀ k, k < w.heap.size → S k → T k) : Fr T w w' :=
  ⟨h.os, h.tape, h.output, h.size, fun k hk hT => h.block k hk fun hS => hT (hs k hk hS)⟩
theorem Fr.trans (h : Fr S a b) (k : Fr T b c) (hst : ∀ i, i < a.heap.size → T i → S i) : Fr S a c :=
  ⟨k.os.trans h.os, k.tape.trans h.tape, k.output.trans h.output, Nat.le_trans h.size k.size,
    fun i hi hS => (k.block i (Nat.lt_of_lt_of_le hi h.size) fun hT => hS (hst i hi hT)).trans (h.block i hi hS)⟩
theorem Fr.then (h : Fr S a b) (k : Fr S b c) : Fr S a c := h.trans k fun _ _ hS => hS
theorem Fr.drew (h : Fr S a b) : Fr S a b.drew := ⟨h.os, h.tape, h.output, h.size, h.block⟩
theorem Fr.drewN (h : Fr S a b) (n : Nat) : Fr S a (b.drewN n) := ⟨h.os, h.tape, h.output, h.size, h.block⟩
theorem Fr.fromN {n : Nat} (h : Fr S (a.drewN n) b) : Fr S a b := ⟨h.os, h.tape, h.output, h.size, h.block⟩
theorem Fr.fromD (h : Fr S a.drew b) : Fr S a b := ⟨h.os, h.tape, h.output, h.size, h.block⟩
theorem Fr.alloc (h : Fr S a b) (o : Obj) : Fr S a (b.alloc o) :=
  ⟨h.os, h.tape, h.output, Nat.le_trans h.size (by simp), fun k hk hS => (Below.heap_alloc b o k (Nat.lt_of_lt_of_le hk h.size)).trans (h.block k hk hS)⟩
theorem Fr.setCell (h : Fr S a b) {p : Addr} (hp : p.block < a.heap.size → S p.block) (u : Value) : Fr S a (b.setCell p u) :=
  ⟨h.os, h.tape, h.output, by simpa [World.setCell] using h.size, fun k hk hS => (Below.heap_setCell b p u k (by
    rintro rfl
    exact hS (hp hk))).trans (h.block k hk hS)⟩
theorem Fr.grown (h : Fr S a b) {row : Option Nat} (hg : b.grownBy c row) (hr : ∀ k, row = some k → k < a.heap.size → S k) : Fr S a c :=
  ⟨hg.os.trans h.os, hg.tape.trans h.tape, hg.output.trans h.output, Nat.le_trans h.size hg.size,
    fun k hk hS => (hg.block k (Nat.lt_of_lt_of_le hk h.size) fun e => hS (hr k e.symm hk)).trans (h.block k hk hS)⟩
theorem Fr.setRow (h : Fr S a b) {g : Nat} (hp : g < a.heap.size → S g) (cs : Array Value) : Fr S a (b.setRow g cs) :=
  ⟨h.os, h.tape, h.output, by simpa using h.size, fun k hk hS => (setRow_other b g k cs (by
    rintro rfl
    exact hS (hp hk))).trans (h.block k hk hS)⟩
theorem Fr.below (h : Fr S a b) {B : Nat} (hB : ∀ k, S k → B ≤ k) (hBa : B ≤ a.heap.size) : Below B a b :=
  ⟨h.os, h.tape, h.output, h.size, fun k hk => h.block k (Nat.lt_of_lt_of_le hk hBa) fun hS => by have := hB k hS; omega⟩
theorem Fr.cell (h : Fr S a b) {p : Addr} (hp : p.block < a.heap.size) (hS : ¬ S p.block) : b.cell? p = a.cell? p := World.cell?_of_block (h.block _ hp hS)
theorem Fr.frozen (h : Fr S a b) {p : Addr} (hp : p.block < a.heap.size) (hS : ¬ S p.block) : b.frozen? p = a.frozen? p := World.frozen?_of_block (h.block _ hp hS)
end

/-! ### A block that is known whole -/
def Blk (w : World) (g : Nat) (t : TypeId) (cs : Array Value) : Prop := w.heap[g]? = some (.cells cs t (0, 0))
section
variable {w w' : World} {g : Nat} {t : TypeId} {cs : Array Value}
theorem Blk.lt (h : Blk w g t cs) : g < w.heap.size := by
  rcases Nat.lt_or_ge g w.heap.size with hlt | hge
  · exact hlt
  · unfold Blk at h; rw [Array.getElem?_eq_none hge] at h; cases h
theorem Blk.cell (h : Blk w g t cs) (i : Nat) : w.cell? ⟨g, i, none⟩ = cs[i]? := cell_of_row w g i cs t (0, 0) h
theorem Blk.frozen (h : Blk w g t cs) (i : Nat) : w.frozen? ⟨g, i, none⟩ = false := by
  unfold Blk at h
  simp [World.frozen?, h]
theorem Blk.new (w : World) (t : TypeId) (cs : Array Value) : Blk (w.alloc (.cells cs t)) w.heap.size t cs := heap_alloc_new w _
theorem Blk.drew (h : Blk w g t cs) : Blk w.drew g t cs := h
theorem Blk.drewN (h : Blk w g t cs) (n : Nat) : Blk (w.drewN n) g t cs := h
theorem Blk.alloc (h : Blk w g t cs) (o : Obj) : Blk (w.alloc o) g t cs := (Below.heap_alloc w o g h.lt).trans h
theorem Blk.set_ (h : Blk w g t cs) (i : Nat) (u : Value) : Blk (w.setCell ⟨g, i, none⟩ u) g t (cs.setIfInBounds i u) := by
  unfold Blk at h ⊢
  simp [World.setCell, Array.getElem?_modify, h]
theorem Blk.far (h : Blk w g t cs) {p : Addr} (hp : g ≠ p.block) (u : Value) : Blk (w.setCell p u) g t cs := (Below.heap_setCell w p u g hp).trans h
theorem Blk.fr {S : Nat → Prop} (h : Blk w g t cs) (hf : Fr S w w') (hg : ¬ S g) : Blk w' g t cs := (hf.block g h.lt hg).trans h
theorem Blk.ne_ {g' : Nat} {t' : TypeId} {cs' : Array Value} (h : Blk w g t cs) (h' : Blk w g' t' cs') (hne : t ≠ t') : g ≠ g' := by
  rintro rfl
  unfold Blk at h h'
  rw [h] at h'
  injection h' with h'
  injection h' with _ ht
  exact hne ht
end

/-! ### Rows of the call's own -/
/-- The block of a slice's address. -/
def rowOf (A : Option Addr) (k : Nat) : Prop := ∃ a, A = some a ∧ a.block = k
theorem rowOf_none (k : Nat) : ¬ rowOf none k := fun ⟨_, h, _⟩ => by cases h
section
variable {w w' : World} {e : TypeId} {size n cap : Nat} {A : Option Addr} {xs : List Value}
theorem own_lt (h : w.ownsRow 0 e size (.slice A n cap) n xs) {k : Nat} (hk : rowOf A k) : k < w.heap.size := by
  obtain ⟨a, rfl, rfl⟩ := hk
  exact (h.lt a.block rfl).2
theorem own_fr {S : Nat → Prop} (h : w.ownsRow 0 e size (.slice A n cap) n xs) (hf : Fr S w w') (hn : ∀ k, rowOf A k → ¬ S k) : w'.ownsRow 0 e size (.slice A n cap) n xs := by
  refine ⟨h.1, ?_⟩
  rcases h.2 with h2 | ⟨g, cp, cur, hv, hb, hg, r⟩
  · exact .inl h2
  · refine .inr ⟨g, cp, cur, hv, hb, ?_, r⟩
    injection hv with hA _ _
    exact (hf.block g (Array.getElem?_eq_some_iff.1 hg).1 (hn g ⟨_, hA, rfl⟩)).trans hg
theorem own_ne {g : Nat} {t : TypeId} {cs : Array Value} (h : w.ownsRow 0 e size (.slice A n cap) n xs) (hb : Blk w g t cs) (hne : e ≠ t) : ¬ rowOf A g := by
  rintro ⟨a, rfl, rfl⟩
  rcases h.2 with ⟨h2, _⟩ | ⟨g', cp, cur, hv, _, hg, _⟩
  · cases h2
  · injection hv with hA _ _
    injection hA with hA
    subst hA
    exact Blk.ne_ (t := e) hg hb hne rfl
theorem own_cap (h : w.ownsRow 0 e size (.slice A n cap) n xs) : n ≤ cap ∧ cap ≤ maxLen := by
  rcases h.2 with ⟨h2, h0⟩ | ⟨g', cp, cur, hv, _, _, h3, h4, _⟩
  · injection h2 with _ _ h2
    omega
  · injection hv with _ _ h2
    omega
theorem own_nil (w : World) (e : TypeId) (size : Nat) : w.ownsRow 0 e size (.slice none 0 0) 0 [] := World.ownsRow_nil w 0 e size
theorem own_cell (h : w.ownsRow 0 e 1 (.slice A n cap) n xs) {j : Nat} {u : Value} (hu : xs[j]? = some u) : ∃ g, A = some ⟨g, 0, none⟩ ∧ w.cell? ⟨g, j, none⟩ = some u := by
  rcases h.2 with ⟨h2, h0⟩ | ⟨g, cp, cur, hv, _, hg, h3, h4, h5, h6⟩
  · have hl := h.1
    rw [h0] at hl
    have : xs = [] := List.eq_nil_of_length_eq_zero (by simpa using hl)
    subst this
    simp at hu
  · injection hv with hA _ _
    refine ⟨g, hA, ?_⟩
    have := h.cells (g := g) (by rw [hA]; rfl) j u hu
    rwa [show (⟨g, 0, none⟩ : Addr).add j = ⟨g, j, none⟩ from by unfold Addr.add; split <;> simp_all] at this
/-- THE APPEND. -/
theorem run_append_src {P : Program} (w : World) (t tx ty e : TypeId) (i : TypeInfo) (z : Value) (size bytes : Nat) (ht : P.underlying t = some (.slice e)) (hi : P.info? e = some i) (hz : i.zero = some z)
    (hsize : i.size = size) (hby : i.bytes = bytes) (hzs : z.cells.size = size) (hsz : 0 < size)
    (A : Option Addr) (n cap : Nat) (xs : List Value) (hown : w.ownsRow 0 e size (.slice A n cap) n xs) (x : Value) (m : Nat) (news : List Value) (hs : Src P size tx x m news w)
    (h63 : n + m ≤ maxLen) (hbytes : (n + m) * bytes ≤ 140737488355328) :
    ∃ A' cap' w', (Builtin.append_ #[t, tx] ty #[.slice A n cap, x]).run P w = .ok (.slice A' (n + m) cap') w' ∧ w'.ownsRow 0 e size (.slice A' (n + m) cap') (n + m) (xs ++ news) ∧ Fr (rowOf A) w w' ∧
      ∀ k, rowOf A' k → rowOf A k ∨ w.heap.size ≤ k := by
  subst hsize
  subst hby
  have hlen : (xs ++ news).length = (n + m) * i.size := by rw [List.length_append, hown.1, hs.newsLen, Nat.add_mul]
  have h63' : ((n + m : Nat) : Int) ≤ 9223372036854775807 := by simp only [maxLen] at h63; omega
  have grown : ∀ old : Nat, old < n + m →
      (w.drew.alloc (.cells ((xs ++ news).toArray ++ Builtin.zeroCells z.cells (grownCap w (n + m) old e - (n + m))) e)).ownsRow 0 e i.size
        (.slice (some ⟨w.heap.size, 0, none⟩) (n + m) (grownCap w (n + m) old e)) (n + m) (xs ++ news) := by
    intro old _
    have hge := grownCap_ge w (n + m) old e
    have hcm : grownCap w (n + m) old e ≤ maxLen := grownCap_le_maxLen w (n + m) old e h63
    refine ⟨hlen, .inr ⟨w.heap.size, _, _, rfl, Nat.zero_le _, heap_alloc_new w.drew _, hge, hcm, ?_, ?_⟩⟩
    · simp only [Array.size_append, List.size_toArray, size_zeroCells, hzs, hlen, ← Nat.add_mul]
      congr 1
      omega
    · simp only [Array.toList_append, ← hlen]
      exact List.take_left
  have frame : ∀ old : Nat, Fr (rowOf A) w (w.drew.alloc (.cells ((xs ++ news).toArray ++ Builtin.zeroCells z.cells (grownCap w (n + m) old e - (n + m))) e)) := fun old => (Fr.refl _ _).drew.alloc _
  have new : ∀ k, rowOf (some (⟨w.heap.size, 0, none⟩ : Addr)) k → rowOf A k ∨ w.heap.size ≤ k := by
    rintro k ⟨a, ha, rfl⟩
    injection ha with ha
    subst ha
    exact .inr (Nat.le_refl _)
  rcases hown.2 with ⟨hv, hn⟩ | ⟨g, cp, cur, hv, _, hg, hnc, hcm, hcs, htake⟩
  · injection hv with hA _ hc
    subst hA hn hc
    have hx : xs = [] := List.eq_nil_of_length_eq_zero (by simpa using hown.1)
    subst hx
    by_cases hm : m = 0
    · subst hm
      have hn : news = [] := List.eq_nil_of_length_eq_zero (by simpa using hs.newsLen)
      subst hn
      refine ⟨none, 0, w, ?_, World.ownsRow_nil w 0 e i.size, Fr.refl _ _, fun k hk => .inl hk⟩
      have hcells := hs.cells
      rcases hs.kind with ⟨e', hk⟩ | hk <;> simp [Builtin.append_, run_underlying ht, run_underlying hk, sizeOf, typeInfo, hi, hs.len, hcells]
    · have hr := run_append_grow_src (P := P) w t tx ty e i z ht hi hz none 0 0 [] (run_firstCells_none w.drew i.size 0 0 0) x m news hs (by omega) (by omega) (growslice_fits (by omega) hbytes)
      exact ⟨_, _, _, hr, grown 0 (by omega), frame 0, new⟩
  · injection hv with hA _ hc
    subst hA hc
    by_cases hroom : n + m ≤ cap
    · have hfit : n * i.size + news.length ≤ cur.size := by rw [hs.newsLen, hcs, ← Nat.add_mul]; exact Nat.mul_le_mul_right _ hroom
      have hst := run_storeCells_at P g (n * i.size) e news 0 cur w hg (by simpa using hfit) hs.one
      simp only [Nat.add_zero] at hst
      have hr : (Builtin.append_ #[t, tx] ty #[.slice (some ⟨g, 0, none⟩) n cap, x]).run P w =
          .ok (.slice (some ⟨g, 0, none⟩) (n + m) cap) (w.setRow g (cur.toList.take (n * i.size) ++ news ++ cur.toList.drop (n * i.size + news.length)).toArray) := by
        rcases hs.kind with ⟨e', hk⟩ | hk <;> simp [Builtin.append_, run_underlying ht, run_underlying hk, sizeOf, typeInfo, hi, hs.len, hroom, hs.cells, Addr.add_lit, hst]
      refine ⟨_, _, _, hr, ⟨hlen, .inr ⟨g, cap, _, rfl, Nat.zero_le _, setRow_heap w g cur _ e _ hg, hroom, hcm, ?_, ?_⟩⟩, (Fr.refl _ _).setRow (fun _ => ⟨_, rfl, rfl⟩) _, fun k hk => .inl hk⟩
      · simp only [List.size_toArray, List.length_append, List.length_take, List.length_drop, Array.length_toList]
        omega
      · rw [htake, ← hlen]
        exact List.take_left
    · have holds : ∀ j u, xs[j]? = some u → w.cell? ((⟨g, 0, none⟩ : Addr).add j) = some u := hown.cells (g := g) rfl
      have hr := run_append_grow_src (P := P) w t tx ty e i z ht hi hz (some ⟨g, 0, none⟩) n cap xs (run_firstCells_some w.drew i.size n ⟨g, 0, none⟩ n cap xs hown.1 (by simpa using holds)) x m news hs (by omega) (by omega) (growslice_fits (by omega) hbytes)
      exact ⟨_, _, _, hr, grown cap (by omega), frame cap, new⟩
variable {P : Program}
theorem wp_append_src {o : Oper} {a : Act} {K : Act → World → Prop} {Q : Exit → Act → World → Prop} (sl x : Operand) (t tx : TypeId)
    (ho : o.op = .call { callee := .builtin .append, args := #[sl, x], argTypes := #[t, tx] })
    (e : TypeId) (i : TypeInfo) (z : Value) (size bytes : Nat) (ht : P.underlying t = some (.slice e)) (hi : P.info? e = some i) (hz : i.zero = some z)
    (hsize : i.size = size) (hby : i.bytes = bytes) (hzs : z.cells.size = size) (hsz : 0 < size)
    (A : Option Addr) (n cap : Nat) (xs : List Value) (hsl : a.eval sl = .slice A n cap) (hown : w.ownsRow 0 e size (.slice A n cap) n xs)
    (vx : Value) (m : Nat) (news : List Value) (hx : a.eval x = vx) (hs : Src P size tx vx m news w)
    (h63 : n + m ≤ maxLen) (hbytes : (n + m) * bytes ≤ 140737488355328)
    (h : ∀ A' cap' w', w'.ownsRow 0 e size (.slice A' (n + m) cap') (n + m) (xs ++ news) → Fr (rowOf A) w w' → (∀ k, rowOf A' k → rowOf A k ∨ w.heap.size ≤ k) → K (a.put o.dst (.slice A' (n + m) cap')) w') : o.wp P a w K Q := by
  obtain ⟨A', cap', w', hr, h2, h3, h4⟩ := run_append_src (P := P) w t tx o.type e i z size bytes ht hi hz hsize hby hzs hsz A n cap xs hown vx m news hs h63 hbytes
  unfold Oper.wp execOp
  simp only [ho, resolve, invoke, builtin, Sem.run_bind, Sem.run_pure, Result.andThen_ok, List.map_toArray, List.map_cons, List.map_nil, hsl, hx, hr]
  exact h A' cap' w' h2 h3 h4
theorem wpList_append_src {ops : Array Oper} {rest : List Oper} {o : Oper} {a : Act} {Q : Exit → Act → World → Prop} (hgd : o.guard = none) (sl x : Operand) (t tx : TypeId)
    (ho : o.op = .call { callee := .builtin .append, args := #[sl, x], argTypes := #[t, tx] })
    (e : TypeId) (i : TypeInfo) (z : Value) (size bytes : Nat) (ht : P.underlying t = some (.slice e)) (hi : P.info? e = some i) (hz : i.zero = some z)
    (hsize : i.size = size) (hby : i.bytes = bytes) (hzs : z.cells.size = size) (hsz : 0 < size)
    (A : Option Addr) (n cap : Nat) (xs : List Value) (hsl : a.eval sl = .slice A n cap) (hown : w.ownsRow 0 e size (.slice A n cap) n xs)
    (vx : Value) (m : Nat) (news : List Value) (hx : a.eval x = vx) (hs : Src P size tx vx m news w)
    (h63 : n + m ≤ maxLen) (hbytes : (n + m) * bytes ≤ 140737488355328)
    (h : ∀ A' cap' w', w'.ownsRow 0 e size (.slice A' (n + m) cap') (n + m) (xs ++ news) → Fr (rowOf A) w w' → (∀ k, rowOf A' k → rowOf A k ∨ w.heap.size ≤ k) → wpList P ops Q rest (a.put o.dst (.slice A' (n + m) cap')) w') : wpList P ops Q (o :: rest) a w :=
  wpList_plain hgd fun _ hK => wp_append_src sl x t tx ho e i z size bytes ht hi hz hsize hby hzs hsz A n cap xs hsl hown vx m news hx hs h63 hbytes fun A' cap' w' h2 h3 h4 => hK _ _ (h A' cap' w' h2 h3 h4)
theorem step_append_src {ops : Array Oper} {o : Oper} {a : Act} {K : Act → World → Prop} {Q : Exit → Act → World → Prop} {E : Prop} (hgd : o.guard = none) (sl x : Operand) (t tx : TypeId)
    (ho : o.op = .call { callee := .builtin .append, args := #[sl, x], argTypes := #[t, tx] })
    (e : TypeId) (i : TypeInfo) (z : Value) (size bytes : Nat) (ht : P.underlying t = some (.slice e)) (hi : P.info? e = some i) (hz : i.zero = some z)
    (hsize : i.size = size) (hby : i.bytes = bytes) (hzs : z.cells.size = size) (hsz : 0 < size)
    (A : Option Addr) (n cap : Nat) (xs : List Value) (hsl : a.eval sl = .slice A n cap) (hown : w.ownsRow 0 e size (.slice A n cap) n xs)
    (vx : Value) (m : Nat) (news : List Value) (hx : a.eval x = vx) (hs : Src P size tx vx m news w)
    (h63 : n + m ≤ maxLen) (hbytes : (n + m) * bytes ≤ 140737488355328)
    (h : ∀ A' cap' w', w'.ownsRow 0 e size (.slice A' (n + m) cap') (n + m) (xs ++ news) → Fr (rowOf A) w w' → (∀ k, rowOf A' k → rowOf A k ∨ w.heap.size ≤ k) → K (a.put o.dst (.slice A' (n + m) cap')) w') :
    if Region.wanted o (yielded ops a.tmps) = true then Oper.wp P o a w K Q else E := by
  have hw : Region.wanted o (yielded ops a.tmps) = true := by simp [Region.wanted, hgd]
  rw [if_pos hw]
  exact wp_append_src sl x t tx ho e i z size bytes ht hi hz hsize hby hzs hsz A n cap xs hsl hown vx m news hx hs h63 hbytes h
end

/-! ### Octets as cells; a row of octets as a string; a copy into a row -/
def u8s (l : List UInt8) : List Value := l.map fun b => Value.int .u8 b.toNat
theorem u8s_length (l : List UInt8) : (u8s l).length = l.length := by simp [u8s]
theorem u8s_append (l m : List UInt8) : u8s (l ++ m) = u8s l ++ u8s m := by simp [u8s]
theorem u8s_one (l : List UInt8) : ∀ v ∈ u8s l, v.oneCell' = true := by
  intro v hv
  obtain ⟨_, _, rfl⟩ := List.mem_map.1 hv
  rfl
theorem u8s_get (l : List UInt8) (j : Nat) : (u8s l)[j]? = (l[j]?).map fun b => Value.int .u8 b.toNat := by simp [u8s]
theorem u8s_take (l : List UInt8) (k : Nat) : (u8s l).take k = u8s (l.take k) := by simp [u8s, List.map_take]
theorem u8s_drop (l : List UInt8) (k : Nat) : (u8s l).drop k = u8s (l.drop k) := by simp [u8s, List.map_drop]
theorem own_of_blk {w : World} {g : Nat} {e : TypeId} {xs : List Value} (h : Blk w g e xs.toArray) (hl : xs.length ≤ maxLen) : w.ownsRow 0 e 1 (.slice (some ⟨g, 0, none⟩) xs.length xs.length) xs.length xs :=
  ⟨by simp, .inr ⟨g, xs.length, xs.toArray, rfl, Nat.zero_le _, h, Nat.le_refl _, hl, by simp, by simp⟩⟩
theorem foldl_push (l : List UInt8) : ∀ acc : ByteArray, (l.map fun b => (b.toNat : Int)).foldl (fun r n => r.push (UInt8.ofNat n.toNat)) acc = ⟨(acc.data.toList ++ l).toArray⟩ := by
  induction l with
  | nil => intro acc; simp
  | cons b l ih =>
    intro acc
    rw [List.map_cons, List.foldl_cons, ih]
    congr 1
    simp
/-- string(b) of a row of octets. -/
theorem run_conv_row {P : Program} {w : World} {src dst e : TypeId} (hs : P.underlying src = some (.slice e)) (he : P.underlying e = some (.int .u8)) (hd : P.underlying dst = some .string)
    {e' : TypeId} {A : Option Addr} {cap : Nat} {l : List UInt8} (h : w.ownsRow 0 e' 1 (.slice A l.length cap) l.length (u8s l)) :
    (convert src dst (.slice A l.length cap)).run P w = .ok (.string ⟨l.toArray⟩) w := by
  rw [run_convert_bytes_string w src dst e A l.length cap hs he hd]
  rcases h.2 with ⟨hv, h0⟩ | ⟨g, cp, cur, hv, _, hg, _⟩
  · injection hv with hA _ _
    subst hA
    have hl : l = [] := List.eq_nil_of_length_eq_zero h0
    subst hl
    rfl
  · injection hv with hA _ _
    subst hA
    have hc : ∀ j v, (u8s l)[j]? = some v → w.cell? ((⟨g, 0, none⟩ : Addr).add j) = some v := h.cells (g := g) rfl
    have hr := run_loadCells_list (P := P) (w := w) ⟨g, 0, none⟩ (u8s l) hc
    rw [u8s_length] at hr
    have hm : (u8s l).toArray = ((l.map fun b => (b.toNat : Int)).map (Value.int .u8)).toArray := by simp [u8s]
    rw [hm] at hr
    rw [run_bytesToString w ⟨g, 0, none⟩ l.length cap _ hr, foldl_push]
    simp
theorem wp_copy_row {P : Program} {o : Oper} {a : Act} {w : World} {K : Act → World → Prop} {Q : Exit → Act → World → Prop} (d s : Operand) (dT sT : TypeId)
    (ho : o.op = .call { callee := .builtin .copy, args := #[d, s], argTypes := #[dT, sT] }) (elem : TypeId) (hu : P.underlying dT = some (.slice elem)) (hsz : (P.info? elem).map (·.size) = some 1)
    (g off dLen dCap : Nat) (ad : Addr) (sLen sCap : Nat) (hd : a.eval d = .slice (some ⟨g, off, none⟩) dLen dCap) (hs : a.eval s = .slice (some ad) sLen sCap)
    (cur : Array Value) (t : TypeId) (hg : w.heap[g]? = some (.cells cur t (0, 0))) (cs : List Value) (hn : cs.length = Nat.min sLen dLen)
    (hsrc : ∀ j v, cs[j]? = some v → w.cell? (ad.add j) = some v) (hfit : off + cs.length ≤ cur.size) (h1 : ∀ v ∈ cs, v.oneCell' = true)
    (h : K (a.put o.dst (goInt cs.length)) (w.setRow g (cur.toList.take off ++ (cs ++ cur.toList.drop (off + cs.length))).toArray)) : o.wp P a w K Q := by
  have hrun := run_copy_row (P := P) w dT sT o.type elem g off dLen dCap ad sLen sCap cur t cs hu hsz hg hn hsrc hfit h1
  unfold Oper.wp
  simp [execOp, ho, resolve, invoke, builtin, hd, hs, hrun, Result.andThen]
  exact h
theorem step_copy_row {P : Program} {ops : Array Oper} {o : Oper} {a : Act} {w : World} {K : Act → World → Prop} {Q : Exit → Act → World → Prop} {E : Prop} (hgd : o.guard = none) (d s : Operand) (dT sT : TypeId)
    (ho : o.op = .call { callee := .builtin .copy, args := #[d, s], argTypes := #[dT, sT] }) (elem : TypeId) (hu : P.underlying dT = some (.slice elem)) (hsz : (P.info? elem).map (·.size) = some 1)
    (g off dLen dCap : Nat) (ad : Addr) (sLen sCap : Nat) (hd : a.eval d = .slice (some ⟨g, off, none⟩) dLen dCap) (hs : a.eval s = .slice (some ad) sLen sCap)
    (cur : Array Value) (t : TypeId) (hg : w.heap[g]? = some (.cells cur t (0, 0))) (cs : List Value) (hn : cs.length = Nat.min sLen dLen)
    (hsrc : ∀ j v, cs[j]? = some v → w.cell? (ad.add j) = some v) (hfit : off + cs.length ≤ cur.size) (h1 : ∀ v ∈ cs, v.oneCell' = true)
    (h : K (a.put o.dst (goInt cs.length)) (w.setRow g (cur.toList.take off ++ (cs ++ cur.toList.drop (off + cs.length))).toArray)) :
    if Region.wanted o (yielded ops a.tmps) = true then Oper.wp P o a w K Q else E := by
  have hw : Region.wanted o (yielded ops a.tmps) = true := by simp [Region.wanted, hgd]
  rw [if_pos hw]
  exact wp_copy_row d s dT sT ho elem hu hsz g off dLen dCap ad sLen sCap hd hs cur t hg cs hn hsrc hfit h1 h
theorem str_sub (l : List UInt8) (a b : Nat) : (⟨l.toArray⟩ : ByteArray).extract a b = ⟨((l.drop a).take (b - a)).toArray⟩ := by
  apply ByteArray.ext
  apply Array.ext'
  simp [ByteArray.data_extract, List.take_drop]
theorem str_app (l : List UInt8) (s : ByteArray) : (⟨l.toArray⟩ : ByteArray) ++ s = ⟨(l ++ s.data.toList).toArray⟩ := by
  apply ByteArray.ext
  simp [ByteArray.data_append]
theorem quiet_left {P : Program} {f : FuncId} {args : Array Value} {w : World} {n : Nat} {v : Value}
    (h : Calls P f args (w.drewN n) fun e w' => e = .returned v ∧ w.drewN n = w') : Calls P f args (w.drewN n) fun e w'' => e = .returned v ∧ ∃ m, w'' = w.drewN m :=
  h.mono fun _ _ ⟨he, hm⟩ => ⟨he, n, hm.symm⟩
theorem ret_bool {a b : Bool} (h : a = b) : Ending.returned (.bool a) = .returned (.bool b) := by rw [h]
theorem ret_int {k : IntKind} {a b : Int} (h : a = b) : Ending.returned (.int k a) = .returned (.int k b) := by rw [h]
end Go.Proofs.YtmbgejiahmhffaaGreat

/-
  THE CONTRACTS OF LAYER 3 (octets): a writer, as a list of octets, how many at most, its error.
-/
namespace Go.Proofs.YtmbgejiahmhffaaGreat
open Go.RowKit

/-! ### The writer -/
structure Wst where
  b : List UInt8
  most : Int
  e : Int
/-- A writer lies at block p, its memory within F. -/
def Wr (w : World) (p : Nat) (F : Nat → Prop) (x : Wst) : Prop :=
  ∃ A cap, Blk w p 150 #[.slice A x.b.length cap, .int .i64 x.most, .int .i64 x.e] ∧ w.ownsRow 0 5 1 (.slice A x.b.length cap) x.b.length (u8s x.b) ∧
    F p ∧ (∀ k, rowOf A k → F k) ∧ (∀ k, F k → k < w.heap.size) ∧ 0 ≤ x.most ∧ x.most ≤ 9223372036854775807
theorem Wr.fr {w w' : World} {p : Nat} {F S : Nat → Prop} {x : Wst} (h : Wr w p F x) (hf : Fr S w w') (hd : ∀ k, F k → ¬ S k) : Wr w' p F x := by
  obtain ⟨A, cap, h1, h2, h3, h4, h5, h6⟩ := h
  exact ⟨A, cap, h1.fr hf (hd _ h3), own_fr h2 hf fun k hk => hd k (h4 k hk), h3, h4, fun k hk => Nat.lt_of_lt_of_le (h5 k hk) hf.size, h6⟩
def Wst.put (x : Wst) (s : List UInt8) : Wst × Int :=
  if x.e ≠ 0 then (x, x.e) else if x.most - x.b.length < s.length then ({ x with e := 3 }, 3) else ({ x with b := x.b ++ s }, 0)
theorem Tryz.info5 : (Tryz.prog.info? 5).map (fun i => (i.zero, i.size, i.bytes)) = some (some (.int .u8 0), 1, 1) := by kernel_rfl
set_option maxHeartbeats 400000 in
theorem newWriter_any (m : Int) (w : World) :
    Calls Tryz.prog 61 #[.int .i64 m] w fun e w' => e = .returned (.pointer (some ⟨w.heap.size, 0, none⟩)) ∧ w.alloc (.cells #[.slice none 0 0, .int .i64 (max 0 m), .int .i64 0] 150) = w' := by
  go_enter Tryz.func61, Tryz.ntmps61
  go_wp2
  all_goals (go_ret; exact ⟨rfl, by congr <;> omega⟩)
theorem Wr.new (m : Int) (hm : m ≤ 9223372036854775807) (w : World) : Wr (w.alloc (.cells #[.slice none 0 0, .int .i64 (max 0 m), .int .i64 0] 150)) w.heap.size (fun k => k = w.heap.size) ⟨[], max 0 m, 0⟩ :=
  ⟨none, 0, Blk.new _ _ _, own_nil _ _ _, rfl, fun k hk => absurd hk (rowOf_none k), fun k hk => by subst hk; simp, by dsimp only; omega, by dsimp only; omega⟩
set_option maxHeartbeats 400000 in
theorem err_any (p : Nat) (F : Nat → Prop) (x : Wst) (w : World) (h : Wr w p F x) :
    Calls Tryz.prog 71 #[.pointer (some ⟨p, 0, none⟩)] w fun e w' => e = .returned (.int .i64 x.e) ∧ w = w' := by
  obtain ⟨A, cap, h1, h2, h3, h4, h5, h6⟩ := h
  have c2 : w.cell? ⟨p, 2, none⟩ = some (.int .i64 x.e) := h1.cell 2
  clear h1 h2 h3 h4 h5 h6
  go_enter Tryz.func71, Tryz.ntmps71
  go_wp2
  go_ret
  exact ⟨rfl, rfl⟩
set_option maxHeartbeats 400000 in
theorem len_any (p : Nat) (F : Nat → Prop) (x : Wst) (w : World) (h : Wr w p F x) :
    Calls Tryz.prog 96 #[.pointer (some ⟨p, 0, none⟩)] w fun e w' => e = .returned (.int .i64 x.b.length) ∧ w = w' := by
  obtain ⟨A, cap, h1, h2, h3, h4, h5, h6⟩ := h
  have c2 : w.cell? ⟨p, 0, none⟩ = some (.slice A x.b.length cap) := h1.cell 0
  clear h1 h2 h3 h4 h5 h6
  go_enter Tryz.func96, Tryz.ntmps96
  go_wp2
  go_ret
  exact ⟨rfl, rfl⟩
/-- What each writing call leaves. -/
def WrPost (w : World) (p : Nat) (F : Nat → Prop) (r : Wst × Int) (e : Ending) (w' : World) : Prop :=
  e = .returned (.int .i64 r.2) ∧ ∃ F', Wr w' p F' r.1 ∧ Fr F w w' ∧ ∀ k, F' k → F k ∨ w.heap.size ≤ k
theorem put_long {p : Nat} {F : Nat → Prop} {x : Wst} {w : World} (h : Wr w p F x) (nq : Nat) :
    WrPost w p F ({ x with e := 3 }, 3) (.returned (.int .i64 3)) ((w.drewN nq).setCell ⟨p, 2, none⟩ (.int .i64 3)) := by
  obtain ⟨A, cap, h1, h2, h3, h4, h5, h6⟩ := h
  have hrow : ¬ rowOf A p := own_ne h2 h1 (by decide)
  have hf : Fr (· = p) w ((w.drewN nq).setCell ⟨p, 2, none⟩ (.int .i64 3)) := Fr.setCell (S := (· = p)) ((Fr.refl _ w).drewN nq) (p := ⟨p, 2, none⟩) (fun _ => rfl) _
  refine ⟨rfl, F, ⟨A, cap, (h1.drewN nq).set_ 2 _, own_fr h2 hf (fun k hk e => hrow (e ▸ hk)), h3, h4, fun k hk => Nat.lt_of_lt_of_le (h5 k hk) hf.size, h6⟩, hf.mono (fun k _ e => e ▸ h3), fun _ hk => .inl hk⟩
theorem put_fits {p : Nat} {F : Nat → Prop} {x : Wst} {w w1 : World} {s : List UInt8} {A A' : Option Addr} {cap cap' : Nat}
    (h1 : Blk w p 150 #[.slice A x.b.length cap, .int .i64 x.most, .int .i64 x.e]) (h3 : F p) (h4 : ∀ k, rowOf A k → F k) (h5 : ∀ k, F k → k < w.heap.size)
    (h6 : 0 ≤ x.most) (h7 : x.most ≤ 9223372036854775807) (hrow : ¬ rowOf A p)
    (hown : w1.ownsRow 0 5 1 (.slice A' (x.b.length + s.length) cap') (x.b.length + s.length) (u8s x.b ++ u8s s)) (hfr : Fr (rowOf A) w w1) (hat : ∀ k, rowOf A' k → rowOf A k ∨ w.heap.size ≤ k) :
    WrPost w p F ({ x with b := x.b ++ s }, 0) (.returned (.int .i64 0)) (w1.setCell ⟨p, 0, none⟩ (.slice A' (x.b.length + s.length) cap')) := by
  have hB := h1.fr hfr hrow
  have hrow' : ¬ rowOf A' p := own_ne hown hB (by decide)
  have hf1 : Fr (· = p) w1 (w1.setCell ⟨p, 0, none⟩ (.slice A' (x.b.length + s.length) cap')) := Fr.setCell (S := (· = p)) (Fr.refl _ w1) (p := ⟨p, 0, none⟩) (fun _ => rfl) _
  have hf : Fr F w (w1.setCell ⟨p, 0, none⟩ (.slice A' (x.b.length + s.length) cap')) := (hfr.mono (fun k _ hk => h4 k hk)).setCell (fun _ => h3) _
  refine ⟨rfl, fun k => k = p ∨ rowOf A' k, ⟨A', cap', ?_, ?_, .inl rfl, fun k hk => .inr hk, ?_, h6, h7⟩, hf, ?_⟩
  · have := hB.set_ 0 (.slice A' (x.b.length + s.length) cap')
    simpa using this
  · rw [List.length_append, u8s_append]
    exact own_fr hown hf1 (fun k hk e => hrow' (e ▸ hk))
  · rintro k (rfl | hk)
    · exact Nat.lt_of_lt_of_le (h5 _ h3) hf.size
    · exact Nat.lt_of_lt_of_le (own_lt hown hk) hf1.size
  · rintro k (rfl | hk)
    · exact .inl h3
    · exact (hat k hk).imp (h4 k) id
set_option maxRecDepth 100000 in
set_option maxHeartbeats 400000 in
theorem put_any (p : Nat) (F : Nat → Prop) (x : Wst) (s : ByteArray) (w : World) (h : Wr w p F x) (hs : x.b.length + s.size ≤ 140737488355328) :
    Calls Tryz.prog 65 #[.pointer (some ⟨p, 0, none⟩), .string s] w (WrPost w p F (x.put s.data.toList)) := by
  obtain ⟨i0, hi, hz0, hz1, hz2⟩ := info_parts Tryz.info5
  have H := Lib.hid h
  obtain ⟨A, cap, h1, h2, h3, h4, h5, h6, h7⟩ := h
  have c0 : w.cell? ⟨p, 0, none⟩ = some (.slice A x.b.length cap) := h1.cell 0
  have c1 : w.cell? ⟨p, 1, none⟩ = some (.int .i64 x.most) := h1.cell 1
  have c2 : w.cell? ⟨p, 2, none⟩ = some (.int .i64 x.e) := h1.cell 2
  have f0 := h1.frozen 0
  have f2 := h1.frozen 2
  have hsz : s.data.toList.length = s.size := by simp
  have Hsz := Lib.hid hsz
  have hrow : ¬ rowOf A p := own_ne h2 h1 (by decide)
  clear hsz
  by_cases he : x.e = 0
  · have he' : (x.e != 0) = false := by simp [he]
    by_cases hl : x.most - x.b.length < s.size
    · have hp : x.put s.data.toList = ({ x with e := 3 }, 3) := by simp [Wst.put, he, Hsz.out, hl]
      rw [hp]
      clear h2 hp
      go_enter Tryz.func65, Tryz.ntmps65
      go_wp2_with (first | (go_at_call 71; refine (err_any p F x _ H.out).mono ?_; rintro e w' ⟨rfl, rfl⟩))
      go_quiet (fail)
      go_wp2
      go_ret
      exact put_long H.out nq
    · have hp : x.put s.data.toList = ({ x with b := x.b ++ s.data.toList }, 0) := by simp [Wst.put, he, Hsz.out, hl]
      rw [hp]
      clear hp
      have H2 := Lib.hid h2
      clear h2
      go_enter Tryz.func65, Tryz.ntmps65
      go_wp2_with (first | (go_at_call 71; refine (err_any p F x _ H.out).mono ?_; rintro e w' ⟨rfl, rfl⟩))
      go_quiet (fail)
      go_wp2_with (first
        | (at_builtin; refine wpList_append_src rfl (.tmp 35) (.tmp 36) _ _ rfl 5 i0 _ 1 1 Tryz.underlying66 hi hz0 hz1 hz2 rfl (by decide) A x.b.length cap (u8s x.b) (by rfl) H2.out _ _ _ (by rfl) (Src.ofString _ Tryz.underlying9 s) (by simp only [maxLen]; omega) (by omega) ?_
           intro A' cap' w1 hown1 hfr0 hat1
           have hfr1 : Fr (rowOf A) w w1 := hfr0.fromN
           clear hfr0
           have hB1 := h1.fr hfr1 hrow
           have d0 : w1.cell? ⟨p, 0, none⟩ = some (.slice A x.b.length cap) := hB1.cell 0
           have g0 := hB1.frozen 0
           have Hown := Lib.hid hown1
           clear hown1))
      go_ret
      have Hown2 := Hown.out
      rw [← Hsz.out] at Hown2
      have := put_fits h1 h3 h4 h5 h6 h7 hrow (s := s.data.toList) Hown2 hfr1 hat1
      rw [Hsz.out] at this
      exact this
  · have he' : (x.e != 0) = true := by simp [he]
    have hp : x.put s.data.toList = (x, x.e) := by simp [Wst.put, he]
    rw [hp]
    clear h2 hp
    go_enter Tryz.func65, Tryz.ntmps65
    go_wp2_with (first | (go_at_call 71; refine (err_any p F x _ H.out).mono ?_; rintro e w' ⟨rfl, rfl⟩))
    go_ret
    exact ⟨rfl, F, H.out, Fr.refl _ _, fun _ hk => .inl hk⟩
def fitsB (v n : Int) : Bool := decide (1 ≤ n ∧ n ≤ 4 ∧ v < 256 ^ n.toNat)
set_option maxRecDepth 100000 in
set_option maxHeartbeats 400000 in
theorem fits_any (v n : Int) (w : World) (h0 : 0 ≤ v) (h1 : v < 4294967296) :
    Calls Tryz.prog 93 #[.int .u32 v, .int .i64 n] w fun e w' => e = .returned (.bool (fitsB v n)) ∧ w = w' := by
  by_cases a1 : n < 1
  · have hf : fitsB v n = false := by simp only [fitsB, decide_eq_false_iff_not]; omega
    rw [hf]
    clear hf
    go_enter Tryz.func93, Tryz.ntmps93
    go_wp2
    go_ret
    exact ⟨rfl, rfl⟩
  · by_cases a2 : n ≤ 4
    · rcases (show n = 1 ∨ n = 2 ∨ n = 3 ∨ n = 4 by omega) with rfl | rfl | rfl | rfl
      all_goals
        go_enter Tryz.func93, Tryz.ntmps93
        go_wp2
        go_ret
        exact ⟨ret_bool (by rw [Bool.eq_iff_iff]; simp [fitsB]; omega), rfl⟩
    · have hf : fitsB v n = false := by simp only [fitsB, decide_eq_false_iff_not]; omega
      rw [hf]
      clear hf
      go_enter Tryz.func93, Tryz.ntmps93
      go_wp2
      go_ret
      exact ⟨rfl, rfl⟩
/-- A number's octets, the highest first. -/
def octs (v : Nat) : Nat → List UInt8
  | 0 => []
  | n + 1 => UInt8.ofNat (v / 256 ^ n) :: octs v n
theorem cut_eq1 (v : Int) (h0 : 0 ≤ v) (_h1 : v < 4294967296) : (u8s (octs v.toNat 1)).toArray = #[.int .u8 (v % 256)] := by
  simp [u8s, octs]
  omega
theorem cut_eq2 (v : Int) (h0 : 0 ≤ v) (_h1 : v < 4294967296) : (u8s (octs v.toNat 2)).toArray = #[.int .u8 (v / 256 % 256), .int .u8 (v % 256)] := by
  simp [u8s, octs]
  omega
theorem cut_eq3 (v : Int) (h0 : 0 ≤ v) (_h1 : v < 4294967296) : (u8s (octs v.toNat 3)).toArray = #[.int .u8 (v / 65536 % 256), .int .u8 (v / 256 % 256), .int .u8 (v % 256)] := by
  simp [u8s, octs]
  omega
theorem cut_eq4 (v : Int) (h0 : 0 ≤ v) (h1 : v < 4294967296) : (u8s (octs v.toNat 4)).toArray = #[.int .u8 (v / 16777216), .int .u8 (v / 65536 % 256), .int .u8 (v / 256 % 256), .int .u8 (v % 256)] := by
  simp [u8s, octs]
  omega
set_option maxRecDepth 100000 in
set_option maxHeartbeats 1000000 in
theorem cut_any (v n : Int) (w : World) (h0 : 0 ≤ v) (h1 : v < 4294967296) (a1 : 1 ≤ n) (a2 : n ≤ 4) :
    Calls Tryz.prog 94 #[.int .u32 v, .int .i64 n] w fun e w' => e = .returned (.slice (some ⟨w.heap.size, 0, none⟩) n.toNat n.toNat) ∧ w.alloc (.cells (u8s (octs v.toNat n.toNat)).toArray 5) = w' := by
  rcases (show n = 1 ∨ n = 2 ∨ n = 3 ∨ n = 4 by omega) with rfl | rfl | rfl | rfl
  · have hmk : ∀ w, (Instr.makeSlice 66 (.int .i64 1) (.int .i64 1)).run Tryz.prog w = .ok (.slice (some ⟨w.heap.size, 0, none⟩) 1 1) (w.alloc (.cells #[.int .u8 0] 5)) := fun _ => by kernel_rfl
    have hq := cut_eq1 v h0 h1
    have Hq := Lib.hid hq
    clear hq
    go_enter Tryz.func94, Tryz.ntmps94
    go_wp2
    go_rounds 2
    go_ret
    exact ⟨rfl, by rw [show Int.toNat 1 = 1 from rfl, Hq.out]⟩
  · have hmk : ∀ w, (Instr.makeSlice 66 (.int .i64 2) (.int .i64 2)).run Tryz.prog w = .ok (.slice (some ⟨w.heap.size, 0, none⟩) 2 2) (w.alloc (.cells #[.int .u8 0, .int .u8 0] 5)) := fun _ => by kernel_rfl
    have hq := cut_eq2 v h0 h1
    have Hq := Lib.hid hq
    clear hq
    go_enter Tryz.func94, Tryz.ntmps94
    go_wp2
    go_rounds 3
    go_ret
    exact ⟨rfl, by rw [show Int.toNat 2 = 2 from rfl, Hq.out]⟩
  · have hmk : ∀ w, (Instr.makeSlice 66 (.int .i64 3) (.int .i64 3)).run Tryz.prog w = .ok (.slice (some ⟨w.heap.size, 0, none⟩) 3 3) (w.alloc (.cells #[.int .u8 0, .int .u8 0, .int .u8 0] 5)) := fun _ => by kernel_rfl
    have hq := cut_eq3 v h0 h1
    have Hq := Lib.hid hq
    clear hq
    go_enter Tryz.func94, Tryz.ntmps94
    go_wp2
    go_rounds 4
    go_ret
    exact ⟨rfl, by rw [show Int.toNat 3 = 3 from rfl, Hq.out]⟩
  · have hmk : ∀ w, (Instr.makeSlice 66 (.int .i64 4) (.int .i64 4)).run Tryz.prog w = .ok (.slice (some ⟨w.heap.size, 0, none⟩) 4 4) (w.alloc (.cells #[.int .u8 0, .int .u8 0, .int .u8 0, .int .u8 0] 5)) := fun _ => by kernel_rfl
    have hq := cut_eq4 v h0 h1
    have Hq := Lib.hid hq
    clear hq
    go_enter Tryz.func94, Tryz.ntmps94
    go_wp2
    go_rounds 5
    go_ret
    exact ⟨rfl, by rw [show Int.toNat 4 = 4 from rfl, Hq.out]⟩
end Go.Proofs.YtmbgejiahmhffaaGreat

namespace Go.Proofs.YtmbgejiahmhffaaGreat
open Go.RowKit

theorem octs_length (v n : Nat) : (octs v n).length = n := by induction n with
  | zero => rfl
  | succ n ih => simp [octs, ih]
theorem WrPost.pre {w w1 w' : World} {p : Nat} {F : Nat → Prop} {r : Wst × Int} {e : Ending} (h : WrPost w1 p F r e w') (hf : Fr (fun _ => False) w w1) : WrPost w p F r e w' := by
  obtain ⟨he, F', h1, h2, h3⟩ := h
  exact ⟨he, F', h1, (hf.mono (fun _ _ h => h.elim)).then h2, fun k hk => (h3 k hk).imp id fun h => Nat.le_trans hf.size h⟩
def Wst.number (x : Wst) (v n : Int) : Wst × Int :=
  if x.e ≠ 0 then (x, x.e) else if fitsB v n then x.put (octs v.toNat n.toNat) else (x, 2)
set_option maxRecDepth 100000 in
set_option maxHeartbeats 400000 in
theorem text_any (p : Nat) (F : Nat → Prop) (x : Wst) (w : World) (h : Wr w p F x) :
    Calls Tryz.prog 64 #[.pointer (some ⟨p, 0, none⟩)] w fun e w' => e = .returned (.string ⟨x.b.toArray⟩) ∧ w = w' := by
  obtain ⟨A, cap, h1, h2, h3, h4, h5, h6⟩ := h
  have c2 : w.cell? ⟨p, 0, none⟩ = some (.slice A x.b.length cap) := h1.cell 0
  have hconv := run_conv_row (P := Tryz.prog) Tryz.underlying66 Tryz.underlying5 Tryz.underlying9 h2
  clear h1 h2 h3 h4 h5 h6
  go_enter Tryz.func64, Tryz.ntmps64
  go_wp2
  go_ret
  exact ⟨rfl, rfl⟩
set_option maxRecDepth 100000 in
set_option maxHeartbeats 400000 in
theorem number_any (p : Nat) (F : Nat → Prop) (x : Wst) (v n : Int) (w : World) (h : Wr w p F x) (h0 : 0 ≤ v) (h1 : v < 4294967296) (hs : x.b.length + 4 ≤ 140737488355328) :
    Calls Tryz.prog 63 #[.pointer (some ⟨p, 0, none⟩), .int .u32 v, .int .i64 n] w (WrPost w p F (x.number v n)) := by
  have H := Lib.hid h
  clear h
  by_cases he : x.e = 0
  · have he' : (x.e != 0) = false := by simp [he]
    have HE := Lib.hid he
    clear he
    by_cases hf : fitsB v n = true
    · have hb : 1 ≤ n ∧ n ≤ 4 := by simp only [fitsB, decide_eq_true_eq] at hf; omega
      obtain ⟨b1, b2⟩ := hb
      have hp : x.number v n = x.put (octs v.toNat n.toNat) := by simp [Wst.number, HE.out, hf]
      rw [hp]
      clear hp
      have Hf := Lib.hid hf
      have hconv : ∀ w : World, (convert 66 9 (.slice (some ⟨w.heap.size, 0, none⟩) n.toNat n.toNat)).run Tryz.prog (w.alloc (.cells (u8s (octs v.toNat n.toNat)).toArray 5)) = .ok (.string ⟨(octs v.toNat n.toNat).toArray⟩) (w.alloc (.cells (u8s (octs v.toNat n.toNat)).toArray 5)) := by
        intro w
        have hl : (u8s (octs v.toNat n.toNat)).length = n.toNat := by rw [u8s_length, octs_length]
        have ho := own_of_blk (w := w.alloc (.cells (u8s (octs v.toNat n.toNat)).toArray 5)) (Blk.new w 5 (u8s (octs v.toNat n.toNat)).toArray) (by rw [hl]; simp only [maxLen]; omega)
        rw [u8s_length] at ho
        have := run_conv_row (P := Tryz.prog) Tryz.underlying66 Tryz.underlying5 Tryz.underlying9 ho
        rwa [octs_length] at this
      go_enter Tryz.func63, Tryz.ntmps63
      go_wp2_with (first
        | (go_at_call 71; refine (err_any p F x _ H.out).mono ?_; rintro e w' ⟨rfl, rfl⟩)
        | (go_at_call 93; refine (fits_any v n _ h0 h1).mono ?_; rintro e w' ⟨rfl, rfl⟩)
        | (go_at_call 94; refine (cut_any v n _ h0 h1 b1 b2).mono ?_; rintro e w' ⟨rfl, rfl⟩))
      refine (put_any p F x _ _ (H.out.fr (S := fun _ => False) ((Fr.refl _ _).alloc _) (fun _ _ h => h)) (by
        show _ + (octs v.toNat n.toNat).toArray.size ≤ _
        rw [List.size_toArray, octs_length]; omega)).mono ?_
      intro e w' hP
      have hP' := hP.pre ((Fr.refl _ _).alloc _)
      clear hP
      obtain ⟨rfl, hP'⟩ := hP'
      have HP := Lib.hid hP'
      clear hP'
      go_wp2
      go_ret
      exact ⟨rfl, HP.out⟩
    · have hf' : fitsB v n = false := by simpa using hf
      have hp : x.number v n = (x, 2) := by simp [Wst.number, HE.out, hf']
      rw [hp]
      clear hp hf
      go_enter Tryz.func63, Tryz.ntmps63
      go_wp2_with (first
        | (go_at_call 71; refine (err_any p F x _ H.out).mono ?_; rintro e w' ⟨rfl, rfl⟩)
        | (go_at_call 93; refine (fits_any v n _ h0 h1).mono ?_; rintro e w' ⟨rfl, rfl⟩))
      go_ret
      exact ⟨rfl, F, H.out, Fr.refl _ _, fun _ hk => .inl hk⟩
  · have he' : (x.e != 0) = true := by simp [he]
    have hp : x.number v n = (x, x.e) := by simp [Wst.number, he]
    rw [hp]
    clear hp
    go_enter Tryz.func63, Tryz.ntmps63
    go_wp2_with (first | (go_at_call 71; refine (err_any p F x _ H.out).mono ?_; rintro e w' ⟨rfl, rfl⟩))
    go_ret
    exact ⟨rfl, F, H.out, Fr.refl _ _, fun _ hk => .inl hk⟩
def Wst.patch (x : Wst) (at_ v n : Int) : Wst × Int :=
  if x.e ≠ 0 then (x, x.e) else if fitsB v n = true ∧ 0 ≤ at_ ∧ at_ ≤ x.b.length - n then
    ({ x with b := x.b.take at_.toNat ++ (octs v.toNat n.toNat ++ x.b.drop (at_.toNat + n.toNat)) }, 0) else (x, 2)
theorem take_splice {α : Type} (L O : List α) (k n : Nat) (h : k + O.length ≤ n) (hn : n ≤ L.length) :
    (L.take k ++ (O ++ L.drop (k + O.length))).take n = (L.take n).take k ++ (O ++ (L.take n).drop (k + O.length)) := by
  apply List.ext_getElem?
  intro i
  simp only [List.getElem?_take, List.getElem?_append, List.length_take, List.getElem?_drop]
  have e1 : min k L.length = k := by omega
  have e2 : min k (min n L.length) = k := by omega
  rw [e1, e2]
  by_cases h1 : i < k
  · simp [h1, show i < n by omega]
  · by_cases h2 : i - k < O.length
    · simp [h1, h2, show i < n by omega]
    · by_cases h3 : i < n
      · simp [h1, h2, h3, show k + O.length + (i - k - O.length) < n by omega]
      · simp [h1, h2, h3, show ¬ k + O.length + (i - k - O.length) < n by omega]
theorem patch_fits {p : Nat} {F : Nat → Prop} {x : Wst} {w : World} {g cap : Nat} {cur : Array Value} {k m : Nat} {O : List UInt8}
    (h1 : Blk w p 150 #[.slice (some ⟨g, 0, none⟩) x.b.length cap, .int .i64 x.most, .int .i64 x.e])
    (h2 : w.ownsRow 0 5 1 (.slice (some ⟨g, 0, none⟩) x.b.length cap) x.b.length (u8s x.b)) (h3 : F p) (h4 : ∀ k, rowOf (some (⟨g, 0, none⟩ : Addr)) k → F k) (h5 : ∀ k, F k → k < w.heap.size)
    (h6 : 0 ≤ x.most) (h7 : x.most ≤ 9223372036854775807) (hO : O.length = m) (hfit : k + m ≤ x.b.length)
    (hg : w.heap[g]? = some (.cells cur 5 (0, 0))) (hcap : x.b.length ≤ cap) (hcs : cur.size = cap) (htk : cur.toList.take x.b.length = u8s x.b) (o : Obj) :
    WrPost w p F ({ x with b := x.b.take k ++ (O ++ x.b.drop (k + m)) }, 0) (.returned (.int .i64 0))
      ((w.alloc o).drew.setRow g (cur.toList.take k ++ (u8s O ++ cur.toList.drop (k + (u8s O).length))).toArray) := by
  have hFg : F g := h4 g ⟨_, rfl, rfl⟩
  have hpg : p ≠ g := h1.ne_ (t' := 5) (cs' := cur) hg (by decide)
  have hb0 : Blk (w.alloc o).drew g 5 cur := Blk.alloc (w := w) hg o
  have hf : Fr F w ((w.alloc o).drew.setRow g (cur.toList.take k ++ (u8s O ++ cur.toList.drop (k + (u8s O).length))).toArray) := (((Fr.refl _ w).alloc o).drew).setRow (fun _ => hFg) _
  have hl : (x.b.take k ++ (O ++ x.b.drop (k + m))).length = x.b.length := by simp [hO]; omega
  have hcl : cur.toList.length = cap := by simpa using hcs
  have hc9 := own_cap h2
  refine ⟨rfl, F, ⟨some ⟨g, 0, none⟩, cap, ?_, ?_, h3, h4, fun k hk => Nat.lt_of_lt_of_le (h5 k hk) hf.size, h6, h7⟩, hf, fun _ hk => .inl hk⟩
  · rw [hl]
    exact (setRow_other _ g p _ hpg).trans (h1.alloc o)
  · refine ⟨by simp [u8s_length], .inr ⟨g, cap, _, by rw [hl], Nat.zero_le _, setRow_heap _ g cur _ 5 (0, 0) hb0, by rw [hl]; exact hcap, hc9.2, ?_, ?_⟩⟩
    · simp [u8s_length, hO]; omega
    · dsimp only
      rw [hl, Nat.mul_one, take_splice _ _ _ _ (by rw [u8s_length]; omega) (by rw [hcl]; exact hcap), htk, u8s_take, u8s_drop, u8s_length, hO, ← u8s_append, ← u8s_append]
set_option maxRecDepth 100000 in
set_option maxHeartbeats 400000 in
theorem patch_any (p : Nat) (F : Nat → Prop) (x : Wst) (at_ v n : Int) (w : World) (h : Wr w p F x) (h0 : 0 ≤ v) (h1 : v < 4294967296) (ha : at_ ≤ 9223372036854775807)  (hb : -9223372036854775808 ≤ at_)
    (hs : x.b.length ≤ 140737488355328) :
    Calls Tryz.prog 103 #[.pointer (some ⟨p, 0, none⟩), .int .i64 at_, .int .u32 v, .int .i64 n] w (WrPost w p F (x.patch at_ v n)) := by
  have H := Lib.hid h
  obtain ⟨A, cap, g1, g2, g3, g4, g5, g6⟩ := h
  have c0 : w.cell? ⟨p, 0, none⟩ = some (.slice A x.b.length cap) := g1.cell 0
  have G1 := Lib.hid g1
  have G2 := Lib.hid g2
  have G3 := Lib.hid (And.intro g3 (And.intro g4 (And.intro g5 g6)))
  clear g1 g2 g3 g4 g5 g6
  by_cases he : x.e = 0
  · have he' : (x.e != 0) = false := by simp [he]
    have HE := Lib.hid he
    clear he
    by_cases hf : fitsB v n = true
    · have hb : 1 ≤ n ∧ n ≤ 4 := by simp only [fitsB, decide_eq_true_eq] at hf; omega
      obtain ⟨b1, b2⟩ := hb
      have Hf := Lib.hid hf
      by_cases d1 : at_ < 0
      · have hp : x.patch at_ v n = (x, 2) := by simp [Wst.patch, HE.out, hf]; omega
        rw [hp]
        clear hp
        go_enter Tryz.func103, Tryz.ntmps103
        go_wp2_with (first
          | (go_at_call 71; refine (err_any p F x _ H.out).mono ?_; rintro e w' ⟨rfl, rfl⟩)
          | (go_at_call 93; refine (fits_any v n _ h0 h1).mono ?_; rintro e w' ⟨rfl, rfl⟩))
        go_ret
        exact ⟨rfl, F, H.out, Fr.refl _ _, fun _ hk => .inl hk⟩
      · by_cases d2 : at_ ≤ x.b.length - n
        · obtain ⟨k, rfl⟩ := Int.eq_ofNat_of_zero_le (Int.not_lt.1 d1)
          clear d1
          go_enter Tryz.func103, Tryz.ntmps103
          go_wp2_with (first
            | (go_at_call 71; refine (err_any p F x _ H.out).mono ?_; rintro e w' ⟨rfl, rfl⟩)
            | (go_at_call 93; refine (fits_any v n _ h0 h1).mono ?_; rintro e w' ⟨rfl, rfl⟩))
          have hlen := (octs_length v.toNat n.toNat)
          obtain ⟨g, cur, rfl, hg, hcap, hcs, htk⟩ : ∃ g cur, A = some ⟨g, 0, none⟩ ∧ w.heap[g]? = some (.cells cur 5 (0, 0)) ∧ x.b.length ≤ cap ∧ cur.size = cap ∧ cur.toList.take x.b.length = u8s x.b := by
            rcases G2.out.2 with ⟨hv, h0⟩ | ⟨g, cp, cur, hv, _, hg, q1, q2, q3, q4⟩
            · omega
            · injection hv with hA _ hc
              subst hc
              exact ⟨g, cur, hA, hg, q1, by simpa using q3, by simpa using q4⟩
          have hpl : p < w.heap.size := G1.out.lt
          have hgl : g < w.heap.size := own_lt G2.out ⟨_, rfl, rfl⟩
          have HG := Lib.hid hg
          have HL := Lib.hid hlen
          have HC := Lib.hid hcs
          clear hg hlen hcs
          have HK : Hid (∀ o, (w.alloc o).drew.cell? ⟨p, 0, none⟩ = some (.slice (some ⟨g, 0, none⟩) x.b.length cap)) := fun o => (World.cell?_alloc_lt w o ⟨p, 0, none⟩ hpl).trans c0
          have HGW : Hid (∀ o, (w.alloc o).drew.heap[g]? = some (.cells cur 5 (0, 0))) := fun o => (Below.heap_alloc w o g hgl).trans HG.out
          have hpg : p ≠ g := G1.out.ne_ (t' := 5) HG.out (by decide)
          have HK2 : Hid (∀ o cs, ((w.alloc o).drew.setRow g cs).cell? ⟨p, 0, none⟩ = some (.slice (some ⟨g, 0, none⟩) x.b.length cap)) := fun o cs => (cell_setRow_other _ g cs _ hpg).trans (HK.out o)
          have HN : Hid ((u8s (octs v.toNat n.toNat)).length = Nat.min n.toNat (x.b.length - k)) := by
            show _ = _
            rw [u8s_length, HL.out]; exact (Nat.min_eq_left (by omega)).symm
          have HS : Hid (∀ j u, (u8s (octs v.toNat n.toNat))[j]? = some u → (w.alloc (.cells (u8s (octs v.toNat n.toNat)).toArray 5)).drew.cell? ((⟨w.heap.size, 0, none⟩ : Addr).add j) = some u) :=
            (own_of_blk (Blk.new w 5 _) (by rw [u8s_length, HL.out]; simp only [maxLen]; omega)).cells (g := w.heap.size) rfl
          have HF : Hid (k + (u8s (octs v.toNat n.toNat)).length ≤ cur.size) := by
            show _ ≤ _
            rw [u8s_length, HL.out, HC.out]; omega
          have q0 : (0 : Int) ≤ (k : Int) := by omega
          have q1 : (k : Int) ≤ (x.b.length : Int) := by omega
          have q2 : ¬ cap = k := by omega
          have q3 : k ≤ x.b.length := by omega
          go_region_held3 (fun w' => w'.cell? ⟨p, 0, none⟩ = some (.slice (some ⟨g, 0, none⟩) x.b.length cap)) (first | assumption | exact HK.out _ | exact HK2.out _ _)
            (first
              | ((refine step_copy_row rfl (.tmp 39) (.tmp 42) _ _ rfl 5 Tryz.underlying66 (by kernel_rfl) g k (x.b.length - k) (cap - k) ⟨w.heap.size, 0, none⟩ n.toNat n.toNat (by simp [Act.eval]) (by simp [Act.eval]) cur 5 (HGW.out _) (u8s (octs v.toNat n.toNat)) HN.out HS.out HF.out (u8s_one _) ?_))
              | (go_at_call 94; refine (cut_any v n _ h0 h1 b1 b2).mono ?_; rintro e w' ⟨rfl, rfl⟩))
          go_wp2
          go_ret
          have hfit : k + n.toNat ≤ x.b.length := by omega
          have hp : x.patch (k : Int) v n = ({ x with b := x.b.take k ++ (octs v.toNat n.toNat ++ x.b.drop (k + n.toNat)) }, 0) := by
            unfold Wst.patch
            rw [if_neg (by simpa using HE.out), if_pos ⟨Hf.out, q0, d2⟩]
            rfl
          rw [hp]
          exact patch_fits G1.out G2.out G3.out.1 G3.out.2.1 G3.out.2.2.1 G3.out.2.2.2.1 G3.out.2.2.2.2 HL.out hfit HG.out hcap HC.out htk _
        · have hp : x.patch at_ v n = (x, 2) := by simp [Wst.patch, HE.out, hf]; omega
          rw [hp]
          clear hp
          go_enter Tryz.func103, Tryz.ntmps103
          go_wp2_with (first
            | (go_at_call 71; refine (err_any p F x _ H.out).mono ?_; rintro e w' ⟨rfl, rfl⟩)
            | (go_at_call 93; refine (fits_any v n _ h0 h1).mono ?_; rintro e w' ⟨rfl, rfl⟩))
          go_ret
          exact ⟨rfl, F, H.out, Fr.refl _ _, fun _ hk => .inl hk⟩
    · have hf' : fitsB v n = false := by simpa using hf
      have hp : x.patch at_ v n = (x, 2) := by simp [Wst.patch, HE.out, hf']
      rw [hp]
      clear hp hf
      go_enter Tryz.func103, Tryz.ntmps103
      go_wp2_with (first
        | (go_at_call 71; refine (err_any p F x _ H.out).mono ?_; rintro e w' ⟨rfl, rfl⟩)
        | (go_at_call 93; refine (fits_any v n _ h0 h1).mono ?_; rintro e w' ⟨rfl, rfl⟩))
      go_ret
      exact ⟨rfl, F, H.out, Fr.refl _ _, fun _ hk => .inl hk⟩
  · have he' : (x.e != 0) = true := by simp [he]
    have hp : x.patch at_ v n = (x, x.e) := by simp [Wst.patch, he]
    rw [hp]
    clear hp
    go_enter Tryz.func103, Tryz.ntmps103
    go_wp2_with (first | (go_at_call 71; refine (err_any p F x _ H.out).mono ?_; rintro e w' ⟨rfl, rfl⟩))
    go_ret
    exact ⟨rfl, F, H.out, Fr.refl _ _, fun _ hk => .inl hk⟩
end Go.Proofs.YtmbgejiahmhffaaGreat

/-
  THE CONTRACTS OF LAYER 3 (octets): a reader, as octets and a place.
-/
namespace Go.Proofs.YtmbgejiahmhffaaGreat
open Go.RowKit

structure Rst where
  s : ByteArray
  at_ : Nat
def Rst.ok (x : Rst) : Prop := x.at_ ≤ x.s.size ∧ x.s.size ≤ 140737488351232
/-- A reader lies at block p. -/
def Rd (w : World) (p : Nat) (x : Rst) : Prop := Blk w p 164 #[.string x.s, .int .i64 x.at_] ∧ x.ok
theorem Rd.fr {w w' : World} {p : Nat} {S : Nat → Prop} {x : Rst} (h : Rd w p x) (hf : Fr S w w') (hd : ¬ S p) : Rd w' p x := ⟨h.1.fr hf hd, h.2⟩
def Rst.take (x : Rst) (n : Int) : Rst × ByteArray × Int :=
  if n < 0 then (x, ⟨#[]⟩, 2) else if (x.s.size : Int) - x.at_ < n then (x, ⟨#[]⟩, 8) else ({ x with at_ := x.at_ + n.toNat }, x.s.extract x.at_ (x.at_ + n.toNat), 0)
/-- The number of octets, the highest first. -/
def numOf (l : List UInt8) : Nat := l.foldl (fun v b => v * 256 + b.toNat) 0
theorem numOf_snoc (l : List UInt8) (b : UInt8) : numOf (l ++ [b]) = numOf l * 256 + b.toNat := by simp [numOf]
theorem numOf_from (l : List UInt8) : ∀ a : Nat, l.foldl (fun v b => v * 256 + b.toNat) a < (a + 1) * 256 ^ l.length := by
  induction l with
  | nil => intro a; simp
  | cons b l ih =>
    intro a
    have h1 := ih (a * 256 + b.toNat)
    have h2 := b.toNat_lt
    have h3 : (a * 256 + b.toNat + 1) * 256 ^ l.length ≤ ((a + 1) * 256) * 256 ^ l.length := Nat.mul_le_mul_right _ (by omega)
    rw [List.foldl_cons, List.length_cons, Nat.pow_succ]
    calc _ < _ := h1
      _ ≤ _ := h3
      _ = _ := by rw [Nat.mul_assoc, Nat.mul_comm 256]
theorem numOf_lt (l : List UInt8) : numOf l < 256 ^ l.length := by have := numOf_from l 0; simpa [numOf] using this
def Rst.number (x : Rst) (n : Int) : Rst × Int × Int :=
  if n < 1 ∨ 4 < n then (x, 0, 2) else ((x.take n).1, numOf (x.take n).2.1.data.toList, (x.take n).2.2)
def Rst.seek (x : Rst) (a : Int) : Rst × Int := if a < 0 ∨ (x.s.size : Int) < a then (x, 2) else ({ x with at_ := a.toNat }, 0)
set_option maxHeartbeats 400000 in
theorem newReader_any (s : ByteArray) (w : World) :
    Calls Tryz.prog 72 #[.string s] w fun e w' => e = .returned (.pointer (some ⟨w.heap.size, 0, none⟩)) ∧ w.alloc (.cells #[.string s, .int .i64 0] 164) = w' := by
  go_enter Tryz.func72, Tryz.ntmps72
  go_wp2
  go_ret
  exact ⟨rfl, rfl⟩
def RdNew (w : World) (s : ByteArray) (e : Ending) (w' : World) : Prop :=
  ∃ p, e = .returned (.pointer (some ⟨p, 0, none⟩)) ∧ Rd w' p ⟨s, 0⟩ ∧ Fr (fun _ => False) w w' ∧ w.heap.size ≤ p
theorem newReader_c (s : ByteArray) (hs : s.size ≤ 140737488351232) (w : World) : Calls Tryz.prog 72 #[.string s] w (RdNew w s) := by
  refine (newReader_any s w).mono ?_
  rintro e w' ⟨rfl, rfl⟩
  exact ⟨w.heap.size, rfl, ⟨Blk.new _ _ _, Nat.zero_le _, hs⟩, (Fr.refl _ _).alloc _, Nat.le_refl _⟩
set_option maxHeartbeats 400000 in
theorem at_any (p : Nat) (x : Rst) (w : World) (h : Rd w p x) : Calls Tryz.prog 78 #[.pointer (some ⟨p, 0, none⟩)] w fun e w' => e = .returned (.int .i64 x.at_) ∧ w = w' := by
  have c1 : w.cell? ⟨p, 1, none⟩ = some (.int .i64 x.at_) := h.1.cell 1
  clear h
  go_enter Tryz.func78, Tryz.ntmps78
  go_wp2
  go_ret
  exact ⟨rfl, rfl⟩
set_option maxHeartbeats 400000 in
theorem left_any (p : Nat) (x : Rst) (w : World) (h : Rd w p x) :
    Calls Tryz.prog 107 #[.pointer (some ⟨p, 0, none⟩)] w fun e w' => e = .returned (.int .i64 (x.s.size - x.at_)) ∧ ∃ n, w' = w.drewN n := by
  have c0 : w.cell? ⟨p, 0, none⟩ = some (.string x.s) := h.1.cell 0
  have c1 : w.cell? ⟨p, 1, none⟩ = some (.int .i64 x.at_) := h.1.cell 1
  obtain ⟨h1, h2⟩ := h.2
  clear h
  go_enter Tryz.func107, Tryz.ntmps107
  go_wp2
  go_quiet (fail)
  go_wp2
  go_ret
  exact ⟨rfl, _, rfl⟩
def RdPost (w : World) (p : Nat) (x : Rst) (v : Value) (e : Ending) (w' : World) : Prop := e = .returned v ∧ Rd w' p x ∧ Fr (· = p) w w'
theorem Rd.set {w : World} {p : Nat} {x : Rst} (h : Rd w p x) (n k : Nat) (hk : k ≤ x.s.size) :
    Rd ((w.drewN n).setCell ⟨p, 1, none⟩ (.int .i64 k)) p { x with at_ := k } ∧ Fr (· = p) w ((w.drewN n).setCell ⟨p, 1, none⟩ (.int .i64 k)) :=
  ⟨⟨(h.1.drewN n).set_ 1 _, hk, h.2.2⟩, Fr.setCell (S := (· = p)) ((Fr.refl _ w).drewN n) (p := ⟨p, 1, none⟩) (fun _ => rfl) _⟩
set_option maxRecDepth 100000 in
set_option maxHeartbeats 400000 in
theorem seek_any (p : Nat) (x : Rst) (a : Int) (w : World) (h : Rd w p x) :
    Calls Tryz.prog 105 #[.pointer (some ⟨p, 0, none⟩), .int .i64 a] w (RdPost w p (x.seek a).1 (.int .i64 (x.seek a).2)) := by
  have H := Lib.hid h
  have c0 : w.cell? ⟨p, 0, none⟩ = some (.string x.s) := h.1.cell 0
  have c1 : w.cell? ⟨p, 1, none⟩ = some (.int .i64 x.at_) := h.1.cell 1
  have f1 := h.1.frozen 1
  obtain ⟨h1, h2⟩ := h.2
  clear h
  by_cases a1 : a < 0
  · have hp : x.seek a = (x, 2) := by simp [Rst.seek, a1]
    rw [hp]
    clear hp
    go_enter Tryz.func105, Tryz.ntmps105
    go_wp2
    go_ret
    exact ⟨rfl, H.out, Fr.refl _ _⟩
  · by_cases a2 : (x.s.size : Int) < a
    · have hp : x.seek a = (x, 2) := by simp [Rst.seek, a2]
      rw [hp]
      clear hp
      go_enter Tryz.func105, Tryz.ntmps105
      go_wp2
      go_ret
      exact ⟨rfl, H.out, Fr.refl _ _⟩
    · obtain ⟨k, rfl⟩ := Int.eq_ofNat_of_zero_le (Int.not_lt.1 a1)
      have hp : x.seek k = ({ x with at_ := k }, 0) := by simp [Rst.seek]; omega
      rw [hp]
      clear hp
      go_enter Tryz.func105, Tryz.ntmps105
      go_wp2
      go_ret
      exact ⟨rfl, H.out.set 0 k (by omega)⟩
set_option maxRecDepth 100000 in
set_option maxHeartbeats 800000 in
theorem take_any (p : Nat) (x : Rst) (n : Int) (w : World) (h : Rd w p x) :
    Calls Tryz.prog 104 #[.pointer (some ⟨p, 0, none⟩), .int .i64 n] w (RdPost w p (x.take n).1 (.tuple #[.string (x.take n).2.1, .int .i64 (x.take n).2.2])) := by
  have H := Lib.hid h
  have c0 : w.cell? ⟨p, 0, none⟩ = some (.string x.s) := h.1.cell 0
  have c1 : w.cell? ⟨p, 1, none⟩ = some (.int .i64 x.at_) := h.1.cell 1
  have f1 := h.1.frozen 1
  obtain ⟨h1, h2⟩ := h.2
  clear h
  by_cases a1 : n < 0
  · have hp : x.take n = (x, ⟨#[]⟩, 2) := by simp [Rst.take, a1]
    rw [hp]
    clear hp
    go_enter Tryz.func104, Tryz.ntmps104
    go_wp2
    go_ret2
    exact ⟨rfl, H.out, Fr.refl _ _⟩
  · by_cases a2 : (x.s.size : Int) - x.at_ < n
    · have hp : x.take n = (x, ⟨#[]⟩, 8) := by simp [Rst.take, a1, a2]
      rw [hp]
      clear hp
      go_enter Tryz.func104, Tryz.ntmps104
      go_wp2_with fail
      refine (left_any p x _ H.out).mono ?_
      rintro e w' ⟨rfl, nq, rfl⟩
      go_wp2
      go_ret2
      exact ⟨rfl, H.out.fr (S := fun _ => False) ((Fr.refl _ _).drewN _) id, (Fr.refl _ _).drewN _⟩
    · obtain ⟨k, rfl⟩ := Int.eq_ofNat_of_zero_le (Int.not_lt.1 a1)
      have hp : x.take k = ({ x with at_ := x.at_ + k }, x.s.extract x.at_ (x.at_ + k), 0) := by simp [Rst.take, a2]
      rw [hp]
      clear hp
      have q1 : x.at_ + k ≤ x.s.size := by omega
      have q2 : IntKind.i64.wrap ((x.at_ : Int) + (k : Int)) = (x.at_ : Int) + (k : Int) := IntWalk.i64_in _ (by omega)
      have q3 : (0 : Int) ≤ (x.at_ : Int) + (k : Int) := by omega
      have q4 : ((x.at_ : Int) + (k : Int)).toNat = x.at_ + k := by omega
      go_enter Tryz.func104, Tryz.ntmps104
      go_wp2_with fail
      refine (left_any p x _ H.out).mono ?_
      rintro e w' ⟨rfl, nq0, rfl⟩
      go_wp2_with fail
      go_quiet (fail)
      go_wp2_with fail
      go_ret2
      have hs := H.out.set (nq0 + nq) (x.at_ + k) q1
      rw [Int.natCast_add] at hs
      exact ⟨rfl, hs⟩
def BytesPost (w : World) (s : ByteArray) (w' : World) : Prop := Fr (fun _ => False) w w' ∧ ∀ j, j < s.size → w'.cell? ⟨w.heap.size, j, none⟩ = some (.int .u8 (s.data.toList.getD j 0).toNat)
theorem bytes_post (w : World) (s : ByteArray) : BytesPost w s (Lib.bytesWorld w 5 s) :=
  ⟨⟨rfl, rfl, rfl, by rw [Lib.bytesWorld_size]; omega, fun k hk _ => Lib.bytesWorld_at_old w 5 s k hk⟩, fun j hj => Lib.bytesWorld_cell w 5 s j hj⟩
theorem u32_or_nat (a b : Nat) (ha : a < 4294967296) (hb : b < 4294967296) : bits .or .u32 (a : Int) (b : Int) = ((a ||| b : Nat) : Int) := by
  have hx : a ||| b < 2 ^ 32 := Nat.or_lt_two_pow (by omega) (by omega)
  show IntKind.u32.wrap ((BitVec.ofInt 32 (a : Int) ||| BitVec.ofInt 32 (b : Int)).toNat : Int) = _
  rw [BitVec.toNat_or, BitVec.ofInt_natCast, BitVec.ofInt_natCast, BitVec.toNat_ofNat, BitVec.toNat_ofNat, Nat.mod_eq_of_lt (by omega), Nat.mod_eq_of_lt (by omega), IntKind.wrap_u32]
  omega
theorem or_octet (V c : Nat) (hV : V < 16777216) (hc : c < 256) : bits .or .u32 ((V : Int) * 256) (c : Int) = ((V * 256 + c : Nat) : Int) := by
  have e1 : (V : Int) * 256 = ((V * 256 : Nat) : Int) := by omega
  rw [e1, u32_or_nat _ _ (by omega) (by omega), Nat.mul_comm V 256, show 256 = 2 ^ 8 from rfl, ← Nat.two_pow_add_eq_or_of_lt (by omega)]
set_option maxRecDepth 100000 in
set_option maxHeartbeats 1600000 in
theorem rdnumber_any (p : Nat) (x : Rst) (n : Int) (w : World) (h : Rd w p x) :
    Calls Tryz.prog 73 #[.pointer (some ⟨p, 0, none⟩), .int .i64 n] w (RdPost w p (x.number n).1 (.tuple #[.int .u32 (x.number n).2.1, .int .i64 (x.number n).2.2])) := by
  by_cases a0 : n < 1
  · have hp : x.number n = (x, 0, 2) := by simp [Rst.number, a0]
    rw [hp]
    clear hp
    go_enter Tryz.func73, Tryz.ntmps73
    go_wp2
    go_ret2
    exact ⟨rfl, h, Fr.refl _ _⟩
  · by_cases a1 : 4 < n
    · have hp : x.number n = (x, 0, 2) := by simp [Rst.number, a1]
      rw [hp]
      clear hp
      go_enter Tryz.func73, Tryz.ntmps73
      go_wp2
      go_ret2
      exact ⟨rfl, h, Fr.refl _ _⟩
    · have hp : x.number n = ((x.take n).1, (numOf (x.take n).2.1.data.toList : Int), (x.take n).2.2) := by unfold Rst.number; rw [if_neg (by omega)]
      rw [hp]
      clear hp
      have hsz : (x.take n).2.1.size ≤ 4 := by
        unfold Rst.take
        split
        · exact Nat.zero_le 4
        · split
          · exact Nat.zero_le 4
          · simp only [ByteArray.size_extract]; omega
      have H := Lib.hid h
      clear h
      go_enter Tryz.func73, Tryz.ntmps73
      go_wp2_with fail
      refine (take_any p x n _ H.out).mono ?_
      rintro e w1 ⟨rfl, h1, f1⟩
      have H1 := Lib.hid (And.intro h1 f1)
      clear h1 f1
      generalize (x.take n).2.1 = s at *
      generalize (x.take n).1 = y at *
      generalize (x.take n).2.2 = z at *
      have hcv := Lib.run_convert_string_bytes (P := Tryz.prog) w1 9 66 5 s Tryz.underlying9 Tryz.underlying66 Tryz.underlying5
      have B1 : BytesPost w1 s (Lib.bytesWorld w1 5 s) := bytes_post w1 s
      generalize Lib.bytesWorld w1 5 s = w2 at *
      go_wp2_with fail
      have HB := Lib.hid B1
      clear B1 hcv
      go_loop [8, 30] (fun v i => ∃ k : Nat, k ≤ s.size ∧ i = .int .i64 k ∧ v = .int .u32 (numOf (s.data.toList.take k))) (fun _ i => s.size - (intOf i).toNat)
      case atStart => exact ⟨0, Nat.zero_le _, rfl, rfl⟩
      case round =>
        obtain ⟨k, hk, rfl, rfl⟩ := hrel
        have hlen : (s.data.toList.take k).length = k := by simp; omega
        have hv := numOf_lt (s.data.toList.take k)
        rw [hlen] at hv
        by_cases hlt : k < s.size
        · have hc := HB.out.2 k hlt
          have hs4 : numOf (s.data.toList.take k) < 16777216 := Nat.lt_of_lt_of_le hv (Nat.pow_le_pow_right (by decide) (show k ≤ 3 by omega))
          have hb : (s.data.toList.getD k 0).toNat < 256 := (s.data.toList.getD k 0).toNat_lt
          have ht : s.data.toList.take (k + 1) = s.data.toList.take k ++ [s.data.toList.getD k 0] := by
            rw [List.take_succ_eq_append_getElem (by simpa using hlt)]
            congr 2
            rw [List.getD_eq_getElem?_getD, List.getElem?_eq_getElem (by simpa using hlt)]
            rfl
          have hn : numOf (s.data.toList.take (k + 1)) = numOf (s.data.toList.take k) * 256 + (s.data.toList.getD k 0).toNat := by rw [ht, numOf_snoc]
          have HN := Lib.hid hn
          clear hn ht
          generalize s.data.toList.getD k 0 = cb at *
          have ho := or_octet (numOf (s.data.toList.take k)) cb.toNat hs4 hb
          have HO := Lib.hid ho
          clear ho hv hlen
          generalize numOf (s.data.toList.take k) = V at *
          go_wp2
          go_round
          case rel => exact ⟨k + 1, by omega, by go_num, by rw [HN.out, ← HO.out]⟩
          case measure => simp [intOf]; omega
        · have hke : k = s.size := by omega
          subst hke
          rw [List.take_of_length_le (by simp)]
          go_wp2
          go_ret2
          exact ⟨rfl, H1.out.1.fr (S := fun _ => False) HB.out.1 id, H1.out.2.then (HB.out.1.mono fun _ _ h => h.elim)⟩
end Go.Proofs.YtmbgejiahmhffaaGreat

/-
  strings.Builder, WHEREVER IT LIES: in a field of a block that is known whole (block p, of type T, at cell o).
-/
namespace Go.Proofs.YtmbgejiahmhffaaGreat
open Go.RowKit

theorem Tryz.infoU8 : (Tryz.prog.info? 5).map (fun i => (i.zero, i.size, i.bytes)) = some (some (.int .u8 0), 1, 1) := by kernel_rfl
theorem Tryz.sizeBuilder : (Tryz.prog.info? 199).map (fun i => i.size) = some 2 := by kernel_rfl
theorem Tryz.cellsU8 : Tryz.prog.cellsOf 5 = 1 := by kernel_rfl
theorem Blk.shape {w : World} {g : Nat} {t : TypeId} {cs : Array Value} (h : Blk w g t cs) : w.shape? g = some (t, cs.size) := by
  unfold Blk at h
  simp [World.shape?, h]
/-- The builder's own address, or none yet. -/
def selfOr (p o : Nat) (v : Value) : Prop := v = .pointer none ∨ v = .pointer (some ⟨p, o, none⟩)
set_option maxHeartbeats 1000000 in
set_option maxRecDepth 100000 in
theorem copyCheck_used (p o : Nat) (w : World) (h0 : w.cell? ⟨p, o, none⟩ = some (.pointer (some ⟨p, o, none⟩))) :
    Calls Tryz.prog 145 #[.pointer (some ⟨p, o, none⟩)] w fun e w' => e = .returned (.tuple #[]) ∧ w = w' := by
  obtain ⟨j, hj, _⟩ := Option.map_eq_some_iff.1 Tryz.sizeBuilder
  go_enter Tryz.func145, Tryz.ntmps145
  go_wp2_with fail
  rw [Lib.run_neq_ptr_same w _ Tryz.underlying197 hj]
  go_wp2_with fail
  go_end0
  exact ⟨rfl, rfl⟩
set_option maxHeartbeats 1000000 in
set_option maxRecDepth 100000 in
theorem copyCheck_fresh (p o : Nat) (T : TypeId) (cs : Array Value) (w : World) (hb : Blk w p T cs) (h0 : cs[o]? = some (.pointer none))
    (hlies : liesAt Tryz.prog Tryz.prog.depth T (cs.size / Tryz.prog.cellsOf T) o 199 1 = true) :
    Calls Tryz.prog 145 #[.pointer (some ⟨p, o, none⟩)] w fun e w' => e = .returned (.tuple #[]) ∧ w.setCell ⟨p, o, none⟩ (.pointer (some ⟨p, o, none⟩)) = w' := by
  obtain ⟨j, hj, hjs⟩ := Option.map_eq_some_iff.1 Tryz.sizeBuilder
  have c0 : w.cell? ⟨p, o, none⟩ = some (.pointer none) := (hb.cell o).trans h0
  have f0 := hb.frozen o
  have hsh := hb.shape
  have ho : o < cs.size := (Array.getElem?_eq_some_iff.1 h0).1
  go_enter Tryz.func145, Tryz.ntmps145
  go_wp2_with fail
  rw [Lib.run_to_unsafe w ⟨p, o, none⟩ Tryz.underlying197 Tryz.underlying211 hj (by rw [hjs]; decide) hsh ho]
  simp only [Result.andThen]
  rw [Oper.upon_value]
  go_wp2_with fail
  rw [run_callFunc_extern Tryz.func146 (by kernel_rfl) (by kernel_rfl) (by kernel_rfl) (e := Extern.AbiNoEscape.same) (by kernel_rfl)]
  rw [Lib.run_noEscape]
  simp only [Result.andThen]
  rw [Oper.upon_value]
  go_wp2_with fail
  rw [Lib.run_from_unsafe w ⟨p, o, none⟩ Tryz.underlying211 Tryz.underlying197 hj hsh hlies]
  simp only [Result.andThen]
  rw [Oper.upon_value]
  go_wp2_with fail
  go_end0
  exact ⟨rfl, rfl⟩
theorem copyCheck_any (p o : Nat) (T : TypeId) (cs : Array Value) (v : Value) (w : World) (hb : Blk w p T cs) (h0 : cs[o]? = some v) (hv : selfOr p o v)
    (hlies : liesAt Tryz.prog Tryz.prog.depth T (cs.size / Tryz.prog.cellsOf T) o 199 1 = true) :
    Calls Tryz.prog 145 #[.pointer (some ⟨p, o, none⟩)] w fun e w' => e = .returned (.tuple #[]) ∧ Blk w' p T (cs.setIfInBounds o (.pointer (some ⟨p, o, none⟩))) ∧ Fr (· = p) w w' := by
  rcases hv with rfl | rfl
  · refine (copyCheck_fresh p o T cs w hb h0 hlies).mono ?_
    rintro e w' ⟨rfl, rfl⟩
    exact ⟨rfl, hb.set_ o _, Fr.setCell (S := (· = p)) (Fr.refl _ w) (p := ⟨p, o, none⟩) (fun _ => rfl) _⟩
  · refine (copyCheck_used p o w ((hb.cell o).trans h0)).mono ?_
    rintro e w' ⟨rfl, rfl⟩
    have : cs.setIfInBounds o (.pointer (some ⟨p, o, none⟩)) = cs := by
      obtain ⟨ho, he⟩ := Array.getElem?_eq_some_iff.1 h0
      apply Array.ext
      · simp
      · intro i h1 h2
        by_cases hi : o = i
        · subst hi
          rw [Array.getElem_setIfInBounds_self, he]
        · rw [Array.getElem_setIfInBounds, if_neg hi]
    rw [this]
    exact ⟨rfl, hb, Fr.refl _ _⟩
/-- What writing into a builder leaves. -/
def BldPost (w : World) (p o : Nat) (T : TypeId) (cs : Array Value) (A : Option Addr) (l : List UInt8) (v : Value) (e : Ending) (w' : World) : Prop :=
  e = .returned v ∧ ∃ A' cap', Blk w' p T ((cs.setIfInBounds o (.pointer (some ⟨p, o, none⟩))).setIfInBounds (o + 1) (.slice A' l.length cap')) ∧ w'.ownsRow 0 5 1 (.slice A' l.length cap') l.length (u8s l) ∧
    Fr (fun k => k = p ∨ rowOf A k) w w' ∧ ∀ k, rowOf A' k → rowOf A k ∨ w.heap.size ≤ k
set_option maxHeartbeats 2000000 in
set_option maxRecDepth 100000 in
theorem writeString_any (p o : Nat) (T : TypeId) (cs : Array Value) (v : Value) (A : Option Addr) (cap : Nat) (l : List UInt8) (s : ByteArray) (w : World) (hb : Blk w p T cs) (h0 : cs[o]? = some v) (hv : selfOr p o v)
    (h1 : cs[o + 1]? = some (.slice A l.length cap)) (hown : w.ownsRow 0 5 1 (.slice A l.length cap) l.length (u8s l)) (hT : T ≠ 5)
    (hlies : liesAt Tryz.prog Tryz.prog.depth T (cs.size / Tryz.prog.cellsOf T) o 199 1 = true) (hs : l.length + s.size ≤ 140737488355328) :
    Calls Tryz.prog 143 #[.pointer (some ⟨p, o, none⟩), .string s] w (BldPost w p o T cs A (l ++ s.data.toList) (.tuple #[.int .i64 s.size, .nilIface])) := by
  obtain ⟨i0, hi, hz0, hz1, hz2⟩ := info_parts Tryz.infoU8
  go_enter Tryz.func143, Tryz.ntmps143
  go_wp2_with fail
  refine (copyCheck_any p o T cs v _ hb h0 hv hlies).mono ?_
  rintro e w1 ⟨rfl, hb1, f1⟩
  have hrow : ¬ rowOf A p := own_ne hown hb (fun h => hT h.symm)
  have hown1 := own_fr hown f1 (fun k hk e => hrow (e ▸ hk))
  have hc1 : (cs.setIfInBounds o (.pointer (some ⟨p, o, none⟩)))[o + 1]? = some (.slice A l.length cap) := by
    rw [Array.getElem?_setIfInBounds, if_neg (by omega)]; exact h1
  have ho : o + 1 < cs.size := (Array.getElem?_eq_some_iff.1 h1).1
  have c1 : w1.cell? ⟨p, o + 1, none⟩ = some (.slice A l.length cap) := (hb1.cell (o + 1)).trans hc1
  have H1 := Lib.hid hown1
  have F1 := Lib.hid f1
  have HB1 := Lib.hid hb1
  clear hown1 f1 hb1 hown hv h0
  go_wp2_with (first
    | (at_builtin; refine wpList_append_src rfl (.tmp 12) (.tmp 13) _ _ rfl 5 i0 _ 1 1 Tryz.underlying66 hi hz0 hz1 hz2 rfl (by decide) A l.length cap (u8s l) (by rfl) H1.out _ _ _ (by rfl) (Src.ofString _ Tryz.underlying9 s) (by simp only [maxLen]; omega) (by omega) ?_
       intro A' cap' w2 hown2 hfr2 hat2
       have hB2 := HB1.out.fr hfr2 hrow
       have d1 : w2.cell? ⟨p, o + 1, none⟩ = some (.slice A l.length cap) := (hB2.cell (o + 1)).trans hc1
       have g1 := hB2.frozen (o + 1)
       have Hown := Lib.hid hown2
       have HF2 := Lib.hid hfr2
       have HAT := Lib.hid hat2
       have HB2 := Lib.hid hB2
       clear hown2 hfr2 hat2 hB2))
  go_ret2
  have hrow' : ¬ rowOf A' p := own_ne Hown.out HB2.out (fun h => hT h.symm)
  have hf3 : Fr (· = p) w2 (w2.setCell ⟨p, o + 1, none⟩ (.slice A' (l.length + s.size) cap')) := Fr.setCell (S := (· = p)) (Fr.refl _ w2) (p := ⟨p, o + 1, none⟩) (fun _ => rfl) _
  have hl : (l ++ s.data.toList).length = l.length + s.size := by simp
  refine ⟨rfl, A', cap', ?_, ?_, ?_, ?_⟩
  · rw [hl]
    exact HB2.out.set_ (o + 1) _
  · rw [hl, u8s_append]
    exact own_fr Hown.out hf3 (fun k hk e => hrow' (e ▸ hk))
  · exact ((F1.out.mono (fun _ _ h => .inl h)).then ((HF2.out.mono (fun _ _ h => .inr h)).then (hf3.mono (fun _ _ h => .inl h))))
  · exact fun k hk => (HAT.out k hk).imp id (fun h => Nat.le_trans F1.out.size h)
set_option maxHeartbeats 1000000 in
set_option maxRecDepth 100000 in
theorem bldLen_any (p o : Nat) (A : Option Addr) (n cap : Nat) (w : World) (h0 : w.cell? ⟨p, o + 1, none⟩ = some (.slice A n cap)) :
    Calls Tryz.prog 144 #[.pointer (some ⟨p, o, none⟩)] w fun e w' => e = .returned (.int .i64 n) ∧ w = w' := by
  go_enter Tryz.func144, Tryz.ntmps144
  go_wp2_with fail
  go_ret
  exact ⟨rfl, rfl⟩
theorem fr_freeze {S : Nat → Prop} {a w : World} (h : Fr S a w) {p : Addr} (hp : p.block < a.heap.size → S p.block) (n : Nat) : Fr S a (w.freeze p n) := by
  unfold World.freeze
  split
  · exact h
  · refine ⟨h.os, h.tape, h.output, by simpa using h.size, fun k hk hS => ?_⟩
    rw [← h.block k hk hS]
    simp only [Array.getElem?_modify]
    rw [if_neg (by rintro rfl; exact hS (hp hk))]
section
variable (p o : Nat) (T : TypeId) (cs : Array Value) (w : World)

set_option maxHeartbeats 2000000 in
set_option maxRecDepth 100000 in
theorem bldString_row (g cap : Nat) (cur : Array Value) (l : List UInt8) (h0 : l ≠ []) (hc1 : w.cell? ⟨p, o + 1, none⟩ = some (.slice (some ⟨g, 0, none⟩) l.length cap))
    (hg : w.heap[g]? = some (.cells cur 5 (0, 0))) (hcap : l.length ≤ cap) (hcm : cap ≤ maxLen) (hcs : cur.size = cap) (hcell : ∀ j x, l[j]? = some x → w.cell? ((⟨g, 0, none⟩ : Addr).add j) = some (.int .u8 x.toNat)) :
    Calls Tryz.prog 137 #[.pointer (some ⟨p, o, none⟩)] w fun e w' => e = .returned (.string ⟨l.toArray⟩) ∧ Fr (· = g) w w' := by
  have hl0 : l.length ≠ 0 := by simpa using h0
  have c1 : w.drew.cell? ⟨p, o + 1, none⟩ = some (.slice (some ⟨g, 0, none⟩) l.length cap) := hc1
  have hSD : (Builtin.unsafeSliceData_ #[66] 206 #[.slice (some ⟨g, 0, none⟩) l.length cap]).run Tryz.prog w.drew = .ok (.pointer (some ⟨g, 0, none⟩)) w.drew :=
    Lib.run_unsafeSliceData_row _ _ _ _ _ _ (by omega)
  have hUS : (Builtin.unsafeString_ #[206, 3] 9 #[.pointer (some ⟨g, 0, none⟩), .int .i64 l.length]).run Tryz.prog w.drew = .ok (.string ⟨l.toArray⟩) (w.drew.freeze ⟨g, 0, none⟩ l.length) := by
    refine Lib.run_unsafeString_row w.drew 206 3 9 5 Tryz.underlying206 Tryz.cellsU8 g cur.size (by have hg' : w.drew.heap[g]? = some (.cells cur 5 (0, 0)) := hg; simp [World.shape?, hg']) l h0 (by omega) (by unfold maxLen at hcm; omega) ?_
    intro j x hx
    exact hcell j x hx
  have hfin : Fr (· = g) w (w.drew.freeze ⟨g, 0, none⟩ l.length) := fr_freeze (S := (· = g)) (Fr.refl _ w).drew (p := ⟨g, 0, none⟩) (fun _ => rfl) _
  clear hcell hg
  go_enter Tryz.func137, Tryz.ntmps137
  go_wp2
  go_region
  all_goals (go_wp2; go_ret; exact ⟨rfl, hfin⟩)
set_option maxHeartbeats 2000000 in
set_option maxRecDepth 100000 in
theorem bldString_nil (hc1 : w.cell? ⟨p, o + 1, none⟩ = some (.slice none 0 0)) :
    Calls Tryz.prog 137 #[.pointer (some ⟨p, o, none⟩)] w fun e w' => e = .returned (.string ⟨#[]⟩) ∧ Fr (fun _ => False) w w' := by
  have hUS : ∀ W q, (Builtin.unsafeString_ #[206, 3] 9 #[.pointer q, .int .i64 0]).run Tryz.prog W = .ok (.string .empty) W := fun W q => Lib.run_unsafeString_none W _ _ _ q
  have c1 : w.drew.cell? ⟨p, o + 1, none⟩ = some (.slice none 0 0) := hc1
  have hSD : (Builtin.unsafeSliceData_ #[66] 206 #[.slice none 0 0]).run Tryz.prog w.drew = .ok (.pointer none) w.drew := rfl
  have hfin : Fr (fun _ => False) w w.drew := (Fr.refl _ w).drew
  go_enter Tryz.func137, Tryz.ntmps137
  go_wp2
  go_region
  all_goals (go_wp2; go_ret; exact ⟨rfl, hfin⟩)
set_option maxHeartbeats 2000000 in
set_option maxRecDepth 100000 in
theorem bldString_room (g cap : Nat) (hc0 : cap ≠ 0) (hc1 : w.cell? ⟨p, o + 1, none⟩ = some (.slice (some ⟨g, 0, none⟩) 0 cap)) :
    Calls Tryz.prog 137 #[.pointer (some ⟨p, o, none⟩)] w fun e w' => e = .returned (.string ⟨#[]⟩) ∧ Fr (fun _ => False) w w' := by
  have hUS : ∀ W q, (Builtin.unsafeString_ #[206, 3] 9 #[.pointer q, .int .i64 0]).run Tryz.prog W = .ok (.string .empty) W := fun W q => Lib.run_unsafeString_none W _ _ _ q
  have c1 : w.drew.cell? ⟨p, o + 1, none⟩ = some (.slice (some ⟨g, 0, none⟩) 0 cap) := hc1
  have hSD : (Builtin.unsafeSliceData_ #[66] 206 #[.slice (some ⟨g, 0, none⟩) 0 cap]).run Tryz.prog w.drew = .ok (.pointer (some ⟨g, 0, none⟩)) w.drew := Lib.run_unsafeSliceData_row _ _ _ _ _ _ hc0
  have hfin : Fr (fun _ => False) w w.drew := (Fr.refl _ w).drew
  clear hc0
  go_enter Tryz.func137, Tryz.ntmps137
  go_wp2
  go_region
  all_goals (go_wp2; go_ret; exact ⟨rfl, hfin⟩)
set_option maxHeartbeats 2000000 in
set_option maxRecDepth 100000 in
theorem bldString_noroom (g : Nat) (cur : Array Value) (hb : Blk w p T cs) (h1 : cs[o + 1]? = some (.slice (some ⟨g, 0, none⟩) 0 0)) (hg : w.heap[g]? = some (.cells cur 5 (0, 0))) :
    Calls Tryz.prog 137 #[.pointer (some ⟨p, o, none⟩)] w fun e w' => e = .returned (.string ⟨#[]⟩) ∧ Fr (fun _ => False) w w' := by
  have hUS : ∀ W q, (Builtin.unsafeString_ #[206, 3] 9 #[.pointer q, .int .i64 0]).run Tryz.prog W = .ok (.string .empty) W := fun W q => Lib.run_unsafeString_none W _ _ _ q
  have c0 : w.cell? ⟨p, o + 1, none⟩ = some (.slice (some ⟨g, 0, none⟩) 0 0) := (hb.cell _).trans h1
  have c1 : w.drew.cell? ⟨p, o + 1, none⟩ = some (.slice (some ⟨g, 0, none⟩) 0 0) := c0
  have hSD : (Builtin.unsafeSliceData_ #[66] 206 #[.slice (some ⟨g, 0, none⟩) 0 0]).run Tryz.prog w.drew = .ok (.pointer (some ⟨w.drew.heap.size, 0, none⟩)) (w.drew.alloc (.view ⟨g, 0, none⟩ 5)) :=
    Lib.run_unsafeSliceData_zero w.drew _ _ 5 Tryz.underlying206 ⟨g, 0, none⟩ 0 (5, cur.size) (by have hg' : w.drew.heap[g]? = some (.cells cur 5 (0, 0)) := hg; simp [World.shape?, hg'])
  have c2 : (w.drew.alloc (.view ⟨g, 0, none⟩ 5)).cell? ⟨p, o + 1, none⟩ = some (.slice (some ⟨g, 0, none⟩) 0 0) := ((hb.drew.alloc _).cell _).trans h1
  have c3 : (w.alloc (.view ⟨g, 0, none⟩ 5)).drew.cell? ⟨p, o + 1, none⟩ = some (.slice (some ⟨g, 0, none⟩) 0 0) := c2
  have hfin : Fr (fun _ => False) w (w.drew.alloc (.view ⟨g, 0, none⟩ 5)) := (Fr.refl _ w).drew.alloc _
  go_enter Tryz.func137, Tryz.ntmps137
  go_wp2
  go_region
  all_goals (go_wp2; go_ret; exact ⟨rfl, hfin⟩)
/-- String(), whatever the builder holds. -/
theorem bldString_any (A : Option Addr) (cap : Nat) (l : List UInt8) (hb : Blk w p T cs) (h1 : cs[o + 1]? = some (.slice A l.length cap)) (hown : w.ownsRow 0 5 1 (.slice A l.length cap) l.length (u8s l)) :
    Calls Tryz.prog 137 #[.pointer (some ⟨p, o, none⟩)] w fun e w' => e = .returned (.string ⟨l.toArray⟩) ∧ Fr (rowOf A) w w' := by
  have hc := (hb.cell (o + 1)).trans h1
  rcases hown.2 with ⟨hv, hn⟩ | ⟨g, cp, cur, hv, _, hg, hnc, hcm, hcs, _⟩
  · have hl : l = [] := List.eq_nil_of_length_eq_zero hn
    subst hl
    rw [hv] at hc
    refine (bldString_nil p o w hc).mono ?_
    rintro e w' ⟨rfl, f⟩
    exact ⟨rfl, f.mono fun _ _ h => h.elim⟩
  · injection hv with hA _ hcp
    subst hA hcp
    by_cases hl : l = []
    · subst hl
      by_cases hc0 : cap = 0
      · subst hc0
        refine (bldString_noroom p o T cs w g cur hb h1 hg).mono ?_
        rintro e w' ⟨rfl, f⟩
        exact ⟨rfl, f.mono fun _ _ h => h.elim⟩
      · refine (bldString_room p o w g cap hc0 hc).mono ?_
        rintro e w' ⟨rfl, f⟩
        exact ⟨rfl, f.mono fun _ _ h => h.elim⟩
    · refine (bldString_row p o w g cap cur l hl hc hg hnc hcm (by omega) ?_).mono ?_
      · intro j x hx
        exact hown.cells (g := g) rfl j (.int .u8 x.toNat) (by rw [u8s_get, hx]; rfl)
      · rintro e w' ⟨rfl, f⟩
        exact ⟨rfl, f.mono fun k _ h => ⟨_, rfl, h.symm⟩⟩
end
end Go.Proofs.YtmbgejiahmhffaaGreat

/-
  LAYER 8, PLAIN: a name that is read, step by step; where it ends.
-/
namespace Go.Proofs.YtmbgejiahmhffaaGreat
open Go.RowKit

/-- The octet at a place. -/
def oc (s : List UInt8) (i : Nat) : Nat := (s.getD i 0).toNat
theorem oc_lt (s : List UInt8) (i : Nat) : oc s i < 256 := (s.getD i 0).toNat_lt
/-- Where a name is read, where its run began, where it ends in the octets, how many pointers were followed, what was read. -/
structure Un where
  at_ : Nat
  begun : Nat
  fin : Int
  jumps : Nat
  out : List UInt8
inductive Ust where
  | done (x : Un)
  | bad (e : Int)
  | on (x : Un)
def Un.leave (x : Un) (n : Nat) : Int := if x.fin < 0 then ((x.at_ + n : Nat) : Int) else x.fin
def Un.lab (s : List UInt8) (x : Un) : Un := { x with at_ := x.at_ + 1 + oc s x.at_, out := x.out ++ (s.drop x.at_).take (1 + oc s x.at_) }
def Un.to (s : List UInt8) (x : Un) : Nat := (oc s x.at_ - 192) * 256 + oc s (x.at_ + 1)
def Un.jmp (s : List UInt8) (x : Un) : Un := ⟨x.to s, x.to s, x.leave 2, x.jumps + 1, x.out⟩
def Un.step (s : List UInt8) (follow : Bool) (x : Un) : Ust :=
  if s.length ≤ x.at_ then .bad 8
  else if oc s x.at_ = 0 then .done { x with fin := x.leave 1 }
  else if oc s x.at_ < 64 then
    if s.length < x.at_ + 1 + oc s x.at_ then .bad 8
    else if 254 < x.out.length + (1 + oc s x.at_) then .bad 3
    else .on (x.lab s)
  else if 192 ≤ oc s x.at_ ∧ follow = true then
    if s.length < x.at_ + 2 then .bad 8
    else if x.begun ≤ x.to s then .bad 4
    else .on (x.jmp s)
  else .bad 4
def Un.mu (s : List UInt8) (x : Un) : Nat := x.begun * (s.length + 1) + (s.length - x.at_)
theorem Un.step_mu {s : List UInt8} {f : Bool} {x y : Un} (h : x.step s f = .on y) : y.mu s < x.mu s := by
  unfold Un.step at h
  split at h
  · cases h
  · rename_i h1
    split at h
    · cases h
    · split at h
      · split at h
        · cases h
        · split at h
          · cases h
          · injection h with h
            subst h
            simp only [Un.mu, Un.lab]
            omega
      · split at h
        · split at h
          · cases h
          · split at h
            · cases h
            · rename_i h6
              injection h with h
              subst h
              simp only [Un.mu, Un.jmp]
              have h7 : (x.to s + 1) * (s.length + 1) ≤ x.begun * (s.length + 1) := Nat.mul_le_mul_right _ (by omega)
              rw [Nat.add_mul, Nat.one_mul] at h7
              omega
        · cases h
/-- The name read to its end. -/
def uread (s : List UInt8) (f : Bool) (x : Un) : Ust :=
  match _h : x.step s f with
  | .on y => uread s f y
  | .done y => .done y
  | .bad e => .bad e
termination_by x.mu s
decreasing_by exact Un.step_mu (by assumption)
theorem uread_on {s : List UInt8} {f : Bool} {x y : Un} (h : x.step s f = .on y) : uread s f x = uread s f y := by
  conv => lhs; rw [uread]
  split <;> rename_i h' <;> rw [h] at h' <;> cases h'
  rfl
theorem uread_done {s : List UInt8} {f : Bool} {x y : Un} (h : x.step s f = .done y) : uread s f x = .done y := by
  rw [uread]
  split <;> rename_i h' <;> rw [h] at h' <;> cases h'
  rfl
theorem uread_bad {s : List UInt8} {f : Bool} {x : Un} {e : Int} (h : x.step s f = .bad e) : uread s f x = .bad e := by
  rw [uread]
  split <;> rename_i h' <;> rw [h] at h' <;> cases h'
  rfl
/-- Reading ends. -/
theorem uread_cases (s : List UInt8) (f : Bool) (x : Un) : (∃ y, uread s f x = .done y) ∨ ∃ e, uread s f x = .bad e := by
  generalize hm : x.mu s = m
  induction m using Nat.strongRecOn generalizing x with
  | _ m ih =>
    cases h : x.step s f with
    | done y => exact .inl ⟨y, uread_done h⟩
    | bad e => exact .inr ⟨e, uread_bad h⟩
    | on y =>
      rw [uread_on h]
      exact ih (y.mu s) (hm ▸ Un.step_mu h) y rfl
def Ust.name : Ust → ByteArray
  | .done x => ⟨x.out.toArray⟩
  | _ => ⟨#[]⟩
def Ust.fin : Ust → Int
  | .done x => x.fin
  | _ => 0
def Ust.err : Ust → Int
  | .bad e => e
  | _ => 0
def Ust.jumps : Ust → Int
  | .done x => x.jumps
  | _ => 0
/-- A name read at a place. -/
def nameAt (s : ByteArray) (at_ : Int) (f : Bool) : Ust :=
  if at_ < 0 ∨ (s.size : Int) < at_ then .bad 2 else uread s.data.toList f ⟨at_.toNat, at_.toNat, -1, 0, []⟩
/-- Where a name ends. -/
def skipL (s : List UInt8) (a : Nat) : Int × Int :=
  if s.length ≤ a then (0, 8)
  else if oc s a = 0 then (((a + 1 : Nat) : Int), 0)
  else if 192 ≤ oc s a then if s.length < a + 2 then (0, 8) else (((a + 2 : Nat) : Int), 0)
  else if 64 ≤ oc s a then (0, 4)
  else if s.length < a + 1 + oc s a then (0, 8)
  else skipL s (a + 1 + oc s a)
termination_by s.length - a
/-- May a name be? -/
def ckAt (s : List UInt8) (a : Nat) : Int :=
  if s.length ≤ a then 0
  else if oc s a < 1 ∨ 63 < oc s a ∨ s.length < a + 1 + oc s a then 4
  else ckAt s (a + 1 + oc s a)
termination_by s.length - a
def ckN (s : ByteArray) : Int := if 254 < s.size then 3 else ckAt s.data.toList 0
end Go.Proofs.YtmbgejiahmhffaaGreat

/-
  LAYER 8, PLAIN: what is read may be, ends within the octets, where it is passed over.
-/
namespace Go.Proofs.YtmbgejiahmhffaaGreat
open Go.RowKit

theorem oc_app_l (l m : List UInt8) (i : Nat) (h : i < l.length) : oc (l ++ m) i = oc l i := by
  unfold oc
  rw [List.getD_eq_getElem?_getD, List.getD_eq_getElem?_getD, List.getElem?_append_left h]
theorem oc_app_r (l m : List UInt8) (i : Nat) : oc (l ++ m) (l.length + i) = oc m i := by
  unfold oc
  rw [List.getD_eq_getElem?_getD, List.getD_eq_getElem?_getD, List.getElem?_append_right (by omega), Nat.add_sub_cancel_left]
theorem oc_drop (l : List UInt8) (a i : Nat) : oc (l.drop a) i = oc l (a + i) := by
  unfold oc
  rw [List.getD_eq_getElem?_getD, List.getD_eq_getElem?_getD, List.getElem?_drop]
theorem oc_take (l : List UInt8) (n i : Nat) (h : i < n) : oc (l.take n) i = oc l i := by
  unfold oc
  rw [List.getD_eq_getElem?_getD, List.getD_eq_getElem?_getD, List.getElem?_take_of_lt h]
/-- What stands ahead of a place from which on all may be. -/
theorem ckAt_app (l m : List UInt8) (a : Nat) (ha : a ≤ l.length) (h : ckAt l a = 0) : ckAt (l ++ m) a = ckAt (l ++ m) l.length := by
  generalize hn : l.length - a = n
  induction n using Nat.strongRecOn generalizing a with
  | _ n ih =>
    by_cases he : a = l.length
    · rw [he]
    · have hlt : a < l.length := by omega
      rw [ckAt, if_neg (by omega)] at h
      split at h
      · cases h
      · rename_i hk
        rw [ckAt, if_neg (by rw [List.length_append]; omega), oc_app_l l m a hlt, if_neg (by rw [List.length_append]; omega)]
        exact ih (l.length - (a + 1 + oc l a)) (by omega) _ (by omega) h rfl
theorem ckAt_lab (l m : List UInt8) (h : ckAt l 0 = 0) (h1 : 1 ≤ oc m 0) (h2 : oc m 0 ≤ 63) (h3 : m.length = 1 + oc m 0) : ckAt (l ++ m) 0 = 0 := by
  rw [ckAt_app l m 0 (Nat.zero_le _) h]
  have h0 : oc (l ++ m) l.length = oc m 0 := oc_app_r l m 0
  rw [ckAt, List.length_append, if_neg (by omega), h0, if_neg (by omega), ckAt, if_pos (by rw [List.length_append]; omega)]
/-- What holds while a name is read that began at a0. -/
structure UInv (s : List UInt8) (a0 : Nat) (x : Un) : Prop where
  at_ : x.at_ ≤ s.length
  ck : ckAt x.out 0 = 0
  len : x.out.length ≤ 254
  jmp : x.jumps + x.begun ≤ a0
  none : x.jumps = 0 → x.fin = -1 ∧ a0 ≤ x.at_ ∧ skipL s a0 = skipL s x.at_ ∧ uread s false ⟨a0, a0, -1, 0, []⟩ = uread s false x
  some : 0 < x.jumps → (a0 : Int) < x.fin ∧ x.fin ≤ s.length ∧ skipL s a0 = (x.fin, 0) ∧ ∃ e, uread s false ⟨a0, a0, -1, 0, []⟩ = .bad e
theorem UInv.start (s : List UInt8) (a0 : Nat) (h : a0 ≤ s.length) : UInv s a0 ⟨a0, a0, -1, 0, []⟩ :=
  ⟨h, by rw [ckAt]; rfl, by simp, by simp, fun _ => ⟨rfl, Nat.le_refl _, rfl, rfl⟩, fun h => absurd h (by simp)⟩
theorem UInv.done {s : List UInt8} {a0 : Nat} {x y : Un} (h : UInv s a0 x) (hs : x.step s true = .done y) :
    ckAt y.out 0 = 0 ∧ y.out.length ≤ 254 ∧ (a0 : Int) < y.fin ∧ y.fin ≤ s.length ∧ skipL s a0 = (y.fin, 0) ∧ y.jumps ≤ a0 ∧
      (y.jumps = 0 → uread s false ⟨a0, a0, -1, 0, []⟩ = .done y) ∧ (0 < y.jumps → ∃ e, uread s false ⟨a0, a0, -1, 0, []⟩ = .bad e) := by
  have hsf : x.step s false = .done y := by
    unfold Un.step at hs ⊢
    split at hs
    · cases hs
    · split at hs
      · rw [if_neg (by assumption), if_pos (by assumption)]; exact hs
      · split at hs
        · split at hs
          · cases hs
          · split at hs <;> cases hs
        · split at hs
          · split at hs
            · cases hs
            · split at hs <;> cases hs
          · cases hs
  unfold Un.step at hs
  split at hs
  · cases hs
  · rename_i h1
    split at hs
    · rename_i h2
      injection hs with hs
      subst hs
      by_cases hj : x.jumps = 0
      · obtain ⟨n1, n2, n3, n4⟩ := h.none hj
        have hl : x.leave 1 = ((x.at_ + 1 : Nat) : Int) := by unfold Un.leave; rw [n1]; rfl
        have hk : skipL s x.at_ = (((x.at_ + 1 : Nat) : Int), 0) := by rw [skipL, if_neg h1, if_pos h2]
        refine ⟨h.ck, h.len, ?_, ?_, ?_, ?_, fun _ => ?_, fun h' => absurd h' (by dsimp only; omega)⟩
        · dsimp only; omega
        · dsimp only; omega
        · rw [n3, hk]; dsimp only; rw [hl]
        · have := h.jmp; dsimp only; omega
        · rw [n4]; exact uread_done hsf
      · obtain ⟨n1, n2, n3, n4⟩ := h.some (by omega)
        have hl : x.leave 1 = x.fin := by unfold Un.leave; rw [if_neg (by omega)]
        refine ⟨h.ck, h.len, ?_, ?_, ?_, ?_, fun h' => absurd h' hj, fun _ => n4⟩
        · dsimp only; omega
        · dsimp only; omega
        · dsimp only; rw [hl]; exact n3
        · have := h.jmp; dsimp only; omega
    · split at hs
      · split at hs
        · cases hs
        · split at hs <;> cases hs
      · split at hs
        · split at hs
          · cases hs
          · split at hs <;> cases hs
        · cases hs
theorem UInv.on {s : List UInt8} {a0 : Nat} {x y : Un} (h : UInv s a0 x) (hs : x.step s true = .on y) : UInv s a0 y := by
  unfold Un.step at hs
  split at hs
  · cases hs
  · rename_i h1
    split at hs
    · cases hs
    · rename_i h2
      split at hs
      · rename_i h3
        split at hs
        · cases hs
        · rename_i h4
          split at hs
          · cases hs
          · rename_i h5
            injection hs with hs
            have hst : x.step s false = .on y := by
              unfold Un.step
              rw [if_neg h1, if_neg h2, if_pos h3, if_neg h4, if_neg h5, hs]
            subst hs
            have hml : ((s.drop x.at_).take (1 + oc s x.at_)).length = 1 + oc s x.at_ := by rw [List.length_take, List.length_drop]; omega
            have hm0 : oc ((s.drop x.at_).take (1 + oc s x.at_)) 0 = oc s x.at_ := by rw [oc_take _ _ _ (by omega), oc_drop, Nat.add_zero]
            refine ⟨?_, ?_, ?_, h.jmp, fun hj => ?_, h.some⟩
            · show x.at_ + 1 + oc s x.at_ ≤ s.length
              omega
            · exact ckAt_lab _ _ h.ck (by omega) (by omega) (by omega)
            · show (x.out ++ _).length ≤ 254
              rw [List.length_append, hml]
              omega
            · obtain ⟨n1, n2, n3, n4⟩ := h.none hj
              refine ⟨n1, ?_, ?_, ?_⟩
              · show a0 ≤ x.at_ + 1 + oc s x.at_
                omega
              · show skipL s a0 = skipL s (x.at_ + 1 + oc s x.at_)
                rw [n3, skipL, if_neg h1, if_neg h2, if_neg (by omega), if_neg (by omega), if_neg h4]
              · rw [n4]; exact uread_on hst
      · rename_i h3
        split at hs
        · rename_i h4
          split at hs
          · cases hs
          · rename_i h5
            split at hs
            · cases hs
            · rename_i h6
              injection hs with hs
              subst hs
              have hj1 := h.jmp
              refine ⟨?_, h.ck, h.len, ?_, fun hj => absurd hj (by simp [Un.jmp]), fun _ => ?_⟩
              · show x.to s ≤ s.length
                by_cases hj : x.jumps = 0
                · have := (h.none hj).2.1
                  have := h.at_
                  omega
                · obtain ⟨n1, n2, _⟩ := h.some (by omega)
                  omega
              · show x.jumps + 1 + x.to s ≤ a0
                omega
              · show (a0 : Int) < x.leave 2 ∧ x.leave 2 ≤ s.length ∧ skipL s a0 = (x.leave 2, 0) ∧ _
                by_cases hj : x.jumps = 0
                · obtain ⟨n1, n2, n3, n4⟩ := h.none hj
                  have hl : x.leave 2 = ((x.at_ + 2 : Nat) : Int) := by unfold Un.leave; rw [n1]; rfl
                  have hk : skipL s x.at_ = (((x.at_ + 2 : Nat) : Int), 0) := by rw [skipL, if_neg h1, if_neg h2, if_pos h4.1, if_neg h5]
                  have hb : x.step s false = .bad 4 := by unfold Un.step; rw [if_neg h1, if_neg h2, if_neg h3, if_neg (by simp)]
                  refine ⟨by omega, by omega, ?_, 4, ?_⟩
                  · rw [n3, hk, hl]
                  · rw [n4]; exact uread_bad hb
                · obtain ⟨n1, n2, n3, n4⟩ := h.some (by omega)
                  have hl : x.leave 2 = x.fin := by unfold Un.leave; rw [if_neg (by omega)]
                  rw [hl]
                  exact ⟨n1, n2, n3, n4⟩
        · cases hs
theorem un_bounds {s : List UInt8} {a0 : Nat} {x y : Un} (h : UInv s a0 x) (hs : uread s true x = .done y) :
    ckAt y.out 0 = 0 ∧ y.out.length ≤ 254 ∧ (a0 : Int) < y.fin ∧ y.fin ≤ s.length ∧ skipL s a0 = (y.fin, 0) ∧ y.jumps ≤ a0 ∧
      (y.jumps = 0 → uread s false ⟨a0, a0, -1, 0, []⟩ = .done y) ∧ (0 < y.jumps → ∃ e, uread s false ⟨a0, a0, -1, 0, []⟩ = .bad e) := by
  generalize hm : x.mu s = m
  induction m using Nat.strongRecOn generalizing x with
  | _ m ih =>
    cases hx : x.step s true with
    | done z =>
      rw [uread_done hx] at hs
      injection hs with hs
      subst hs
      exact h.done hx
    | bad e =>
      rw [uread_bad hx] at hs
      cases hs
    | on z =>
      rw [uread_on hx] at hs
      exact ih (z.mu s) (hm ▸ Un.step_mu hx) (h.on hx) hs rfl
theorem step_bad_ne {s : List UInt8} {f : Bool} {x : Un} {e : Int} (h : x.step s f = .bad e) : e ≠ 0 := by
  unfold Un.step at h
  split at h
  · injection h with h; omega
  · split at h
    · cases h
    · split at h
      · split at h
        · injection h with h; omega
        · split at h
          · injection h with h; omega
          · cases h
      · split at h
        · split at h
          · injection h with h; omega
          · split at h
            · injection h with h; omega
            · cases h
        · injection h with h; omega
theorem uread_bad_ne {s : List UInt8} {f : Bool} {x : Un} {e : Int} (h : uread s f x = .bad e) : e ≠ 0 := by
  generalize hm : x.mu s = m
  induction m using Nat.strongRecOn generalizing x with
  | _ m ih =>
    cases hx : x.step s f with
    | done z =>
      rw [uread_done hx] at h
      cases h
    | bad e' =>
      rw [uread_bad hx] at h
      injection h with h
      exact h ▸ step_bad_ne hx
    | on z =>
      rw [uread_on hx] at h
      exact ih _ (hm ▸ Un.step_mu hx) h rfl
end Go.Proofs.YtmbgejiahmhffaaGreat
