/-
  TEXTS OF THIS CLAIM, TOGETHER: Ppl, Dpf, Ppb, Dpo, Dpu, Lw9p, Ppm, Opend, Pdx.
-/
import Derived.Test.YtmbgejiahmhffaaGreatUunD
import Derived.Test.YtmbgejiahmhffaaGreatUunB
import Derived.Test.YtmbgejiahmhffaaGreatUunC
import Derived.Test.YtmbgejiahmhffaaGreatUunA
import Derived.Test.YtmbgejiahmhffaaGreatUunE
import Derived.Test.YtmbgejiahmhffaaGreatUunG
import Derived.Test.YtmbgejiahmhffaaGreatRows
/-
  LAYER 7: a new packer; a packer that nobody made; the chapter's example.
-/
namespace Go.Proofs.YtmbgejiahmhffaaGreat
open Go.RowKit Go.Maps

def PPkNew (w : World) (m : Int) (e : Ending) (w' : World) : Prop :=
  ∃ q F, e = .returned (.pointer (some ⟨q, 0, none⟩)) ∧ PPk w' q F ⟨⟨[], max 0 m, 0⟩, fun _ => none⟩ [] ∧ Fr (fun _ => False) w w' ∧ ∀ k, F k → w.heap.size ≤ k
set_option maxRecDepth 100000 in
set_option maxHeartbeats 1000000 in
theorem pnew_any (m : Int) (hm : m ≤ 65535) (w : World) : Calls Tryz.prog 32 #[.int .i64 m] w (PPkNew w m) := by
  have hmm := @run_makeMap Tryz.prog
  go_enter Tryz.func32, Tryz.ntmps32
  go_wp2_with fail
  all_goals first
    | (exfalso; omega)
    | (refine (newWriter_c _ (by omega) _).mono ?_
       rintro e w1 ⟨p, G, rfl, h1, h2, h3⟩
       have HN := Lib.hid (And.intro h1 (And.intro h2 h3))
       clear h1 h2 h3
       go_wp2_with fail
       go_ret
       have hblk := Blk.new (w1.alloc (.map #[] 0)) 116 #[.pointer (some ⟨p, 0, none⟩), .map (some w1.heap.size), .slice none 0 0]
       rw [show (w1.alloc (.map #[] 0)).heap.size = w1.heap.size + 1 by simp] at hblk
       have hfr : Fr (fun _ => False) w1 ((w1.alloc (.map #[] 0)).alloc (.cells #[.pointer (some ⟨p, 0, none⟩), .map (some w1.heap.size), .slice none 0 0] 116)) := ((Fr.refl _ w1).alloc _).alloc _
       have hmp := (MapIs.made w1).fr (S := fun _ => False) ((Fr.refl _ _).alloc (.cells #[.pointer (some ⟨p, 0, none⟩), .map (some w1.heap.size), .slice none 0 0] 116)) id
       have hlt := HN.out.1.lt
       refine ⟨w1.heap.size + 1, fun k => G k ∨ k = w1.heap.size ∨ k = w1.heap.size + 1, rfl, ⟨0, Nat.zero_le _, p, G, w1.heap.size, none, 0, hblk, HN.out.1.fr hfr (fun _ _ h => h), hmp, own_nil _ _ _,
         ⟨fun h => by have := hlt _ h; omega, fun h => by have := hlt _ h; omega, by omega, rowOf_none _, fun k hk => absurd hk (rowOf_none k)⟩, .inr (.inr rfl), .inr (.inl rfl), fun k hk => .inl hk, fun k hk => absurd hk (rowOf_none k), ?_⟩, HN.out.2.1.then hfr, ?_⟩
       · rintro k (hk | rfl | rfl)
         · exact Nat.lt_of_lt_of_le (hlt k hk) hfr.size
         · simp; omega
         · simp
       · rintro k (hk | rfl | rfl)
         · exact HN.out.2.2 k hk
         · exact HN.out.2.1.size
         · exact Nat.le_succ_of_le HN.out.2.1.size)
/-! ### Closed examples are reckoned. -/
end Go.Proofs.YtmbgejiahmhffaaGreat

/-
  LAYERS 7, 9, PLAIN: what stands never outgrows the room. No program.
-/
namespace Go.Proofs.YtmbgejiahmhffaaGreat
set_option linter.unusedVariables false
set_option linter.unusedSimpArgs false
open Go.RowKit

/-- There is room for what stands. -/
def Wst.fit (x : Wst) : Prop := (x.b.length : Int) ≤ x.most ∧ x.most ≤ 65535
def Pk.fit (y : Pk) : Prop := y.x.fit
theorem Wst.fit.put {x : Wst} (h : x.fit) (l : List UInt8) : (x.put l).1.fit := by
  unfold Wst.put
  obtain ⟨h1, h2⟩ := h
  split
  · exact ⟨h1, h2⟩
  · split
    · exact ⟨h1, h2⟩
    · refine ⟨?_, h2⟩
      dsimp only
      rw [List.length_append]
      omega
theorem Wst.fit.number {x : Wst} (h : x.fit) (v n : Int) : (x.number v n).1.fit := by
  unfold Wst.number
  split
  · exact h
  · split
    · exact h.put _
    · exact h
theorem Pk.fit.put {y : Pk} (h : y.fit) (l : List UInt8) : (y.putP l).fit := Wst.fit.put h l
theorem Pk.fit.num {y : Pk} (h : y.fit) (v n : Int) : (y.numP v n).fit := Wst.fit.number h v n
theorem Pk.fit.rest : ∀ (n : List UInt8) {y : Pk}, y.fit → (y.rest n).1.fit := by
  intro n
  generalize hk : n.length = k
  induction k using Nat.strongRecOn generalizing n with
  | _ k ih =>
    intro y h
    by_cases hn : n = []
    · subst hn
      rw [Pk.rest_nil]
      exact Wst.fit.put h _
    · have hp : 0 < n.length := List.length_pos_iff.2 hn
      cases hg : y.get n with
      | some a =>
        rw [Pk.rest_some hn hg]
        exact Wst.fit.number h _ _
      | none =>
        by_cases h0 : (y.x.put (n.take (1 + oc n 0))).2 = 0
        · rw [Pk.rest_go hn hg h0]
          exact ih _ (by rw [← hk, List.length_drop]; omega) _ rfl (Wst.fit.put h _)
        · rw [Pk.rest_stop hn hg h0]
          exact Wst.fit.put h _
theorem Pk.fit.name {y : Pk} (h : y.fit) (n : ByteArray) : (y.name n).1.fit := by
  unfold Pk.name
  split
  · exact h
  · split
    · exact h
    · exact Pk.fit.rest _ h
theorem Pk.fit.plain {y : Pk} (h : y.fit) (n : ByteArray) : (y.plain n).1.fit := by
  unfold Pk.plain
  split
  · exact h
  · split
    · exact h
    · exact Wst.fit.put h _
theorem Pk.fit.nameB {y : Pk} (h : y.fit) (p : Bool) (n : ByteArray) : (y.nameB p n).fit := by
  cases p
  · exact h.name n
  · exact h.plain n
theorem Pk.fit.nums (d : Dt) (wide : Nat) : ∀ (k j : Nat) {y : Pk}, y.fit → (y.numsP d wide j k).fit
  | 0, _, _, h => h
  | k + 1, j, _, h => Pk.fit.nums d wide k (j + 1) (h.num _ _)
theorem Pk.fit.texts : ∀ (l : List ByteArray) {y : Pk}, y.fit → (y.textsP l).fit
  | [], _, h => h
  | _ :: r, _, h => Pk.fit.texts r ((h.num _ _).put _)
theorem Pk.fit.len {y : Pk} (h : y.fit) : y.x.b.length ≤ 65535 := by have h1 := h.1; have h2 := h.2; omega
end Go.Proofs.YtmbgejiahmhffaaGreat

/-
  LAYER 7: THE PROGRAM's PACKER: lengths begun, ended.
-/
namespace Go.Proofs.YtmbgejiahmhffaaGreat
open Go.RowKit Go.Maps

theorem Tryz.infoInt : (Tryz.prog.info? 3).map (fun i => (i.zero, i.size, i.bytes)) = some (some (.int .i64 0), 1, 8) := by kernel_rfl
theorem int_new (w : World) (v : Int) (T : TypeId) : ∀ j u, ([Value.int .i64 v] : List Value)[j]? = some u → (w.alloc (.cells #[.int .i64 v] T)).cell? ((⟨w.heap.size, 0, none⟩ : Addr).add j) = some u := by
  intro j u hu
  have ha : (⟨w.heap.size, 0, none⟩ : Addr).add j = ⟨w.heap.size, j, none⟩ := by unfold Addr.add; split <;> simp_all
  rw [ha, (Blk.new w T _).cell]
  simpa using hu
theorem int_one (v : Int) : ∀ u ∈ ([Value.int .i64 v] : List Value), u.oneCell' = true := by
  intro u hu
  simp only [List.mem_singleton] at hu
  subst hu
  rfl
/-- The lengths that were begun. -/
theorem PPkn.begun {w : World} {q n : Nat} {F : Nat → Prop} {y : Pk} {bg : List Int} (h : PPkn w q F y bg n) :
    ∃ C ccap, w.cell? ⟨q, 2, none⟩ = some (.slice C bg.length ccap) ∧ w.frozen? ⟨q, 2, none⟩ = false ∧ w.ownsRow 0 3 1 (.slice C bg.length ccap) bg.length (bg.map (Value.int .i64)) ∧ ¬ rowOf C q ∧ (∀ k, rowOf C k → F k) ∧ F q ∧
      ∀ w' C' bg' ccap', Fr (fun k => k = q ∨ rowOf C k) w w' → Blk w' q 116 (((w.heap[q]?.bind fun o => match o with | .cells cs _ _ => some cs | _ => none).getD #[]).setIfInBounds 2 (.slice C' bg'.length ccap')) →
        w'.ownsRow 0 3 1 (.slice C' bg'.length ccap') bg'.length (bg'.map (Value.int .i64)) → (∀ k, rowOf C' k → rowOf C k ∨ w.heap.size ≤ k) → PPkn w' q (fun k => F k ∨ rowOf C' k) y bg' n := by
  obtain ⟨p, G, b, C, ccap, h1, h2, h3, h4, ⟨d1, d2, d3, d4, d5⟩, h7, h8, h9, h10, h11⟩ := h
  have hCq : ¬ rowOf C q := own_ne h4 h1 (by decide)
  refine ⟨C, ccap, h1.cell 2, h1.frozen 2, h4, hCq, h10, h7, fun w' C' bg' ccap' hf hb ho hl => ?_⟩
  have hcs : ((w.heap[q]?.bind fun o => match o with | .cells cs _ _ => some cs | _ => none).getD #[]) = #[.pointer (some ⟨p, 0, none⟩), .map (some b), .slice C bg.length ccap] := by
    have h1' := h1
    unfold Blk at h1'
    rw [h1']
    rfl
  rw [hcs] at hb
  have hG : ∀ k, G k → ¬ (k = q ∨ rowOf C k) := fun k hk h => h.elim (fun e => d1 (e ▸ hk)) fun h => d5 k h hk
  have hbn : ¬ (b = q ∨ rowOf C b) := fun h => h.elim d3 d4
  have hGl := h2.lt
  have hbl := h3.lt
  refine ⟨p, G, b, C', ccap', hb, h2.fr hf hG, h3.fr hf hbn, ho, ⟨d1, d2, d3, fun h => (hl _ h).elim d4 fun h => by omega, fun k hk h => (hl k hk).elim (fun h' => d5 k h' h) fun h' => by have := hGl k h; omega⟩, .inl h7, .inl h8, fun k hk => .inl (h9 k hk), fun k hk => .inr hk, ?_⟩
  rintro k (hk | hk)
  · exact Nat.lt_of_lt_of_le (h11 k hk) hf.size
  · exact own_lt ho hk
theorem Blk.cells_of {w : World} {q : Nat} {t : TypeId} {cs : Array Value} (h : Blk w q t cs) : ((w.heap[q]?.bind fun o => match o with | .cells cs _ _ => some cs | _ => none).getD #[]) = cs := by
  unfold Blk at h
  rw [h]
  rfl
/-- The block of a packer, whatever it holds. -/
theorem PPkn.blk {w : World} {q n : Nat} {F : Nat → Prop} {y : Pk} {bg : List Int} (h : PPkn w q F y bg n) : Blk w q 116 ((w.heap[q]?.bind fun o => match o with | .cells cs _ _ => some cs | _ => none).getD #[]) := by
  obtain ⟨p, G, b, C, ccap, h1, _⟩ := h
  rw [h1.cells_of]
  exact h1
set_option maxRecDepth 100000 in
set_option maxHeartbeats 2000000 in
theorem push_any (q n : Nat) (F : Nat → Prop) (y : Pk) (bg : List Int) (v : Int) (w : World) (h : PPkn w q F y bg n) (hb : bg.length ≤ 1000000) :
    Calls Tryz.prog 97 #[.pointer (some ⟨q, 2, none⟩), .int .i64 v] w fun e w' => e = .returned (.tuple #[]) ∧ ∃ F', PPkn w' q F' y (bg ++ [v]) n ∧ Fr F w w' ∧ ∀ k, F' k → F k ∨ w.heap.size ≤ k := by
  obtain ⟨i0, hi, hz0, hz1, hz2⟩ := info_parts Tryz.infoInt
  have H := Lib.hid h
  obtain ⟨C, ccap, c2, f2, ho, hCq, hCF, hFq, hup⟩ := h.begun
  have HO := Lib.hid ho
  have HU := Lib.hid hup
  clear h ho hup
  go_enter Tryz.func97, Tryz.ntmps97
  go_wp2_with (first
    | (at_builtin; refine wpList_append_src rfl (.tmp 8) (.tmp 10) _ _ rfl 3 i0 _ 1 8 Tryz.underlying112 hi hz0 hz1 hz2 rfl (by decide) C bg.length ccap (bg.map (Value.int .i64)) (by rfl) (HO.out.alloc _) _ 1 [.int .i64 v] (by rfl)
         (Src.ofSlice _ Tryz.underlying112 ⟨w.heap.size, 0, none⟩ 1 1 [.int .i64 v] rfl (int_new _ _ _) (int_one _)) (by simp only [maxLen]; omega) (by omega) ?_
       intro C2 cap2 w1 o1 o2 o3
       have hw1 : Fr (rowOf C) w w1 := ((Fr.refl _ w).alloc _).then o2
       have e2 : w1.cell? ⟨q, 2, none⟩ = some (.slice C bg.length ccap) := (hw1.cell (p := ⟨q, 2, none⟩) (World.block_lt_of_cell? w _ c2) hCq).trans c2
       have g2 : w1.frozen? ⟨q, 2, none⟩ = false := (hw1.frozen (p := ⟨q, 2, none⟩) (World.block_lt_of_cell? w _ c2) hCq).trans f2
       have HN := Lib.hid (And.intro o1 (And.intro o3 hw1))
       clear o1 o2 o3 hw1))
  go_end0
  obtain ⟨o1, o3, hw1⟩ := HN.out
  have hb1 := (H.out.blk).fr hw1 hCq
  have hC2q : ¬ rowOf C2 q := own_ne o1 hb1 (by decide)
  have hs : Fr (· = q) w1 (w1.setCell ⟨q, 2, none⟩ (.slice C2 (bg.length + 1) cap2)) := Fr.setCell (S := (· = q)) (Fr.refl _ w1) (p := ⟨q, 2, none⟩) (fun _ => rfl) _
  have hl : (bg ++ [v]).length = bg.length + 1 := by simp
  have hall : Fr (fun k => k = q ∨ rowOf C k) w (w1.setCell ⟨q, 2, none⟩ (.slice C2 (bg.length + 1) cap2)) := (hw1.mono fun _ _ h => .inr h).then (hs.mono fun _ _ h => .inl h)
  have o3' : ∀ k, rowOf C2 k → rowOf C k ∨ w.heap.size ≤ k := fun k hk => (o3 k hk).imp id fun h => by rw [World.size_alloc] at h; omega
  refine ⟨rfl, _, HU.out _ C2 (bg ++ [v]) cap2 hall ?_ ?_ o3', hall.mono ?_, ?_⟩
  · rw [hl]
    exact hb1.set_ 2 _
  · rw [hl, List.map_append]
    exact own_fr o1 hs (fun k hk e => hC2q (e ▸ hk))
  · rintro k _ (rfl | hk)
    · exact hFq
    · exact hCF k hk
  · rintro k (hk | hk)
    · exact .inl hk
    · exact (o3' k hk).imp (hCF k) id
theorem own_take {w : World} {e : TypeId} {A : Option Addr} {n cap m : Nat} {xs : List Value} (h : w.ownsRow 0 e 1 (.slice A n cap) n xs) (hm : m ≤ n) : w.ownsRow 0 e 1 (.slice A m cap) m (xs.take m) := by
  have hl := h.1
  refine ⟨by rw [List.length_take]; omega, ?_⟩
  rcases h.2 with ⟨hv, h0⟩ | ⟨g, cp, cur, hv, hb, hg, r1, r2, r3, r4⟩
  · injection hv with hA _ hc
    subst hA h0 hc
    have : m = 0 := by omega
    subst this
    exact .inl ⟨rfl, rfl⟩
  · injection hv with hA _ hc
    subst hA hc
    refine .inr ⟨g, cap, cur, rfl, hb, hg, by omega, r2, r3, ?_⟩
    rw [← r4, List.take_take]
    congr 1
    omega
set_option maxRecDepth 100000 in
set_option maxHeartbeats 2000000 in
theorem pop_yes (q n : Nat) (F : Nat → Prop) (y : Pk) (r : List Int) (v : Int) (w : World) (h : PPkn w q F y (r ++ [v]) n) (hb : r.length ≤ 1000000) :
    Calls Tryz.prog 102 #[.pointer (some ⟨q, 2, none⟩), .int .i64 v] w fun e w' => e = .returned (.bool true) ∧ ∃ F', PPkn w' q F' y r n ∧ Fr F w w' ∧ ∀ k, F' k → F k ∨ w.heap.size ≤ k := by
  have H := Lib.hid h
  obtain ⟨C, ccap, c2, f2, ho, hCq, hCF, hFq, hup⟩ := h.begun
  have HU := Lib.hid hup
  have hlen : (r ++ [v]).length = r.length + 1 := by simp
  rw [hlen] at c2 ho
  obtain ⟨g, rfl, hc⟩ := own_cell ho (j := r.length) (u := .int .i64 v) (by simp)
  have q1 : IntKind.i64.wrap (((r.length + 1 : Nat) : Int) - 1) = (r.length : Int) := by rw [IntWalk.i64_in _ (by omega)]; omega
  have hcap := own_cap ho
  have hcc : r.length + 1 ≤ ccap := hcap.1
  have HT : Hid (w.ownsRow 0 3 1 (.slice (some ⟨g, 0, none⟩) r.length ccap) r.length (r.map (Value.int .i64))) := by
    have := own_take ho (m := r.length) (by omega)
    rw [List.map_append, List.take_left' (by simp)] at this
    exact this
  clear h hup ho hcap
  go_enter Tryz.func102, Tryz.ntmps102
  go_wp2_with fail
  go_ret
  have hs : Fr (· = q) w (w.setCell ⟨q, 2, none⟩ (.slice (some ⟨g, 0, none⟩) r.length ccap)) := Fr.setCell (S := (· = q)) (Fr.refl _ w) (p := ⟨q, 2, none⟩) (fun _ => rfl) _
  refine ⟨rfl, _, HU.out _ (some ⟨g, 0, none⟩) r ccap (hs.mono fun _ _ h => .inl h) (H.out.blk.set_ 2 _) (own_fr HT.out hs fun k hk e => hCq (e ▸ hk)) (fun k hk => .inl hk), hs.mono fun k _ e => e ▸ hFq, ?_⟩
  rintro k (hk | hk)
  · exact .inl hk
  · exact .inl (hCF k hk)
set_option maxRecDepth 100000 in
set_option maxHeartbeats 2000000 in
theorem pbegin_err (q : Nat) (F : Nat → Prop) (y : Pk) (bg : List Int) (w : World) (h : PPk w q F y bg) (hs : y.x.b.length ≤ 999999000) (he : (y.x.number 0 2).2 ≠ 0) :
    Calls Tryz.prog 68 #[.pointer (some ⟨q, 0, none⟩)] w fun e w' => e = .returned (.tuple #[.int .i64 0, .int .i64 (y.x.number 0 2).2]) ∧ ∃ F', PPk w' q F' ⟨(y.x.number 0 2).1, y.get⟩ bg ∧ Fr F w w' ∧ ∀ k, F' k → F k ∨ w.heap.size ≤ k := by
  obtain ⟨p, G, c0, hw, _, _, hup⟩ := h.writer
  have HW := Lib.hid hw
  have HU := Lib.hid hup
  have he' : ((y.x.number 0 2).2 != 0) = true := by simp [he]
  clear h hw hup
  go_enter Tryz.func68, Tryz.ntmps68
  go_wp2_with fail
  refine (len_any p G y.x _ HW.out).mono ?_
  rintro e w' ⟨rfl, rfl⟩
  go_wp2_with fail
  refine (number_any p G y.x 0 2 _ HW.out (by decide) (by decide) (by omega)).mono ?_
  intro e w' hp
  obtain ⟨rfl, F', g1, g2, _, g4⟩ := HU.out _ _ _ hp (number_ge _ _ _)
  have HG := Lib.hid (And.intro g1 (And.intro g2 g4))
  clear hp g1 g2 g4
  go_wp2_with fail
  go_ret2
  exact ⟨rfl, F', HG.out⟩
set_option maxRecDepth 100000 in
set_option maxHeartbeats 2000000 in
theorem pbegin_ok (q : Nat) (F : Nat → Prop) (y : Pk) (bg : List Int) (w : World) (h : PPk w q F y bg) (hs : y.x.b.length ≤ 999999000) (hb : bg.length ≤ 1000000) (he : (y.x.number 0 2).2 = 0) :
    Calls Tryz.prog 68 #[.pointer (some ⟨q, 0, none⟩)] w fun e w' => e = .returned (.tuple #[.int .i64 y.x.b.length, .int .i64 0]) ∧ ∃ F', PPk w' q F' ⟨(y.x.number 0 2).1, y.get⟩ (bg ++ [(y.x.b.length : Int)]) ∧ Fr F w w' ∧ ∀ k, F' k → F k ∨ w.heap.size ≤ k := by
  obtain ⟨p, G, c0, hw, _, _, hup⟩ := h.writer
  have HW := Lib.hid hw
  have HU := Lib.hid hup
  clear h hw hup
  go_enter Tryz.func68, Tryz.ntmps68
  go_wp2_with fail
  refine (len_any p G y.x _ HW.out).mono ?_
  rintro e w' ⟨rfl, rfl⟩
  go_wp2_with fail
  refine (number_any p G y.x 0 2 _ HW.out (by decide) (by decide) (by omega)).mono ?_
  intro e w' hp
  obtain ⟨rfl, F', ⟨n, hn, g1⟩, g2, _, g4⟩ := HU.out _ _ _ hp (number_ge _ _ _)
  have HG := Lib.hid (And.intro hn (And.intro g1 (And.intro g2 g4)))
  rw [he]
  clear hp g1 g2 g4 hn
  go_wp2_with fail
  refine (push_any q n F' _ bg (y.x.b.length : Int) _ HG.out.2.1 hb).mono ?_
  rintro e w5 ⟨rfl, F5, k1, k2, k3⟩
  have HK := Lib.hid (And.intro k1 (And.intro k2 k3))
  clear k1 k2 k3
  go_wp2_with fail
  go_ret2
  refine ⟨rfl, F5, ⟨n, HG.out.1, HK.out.1⟩, HG.out.2.2.1.trans HK.out.2.1 fun i hi h => (HG.out.2.2.2 i h).resolve_right (by omega), fun k hk => ?_⟩
  rcases HK.out.2.2 k hk with h | h
  · exact HG.out.2.2.2 k h
  · exact .inr (Nat.le_trans HG.out.2.2.1.size h)
theorem patch_len2 (x : Wst) (a v : Int) : (x.patch a v 2).1.b.length = x.b.length := by
  unfold Wst.patch
  split
  · rfl
  · split
    · rename_i h
      dsimp only
      rw [List.length_append, List.length_append, octs_length, List.length_take, List.length_drop]
      omega
    · rfl
set_option maxRecDepth 100000 in
set_option maxHeartbeats 2000000 in
theorem pend_ok (q : Nat) (F : Nat → Prop) (y : Pk) (r : List Int) (a : Nat) (w : World) (h : PPk w q F y (r ++ [(a : Int)])) (he : y.x.e = 0) (hb : r.length ≤ 1000000) (ha : a + 2 ≤ y.x.b.length) (hs : y.x.b.length ≤ 999999000) :
    Calls Tryz.prog 70 #[.pointer (some ⟨q, 0, none⟩), .int .i64 (a : Nat)] w (PPkPost w q F r (⟨(y.x.patch a ((y.x.b.length - a - 2 : Nat) : Int) 2).1, y.get⟩, (y.x.patch a ((y.x.b.length - a - 2 : Nat) : Int) 2).2)) := by
  have H := Lib.hid h
  obtain ⟨n, hn0, hn⟩ := h
  have HN := Lib.hid hn
  clear hn
  go_enter Tryz.func70, Tryz.ntmps70
  go_wp2_with fail
  refine (perr_any q F y _ _ H.out).mono ?_
  rintro e w' ⟨rfl, rfl⟩
  rw [he]
  go_wp2_with fail
  refine (pop_yes q n F y r a _ HN.out hb).mono ?_
  rintro e w1 ⟨rfl, F1, k1, k2, k3⟩
  obtain ⟨p, G, c0, hw, _, _, hup⟩ := k1.writer
  have HK := Lib.hid (And.intro k2 (And.intro k3 hup))
  have HW := Lib.hid hw
  clear k1 k2 k3 hup hw
  have q1 : IntKind.i64.wrap ((y.x.b.length : Int) - (a : Int)) = (y.x.b.length : Int) - (a : Int) := IntWalk.i64_in _ (by omega)
  have q2 : IntKind.i64.wrap ((y.x.b.length : Int) - (a : Int) - 2) = ((y.x.b.length - a - 2 : Nat) : Int) := by rw [IntWalk.i64_in _ (by omega)]; omega
  have q3 : (y.x.b.length : Int) - (a : Int) - 2 = ((y.x.b.length - a - 2 : Nat) : Int) := by omega
  generalize hL : y.x.b.length - a - 2 = L at *
  go_wp2_with fail
  have HD : Hid (Fr (fun _ => False) w1 w1.drew) := (Fr.refl _ w1).drew
  have d0 : w1.drew.cell? ⟨q, 0, none⟩ = some (.pointer (some ⟨p, 0, none⟩)) := c0
  have hL2 : L < 4294967296 := by omega
  go_still_tail 14, (by kernel_rfl)
  still_call ((len_any p G y.x w1.drew (HW.out.fr HD.out (fun _ _ h => h))).mono fun _ _ h => ⟨h.1, h.2.symm⟩)
  repeat still_step
  refine wpStill_nil ?_
  change wpList _ _ _ _ _ w1.drew
  clear c0 d0
  generalize w1.drew = w2 at *
  go_wp2_with fail
  refine (patch_any p G y.x a L 2 _ (HW.out.fr HD.out (fun _ _ h => h)) (by omega) (by omega) (by omega) (by omega) (by omega)).mono ?_
  intro e w3 hp
  obtain ⟨rfl, F', g1, g2, _, g4⟩ := HK.out.2.2 _ _ w3 (by
    obtain ⟨p1, F2, p2, p3, p4⟩ := hp
    exact ⟨p1, F2, p2, (HD.out.mono fun _ _ h => h.elim).then p3, fun k hk => (p4 k hk).imp id fun h => Nat.le_trans HD.out.size h⟩)
  have HG := Lib.hid (And.intro g1 (And.intro g2 g4))
  clear hp g1 g2 g4
  go_wp2_with fail
  go_ret
  refine ⟨rfl, F', ⟨n, by dsimp only; rw [patch_len2]; exact hn0, HG.out.1⟩, HK.out.1.trans HG.out.2.1 fun i hi h => (HK.out.2.1 i h).resolve_right (by omega), fun k hk => ?_⟩
  rcases HG.out.2.2 k hk with h | h
  · exact HK.out.2.1 k h
  · exact .inr (Nat.le_trans HK.out.1.size h)
end Go.Proofs.YtmbgejiahmhffaaGreat

/-
  LAYER 9: what is known at each step of a put of data; the numbers' put.
-/
namespace Go.Proofs.YtmbgejiahmhffaaGreat
set_option linter.unusedVariables false
set_option linter.unusedSimpArgs false
open Go.RowKit

/-- The texts' row, if there is a text. -/
def rowT (A : Option Addr) (l : List ByteArray) (k : Nat) : Prop := l ≠ [] ∧ rowOf A k
theorem Strs.frT {w w' : World} {A : Option Addr} {l : List ByteArray} {S : Nat → Prop} (h : Strs w A l) (hf : Fr S w w') (hs : ∀ k, rowT A l k → ¬ S k) : Strs w' A l := by
  by_cases hl : l = []
  · subst hl
    exact Strs.nil _ _
  · exact h.fr hf fun k hk => hs k ⟨hl, hk⟩
theorem Strs.ltT {w : World} {A : Option Addr} {l : List ByteArray} (h : Strs w A l) {k : Nat} (hk : rowT A l k) : k < w.heap.size := by
  obtain ⟨hl, a, rfl, rfl⟩ := hk
  obtain ⟨b, off, e, h2, _⟩ := h (by rw [List.length_map]; exact List.length_pos_iff.2 hl)
  cases e
  exact h2
theorem DtIn.frT {w w' : World} {A : Option Addr} {d : Dt} {S : Nat → Prop} (h : DtIn w A d) (hf : Fr S w w') (hs : ∀ k, rowT A d.texts k → ¬ S k) : DtIn w' A d := ⟨h.hi, h.lo, h.num, h.txt.frT hf hs, h.len, h.raw⟩
/-- Besides the packer: the data, what its type has, the packer's own variable, in blocks of the call's. -/
structure PutS (w0 w : World) (q : Nat) (F0 F : Nat → Prop) (y : Pk) (bg : List Int) (p3 p5 p8 : Nat) (A : Option Addr) (cap : Nat) (d : Dt) (wh : Wh) (tx : ByteArray) : Prop where
  pk : PPk w q F y bg
  fit : y.fit
  fr : Fr F0 w0 w
  new : ∀ k, F k → F0 k ∨ w0.heap.size ≤ k
  b3 : Blk w p3 76 #[.pointer (some ⟨q, 0, none⟩)]
  b5 : Blk w p5 53 (d.cells (.slice A d.texts.length cap))
  b8 : Blk w p8 155 (wh.cells tx)
  n3 : ¬ F p3
  n5 : ¬ F p5
  n8 : ¬ F p8
  din : DtIn w A d
  far : ∀ k, rowT A d.texts k → ¬ F k ∧ k < w.heap.size
section
variable {w0 w w' : World} {q : Nat} {F0 F F' : Nat → Prop} {y y' : Pk} {bg : List Int} {p3 p5 p8 : Nat} {A : Option Addr} {cap : Nat} {d : Dt} {wh : Wh} {tx : ByteArray}
theorem PutS.next (h : PutS w0 w q F0 F y bg p3 p5 p8 A cap d wh tx) (hp : PPk w' q F' y' bg) (hfit : y'.fit) (hf : Fr F w w') (hn : ∀ k, F' k → F k ∨ w.heap.size ≤ k) : PutS w0 w' q F0 F' y' bg p3 p5 p8 A cap d wh tx := by
  have l3 := h.b3.lt
  have l5 := h.b5.lt
  have l8 := h.b8.lt
  refine ⟨hp, hfit, h.fr.step hf h.new, at_step h.fr.size h.new hn, h.b3.fr hf h.n3, h.b5.fr hf h.n5, h.b8.fr hf h.n8, ?_, ?_, ?_, h.din.frT hf (fun k hk => (h.far k hk).1), fun k hk => ?_⟩
  · exact fun g => (hn _ g).elim h.n3 fun g => by omega
  · exact fun g => (hn _ g).elim h.n5 fun g => by omega
  · exact fun g => (hn _ g).elim h.n8 fun g => by omega
  · have := (h.far k hk).2
    exact ⟨fun g => (hn _ g).elim (h.far k hk).1 fun g => by omega, Nat.lt_of_lt_of_le this hf.size⟩
theorem PutS.quiet (h : PutS w0 w q F0 F y bg p3 p5 p8 A cap d wh tx) (hf : Fr (fun _ => False) w w') : PutS w0 w' q F0 F y bg p3 p5 p8 A cap d wh tx :=
  h.next (h.pk.fr hf fun _ _ => id) h.fit (hf.mono fun _ _ g => g.elim) fun _ g => .inl g
theorem PutS.len (h : PutS w0 w q F0 F y bg p3 p5 p8 A cap d wh tx) : y.x.b.length ≤ 65535 := h.fit.len
end

def PutS.Post (w0 : World) (q : Nat) (F0 : Nat → Prop) (y : Pk) (bg : List Int) (p3 p5 p8 : Nat) (A : Option Addr) (cap : Nat) (d : Dt) (wh : Wh) (tx : ByteArray) (e : Ending) (w' : World) : Prop :=
  e = .returned (.tuple #[]) ∧ ∃ F', PutS w0 w' q F0 F' y bg p3 p5 p8 A cap d wh tx
theorem run_sliceNums (p n : Nat) (hn : n ≤ 5) (w : World) :
    (Instr.sliceAt 50 (.pointer (some ⟨p, 5, none⟩)) none (some (.int .i64 n)) none).run Tryz.prog w = .ok (.slice (some ⟨p, 5, none⟩) n 5) w := by
  rcases (show n = 0 ∨ n = 1 ∨ n = 2 ∨ n = 3 ∨ n = 4 ∨ n = 5 by omega) with rfl | rfl | rfl | rfl | rfl | rfl <;> kernel_rfl
set_option maxRecDepth 100000 in
set_option maxHeartbeats 8000000 in
theorem putNums_any {w0 w : World} {q : Nat} {F0 F : Nat → Prop} {y : Pk} {bg : List Int} {p3 p5 p8 : Nat} {A : Option Addr} {cap : Nat} {d : Dt} {wh : Wh} {tx : ByteArray} (h : PutS w0 w q F0 F y bg p3 p5 p8 A cap d wh tx) (hn : wh.nums ≤ 5) :
    Calls Tryz.prog 100 #[.pointer (some ⟨p5, 0, none⟩), .pointer (some ⟨p8, 0, none⟩), .pointer (some ⟨p3, 0, none⟩)] w (PutS.Post w0 q F0 (y.numsP d wh.wide 0 wh.nums) bg p3 p5 p8 A cap d wh tx) := by
  have H := Lib.hid h
  have c5 : w.cell? ⟨p8, 5, none⟩ = some (.int .i64 (wh.nums : Nat)) := h.b8.cell 5
  clear h
  obtain ⟨z, hz⟩ : ∃ z, y.numsP d wh.wide 0 wh.nums = z := ⟨_, rfl⟩
  rw [hz]
  have HZ := Lib.hid hz
  clear hz
  have hsl := run_sliceNums p5 wh.nums hn w
  go_enter Tryz.func100, Tryz.ntmps100
  go_wp2_with fail
  clear hsl c5
  go_loopg [10] wh.nums (fun g i wr => ∃ (j : Nat) (G : Nat → Prop) (x : Pk), j ≤ wh.nums ∧ g = wh.nums - j ∧ i = .int .i64 j ∧ PutS w0 wr q F0 G x bg p3 p5 p8 A cap d wh tx ∧ x.numsP d wh.wide j (wh.nums - j) = z)
  case atStart => exact ⟨0, F, y, Nat.zero_le _, rfl, rfl, H.out, HZ.out⟩
  case round =>
    obtain ⟨j, G, x, hj, hg, rfl, h, hx⟩ := hrel
    have HR := Lib.hid (And.intro hg (And.intro h hx))
    by_cases hlt : j < wh.nums
    · have e1 := num_cell h.b5 (show j < 5 by omega)
      have e2 : wr.cell? ⟨p3, 0, none⟩ = some (.pointer (some ⟨q, 0, none⟩)) := h.b3.cell 0
      have e3 : wr.cell? ⟨p8, 6, none⟩ = some (.int .i64 (wh.wide : Nat)) := h.b8.cell 6
      have hv := h.din.num j
      clear h hx hg
      obtain ⟨v, hv2⟩ : ∃ v, v = d.num j := ⟨_, rfl⟩
      rw [← hv2] at e1 hv
      have HV := Lib.hid (And.intro hv hv2)
      clear hv hv2
      go_wp2_with fail
      refine (pnumber_any q G x bg v wh.wide _ HR.out.2.1.pk (by omega) (by have := HV.out.1; omega) (by have := HR.out.2.1.len; omega)).mono ?_
      rintro e w2 ⟨rfl, G2, g1, g2, g3⟩
      have HN := Lib.hid (HR.out.2.1.next g1 (Pk.fit.num HR.out.2.1.fit _ _) g2 g3)
      clear g1 g2 g3 e1 e2 e3
      go_wp2_with fail
      go_roundg (wh.nums - (j + 1))
      case rel =>
        refine ⟨j + 1, G2, x.numP v wh.wide, by omega, rfl, by go_num, HN.out, ?_⟩
        rw [← HR.out.2.2, HV.out.2, show wh.nums - j = (wh.nums - (j + 1)) + 1 by omega]
        rfl
      case measure => have := HR.out.1; omega
    · have hje : j = wh.nums := by omega
      subst hje
      clear h hx hg
      go_wp2_with fail
      go_end0
      have := HR.out.2.2
      rw [Nat.sub_self] at this
      exact ⟨rfl, G, by rw [← this]; exact HR.out.2.1⟩
end Go.Proofs.YtmbgejiahmhffaaGreat

/-
  LAYER 9: Put: data is put.
-/
namespace Go.Proofs.YtmbgejiahmhffaaGreat
set_option linter.unusedVariables false
set_option linter.unusedSimpArgs false
open Go.RowKit

def dputR (y : Pk) (t : Int) (d : Dt) : Pk × Int := if dcheckB t d ≠ 0 then (y, dcheckB t d) else (dputP y (whatN t) d, (dputP y (whatN t) d).x.e)
/-- Names put one by one. -/
def Pk.namesP (y : Pk) (p : Bool) : List ByteArray → Pk
  | [] => y
  | n :: r => Pk.namesP (y.nameB p n) p r
theorem Pk.fit.names (p : Bool) : ∀ (l : List ByteArray) {y : Pk}, y.fit → (y.namesP p l).fit
  | [], _, h => h
  | n :: r, _, h => Pk.fit.names p r (h.nameB p n)
theorem dputP_eq (y : Pk) (w : Wh) (d : Dt) (hn : w.names ≤ 2) : dputP y w d =
    ((((if w.first = true then Pk.namesP (if w.first = true then (if 0 < w.addr then y.putP (addrL d w) else y).numsP d w.wide 0 w.nums else (if 0 < w.addr then y.putP (addrL d w) else y)) w.plain ([d.name, d.mail].take w.names)
      else (Pk.namesP (if w.first = true then (if 0 < w.addr then y.putP (addrL d w) else y).numsP d w.wide 0 w.nums else (if 0 < w.addr then y.putP (addrL d w) else y)) w.plain ([d.name, d.mail].take w.names)).numsP d w.wide 0 w.nums)).textsP d.texts).putP d.raw.data.toList) := by
  unfold dputP
  rcases (show w.names = 0 ∨ w.names = 1 ∨ w.names = 2 by omega) with h | h | h <;> rw [h] <;> rfl
theorem run_sliceNames (p n : Nat) (hn : n ≤ 2) (w : World) :
    (Instr.sliceAt 159 (.slice (some ⟨p, 0, none⟩) 2 2) none (some (.int .i64 n)) none).run Tryz.prog w = .ok (.slice (some ⟨p, 0, none⟩) n 2) w := by
  rcases (show n = 0 ∨ n = 1 ∨ n = 2 by omega) with rfl | rfl | rfl <;> kernel_rfl
def putFn (q : Nat) (p : Bool) : Value := .func (.func (if p = true then 101 else 95)) #[.pointer (some ⟨q, 0, none⟩)] #[]
theorem dCheck_c (t : Int) (d : Dt) (A : Option Addr) (cap : Nat) (W : World) (hd : DtIn W A d) (ht : -9223372036854775808 ≤ t ∧ t ≤ 9223372036854775807) :
    Calls Tryz.prog 60 #[.int .i64 t, .agg #[.bool d.six, .int .u64 d.hi, .int .u64 d.lo, .string d.name, .string d.mail, .int .u32 d.n0, .int .u32 d.n1, .int .u32 d.n2, .int .u32 d.n3, .int .u32 d.n4, .slice A d.texts.length cap, .string d.raw]] W (IntPost W (dcheckB t d)) := dCheck_any t d A cap W hd ht
theorem addrL_adr {d : Dt} {w : Wh} (hb : d.bare w) (h0 : 0 < w.addr) (hw : w.addr = 0 ∨ w.addr = 4 ∨ w.addr = 16) : adrCk d.six d.hi d.lo = 0 ∧ adrL d.six d.hi d.lo = addrL d w := by
  obtain ⟨_, _, _, _, _, h6, _⟩ := hb
  obtain ⟨g1, g2⟩ := h6 h0
  constructor
  · unfold adrCk
    rw [if_neg]
    rintro ⟨e1, e2⟩
    exact e2 (g1 e1)
  · unfold adrL addrL
    rcases hw with e | e | e
    · omega
    · rw [if_neg (fun h => by have := g2.1 h; omega), if_pos e]
    · rw [if_pos (g2.2 e), if_neg (by omega), if_pos e]
set_option maxRecDepth 100000 in
set_option maxHeartbeats 16000000 in
theorem dput_any (q : Nat) (F : Nat → Prop) (y : Pk) (bg : List Int) (t : Int) (d : Dt) (A : Option Addr) (cap : Nat) (w : World) (hp : PPk w q F y bg) (hfit : y.fit) (hd : DtIn w A d) (hfar : ∀ k, rowT A d.texts k → ¬ F k) (ht : -9223372036854775808 ≤ t ∧ t ≤ 9223372036854775807) :
    Calls Tryz.prog 69 #[.pointer (some ⟨q, 0, none⟩), .int .i64 t, .agg #[.bool d.six, .int .u64 d.hi, .int .u64 d.lo, .string d.name, .string d.mail, .int .u32 d.n0, .int .u32 d.n1, .int .u32 d.n2, .int .u32 d.n3, .int .u32 d.n4, .slice A d.texts.length cap, .string d.raw]] w (PPkPost w q F bg (dputR y t d)) := by
  have hmf : ∀ (fn : Fn) (first cap : Array Value) (w : World), (Instr.makeFunc fn first cap).run Tryz.prog w = .ok (.func fn first cap) w := fun _ _ _ _ => rfl
  have hb3 := (Blk.new w 76 #[.pointer (some ⟨q, 0, none⟩)]).alloc (.cells #[.bool d.six, .int .u64 d.hi, .int .u64 d.lo, .string d.name, .string d.mail, .int .u32 d.n0, .int .u32 d.n1, .int .u32 d.n2, .int .u32 d.n3, .int .u32 d.n4, .slice A d.texts.length cap, .string d.raw] 53)
  have hb5 : Blk ((w.alloc (.cells #[.pointer (some ⟨q, 0, none⟩)] 76)).alloc (.cells #[.bool d.six, .int .u64 d.hi, .int .u64 d.lo, .string d.name, .string d.mail, .int .u32 d.n0, .int .u32 d.n1, .int .u32 d.n2, .int .u32 d.n3, .int .u32 d.n4, .slice A d.texts.length cap, .string d.raw] 53)) (w.heap.size + 1) 53 #[.bool d.six, .int .u64 d.hi, .int .u64 d.lo, .string d.name, .string d.mail, .int .u32 d.n0, .int .u32 d.n1, .int .u32 d.n2, .int .u32 d.n3, .int .u32 d.n4, .slice A d.texts.length cap, .string d.raw] := by
    have := Blk.new (w.alloc (.cells #[.pointer (some ⟨q, 0, none⟩)] 76)) 53 #[.bool d.six, .int .u64 d.hi, .int .u64 d.lo, .string d.name, .string d.mail, .int .u32 d.n0, .int .u32 d.n1, .int .u32 d.n2, .int .u32 d.n3, .int .u32 d.n4, .slice A d.texts.length cap, .string d.raw]
    rwa [World.size_alloc] at this
  have hf : Fr (fun _ => False) w ((w.alloc (.cells #[.pointer (some ⟨q, 0, none⟩)] 76)).alloc (.cells #[.bool d.six, .int .u64 d.hi, .int .u64 d.lo, .string d.name, .string d.mail, .int .u32 d.n0, .int .u32 d.n1, .int .u32 d.n2, .int .u32 d.n3, .int .u32 d.n4, .slice A d.texts.length cap, .string d.raw] 53)) := ((Fr.refl _ _).alloc _).alloc _
  obtain ⟨W1, hW⟩ : ∃ W1, W1 = (w.alloc (.cells #[.pointer (some ⟨q, 0, none⟩)] 76)).alloc (.cells #[.bool d.six, .int .u64 d.hi, .int .u64 d.lo, .string d.name, .string d.mail, .int .u32 d.n0, .int .u32 d.n1, .int .u32 d.n2, .int .u32 d.n3, .int .u32 d.n4, .slice A d.texts.length cap, .string d.raw] 53) := ⟨_, rfl⟩
  rw [← hW] at hb3 hb5 hf
  have hlt : ∀ k, F k → k < w.heap.size := by
    obtain ⟨n, _, _, _, _, _, _, _, _, _, _, _, _, _, _, _, h⟩ := hp
    exact h
  have H := Lib.hid (And.intro hb3 (And.intro hb5 (And.intro hf (And.intro hlt hfar))))
  have HP := Lib.hid (And.intro hp (And.intro hfit hd))
  have HW := Lib.hid hW
  have HT := Lib.hid ht
  clear hb3 hb5 hf hW hp hfit hd ht hlt hfar
  obtain ⟨R, hR⟩ : ∃ R, R = dputR y t d := ⟨_, rfl⟩
  rw [← hR]
  have HR := Lib.hid hR
  clear hR
  go_enter Tryz.func69, Tryz.ntmps69
  go_upto_region 1 with fail
  rw [← HW.out]
  clear HW
  have c3 : W1.cell? ⟨w.heap.size, 0, none⟩ = some (.pointer (some ⟨q, 0, none⟩)) := H.out.1.cell 0
  obtain ⟨c0, c1, c2, c4, c5, c6, c7, c8, c9, c10, c11, c12⟩ := dcells H.out.2.1
  go_wp2_with fail
  refine (dCheck_c t d A cap _ (HP.out.2.2.fr0 H.out.2.2.1) HT.out).mono ?_
  rintro e w2 ⟨rfl, f2⟩
  have H2 := Lib.hid (And.intro (H.out.1.fr f2 id) (And.intro (H.out.2.1.fr f2 id) (H.out.2.2.1.then f2)))
  clear f2 c0 c1 c2 c3 c4 c5 c6 c7 c8 c9 c10 c11 c12
  by_cases hc : dcheckB t d = 0
  · rw [hc]
    have HC := Lib.hid hc
    clear hc
    go_wp2_with fail
    refine (of_any t HT.out _).mono ?_
    rintro e w3 ⟨rfl, f3⟩
    have hw3 : (whatN t).addr = 0 ∨ (whatN t).addr = 4 ∨ (whatN t).addr = 16 := by
      rcases whatN_cases t with h | h | h | h | h | h | h | h <;> rw [h] <;> decide
    have hw4 : (whatN t).nums ≤ 5 ∧ (whatN t).names ≤ 2 := by
      rcases whatN_cases t with h | h | h | h | h | h | h | h <;> rw [h] <;> decide
    have HV := Lib.hid (And.intro hw3 hw4)
    clear hw3 hw4
    have hb8 := Blk.new w3 155 ((whatN t).cells (textN t))
    have f4 := f3.alloc (.cells ((whatN t).cells (textN t)) 155)
    have HS : Hid (PutS w (w3.alloc (.cells ((whatN t).cells (textN t)) 155)) q F F y bg w.heap.size (w.heap.size + 1) w3.heap.size A cap d (whatN t) (textN t)) := by
      have hw0 := H2.out.2.2.then f4
      refine ⟨HP.out.1.fr hw0 (fun _ _ => id), HP.out.2.1, hw0.mono (fun _ _ g => g.elim), (fun k hk => .inl hk), H2.out.1.fr f4 id, H2.out.2.1.fr f4 id, hb8, ?_, ?_, ?_, HP.out.2.2.fr0 hw0, fun k hk => ?_⟩
      · intro g
        exact Nat.lt_irrefl _ (H.out.2.2.2.1 _ g)
      · intro g
        have := H.out.2.2.2.1 _ g
        omega
      · intro g
        have h1 := H.out.2.2.2.1 _ g
        have h2 := (H2.out.2.2.then f3).size
        omega
      · exact ⟨H.out.2.2.2.2 k hk, Nat.lt_of_lt_of_le (HP.out.2.2.txt.ltT hk) hw0.size⟩
    clear f3 f4 hb8
    have hbare : d.bare (whatN t) := (dcheck_ok (by rw [← dcheckB_eq]; exact HC.out)).2.1
    have hr : R = (dputP y (whatN t) d, (dputP y (whatN t) d).x.e) := by rw [HR.out]; unfold dputR; rw [if_neg (by simp [HC.out])]
    rw [dputP_eq _ _ _ HV.out.2.2] at hr
    have HE := Lib.hid (And.intro hbare hr)
    clear hbare hr HR
    generalize whatN t = wh at *
    obtain ⟨y1, hy1⟩ : ∃ y1, y1 = if 0 < wh.addr then y.putP (addrL d wh) else y := ⟨_, rfl⟩
    obtain ⟨y2, hy2⟩ : ∃ y2, y2 = if wh.first = true then y1.numsP d wh.wide 0 wh.nums else y1 := ⟨_, rfl⟩
    obtain ⟨y3, hy3⟩ : ∃ y3, y3 = y2.namesP wh.plain ([d.name, d.mail].take wh.names) := ⟨_, rfl⟩
    obtain ⟨y5, hy5⟩ : ∃ y5, y5 = if wh.first = true then y3 else y3.numsP d wh.wide 0 wh.nums := ⟨_, rfl⟩
    have hr : R = ((y5.textsP d.texts).putP d.raw.data.toList, ((y5.textsP d.texts).putP d.raw.data.toList).x.e) := by rw [HE.out.2, hy5, hy3, hy2, hy1]
    have HY := Lib.hid (And.intro hy1 (And.intro hy2 (And.intro hy3 (And.intro hy5 hr))))
    clear hy1 hy2 hy3 hy5 hr
    have HB := Lib.hid HE.out.1
    clear HE
    unfold Wh.val Wh.cells
    unfold Wh.cells at HS
    have m1 : (w3.alloc (.cells #[.string (textN t), .int .i64 wh.addr, .int .i64 wh.names, .bool wh.plain, .bool wh.first, .int .i64 wh.nums, .int .i64 wh.wide, .bool wh.texts, .bool wh.raw] 155)).cell? ⟨w3.heap.size, 1, none⟩ = some (.int .i64 wh.addr) := HS.out.b8.cell 1
    go_upto_if 29 with fail
    go_cut [9, 10] (fun _ _ wx => ∃ G, PutS w wx q F G y1 bg w.heap.size (w.heap.size + 1) w3.heap.size A cap d wh (textN t))
    case first =>
      by_cases ha : 0 < wh.addr
      · have e0 := HS.out.b5.cell 0
        have e1 := HS.out.b5.cell 1
        have e2 := HS.out.b5.cell 2
        have e3 := HS.out.b3.cell 0
        have hb0 := addrL_adr HB.out ha HV.out.1
        unfold Dt.cells at e0 e1 e2
        simp only [List.getElem?_toArray, List.getElem?_cons_zero, List.getElem?_cons_succ] at e0 e1 e2 e3
        have HA := Lib.hid (And.intro ha hb0)
        clear hb0
        go_wp2_with fail
        (with_reducible refine (adrOctets_any d.six d.hi d.lo _ HP.out.2.2.hi HP.out.2.2.lo HA.out.2.1).mono ?_)
        rintro e w5 ⟨rfl, f5⟩
        have H5 := Lib.hid (HS.out.quiet f5)
        have e3 := H5.out.b3.cell 0
        simp only [List.getElem?_toArray, List.getElem?_cons_zero, List.getElem?_cons_succ] at e3
        clear f5
        go_wp2_with fail
        refine (pput_any q F y bg ⟨(adrL d.six d.hi d.lo).toArray⟩ _ H5.out.pk ?_).mono ?_
        · have := H5.out.len
          have h2 : (⟨(adrL d.six d.hi d.lo).toArray⟩ : ByteArray).size = (adrL d.six d.hi d.lo).length := by simp [ByteArray.size]
          rw [h2, HA.out.2.2, addrL_length _ _ HV.out.1]
          rcases HV.out.1 with h | h | h <;> omega
        rintro e w6 ⟨rfl, G6, g1, g2, g3⟩
        have H6 := Lib.hid (H5.out.next g1 (Pk.fit.put H5.out.fit _) g2 g3)
        clear g1 g2 g3
        go_wp2_with fail
        go_meet
        refine ⟨G6, ?_⟩
        rw [HY.out.1, if_pos HA.out.1, ← HA.out.2.2]
        exact H6.out
      · have HA := Lib.hid ha
        go_wp2_with fail
        go_meet
        refine ⟨F, ?_⟩
        rw [HY.out.1, if_neg HA.out]
        exact HS.out
    case rest =>
      obtain ⟨G, hg⟩ := hcut
      have HS := Lib.hid hg
      clear hg m1
      have e3 := HS.out.b3.cell 0
      have e8 := HS.out.b8.cell 3
      unfold Wh.cells at e8
      simp only [List.getElem?_toArray, List.getElem?_cons_zero, List.getElem?_cons_succ] at e3 e8
      go_upto_if 43 with fail
      go_cut [12] (fun v wx => v = putFn q wh.plain ∧ wx = wc)
      case first =>
        cases hpl : wh.plain
        all_goals
          rw [hpl] at e8
          go_wp2_with fail
          go_meet
          exact ⟨by rw [hpl]; rfl, rfl⟩
      case rest =>
        obtain ⟨rfl, hwc⟩ := hcut
        subst hwc
        clear e3 e8
        have e8 := HS.out.b8.cell 4
        unfold Wh.cells at e8
        simp only [List.getElem?_toArray, List.getElem?_cons_zero, List.getElem?_cons_succ] at e8
        go_upto_if 47 with fail
        go_cut [49] (fun _ wx => ∃ G, PutS w wx q F G y2 bg w.heap.size (w.heap.size + 1) w3.heap.size A cap d wh (textN t))
        case first =>
          cases hfi : wh.first
          rotate_left
          · rw [hfi] at e8
            go_wp2_with fail
            refine (putNums_any HS.out HV.out.2.1).mono ?_
            rintro e w6 ⟨rfl, G6, h6⟩
            have H6 := Lib.hid h6
            clear h6
            go_wp2_with fail
            go_meet
            refine ⟨G6, ?_⟩
            rw [HY.out.2.1, if_pos hfi]
            exact H6.out
          · rw [hfi] at e8
            go_wp2_with fail
            go_meet
            refine ⟨G, ?_⟩
            rw [HY.out.2.1, if_neg (by simp [hfi])]
            exact HS.out
        case rest =>
          obtain ⟨G2, hg⟩ := hcut
          have HS2 := Lib.hid hg
          clear hg e8 HS
          have e4 := HS2.out.b5.cell 3
          have e5 := HS2.out.b5.cell 4
          unfold Dt.cells at e4 e5
          have hn := Blk.new wc 36 #[.string d.name, .string d.mail]
          have e8 := (HS2.out.b8.alloc (.cells #[.string d.name, .string d.mail] 36)).cell 2
          unfold Wh.cells at e8
          simp only [List.getElem?_toArray, List.getElem?_cons_zero, List.getElem?_cons_succ] at e4 e5 e8
          have hsl := run_sliceNames wc.heap.size wh.names HV.out.2.2
          have HN : Hid (PutS w (wc.alloc (.cells #[.string d.name, .string d.mail] 36)) q F G2 y2 bg w.heap.size (w.heap.size + 1) w3.heap.size A cap d wh (textN t) ∧ Blk (wc.alloc (.cells #[.string d.name, .string d.mail] 36)) wc.heap.size 36 #[.string d.name, .string d.mail] ∧ ¬ G2 wc.heap.size) := by
            refine ⟨HS2.out.quiet ((Fr.refl _ _).alloc _), hn, fun g => ?_⟩
            obtain ⟨n, _, _, _, _, _, _, _, _, _, _, _, _, _, _, _, h⟩ := HS2.out.pk
            exact Nat.lt_irrefl _ (h _ g)
          clear hn
          go_wp2_with fail
          clear hsl e4 e5 e8
          have hl2 : ([d.name, d.mail].take wh.names).length = wh.names := by
            have := HV.out.2.2
            rw [List.length_take]
            simp
            omega
          have HL2 := Lib.hid hl2
          clear hl2
          obtain ⟨pl, hpl⟩ : ∃ pl, wh.plain = pl := ⟨_, rfl⟩
          rw [hpl]
          have HPL := Lib.hid hpl
          clear hpl
          obtain ⟨pn, hpn⟩ : ∃ pn, pn = wc.heap.size := ⟨_, rfl⟩
          rw [← hpn] at HN ⊢
          obtain ⟨W5, hW5⟩ : ∃ W5, W5 = wc.alloc (.cells #[.string d.name, .string d.mail] 36) := ⟨_, rfl⟩
          rw [← hW5] at HN ⊢
          clear hW5 hpn
          cases pl
          all_goals
            unfold putFn
            go_loopg [59] wh.names (fun g i wr => ∃ (j : Nat) (G : Nat → Prop) (x : Pk), j ≤ wh.names ∧ g = wh.names - j ∧ i = .int .i64 j ∧ PutS w wr q F G x bg w.heap.size (w.heap.size + 1) w3.heap.size A cap d wh (textN t) ∧ Blk wr pn 36 #[.string d.name, .string d.mail] ∧ ¬ G pn ∧ x.namesP wh.plain (([d.name, d.mail].take wh.names).drop j) = y3)
            case atStart => exact ⟨0, G2, y2, Nat.zero_le _, rfl, rfl, HN.out.1, HN.out.2.1, HN.out.2.2, by rw [HY.out.2.2.1]; rfl⟩
            case round =>
              obtain ⟨j, G, x, hj, hg, rfl, h1, h2, h3, h4⟩ := hrel
              have HX := Lib.hid (And.intro hg (And.intro h1 (And.intro h2 (And.intro h3 h4))))
              clear hg h1 h2 h3 h4
              by_cases hlt : j < wh.names
              · obtain ⟨n, hn⟩ : ∃ n, ([d.name, d.mail].take wh.names)[j]? = some n := ⟨_, List.getElem?_eq_getElem (by rw [HL2.out]; exact hlt)⟩
                have hcn : wr.cell? ⟨pn, j, none⟩ = some (.string n) := by
                  rw [HX.out.2.2.1.cell]
                  have h2 := HV.out.2.2
                  rw [List.getElem?_take_of_lt hlt] at hn
                  rcases (show j = 0 ∨ j = 1 by omega) with rfl | rfl
                  · simp at hn; subst hn; rfl
                  · simp at hn; subst hn; rfl
                have hdr : ([d.name, d.mail].take wh.names).drop j = n :: ([d.name, d.mail].take wh.names).drop (j + 1) := by
                  rw [List.drop_eq_getElem_cons (by rw [HL2.out]; exact hlt)]
                  congr 1
                  have := (List.getElem?_eq_some_iff.1 hn).2
                  exact this
                have HD := Lib.hid hdr
                clear hn hdr
                have hnB : ∀ (G' : Nat → Prop) (w' : World) (r : Int), PPk w' q G' (x.nameB wh.plain n) bg → Fr G wr w' → (∀ k, G' k → G k ∨ wr.heap.size ≤ k) → PutS w w' q F G' (x.nameB wh.plain n) bg w.heap.size (w.heap.size + 1) w3.heap.size A cap d wh (textN t) ∧ Blk w' pn 36 #[.string d.name, .string d.mail] ∧ ¬ G' pn := fun G' w' r g1 g2 g3 =>
                  ⟨HX.out.2.1.next g1 (Pk.fit.nameB HX.out.2.1.fit _ _) g2 g3, HX.out.2.2.1.fr g2 HX.out.2.2.2.1, fun g => (g3 _ g).elim HX.out.2.2.2.1 fun g => by have := HX.out.2.2.1.lt; omega⟩
                have HNB := Lib.hid hnB
                clear hnB
                have hnb := HV.out.2.2
                go_wp2_with fail
                (first
                  | refine (pname_any q G x bg n _ HX.out.2.1.pk (by have := HX.out.2.1.len; omega)).mono ?_
                  | refine (pplain_any q G x bg n _ HX.out.2.1.pk (by have := HX.out.2.1.len; omega)).mono ?_)
                rintro e w7 ⟨rfl, G7, g1, g2, g3⟩
                have HN7 := Lib.hid (HNB.out G7 w7 0 (by rw [HPL.out]; exact g1) g2 g3)
                clear g1 g2 g3 hcn
                go_wp2_with fail
                go_roundg (wh.names - (j + 1))
                case rel =>
                  refine ⟨j + 1, G7, x.nameB wh.plain n, hlt, rfl, by go_num, HN7.out.1, HN7.out.2.1, HN7.out.2.2, ?_⟩
                  rw [← HX.out.2.2.2.2, HD.out]
                  rfl
                case measure => have := HX.out.1; omega
              · have hje : j = wh.names := by omega
                subst hje
                have hy3 : x = y3 := by
                  have := HX.out.2.2.2.2
                  rw [List.drop_of_length_le (Nat.le_of_eq HL2.out)] at this
                  exact this
                have HS3 := Lib.hid (hy3 ▸ HX.out.2.1)
                clear hy3
                have e8 := HS3.out.b8.cell 4
                unfold Wh.cells at e8
                simp only [List.getElem?_toArray, List.getElem?_cons_zero, List.getElem?_cons_succ] at e8
                go_upto_if 69 with fail
                go_cut [71] (fun _ wx => ∃ G, PutS w wx q F G y5 bg w.heap.size (w.heap.size + 1) w3.heap.size A cap d wh (textN t))
                case first =>
                  cases hfi : wh.first
                  · rw [hfi] at e8
                    go_wp2_with fail
                    refine (putNums_any HS3.out HV.out.2.1).mono ?_
                    rintro e w8 ⟨rfl, G8, h8⟩
                    have H8 := Lib.hid h8
                    clear h8
                    go_wp2_with fail
                    go_meet
                    refine ⟨G8, ?_⟩
                    rw [HY.out.2.2.2.1, if_neg (by simp [hfi])]
                    exact H8.out
                  · rw [hfi] at e8
                    go_wp2_with fail
                    go_meet
                    refine ⟨G, ?_⟩
                    rw [HY.out.2.2.2.1, if_pos hfi]
                    exact HS3.out
                case rest =>
                  obtain ⟨G5, hg⟩ := hcut
                  have HS5 := Lib.hid hg
                  clear hg e8
                  have e10 := HS5.out.b5.cell 10
                  unfold Dt.cells at e10
                  simp only [List.getElem?_toArray, List.getElem?_cons_zero, List.getElem?_cons_succ] at e10
                  go_wp2_with fail
                  go_loopg [75] d.texts.length (fun g i wr => ∃ (j : Nat) (G : Nat → Prop) (x : Pk), j ≤ d.texts.length ∧ g = d.texts.length - j ∧ i = .int .i64 j ∧ PutS w wr q F G x bg w.heap.size (w.heap.size + 1) w3.heap.size A cap d wh (textN t) ∧ x.textsP (d.texts.drop j) = y5.textsP d.texts)
                  case atStart => exact ⟨0, G5, y5, Nat.zero_le _, rfl, rfl, HS5.out, rfl⟩
                  case round =>
                    obtain ⟨j, G, x, hj, hg, rfl, h1, h4⟩ := hrel
                    have HX := Lib.hid (And.intro hg (And.intro h1 h4))
                    clear hg h1 h4
                    by_cases hlt : j < d.texts.length
                    · obtain ⟨n, hn⟩ : ∃ n, d.texts[j]? = some n := ⟨_, List.getElem?_eq_getElem hlt⟩
                      rcases HX.out.2.1.din.txt.form with h0 | ⟨b, off, rfl, hlt2, hc⟩
                      · rw [h0] at hlt; simp at hlt
                      have hcn := hc j n hn
                      have hs3 : n.size ≤ 255 := (dcheck_ok (by rw [← dcheckB_eq]; exact HC.out)).2.2.2.2.1 n (List.mem_of_getElem? hn)
                      have e3 := HX.out.2.1.b3.cell 0
                      simp only [List.getElem?_toArray, List.getElem?_cons_zero] at e3
                      have hdr : d.texts.drop j = n :: d.texts.drop (j + 1) := by
                        rw [List.drop_eq_getElem_cons hlt]
                        congr 1
                        exact (List.getElem?_eq_some_iff.1 hn).2
                      have HD := Lib.hid hdr
                      have hlb := HX.out.2.1.din.len
                      clear hn hdr hc
                      go_wp2_with fail
                      refine (pnumber_any q G x bg n.size 1 _ HX.out.2.1.pk (by omega) (by omega) (by have := HX.out.2.1.len; omega)).mono ?_
                      rintro e w8 ⟨rfl, G8, g1, g2, g3⟩
                      have HN8 := Lib.hid (HX.out.2.1.next g1 (Pk.fit.num HX.out.2.1.fit _ _) g2 g3)
                      clear g1 g2 g3 hcn e3
                      have e3 := HN8.out.b3.cell 0
                      simp only [List.getElem?_toArray, List.getElem?_cons_zero] at e3
                      go_wp2_with fail
                      refine (pput_any q G8 _ bg n _ HN8.out.pk (Nat.le_trans (Nat.add_le_add HN8.out.len hs3) (by decide))).mono ?_
                      rintro e w9 ⟨rfl, G9, g1, g2, g3⟩
                      have HN9 := Lib.hid (HN8.out.next g1 (Pk.fit.put HN8.out.fit _) g2 g3)
                      clear g1 g2 g3 e3
                      go_wp2_with fail
                      go_roundg (d.texts.length - (j + 1))
                      case rel =>
                        refine ⟨j + 1, G9, _, hlt, rfl, by go_num, HN9.out, ?_⟩
                        rw [← HX.out.2.2, HD.out]
                        rfl
                      case measure => have := HX.out.1; omega
                    · have hje : j = d.texts.length := by omega
                      have hy6 : x = y5.textsP d.texts := by
                        have := HX.out.2.2
                        rw [hje, List.drop_of_length_le (Nat.le_refl _)] at this
                        exact this
                      have HS6 := Lib.hid (hy6 ▸ HX.out.2.1)
                      clear hy6
                      subst hje
                      have e3 := HS6.out.b3.cell 0
                      have e11 := HS6.out.b5.cell 11
                      unfold Dt.cells at e11
                      simp only [List.getElem?_toArray, List.getElem?_cons_zero, List.getElem?_cons_succ] at e3 e11
                      go_wp2_with fail
                      refine (pput_any q G _ bg d.raw _ HS6.out.pk (Nat.le_trans (Nat.add_le_add HS6.out.len HS6.out.din.raw) (by decide))).mono ?_
                      rintro e w9 ⟨rfl, G9, g1, g2, g3⟩
                      have HN9 := Lib.hid (HS6.out.next g1 (Pk.fit.put HS6.out.fit _) g2 g3)
                      clear g1 g2 g3 e3 e11
                      have e3 := HN9.out.b3.cell 0
                      simp only [List.getElem?_toArray, List.getElem?_cons_zero] at e3
                      go_wp2_with fail
                      refine (perr_any q G9 _ bg _ HN9.out.pk).mono ?_
                      rintro e w' ⟨rfl, rfl⟩
                      go_wp2_with fail
                      go_ret
                      refine ⟨?_, G9, ?_, HN9.out.fr, HN9.out.new⟩
                      · rw [HY.out.2.2.2.2]
                        rfl
                      · rw [HY.out.2.2.2.2]
                        exact HN9.out.pk
  · have hc' : (dcheckB t d != 0) = true := by simp [hc]
    have HC := Lib.hid hc
    clear hc
    go_wp2_with fail
    go_ret
    rw [HR.out]
    unfold dputR
    rw [if_pos HC.out]
    exact ⟨rfl, F, HP.out.1.fr H2.out.2.2 (fun _ _ => id), H2.out.2.2.mono (fun _ _ g => g.elim), fun k hk => .inl hk⟩
end Go.Proofs.YtmbgejiahmhffaaGreat

/-
  LAYER 9, PLAIN: what Put leaves in a new packer of 65,535 octets of room. No program.
-/
namespace Go.Proofs.YtmbgejiahmhffaaGreat
set_option linter.unusedVariables false
set_option linter.unusedSimpArgs false
open Go.RowKit

theorem UGK.self {y : Pk} {B : Nat} (h : UG y B) : Pk.mk { y.x with most := (65535 : Int) } y.get = y := by
  have := h.most
  obtain ⟨⟨b, m, e⟩, g⟩ := y
  simp only at this
  subst this
  rfl
theorem Rm.self {y : Pk} {B : Nat} (h : UG y B) (hB : B ≤ 65535) : Rm 65535 y y := .inl ⟨by have := h.len; omega, h.self.symm⟩
theorem Rm.out {y z : Pk} {B : Nat} (h : Rm 65535 y z) (hu : UG z B) (hB : B ≤ 65535) : y = z := by
  rcases h with ⟨_, h2⟩ | ⟨h1, _⟩
  · rw [h2]
    exact hu.self
  · have := hu.len
    omega
theorem UGK.fit {y : Pk} {B : Nat} (h : UG y B) (hB : B ≤ 65535) : y.fit := ⟨by rw [h.most]; have := h.len; omega, by rw [h.most]; decide⟩
theorem size_light (t : Int) (d : Dt) : d.size (whatN t) ≤ d.light + 40 := by
  have hq : d.light = d.raw.size + d.name.size + d.mail.size + textsLen d.texts := rfl
  unfold Dt.size
  rcases whatN_cases t with e | e | e | e | e | e | e | e <;> rw [e] <;> dsimp only <;> (try split) <;> (try split) <;> omega
end Go.Proofs.YtmbgejiahmhffaaGreat

/-
  LAYER 7: PackNames.
-/
namespace Go.Proofs.YtmbgejiahmhffaaGreat
open Go.RowKit Go.Maps

/-- Three packers of the call's own, apart. -/
structure TP (w w' : World) (p : Nat) (F : Nat → Prop) (y : Pk) (bg : List Int) (q : Nat) (G : Nat → Prop) (z : Pk) (r : Nat) (H : Nat → Prop) (u : Pk) : Prop where
  p : PPk w' p F y bg
  q : PPk w' q G z []
  r : PPk w' r H u []
  pq : ∀ k, F k → ¬ G k
  pr : ∀ k, F k → ¬ H k
  qr : ∀ k, G k → ¬ H k
  pn : ∀ k, F k → w.heap.size ≤ k
  qn : ∀ k, G k → w.heap.size ≤ k
  rn : ∀ k, H k → w.heap.size ≤ k
  fr : Fr (fun _ => False) w w'
theorem PPk.lt {w : World} {q : Nat} {F : Nat → Prop} {y : Pk} {bg : List Int} (h : PPk w q F y bg) : ∀ k, F k → k < w.heap.size := by
  obtain ⟨n, _, p, G, b, C, ccap, _, _, _, _, _, _, _, _, _, h⟩ := h
  exact h
section
variable {w w' w2 : World} {p q r : Nat} {F G H F' : Nat → Prop} {y z u y' : Pk} {bg bg' : List Int}
theorem TP.drewN (h : TP w w' p F y bg q G z r H u) (n : Nat) : TP w (w'.drewN n) p F y bg q G z r H u :=
  ⟨h.p.drewN n, h.q.drewN n, h.r.drewN n, h.pq, h.pr, h.qr, h.pn, h.qn, h.rn, h.fr.drewN n⟩
end

end Go.Proofs.YtmbgejiahmhffaaGreat

/-
  DATA, RECORDS, QUESTIONS THAT CAME IN, OPENED; and what the bound of the second form gives.
-/
namespace Go.Proofs.YtmbgejiahmhffaaGreat
set_option linter.unusedVariables false
set_option linter.unusedSimpArgs false
set_option linter.constructorNameAsVariable false
open Go.ChangeShapes Go.WideShapes Go.ChangeAt Go.RowKit Go.Deep

theorem bulk_part {H : Type} : ∀ {l : List (DataW H)} {i : Nat} {d : DataW H}, l[i]? = some d → Rows.uptoBulk d ≤ Rows.uptoBulkAll l
  | [], i, d, h => by simp at h
  | x :: r, 0, d, h => by
    simp only [List.getElem?_cons_zero, Option.some.injEq] at h
    subst h
    simp only [Rows.uptoBulkAll]
    omega
  | x :: r, i + 1, d, h => by
    rw [List.getElem?_cons_succ] at h
    have := bulk_part h
    simp only [Rows.uptoBulkAll]
    omega
theorem bulk_str (H : Type) (x : ByteArray) : Rows.uptoBulk (DataW.lit (H := H) (.string x.data.toList)) = x.size + 1 := by
  have e : x.data.toList.length = x.size := by rw [Array.length_toList]; rfl
  simp only [Rows.uptoBulk, e]
section
variable {W : World} {H : Type} {enc : TypeId × Value → H} {fuel : Nat} {cs : List Value} {x : DataW H × List MemPlace}
theorem twelve {α : Type} : ∀ l : List α, l.length = 12 → ∃ e0 e1 e2 e3 e4 e5 e6 e7 e8 e9 e10 e11, l = [e0, e1, e2, e3, e4, e5, e6, e7, e8, e9, e10, e11]
  | [e0, e1, e2, e3, e4, e5, e6, e7, e8, e9, e10, e11], _ => ⟨e0, e1, e2, e3, e4, e5, e6, e7, e8, e9, e10, e11, rfl⟩
end
set_option maxRecDepth 100000 in
theorem open_str_u {W : World} {H : Type} {enc : TypeId × Value → H} {v : Value} {base : Nat} {d : DataW H} {p : List MemPlace} {t : TypeId} (ht : Tryz.prog.underlying t = some .string)
    (hv : Value.okWide Tryz.prog W .any base t v) (h : DataW.Trod enc Tryz.prog W 0 (fun _ => true) true t v d p) (hb : Rows.uptoBulk d ≤ 1048576) : ∃ s : ByteArray, v = .string s ∧ s.size ≤ 1048576 := by
  obtain ⟨s, rfl, rfl, _, _⟩ := Go.ChangeMaps.open_string ht hv h
  refine ⟨s, rfl, ?_⟩
  rw [bulk_str] at hb
  omega
end Go.Proofs.YtmbgejiahmhffaaGreat

/-
  A NEW PACKER, AND WHAT STOOD BEFORE IT.
-/
namespace Go.Proofs.YtmbgejiahmhffaaGreat
set_option linter.unusedVariables false
set_option linter.unusedSimpArgs false
open Go.RowKit

/-- A packer that was made behind w0, and has turned nothing of what stood there. -/
structure PD (w0 w : World) (p : Nat) (F : Nat → Prop) (y : Pk) : Prop where
  pk : PPk w p F y []
  fr : Fr (fun _ => False) w0 w
  far : ∀ k, F k → w0.heap.size ≤ k
section
variable {w0 w w' : World} {p : Nat} {F F' : Nat → Prop} {y y' : Pk}
theorem PD.step (h : PD w0 w p F y) (g1 : PPk w' p F' y' []) (g2 : Fr F w w') (g3 : ∀ k, F' k → F k ∨ w.heap.size ≤ k) : PD w0 w' p F' y' :=
  ⟨g1, h.fr.step g2 fun k hk => .inr (h.far k hk), fun k hk => (g3 k hk).elim (h.far k) fun hl => Nat.le_trans h.fr.size hl⟩
theorem PD.quiet (h : PD w0 w p F y) (f : Fr (fun _ => False) w w') : PD w0 w' p F y := ⟨h.pk.fr f fun _ _ => id, h.fr.then f, h.far⟩
theorem PD.row (h : PD w0 w p F y) {A : Option Addr} {l : List ByteArray} (hs : Strs w0 A l) : ∀ k, rowT A l k → ¬ F k := fun k hk hF => by
  have h1 := hs.ltT hk
  have h2 := h.far k hF
  omega
/-- What stood before, and another packer's world, is as it was. -/
theorem PD.other (h : PD w0 w p F y) (g : Fr F w w') {q : Nat} {G : Nat → Prop} {z : Pk} {bg : List Int} (hq : PPk w q G z bg) (hG : ∀ k, G k → k < w0.heap.size) : PPk w' q G z bg :=
  hq.fr g fun k hk hF => by
    have := hG k hk
    have := h.far k hF
    omega
theorem PD.new (hf : Fr (fun _ => False) w0 w) (g1 : PPk w p F y []) (g3 : ∀ k, F k → w0.heap.size ≤ k) : PD w0 w p F y := ⟨g1, hf, g3⟩
/-- Two packers, apart. -/
structure PD2 (w0 w : World) (p : Nat) (F : Nat → Prop) (y : Pk) (q : Nat) (G : Nat → Prop) (z : Pk) : Prop where
  p : PD w0 w p F y
  q : PD w0 w q G z
  apart : ∀ k, F k → ¬ G k
theorem PD2.quiet {q : Nat} {G : Nat → Prop} {z : Pk} (h : PD2 w0 w p F y q G z) (f : Fr (fun _ => False) w w') : PD2 w0 w' p F y q G z := ⟨h.p.quiet f, h.q.quiet f, h.apart⟩
end
end Go.Proofs.YtmbgejiahmhffaaGreat
