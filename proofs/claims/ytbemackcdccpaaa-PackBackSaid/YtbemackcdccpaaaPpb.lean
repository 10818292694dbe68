/-
  LAYER 7: THE PROGRAM's PACKER: lengths begun, ended.
-/
import Derived.Test.YtbemackcdccpaaaPpl
import Derived.Test.YtbemackcdccpaaaOctb
namespace Go.Proofs.Ytbemackcdccpaaa
open Go.RowKit Go.Maps

theorem Try.infoInt : (Try.prog.info? 3).map (fun i => (i.zero, i.size, i.bytes)) = some (some (.int .i64 0), 1, 8) := by kernel_rfl
theorem int_new (w : World) (v : Int) (T : TypeId) : ∀ j u, ([Value.int .i64 v] : List Value)[j]? = some u → (w.alloc (.cells #[.int .i64 v] T)).cell? ((⟨w.heap.size, 0, none⟩ : Addr).add j) = some u := by
  intro j u hu
  have ha : (⟨w.heap.size, 0, none⟩ : Addr).add j = ⟨w.heap.size, j, none⟩ := by unfold Addr.add; split <;> simp_all
  rw [ha, (Blk.new w T _).cell]
  simpa using hu
theorem int_one (v : Int) : ∀ u ∈ ([Value.int .i64 v] : List Value), u.oneCell' = true := by
  intro u hu
  simp only [List.mem_singleton] at hu
  subst hu
  rfl

/-- The lengths that were begun. -/
theorem PPkn.begun {w : World} {q n : Nat} {F : Nat → Prop} {y : Pk} {bg : List Int} (h : PPkn w q F y bg n) :
    ∃ C ccap, w.cell? ⟨q, 2, none⟩ = some (.slice C bg.length ccap) ∧ w.frozen? ⟨q, 2, none⟩ = false ∧ w.ownsRow 0 3 1 (.slice C bg.length ccap) bg.length (bg.map (Value.int .i64)) ∧ ¬ rowOf C q ∧ (∀ k, rowOf C k → F k) ∧ F q ∧
      ∀ w' C' bg' ccap', Fr (fun k => k = q ∨ rowOf C k) w w' → Blk w' q 132 (((w.heap[q]?.bind fun o => match o with | .cells cs _ _ => some cs | _ => none).getD #[]).setIfInBounds 2 (.slice C' bg'.length ccap')) →
        w'.ownsRow 0 3 1 (.slice C' bg'.length ccap') bg'.length (bg'.map (Value.int .i64)) → (∀ k, rowOf C' k → rowOf C k ∨ w.heap.size ≤ k) → PPkn w' q (fun k => F k ∨ rowOf C' k) y bg' n := by
  obtain ⟨p, G, b, C, ccap, h1, h2, h3, h4, ⟨d1, d2, d3, d4, d5⟩, h7, h8, h9, h10, h11⟩ := h
  have hCq : ¬ rowOf C q := own_ne h4 h1 (by decide)
  refine ⟨C, ccap, h1.cell 2, h1.frozen 2, h4, hCq, h10, h7, fun w' C' bg' ccap' hf hb ho hl => ?_⟩
  have hcs : ((w.heap[q]?.bind fun o => match o with | .cells cs _ _ => some cs | _ => none).getD #[]) = #[.pointer (some ⟨p, 0, none⟩), .map (some b), .slice C bg.length ccap] := by
    have h1' := h1
    unfold Blk at h1'
    rw [h1']
    rfl
  rw [hcs] at hb
  have hG : ∀ k, G k → ¬ (k = q ∨ rowOf C k) := fun k hk h => h.elim (fun e => d1 (e ▸ hk)) fun h => d5 k h hk
  have hbn : ¬ (b = q ∨ rowOf C b) := fun h => h.elim d3 d4
  have hGl := h2.lt
  have hbl := h3.lt
  refine ⟨p, G, b, C', ccap', hb, h2.fr hf hG, h3.fr hf hbn, ho, ⟨d1, d2, d3, fun h => (hl _ h).elim d4 fun h => by omega, fun k hk h => (hl k hk).elim (fun h' => d5 k h' h) fun h' => by have := hGl k h; omega⟩, .inl h7, .inl h8, fun k hk => .inl (h9 k hk), fun k hk => .inr hk, ?_⟩
  rintro k (hk | hk)
  · exact Nat.lt_of_lt_of_le (h11 k hk) hf.size
  · exact own_lt ho hk

theorem Blk.cells_of {w : World} {q : Nat} {t : TypeId} {cs : Array Value} (h : Blk w q t cs) : ((w.heap[q]?.bind fun o => match o with | .cells cs _ _ => some cs | _ => none).getD #[]) = cs := by
  unfold Blk at h
  rw [h]
  rfl
/-- The block of a packer, whatever it holds. -/
theorem PPkn.blk {w : World} {q n : Nat} {F : Nat → Prop} {y : Pk} {bg : List Int} (h : PPkn w q F y bg n) : Blk w q 132 ((w.heap[q]?.bind fun o => match o with | .cells cs _ _ => some cs | _ => none).getD #[]) := by
  obtain ⟨p, G, b, C, ccap, h1, _⟩ := h
  rw [h1.cells_of]
  exact h1

set_option maxRecDepth 100000 in
set_option maxHeartbeats 2000000 in
theorem push_any (q n : Nat) (F : Nat → Prop) (y : Pk) (bg : List Int) (v : Int) (w : World) (h : PPkn w q F y bg n) (hb : bg.length ≤ 1000000) :
    Calls Try.prog 89 #[.pointer (some ⟨q, 2, none⟩), .int .i64 v] w fun e w' => e = .returned (.tuple #[]) ∧ ∃ F', PPkn w' q F' y (bg ++ [v]) n ∧ Fr F w w' ∧ ∀ k, F' k → F k ∨ w.heap.size ≤ k := by
  obtain ⟨i0, hi, hz0, hz1, hz2⟩ := info_parts Try.infoInt
  have H := Lib.hid h
  obtain ⟨C, ccap, c2, f2, ho, hCq, hCF, hFq, hup⟩ := h.begun
  have HO := Lib.hid ho
  have HU := Lib.hid hup
  clear h ho hup
  go_enter Try.func89, Try.ntmps89
  go_wp2_with (first
    | (at_builtin; refine wpList_append_src rfl (.tmp 8) (.tmp 10) _ _ rfl 3 i0 _ 1 8 Try.underlying49 hi hz0 hz1 hz2 rfl (by decide) C bg.length ccap (bg.map (Value.int .i64)) (by rfl) (HO.out.alloc _) _ 1 [.int .i64 v] (by rfl)
         (Src.ofSlice _ Try.underlying49 ⟨w.heap.size, 0, none⟩ 1 1 [.int .i64 v] rfl (int_new _ _ _) (int_one _)) (by simp only [maxLen]; omega) (by omega) ?_
       intro C2 cap2 w1 o1 o2 o3
       have hw1 : Fr (rowOf C) w w1 := ((Fr.refl _ w).alloc _).then o2
       have e2 : w1.cell? ⟨q, 2, none⟩ = some (.slice C bg.length ccap) := (hw1.cell (p := ⟨q, 2, none⟩) (World.block_lt_of_cell? w _ c2) hCq).trans c2
       have g2 : w1.frozen? ⟨q, 2, none⟩ = false := (hw1.frozen (p := ⟨q, 2, none⟩) (World.block_lt_of_cell? w _ c2) hCq).trans f2
       have HN := Lib.hid (And.intro o1 (And.intro o3 hw1))
       clear o1 o2 o3 hw1))
  go_end0
  obtain ⟨o1, o3, hw1⟩ := HN.out
  have hb1 := (H.out.blk).fr hw1 hCq
  have hC2q : ¬ rowOf C2 q := own_ne o1 hb1 (by decide)
  have hs : Fr (· = q) w1 (w1.setCell ⟨q, 2, none⟩ (.slice C2 (bg.length + 1) cap2)) := Fr.setCell (S := (· = q)) (Fr.refl _ w1) (p := ⟨q, 2, none⟩) (fun _ => rfl) _
  have hl : (bg ++ [v]).length = bg.length + 1 := by simp
  have hall : Fr (fun k => k = q ∨ rowOf C k) w (w1.setCell ⟨q, 2, none⟩ (.slice C2 (bg.length + 1) cap2)) := (hw1.mono fun _ _ h => .inr h).then (hs.mono fun _ _ h => .inl h)
  have o3' : ∀ k, rowOf C2 k → rowOf C k ∨ w.heap.size ≤ k := fun k hk => (o3 k hk).imp id fun h => by rw [World.size_alloc] at h; omega
  refine ⟨rfl, _, HU.out _ C2 (bg ++ [v]) cap2 hall ?_ ?_ o3', hall.mono ?_, ?_⟩
  · rw [hl]
    exact hb1.set_ 2 _
  · rw [hl, List.map_append]
    exact own_fr o1 hs (fun k hk e => hC2q (e ▸ hk))
  · rintro k _ (rfl | hk)
    · exact hFq
    · exact hCF k hk
  · rintro k (hk | hk)
    · exact .inl hk
    · exact (o3' k hk).imp (hCF k) id

theorem own_take {w : World} {e : TypeId} {A : Option Addr} {n cap m : Nat} {xs : List Value} (h : w.ownsRow 0 e 1 (.slice A n cap) n xs) (hm : m ≤ n) : w.ownsRow 0 e 1 (.slice A m cap) m (xs.take m) := by
  have hl := h.1
  refine ⟨by rw [List.length_take]; omega, ?_⟩
  rcases h.2 with ⟨hv, h0⟩ | ⟨g, cp, cur, hv, hb, hg, r1, r2, r3, r4⟩
  · injection hv with hA _ hc
    subst hA h0 hc
    have : m = 0 := by omega
    subst this
    exact .inl ⟨rfl, rfl⟩
  · injection hv with hA _ hc
    subst hA hc
    refine .inr ⟨g, cap, cur, rfl, hb, hg, by omega, r2, r3, ?_⟩
    rw [← r4, List.take_take]
    congr 1
    omega

set_option maxRecDepth 100000 in
set_option maxHeartbeats 2000000 in
theorem pop_no (q n : Nat) (F : Nat → Prop) (y : Pk) (bg : List Int) (v : Int) (w : World) (h : PPkn w q F y bg n) (hb : bg.length ≤ 1000000) (hv : bg.getLast? ≠ some v) :
    Calls Try.prog 90 #[.pointer (some ⟨q, 2, none⟩), .int .i64 v] w fun e w' => e = .returned (.bool false) ∧ w = w' := by
  obtain ⟨C, ccap, c2, f2, ho, _⟩ := h.begun
  clear h
  rcases List.eq_nil_or_concat bg with rfl | ⟨r, x, rfl⟩
  · have q1 : IntKind.i64.wrap ((([] : List Int).length : Int) - 1) = -1 := by decide
    go_enter Try.func90, Try.ntmps90
    go_wp2_with fail
    go_ret
    exact ⟨rfl, rfl⟩
  · have hx : x ≠ v := by
      intro e
      apply hv
      simp [e]
    have hlen : (r.concat x).length = r.length + 1 := by simp
    rw [hlen] at c2 ho hb
    obtain ⟨g, rfl, hc⟩ := own_cell ho (j := r.length) (u := .int .i64 x) (by simp)
    have q1 : IntKind.i64.wrap (((r.length + 1 : Nat) : Int) - 1) = (r.length : Int) := by rw [IntWalk.i64_in _ (by omega)]; omega
    have hx' : (x != v) = true := by simp [hx]
    have hcap := own_cap ho
    have hcc : r.length + 1 ≤ ccap := hcap.1
    clear ho hv hcap
    go_enter Try.func90, Try.ntmps90
    go_wp2_with fail
    go_ret
    exact ⟨rfl, rfl⟩

set_option maxRecDepth 100000 in
set_option maxHeartbeats 2000000 in
theorem pop_yes (q n : Nat) (F : Nat → Prop) (y : Pk) (r : List Int) (v : Int) (w : World) (h : PPkn w q F y (r ++ [v]) n) (hb : r.length ≤ 1000000) :
    Calls Try.prog 90 #[.pointer (some ⟨q, 2, none⟩), .int .i64 v] w fun e w' => e = .returned (.bool true) ∧ ∃ F', PPkn w' q F' y r n ∧ Fr F w w' ∧ ∀ k, F' k → F k ∨ w.heap.size ≤ k := by
  have H := Lib.hid h
  obtain ⟨C, ccap, c2, f2, ho, hCq, hCF, hFq, hup⟩ := h.begun
  have HU := Lib.hid hup
  have hlen : (r ++ [v]).length = r.length + 1 := by simp
  rw [hlen] at c2 ho
  obtain ⟨g, rfl, hc⟩ := own_cell ho (j := r.length) (u := .int .i64 v) (by simp)
  have q1 : IntKind.i64.wrap (((r.length + 1 : Nat) : Int) - 1) = (r.length : Int) := by rw [IntWalk.i64_in _ (by omega)]; omega
  have hcap := own_cap ho
  have hcc : r.length + 1 ≤ ccap := hcap.1
  have HT : Hid (w.ownsRow 0 3 1 (.slice (some ⟨g, 0, none⟩) r.length ccap) r.length (r.map (Value.int .i64))) := by
    have := own_take ho (m := r.length) (by omega)
    rw [List.map_append, List.take_left' (by simp)] at this
    exact this
  clear h hup ho hcap
  go_enter Try.func90, Try.ntmps90
  go_wp2_with fail
  go_ret
  have hs : Fr (· = q) w (w.setCell ⟨q, 2, none⟩ (.slice (some ⟨g, 0, none⟩) r.length ccap)) := Fr.setCell (S := (· = q)) (Fr.refl _ w) (p := ⟨q, 2, none⟩) (fun _ => rfl) _
  refine ⟨rfl, _, HU.out _ (some ⟨g, 0, none⟩) r ccap (hs.mono fun _ _ h => .inl h) (H.out.blk.set_ 2 _) (own_fr HT.out hs fun k hk e => hCq (e ▸ hk)) (fun k hk => .inl hk), hs.mono fun k _ e => e ▸ hFq, ?_⟩
  rintro k (hk | hk)
  · exact .inl hk
  · exact .inl (hCF k hk)

set_option maxRecDepth 100000 in
set_option maxHeartbeats 2000000 in
theorem pbegin_err (q : Nat) (F : Nat → Prop) (y : Pk) (bg : List Int) (w : World) (h : PPk w q F y bg) (hs : y.x.b.length ≤ 999999000) (he : (y.x.number 0 2).2 ≠ 0) :
    Calls Try.prog 74 #[.pointer (some ⟨q, 0, none⟩)] w fun e w' => e = .returned (.tuple #[.int .i64 0, .int .i64 (y.x.number 0 2).2]) ∧ ∃ F', PPk w' q F' ⟨(y.x.number 0 2).1, y.get⟩ bg ∧ Fr F w w' ∧ ∀ k, F' k → F k ∨ w.heap.size ≤ k := by
  obtain ⟨p, G, c0, hw, _, _, hup⟩ := h.writer
  have HW := Lib.hid hw
  have HU := Lib.hid hup
  have he' : ((y.x.number 0 2).2 != 0) = true := by simp [he]
  clear h hw hup
  go_enter Try.func74, Try.ntmps74
  go_wp2_with fail
  refine (len_any p G y.x _ HW.out).mono ?_
  rintro e w' ⟨rfl, rfl⟩
  go_wp2_with fail
  refine (number_any p G y.x 0 2 _ HW.out (by decide) (by decide) (by omega)).mono ?_
  intro e w' hp
  obtain ⟨rfl, F', g1, g2, _, g4⟩ := HU.out _ _ _ hp (number_ge _ _ _)
  have HG := Lib.hid (And.intro g1 (And.intro g2 g4))
  clear hp g1 g2 g4
  go_wp2_with fail
  go_ret2
  exact ⟨rfl, F', HG.out⟩
set_option maxRecDepth 100000 in
set_option maxHeartbeats 2000000 in
theorem pbegin_ok (q : Nat) (F : Nat → Prop) (y : Pk) (bg : List Int) (w : World) (h : PPk w q F y bg) (hs : y.x.b.length ≤ 999999000) (hb : bg.length ≤ 1000000) (he : (y.x.number 0 2).2 = 0) :
    Calls Try.prog 74 #[.pointer (some ⟨q, 0, none⟩)] w fun e w' => e = .returned (.tuple #[.int .i64 y.x.b.length, .int .i64 0]) ∧ ∃ F', PPk w' q F' ⟨(y.x.number 0 2).1, y.get⟩ (bg ++ [(y.x.b.length : Int)]) ∧ Fr F w w' ∧ ∀ k, F' k → F k ∨ w.heap.size ≤ k := by
  obtain ⟨p, G, c0, hw, _, _, hup⟩ := h.writer
  have HW := Lib.hid hw
  have HU := Lib.hid hup
  clear h hw hup
  go_enter Try.func74, Try.ntmps74
  go_wp2_with fail
  refine (len_any p G y.x _ HW.out).mono ?_
  rintro e w' ⟨rfl, rfl⟩
  go_wp2_with fail
  refine (number_any p G y.x 0 2 _ HW.out (by decide) (by decide) (by omega)).mono ?_
  intro e w' hp
  obtain ⟨rfl, F', ⟨n, hn, g1⟩, g2, _, g4⟩ := HU.out _ _ _ hp (number_ge _ _ _)
  have HG := Lib.hid (And.intro hn (And.intro g1 (And.intro g2 g4)))
  rw [he]
  clear hp g1 g2 g4 hn
  go_wp2_with fail
  refine (push_any q n F' _ bg (y.x.b.length : Int) _ HG.out.2.1 hb).mono ?_
  rintro e w5 ⟨rfl, F5, k1, k2, k3⟩
  have HK := Lib.hid (And.intro k1 (And.intro k2 k3))
  clear k1 k2 k3
  go_wp2_with fail
  go_ret2
  refine ⟨rfl, F5, ⟨n, HG.out.1, HK.out.1⟩, HG.out.2.2.1.trans HK.out.2.1 fun i hi h => (HG.out.2.2.2 i h).resolve_right (by omega), fun k hk => ?_⟩
  rcases HK.out.2.2 k hk with h | h
  · exact HG.out.2.2.2 k h
  · exact .inr (Nat.le_trans HG.out.2.2.1.size h)

set_option maxRecDepth 100000 in
set_option maxHeartbeats 2000000 in
theorem pend_err (q : Nat) (F : Nat → Prop) (y : Pk) (bg : List Int) (v : Int) (w : World) (h : PPk w q F y bg) (he : y.x.e ≠ 0) :
    Calls Try.prog 75 #[.pointer (some ⟨q, 0, none⟩), .int .i64 v] w fun e w' => e = .returned (.int .i64 y.x.e) ∧ w = w' := by
  have H := Lib.hid h
  have he' : (y.x.e != 0) = true := by simp [he]
  clear h
  go_enter Try.func75, Try.ntmps75
  go_wp2_with fail
  refine (perr_any q F y bg _ H.out).mono ?_
  rintro e w' ⟨rfl, rfl⟩
  go_wp2_with fail
  go_ret
  exact ⟨rfl, rfl⟩
set_option maxRecDepth 100000 in
set_option maxHeartbeats 2000000 in
theorem pend_state (q : Nat) (F : Nat → Prop) (y : Pk) (bg : List Int) (v : Int) (w : World) (h : PPk w q F y bg) (he : y.x.e = 0) (hb : bg.length ≤ 1000000) (hv : bg.getLast? ≠ some v) :
    Calls Try.prog 75 #[.pointer (some ⟨q, 0, none⟩), .int .i64 v] w fun e w' => e = .returned (.int .i64 9) ∧ w = w' := by
  have H := Lib.hid h
  obtain ⟨n, _, hn⟩ := h
  obtain ⟨p, G, c0, _⟩ := hn.writer
  have HN := Lib.hid hn
  clear hn
  go_enter Try.func75, Try.ntmps75
  go_wp2_with fail
  refine (perr_any q F y bg _ H.out).mono ?_
  rintro e w' ⟨rfl, rfl⟩
  rw [he]
  go_wp2_with fail
  refine (pop_no q n F y bg v _ HN.out hb hv).mono ?_
  rintro e w' ⟨rfl, rfl⟩
  go_wp2_with fail
  go_ret
  exact ⟨rfl, rfl⟩
theorem patch_len2 (x : Wst) (a v : Int) : (x.patch a v 2).1.b.length = x.b.length := by
  unfold Wst.patch
  split
  · rfl
  · split
    · rename_i h
      dsimp only
      rw [List.length_append, List.length_append, octs_length, List.length_take, List.length_drop]
      omega
    · rfl
set_option maxRecDepth 100000 in
set_option maxHeartbeats 2000000 in
theorem pend_ok (q : Nat) (F : Nat → Prop) (y : Pk) (r : List Int) (a : Nat) (w : World) (h : PPk w q F y (r ++ [(a : Int)])) (he : y.x.e = 0) (hb : r.length ≤ 1000000) (ha : a + 2 ≤ y.x.b.length) (hs : y.x.b.length ≤ 999999000) :
    Calls Try.prog 75 #[.pointer (some ⟨q, 0, none⟩), .int .i64 (a : Nat)] w (PPkPost w q F r (⟨(y.x.patch a ((y.x.b.length - a - 2 : Nat) : Int) 2).1, y.get⟩, (y.x.patch a ((y.x.b.length - a - 2 : Nat) : Int) 2).2)) := by
  have H := Lib.hid h
  obtain ⟨n, hn0, hn⟩ := h
  have HN := Lib.hid hn
  clear hn
  go_enter Try.func75, Try.ntmps75
  go_wp2_with fail
  refine (perr_any q F y _ _ H.out).mono ?_
  rintro e w' ⟨rfl, rfl⟩
  rw [he]
  go_wp2_with fail
  refine (pop_yes q n F y r a _ HN.out hb).mono ?_
  rintro e w1 ⟨rfl, F1, k1, k2, k3⟩
  obtain ⟨p, G, c0, hw, _, _, hup⟩ := k1.writer
  have HK := Lib.hid (And.intro k2 (And.intro k3 hup))
  have HW := Lib.hid hw
  clear k1 k2 k3 hup hw
  have q1 : IntKind.i64.wrap ((y.x.b.length : Int) - (a : Int)) = (y.x.b.length : Int) - (a : Int) := IntWalk.i64_in _ (by omega)
  have q2 : IntKind.i64.wrap ((y.x.b.length : Int) - (a : Int) - 2) = ((y.x.b.length - a - 2 : Nat) : Int) := by rw [IntWalk.i64_in _ (by omega)]; omega
  have q3 : (y.x.b.length : Int) - (a : Int) - 2 = ((y.x.b.length - a - 2 : Nat) : Int) := by omega
  generalize hL : y.x.b.length - a - 2 = L at *
  go_wp2_with fail
  have HD : Hid (Fr (fun _ => False) w1 w1.drew) := (Fr.refl _ w1).drew
  have d0 : w1.drew.cell? ⟨q, 0, none⟩ = some (.pointer (some ⟨p, 0, none⟩)) := c0
  have hL2 : L < 4294967296 := by omega
  go_still_tail 14, (by kernel_rfl)
  still_call ((len_any p G y.x w1.drew (HW.out.fr HD.out (fun _ _ h => h))).mono fun _ _ h => ⟨h.1, h.2.symm⟩)
  repeat still_step
  refine wpStill_nil ?_
  change wpList _ _ _ _ _ w1.drew
  clear c0 d0
  generalize w1.drew = w2 at *
  go_wp2_with fail
  refine (patch_any p G y.x a L 2 _ (HW.out.fr HD.out (fun _ _ h => h)) (by omega) (by omega) (by omega) (by omega) (by omega)).mono ?_
  intro e w3 hp
  obtain ⟨rfl, F', g1, g2, _, g4⟩ := HK.out.2.2 _ _ w3 (by
    obtain ⟨p1, F2, p2, p3, p4⟩ := hp
    exact ⟨p1, F2, p2, (HD.out.mono fun _ _ h => h.elim).then p3, fun k hk => (p4 k hk).imp id fun h => Nat.le_trans HD.out.size h⟩)
  have HG := Lib.hid (And.intro g1 (And.intro g2 g4))
  clear hp g1 g2 g4
  go_wp2_with fail
  go_ret
  refine ⟨rfl, F', ⟨n, by dsimp only; rw [patch_len2]; exact hn0, HG.out.1⟩, HK.out.1.trans HG.out.2.1 fun i hi h => (HK.out.2.1 i h).resolve_right (by omega), fun k hk => ?_⟩
  rcases HG.out.2.2 k hk with h | h
  · exact HK.out.2.1 k h
  · exact .inr (Nat.le_trans HK.out.1.size h)
end Go.Proofs.Ytbemackcdccpaaa
