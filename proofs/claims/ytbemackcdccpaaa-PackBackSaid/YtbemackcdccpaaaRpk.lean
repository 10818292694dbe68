/-
  LAYER 7: THE REFERENCE's PACKER.
-/
import Derived.Test.YtbemackcdccpaaaPkp
import Derived.Test.YtbemackcdccpaaaRefa
import Derived.Test.YtbemackcdccpaaaLives3
import Derived.Test.YtbemackcdccpaaaUnpr
import Derived.Deep.LoopGhost
import Derived.StillTailTactics
namespace Go.Proofs.Ytbemackcdccpaaa
open Go.RowKit

def mcell (m : List UInt8 × Nat) : List Value := [.string ⟨m.1.toArray⟩, .int .i64 m.2]
def mcells (l : List (List UInt8 × Nat)) : List Value := l.flatMap mcell
theorem mcells_snoc (l : List (List UInt8 × Nat)) (m : List UInt8 × Nat) : mcells (l ++ [m]) = mcells l ++ mcell m := by simp [mcells]
theorem mcells_len (l : List (List UInt8 × Nat)) : (mcells l).length = l.length * 2 := by
  induction l with
  | nil => rfl
  | cons m l ih => simp only [mcells, List.flatMap_cons, List.length_append, List.length_cons] at ih ⊢; rw [ih]; simp [mcell]; omega
theorem mcells_at {l : List (List UInt8 × Nat)} {k : Nat} {m : List UInt8 × Nat} (h : l[k]? = some m) : (mcells l)[k * 2]? = some (.string ⟨m.1.toArray⟩) ∧ (mcells l)[k * 2 + 1]? = some (.int .i64 m.2) := by
  induction l generalizing k with
  | nil => simp at h
  | cons a l ih =>
    cases k with
    | zero =>
      simp only [List.getElem?_cons_zero, Option.some.injEq] at h
      subst h
      simp [mcells, mcell]
    | succ k =>
      simp only [List.getElem?_cons_succ] at h
      obtain ⟨h1, h2⟩ := ih h
      have e1 : (k + 1) * 2 = k * 2 + 2 := by omega
      rw [e1]
      have e2 : mcells (a :: l) = [.string ⟨a.1.toArray⟩, .int .i64 a.2] ++ mcells l := by simp [mcells, mcell]
      rw [e2, List.getElem?_append_right (by simp), List.getElem?_append_right (by simp only [List.length_cons, List.length_nil]; omega)]
      simp only [List.length_cons, List.length_nil]
      rw [show k * 2 + 2 - (0 + 1 + 1) = k * 2 by omega, show k * 2 + 2 + 1 - (0 + 1 + 1) = k * 2 + 1 by omega]
      exact ⟨h1, h2⟩

/-- Where a rest stands first, below 2^14. -/
def knownAt (l : List (List UInt8 × Nat)) (n : List UInt8) : Option Nat := (l.find? fun m => m.1 == n && decide (m.2 < 16384)).map (·.2)
theorem knownAt_snoc (l : List (List UInt8 × Nat)) (n : List UInt8) (p : Nat) (h : knownAt l n = none) : knownAt (l ++ [(n, p)]) = updAt (knownAt l) n p := by
  funext m
  unfold knownAt updAt at *
  rw [List.find?_append]
  by_cases hp : p < 16384
  · rw [if_pos hp]
    by_cases hm : m = n
    · subst hm
      rw [if_pos rfl]
      rw [Option.map_eq_none_iff] at h
      rw [h]
      simp [hp]
    · rw [if_neg hm]
      have : List.find? (fun x : List UInt8 × Nat => x.1 == m && decide (x.2 < 16384)) [(n, p)] = none := by
        simp
        intro h
        exact absurd h.symm hm
      rw [this]
      simp
  · rw [if_neg hp]
    have : List.find? (fun x : List UInt8 × Nat => x.1 == m && decide (x.2 < 16384)) [(n, p)] = none := by
      simp
      intro _
      omega
    rw [this]
    simp

/-- The block of a row of one's own. -/
theorem own_blk {w : World} {e : TypeId} {size n cap : Nat} {A : Option Addr} {xs : List Value} (h : w.ownsRow 0 e size (.slice A n cap) n xs) {k : Nat} (hk : rowOf A k) : ∃ cs, Blk w k e cs := by
  obtain ⟨a, rfl, rfl⟩ := hk
  rcases h.2 with ⟨h2, _⟩ | ⟨g, cp, cur, hv, _, hg, _⟩
  · cases h2
  · injection hv with hA _ _
    injection hA with hA
    subst hA
    exact ⟨cur, hg⟩

theorem own_cells2 {w : World} {e : TypeId} {A : Option Addr} {n cap : Nat} {xs : List Value} (h : w.ownsRow 0 e 2 (.slice A n cap) n xs) {m : Nat} {u : Value} (hu : xs[m]? = some u) : ∃ g, A = some ⟨g, 0, none⟩ ∧ w.cell? ⟨g, m, none⟩ = some u := by
  rcases h.2 with ⟨h2, h0⟩ | ⟨g, cp, cur, hv, _, hg, h3, h4, h5, h6⟩
  · have hl := h.1
    rw [h0] at hl
    have : xs = [] := List.eq_nil_of_length_eq_zero (by simpa using hl)
    subst this
    simp at hu
  · injection hv with hA _ _
    refine ⟨g, hA, ?_⟩
    have := h.cells (g := g) (by rw [hA]; rfl) m u hu
    rwa [show (⟨g, 0, none⟩ : Addr).add m = ⟨g, m, none⟩ from by unfold Addr.add; split <;> simp_all] at this

/-- The reference's packer lies at block q, its memory within F: its writer's state, its marks, the lengths that were begun. -/
def RPk (w : World) (q : Nat) (F : Nat → Prop) (x : Wst) (l : List (List UInt8 × Nat)) (bg : List Int) : Prop :=
  ∃ p A cap B bcap, Blk w q 70 #[.pointer (some ⟨p, 0, none⟩), .slice A l.length cap, .slice B bg.length bcap] ∧ RWr w p x ∧
    w.ownsRow 0 118 2 (.slice A l.length cap) l.length (mcells l) ∧ w.ownsRow 0 3 1 (.slice B bg.length bcap) bg.length (bg.map (Value.int .i64)) ∧
    F q ∧ F p ∧ (∀ k, rowOf A k → F k) ∧ (∀ k, rowOf B k → F k) ∧ (∀ k, F k → k < w.heap.size) ∧ l.length ≤ x.b.length

theorem RPk.fr {w w' : World} {q : Nat} {F S : Nat → Prop} {x : Wst} {l : List (List UInt8 × Nat)} {bg : List Int} (h : RPk w q F x l bg) (hf : Fr S w w') (hd : ∀ k, F k → ¬ S k) : RPk w' q F x l bg := by
  obtain ⟨p, A, cap, B, bcap, h1, h2, h3, h4, h5, h6, h7, h8, h9, h10⟩ := h
  exact ⟨p, A, cap, B, bcap, h1.fr hf (hd _ h5), h2.fr hf (hd _ h6), own_fr h3 hf fun k hk => hd k (h7 k hk), own_fr h4 hf fun k hk => hd k (h8 k hk), h5, h6, h7, h8, fun k hk => Nat.lt_of_lt_of_le (h9 k hk) hf.size, h10⟩

/-- What the known-search tells. -/
def knI (o : Option Nat) : Int := match o with
  | some a => a
  | none => -1

theorem str_ne {m : List UInt8} {n : ByteArray} (h : m ≠ n.data.toList) : ¬ m = n.toList := by
  rw [ByteArray.toList_eq]
  exact h
theorem str_of (n : ByteArray) : (⟨n.data.toList.toArray⟩ : ByteArray) = n := by simp
theorem knI_hit {m : List UInt8 × Nat} {l : List (List UInt8 × Nat)} {n : List UInt8} (h : m.1 = n) (hp : m.2 < 16384) : knI (knownAt (m :: l) n) = m.2 := by
  unfold knownAt
  rw [List.find?_cons_of_pos (by simp [h, hp])]
  rfl
theorem knI_miss {m : List UInt8 × Nat} {l : List (List UInt8 × Nat)} {n : List UInt8} (h : m.1 ≠ n ∨ ¬ m.2 < 16384) : knI (knownAt (m :: l) n) = knI (knownAt l n) := by
  unfold knownAt
  rw [List.find?_cons_of_neg]
  simp only [Bool.and_eq_true, beq_iff_eq, decide_eq_true_eq, not_and]
  intro h1 h2
  rcases h with h | h
  · exact h h1
  · exact h h2

set_option maxRecDepth 100000 in
set_option maxHeartbeats 2000000 in
theorem known_any (q : Nat) (F : Nat → Prop) (x : Wst) (l : List (List UInt8 × Nat)) (bg : List Int) (n : ByteArray) (w : World) (h : RPk w q F x l bg) :
    Calls Try.prog 82 #[.pointer (some ⟨q, 0, none⟩), .string n] w fun e w' => e = .returned (.int .i64 (knI (knownAt l n.data.toList))) ∧ w = w' := by
  obtain ⟨p, A, cap, B, bcap, h1, h2, h3, h4, h5, h6, h7, h8, h9, _⟩ := h
  have c1 : w.cell? ⟨q, 1, none⟩ = some (.slice A l.length cap) := h1.cell 1
  have hcap : l.length ≤ 9223372036854775807 := by have := own_cap h3; simp only [maxLen] at this; omega
  have HO := Lib.hid h3
  generalize hz : knI (knownAt l n.data.toList) = z
  have HZ := Lib.hid hz
  clear hz h1 h2 h3 h4 h5 h6 h7 h8 h9
  go_enter Try.func82, Try.ntmps82
  go_wp2_with fail
  go_loop [5] (fun i => ∃ k : Nat, k ≤ l.length ∧ i = .int .i64 k ∧ knI (knownAt (l.drop k) n.data.toList) = z) (fun i => l.length - (intOf i).toNat)
  case atStart => exact ⟨0, Nat.zero_le _, rfl, by rw [List.drop_zero]; exact HZ.out⟩
  case round =>
    obtain ⟨k, hk, rfl, hkn⟩ := hrel
    by_cases hlt : k < l.length
    · obtain ⟨m, hm⟩ : ∃ m, l[k]? = some m := ⟨l[k], List.getElem?_eq_getElem hlt⟩
      obtain ⟨m0, m1⟩ := mcells_at hm
      obtain ⟨g, hA, k0⟩ := own_cells2 HO.out m0
      obtain ⟨g', hA', k1⟩ := own_cells2 HO.out m1
      rw [hA] at hA'
      injection hA' with hA'
      injection hA' with hA' _
      subst hA' hA
      have hdr : l.drop k = m :: l.drop (k + 1) := by rw [List.drop_eq_getElem_cons hlt, (List.getElem?_eq_some_iff.1 hm).2]
      rw [hdr] at hkn
      clear HO m0 m1 hm hdr
      by_cases he : m.1 = n.data.toList
      · rw [he, str_of] at k0
        by_cases hp : m.2 < 16384
        · rw [knI_hit he hp] at hkn
          subst hkn
          clear HZ
          go_wp2_with fail
          go_ret
          exact ⟨rfl, rfl⟩
        · rw [knI_miss (.inr hp)] at hkn
          go_wp2_with fail
          go_round
          case rel => exact ⟨k + 1, by omega, by go_num, hkn⟩
          case measure => simp [intOf]; omega
      · rw [knI_miss (.inl he)] at hkn
        have hne := str_ne he
        go_wp2_with fail
        go_round
        case rel => exact ⟨k + 1, by omega, by go_num, hkn⟩
        case measure => simp [intOf]; omega
    · have hke : k = l.length := by omega
      rw [hke, List.drop_length] at hkn
      have hz : z = -1 := hkn.symm
      subst hz
      clear HZ hkn
      go_wp2_with fail
      go_ret
      exact ⟨rfl, rfl⟩
theorem knownAt_lt {l : List (List UInt8 × Nat)} {n : List UInt8} {a : Nat} (h : knownAt l n = some a) : a < 16384 := by
  unfold knownAt at h
  rw [Option.map_eq_some_iff] at h
  obtain ⟨m, hm, rfl⟩ := h
  have h1 := List.find?_some hm
  simp only [Bool.and_eq_true, beq_iff_eq, decide_eq_true_eq] at h1
  exact h1.2

theorem RPk.writer {w : World} {q : Nat} {F : Nat → Prop} {x : Wst} {l : List (List UInt8 × Nat)} {bg : List Int} (h : RPk w q F x l bg) :
    ∃ p, w.cell? ⟨q, 0, none⟩ = some (.pointer (some ⟨p, 0, none⟩)) ∧ RWr w p x ∧ F p ∧ ∀ w' y, RWr w' p y → Fr (· = p) w w' → x.b.length ≤ y.b.length → RPk w' q F y l bg ∧ Fr F w w' := by
  obtain ⟨p, A, cap, B, bcap, h1, h2, h3, h4, h5, h6, h7, h8, h9, h10⟩ := h
  have hA : ¬ rowOf A p := own_ne h3 h2.1 (by decide)
  have hB : ¬ rowOf B p := own_ne h4 h2.1 (by decide)
  have hq : q ≠ p := Blk.ne_ h1 h2.1 (by decide)
  refine ⟨p, h1.cell 0, h2, h6, fun w' y hy hf hge => ⟨⟨p, A, cap, B, bcap, h1.fr hf hq, hy, own_fr h3 hf (fun k hk e => hA (e ▸ hk)), own_fr h4 hf (fun k hk e => hB (e ▸ hk)), h5, h6, h7, h8, fun k hk => Nat.lt_of_lt_of_le (h9 k hk) hf.size, by omega⟩, hf.mono fun k _ e => e ▸ h6⟩⟩

/-- A mark laid behind the others. -/
theorem RPk.mark {w w0 w1 : World} {q : Nat} {F : Nat → Prop} {x : Wst} {l : List (List UInt8 × Nat)} {bg : List Int} {A : Option Addr} {cap : Nat} (h : RPk w q F x l bg)
    (hc : w.cell? ⟨q, 1, none⟩ = some (.slice A l.length cap)) (hlt : l.length < x.b.length) (m : List UInt8 × Nat) {A' : Option Addr} {cap' : Nat} (h0 : Fr (fun _ => False) w w0)
    (ho : w1.ownsRow 0 118 2 (.slice A' (l.length + 1) cap') (l.length + 1) (mcells l ++ mcell m)) (hf : Fr (rowOf A) w0 w1) (ha : ∀ k, rowOf A' k → rowOf A k ∨ w0.heap.size ≤ k) :
    ∃ F', RPk (w1.setCell ⟨q, 1, none⟩ (.slice A' (l.length + 1) cap')) q F' x (l ++ [m]) bg ∧ Fr F w (w1.setCell ⟨q, 1, none⟩ (.slice A' (l.length + 1) cap')) ∧ ∀ k, F' k → F k ∨ w.heap.size ≤ k := by
  obtain ⟨p, A0, cap0, B, bcap, h1, h2, h3, h4, h5, h6, h7, h8, h9, _⟩ := h
  have hc' := (h1.cell 1).symm.trans hc
  simp only [List.getElem?_toArray, List.getElem?_cons_succ, List.getElem?_cons_zero, Option.some.injEq, Value.slice.injEq] at hc'
  obtain ⟨rfl, _, rfl⟩ := hc'
  have hfw : Fr (rowOf A0) w w1 := (h0.mono fun _ _ h => h.elim).then hf
  have b1 := h1.fr hfw (own_ne h3 h1 (by decide))
  have b2 := h2.fr hfw (own_ne h3 h2.1 (by decide))
  have b4 := own_fr h4 hfw (fun k hk hk' => by
    obtain ⟨cs, hb⟩ := own_blk h4 hk
    exact own_ne h3 hb (by decide) hk')
  have hA' : ¬ rowOf A' q := own_ne ho b1 (by decide)
  have hB : ¬ rowOf B q := own_ne b4 b1 (by decide)
  have hpq : ¬ p = q := fun e => Blk.ne_ b1 b2.1 (by decide) e.symm
  have hs : Fr (· = q) w1 (w1.setCell ⟨q, 1, none⟩ (.slice A' (l.length + 1) cap')) := Fr.setCell (S := (· = q)) (Fr.refl _ w1) (p := ⟨q, 1, none⟩) (fun _ => rfl) _
  have hfull : Fr F w (w1.setCell ⟨q, 1, none⟩ (.slice A' (l.length + 1) cap')) := (hfw.mono fun k _ hk => h7 k hk).then (hs.mono fun k _ e => e ▸ h5)
  refine ⟨fun k => F k ∨ rowOf A' k, ⟨p, A', cap', B, bcap, ?_, b2.fr hs hpq, ?_, own_fr b4 hs (fun k hk e => hB (e ▸ hk)), .inl h5, .inl h6, fun k hk => .inr hk, fun k hk => .inl (h8 k hk), ?_, ?_⟩, hfull, ?_⟩
  · have := b1.set_ 1 (.slice A' (l.length + 1) cap')
    rw [List.length_append]
    exact this
  · rw [List.length_append, mcells_snoc]
    exact own_fr ho hs (fun k hk e => hA' (e ▸ hk))
  · rintro k (hk | hk)
    · exact Nat.lt_of_lt_of_le (h9 k hk) hfull.size
    · exact Nat.lt_of_lt_of_le (own_lt ho hk) hs.size
  · rw [List.length_append, List.length_singleton]; omega
  · rintro k (hk | hk)
    · exact .inl hk
    · rcases ha k hk with h | h
      · exact .inl (h7 k h)
      · exact .inr (Nat.le_trans h0.size h)

/-- What a call of the packer leaves. -/
def RPkPost (w : World) (q : Nat) (F : Nat → Prop) (bg : List Int) (r : Pk × Int) (e : Ending) (w' : World) : Prop :=
  e = .returned (.int .i64 r.2) ∧ ∃ F' l', knownAt l' = r.1.get ∧ RPk w' q F' r.1.x l' bg ∧ Fr F w w' ∧ ∀ k, F' k → F k ∨ w.heap.size ≤ k
theorem RPkPost.of {w w1 w' : World} {q : Nat} {F F1 : Nat → Prop} {bg : List Int} {r : Pk × Int} {e : Ending} (h : RPkPost w1 q F1 bg r e w') (hf : Fr F w w1) (hs : ∀ k, F1 k → F k ∨ w.heap.size ≤ k) : RPkPost w q F bg r e w' := by
  obtain ⟨he, F', l', h1, h2, h3, h4⟩ := h
  refine ⟨he, F', l', h1, h2, hf.trans h3 fun i hi h => (hs i h).resolve_right (by omega), fun k hk => ?_⟩
  rcases h4 k hk with h | h
  · exact hs k h
  · exact .inr (Nat.le_trans hf.size h)

theorem rput_len (x : Wst) (l : List UInt8) : (x.put l).1.b.length ≤ x.b.length + l.length := by
  unfold Wst.put
  split
  · dsimp only; omega
  · split
    · dsimp only; omega
    · dsimp only; rw [List.length_append]; omega
theorem put_ge (x : Wst) (l : List UInt8) : x.b.length ≤ (x.put l).1.b.length := by
  unfold Wst.put
  split
  · exact Nat.le_refl _
  · split
    · exact Nat.le_refl _
    · dsimp only; rw [List.length_append]; omega
theorem number_ge (x : Wst) (v n : Int) : x.b.length ≤ (x.number v n).1.b.length := by
  unfold Wst.number
  split
  · exact Nat.le_refl _
  · split
    · exact put_ge _ _
    · exact Nat.le_refl _
theorem take_list (m : ByteArray) (k : Nat) : (m.extract 0 k).data.toList = m.data.toList.take k := by rw [extract_list]; simp
theorem drop_list (m : ByteArray) (k : Nat) : (m.extract k m.size).data.toList = m.data.toList.drop k := by
  rw [extract_list, ← size_l m]
  rw [List.take_of_length_le (by rw [List.length_drop]; omega)]
theorem Try.infoMark : (Try.prog.info? 118).map (fun i => (i.zero, i.size, i.bytes)) = some (some (.agg #[.string ⟨#[]⟩, .int .i64 0]), 2, 24) := by kernel_rfl
theorem mcell_new (w : World) (d : List UInt8 × Nat) (T : TypeId) : ∀ j u, (mcell d)[j]? = some u → (w.alloc (.cells (mcell d).toArray T)).cell? ((⟨w.heap.size, 0, none⟩ : Addr).add j) = some u := by
  intro j u hu
  have ha : (⟨w.heap.size, 0, none⟩ : Addr).add j = ⟨w.heap.size, j, none⟩ := by unfold Addr.add; split <;> simp_all
  rw [ha, (Blk.new w T _).cell]
  simpa using hu
theorem mcell_one (d : List UInt8 × Nat) : ∀ u ∈ mcell d, u.oneCell' = true := by
  intro u hu
  simp only [mcell, List.mem_cons, List.not_mem_nil, or_false] at hu
  rcases hu with rfl | rfl <;> rfl
theorem RPk.marks {w : World} {q : Nat} {F : Nat → Prop} {x : Wst} {l : List (List UInt8 × Nat)} {bg : List Int} (h : RPk w q F x l bg) :
    ∃ A cap, w.cell? ⟨q, 1, none⟩ = some (.slice A l.length cap) ∧ w.ownsRow 0 118 2 (.slice A l.length cap) l.length (mcells l) ∧ w.frozen? ⟨q, 1, none⟩ = false ∧ l.length ≤ x.b.length ∧ ¬ rowOf A q := by
  obtain ⟨p, A, cap, B, bcap, h1, h2, h3, h4, h5, h6, h7, h8, h9, h10⟩ := h
  exact ⟨A, cap, h1.cell 1, h3, h1.frozen 1, h10, own_ne h3 h1 (by decide)⟩
theorem rput_err (x : Wst) (l : List UInt8) (he : x.e = 0) (h : (x.put l).2 = 0) : (x.put l).1 = { x with b := x.b ++ l } := by
  unfold Wst.put at *
  rw [if_neg (by simp [he])] at *
  split at h
  · cases h
  · rename_i h1
    rw [if_neg h1]

set_option maxRecDepth 100000 in
set_option maxHeartbeats 4000000 in
theorem rpkname_any (q : Nat) (F : Nat → Prop) (y : Pk) (l : List (List UInt8 × Nat)) (bg : List Int) (n : ByteArray) (w : World) (h : RPk w q F y.x l bg) (hl : knownAt l = y.get) (hs : y.x.b.length + n.size + 4 ≤ 1000000000) :
    Calls Try.prog 47 #[.pointer (some ⟨q, 0, none⟩), .string n] w (RPkPost w q F bg (y.name n)) := by
  obtain ⟨i0, hi, hz0, hz1, hz2⟩ := info_parts Try.infoMark
  have H := Lib.hid h
  obtain ⟨p, cq, hrw, hFp, hwr⟩ := h.writer
  have c2 : w.cell? ⟨p, 2, none⟩ = some (.int .i64 y.x.e) := hrw.1.cell 2
  by_cases he : y.x.e = 0
  · have he' : (y.x.e != 0) = false := by simp [he]
    by_cases hk : ckN n = 0
    · have hr : y.name n = y.rest n.data.toList := by unfold Pk.name; rw [if_neg (by simp [he]), if_neg (by simp [hk])]
      rw [hr]
      clear hr
      generalize hz : y.rest n.data.toList = z
      have HZ := Lib.hid (And.intro hz (And.intro hl (And.intro he (And.intro hs (ckN_ok hk)))))
      clear hz hl hs hwr hrw hFp
      go_enter Try.func47, Try.ntmps47
      go_wp2_with fail
      refine (rcheck_any n _).mono ?_
      rintro e w' ⟨rfl, rfl⟩
      rw [hk]
      go_wp2_with fail
      go_loopg [1] n.size (fun g v wr => ∃ (m : ByteArray) (x : Pk) (G : Nat → Prop) (k : List (List UInt8 × Nat)), g = m.size ∧ v = .string m ∧ knownAt k = x.get ∧ RPk wr q G x.x k bg ∧ x.x.e = 0 ∧ x.rest m.data.toList = z ∧ ckAt m.data.toList 0 = 0 ∧
        x.x.b.length + m.size + 4 ≤ 1000000000 ∧ Fr F w wr ∧ ∀ i, G i → F i ∨ w.heap.size ≤ i)
      case atStart => exact ⟨n, y, F, l, rfl, rfl, HZ.out.2.1, H.out, HZ.out.2.2.1, HZ.out.1, HZ.out.2.2.2.2.2, HZ.out.2.2.2.1, Fr.refl _ _, fun _ h => .inl h⟩
      case round =>
        obtain ⟨m, x, G, k, rfl, rfl, r1, r2, r3, r4, r5, r6, r7, r8⟩ := hrel
        obtain ⟨p', c0, hw', hFp', up⟩ := r2.writer
        have HX := Lib.hid (And.intro r1 (And.intro r2 (And.intro r3 (And.intro r7 r8))))
        have HU := Lib.hid up
        have HW := Lib.hid hw'
        clear r2 r3 r7 r8 up c2 cq
        by_cases hm : m = ⟨#[]⟩
        · subst hm
          have r4' : x.rest [] = z := r4
          rw [Pk.rest_nil] at r4'
          clear hw' r4
          go_wp2_with fail
          refine (rput_any p' x.x ⟨#[0]⟩ _ HW.out (by rw [show (⟨#[0]⟩ : ByteArray).size = 1 from rfl]; omega)).mono ?_
          rintro e w' ⟨rfl, g1, g2⟩
          have hfin := HU.out w' _ g1 g2 (put_ge _ _)
          have HFN := Lib.hid hfin
          clear g1 g2 hfin
          go_wp2_with fail
          go_ret
          subst r4'
          exact RPkPost.of (w1 := wr) (F1 := G) ⟨rfl, G, k, HX.out.1, HFN.out.1, HFN.out.2, fun _ h => .inl h⟩ HX.out.2.2.2.1 HX.out.2.2.2.2
        · have hme : m.toList.isEmpty = false := by
            rw [ByteArray.toList_eq]
            cases hd : m.data.toList with
            | nil => exact absurd (ByteArray.ext (Array.toList_inj.1 hd)) hm
            | cons a b => rfl
          have hml : m.data.toList ≠ [] := by
            intro hd
            exact hm (ByteArray.ext (Array.toList_inj.1 hd))
          cases hg : x.get m.data.toList with
          | some a =>
            have hg' : knownAt k m.data.toList = some a := by rw [r1]; exact hg
            have ha := knownAt_lt hg'
            rw [Pk.rest_some hml hg] at r4
            clear hw'
            have HG := Lib.hid hg'
            have H4 := Lib.hid r4
            have q1 : IntKind.i64.wrap (49152 + (a : Int)) = 49152 + (a : Int) := IntWalk.i64_in _ (by omega)
            clear hg' r4 hg r5 hm hml
            go_wp2_with fail
            refine (known_any q G x.x k bg m _ HX.out.2.1).mono ?_
            rintro e w' ⟨rfl, rfl⟩
            rw [HG.out]
            simp only [knI]
            go_wp2_with fail
            refine (rnumber_any p' x.x (49152 + (a : Int)) 2 _ HW.out (by omega) (by omega) (by omega)).mono ?_
            rintro e w' ⟨rfl, g1, g2⟩
            have hfin := HU.out w' _ g1 g2 (number_ge _ _ _)
            have HFN := Lib.hid hfin
            clear g1 g2 hfin
            go_wp2_with fail
            go_ret
            rw [← H4.out]
            exact RPkPost.of (w1 := wr) (F1 := G) ⟨rfl, G, k, HX.out.1, HFN.out.1, HFN.out.2, fun _ h => .inl h⟩ HX.out.2.2.2.1 HX.out.2.2.2.2
          | none =>
            have hg' : knownAt k m.data.toList = none := by rw [r1]; exact hg
            obtain ⟨k1, k2, k3, k4⟩ := ckAt_first hml r5
            rw [size_l] at k3
            have hix := run_index_oc' m (0 : Int) 0 rfl (by omega)
            have HG := Lib.hid hg'
            have cS : wr.cell? ⟨p', 0, none⟩ = some (.string ⟨x.x.b.toArray⟩) := hw'.1.cell 0
            have hSz : (⟨x.x.b.toArray⟩ : ByteArray).size = x.x.b.length := by simp [ByteArray.size]
            generalize hKO : oc m.data.toList 0 = K at *
            have q1 : IntKind.i64.wrap (1 + (K : Int)) = 1 + (K : Int) := IntWalk.i64_in _ (by omega)
            have q2 : (1 + (K : Int)).toNat = 1 + K := by omega
            have hsl : ∀ w, (Instr.slice 64 (.string m) none (some (.int .i64 (1 + (K : Int)))) none).run Try.prog w = .ok (.string (m.extract 0 (1 + K))) w := fun w => by
              rw [run_slice_string_h (P := Try.prog) w 64 m Try.underlying64 .i64 _ (by omega) (by omega), q2]
            have hsl2 : ∀ w, (Instr.slice 64 (.string m) (some (.int .i64 (1 + (K : Int)))) none none).run Try.prog w = .ok (.string (m.extract (1 + K) m.size)) w := fun w => by
              rw [run_slice_string_l (P := Try.prog) w 64 m Try.underlying64 .i64 _ (by omega) (by omega), q2]
            have HEX := Lib.hid (take_list m (1 + K))
            have HEX2 := Lib.hid (drop_list m (1 + K))
            go_wp2_with fail
            refine (known_any q G x.x k bg m _ HX.out.2.1).mono ?_
            rintro e w' ⟨rfl, rfl⟩
            rw [HG.out]
            simp only [knI]
            go_wp2_with fail
            generalize wr = W at *
            go_still_tail 8, (by kernel_rfl)
            change wpList _ _ _ _ _ W.drew
            have FD : Hid (Fr (fun _ => False) W W.drew) := (Fr.refl _ W).drew
            have HWD := Lib.hid (HW.out.fr FD.out id)
            have HRD := Lib.hid (HX.out.2.1.fr FD.out (fun _ _ h => h))
            clear cS hw' hix
            generalize W.drew = W2 at *
            go_wp2_with fail
            refine (rput_any p' x.x (m.extract 0 (1 + K)) _ HWD.out (by simp only [ByteArray.size_extract]; omega)).mono ?_
            rintro e w3 ⟨rfl, g1, g2⟩
            rw [HEX.out] at g1
            simp only [HEX.out]
            have hup := (HX.out.2.1.fr FD.out (fun _ _ h => h)).writer
            obtain ⟨p2, e1, e2, e3, up2⟩ := hup
            have c02 : W2.cell? ⟨q, 0, none⟩ = some (.pointer (some ⟨p', 0, none⟩)) := by rw [FD.out.cell (p := ⟨q, 0, none⟩) (World.block_lt_of_cell? W _ c0) id]; exact c0
            have hpp : p2 = p' := by rw [e1] at c02; simpa using c02
            subst hpp
            obtain ⟨hR3, hF3⟩ := up2 w3 _ g1 g2 (put_ge _ _)
            have hF3' : Fr G W w3 := (FD.out.mono fun _ _ h => h.elim).then hF3
            clear up2 e1 e2 e3 c02 g1 g2 hF3
            by_cases hpe : (x.x.put (m.data.toList.take (1 + K))).2 = 0
            · rw [Pk.rest_go hml hg (by rw [hKO]; exact hpe), hKO] at r4
              have hx' := rput_err x.x _ HX.out.2.2.1 hpe
              rw [hx'] at hR3 r4
              simp only [hpe]
              obtain ⟨A3, cap3, d1, d2, d3, d4, d5⟩ := hR3.marks
              have H4 := Lib.hid r4
              have HR3 := Lib.hid hR3
              have HF3 := Lib.hid hF3'
              have HO3 := Lib.hid d2
              clear r4 hR3 hF3' d2 HRD HWD hx'
              have hkl : k.length < (x.x.b ++ m.data.toList.take (1 + K)).length := by
                rw [List.length_append, List.length_take, size_l]
                have := HX.out.2.1.marks
                obtain ⟨_, _, _, _, _, h, _⟩ := this
                omega
              have HKL := Lib.hid hkl
              have hkb : k.length ≤ 1000000000 := by
                have := HX.out.2.1.marks
                obtain ⟨_, _, _, _, _, h, _⟩ := this
                omega
              have hmc : (mcell (m.data.toList, x.x.b.length)).toArray = #[.string m, .int .i64 x.x.b.length] := by simp [mcell]
              have HMC := Lib.hid hmc
              clear hkl d4 hmc
              go_wp2_with (first
                | (at_builtin; refine wpList_append_src rfl (.tmp 71) (.tmp 75) _ _ rfl 118 i0 _ 2 24 Try.underlying68 hi hz0 hz1 hz2 rfl (by decide) A3 k.length cap3 (mcells k) (by rfl) (HO3.out.alloc _) _ 1 (mcell (m.data.toList, x.x.b.length)) (by rfl)
                     (Src.ofSlice _ Try.underlying68 ⟨w3.heap.size, 0, none⟩ 1 1 (mcell (m.data.toList, x.x.b.length)) rfl (by rw [← HMC.out]; exact mcell_new _ _ _) (mcell_one _)) (by simp only [maxLen]; omega) (by omega) ?_
                   intro A4 cap4 w5 o1 o2 o3
                   have hw5 : Fr (rowOf A3) w3 w5 := ((Fr.refl _ w3).alloc _).then o2
                   have i1 : w5.cell? ⟨q, 1, none⟩ = some (.slice A3 k.length cap3) := (hw5.cell (p := ⟨q, 1, none⟩) (World.block_lt_of_cell? w3 _ d1) d5).trans d1
                   have i3 : w5.frozen? ⟨q, 1, none⟩ = false := (hw5.frozen (p := ⟨q, 1, none⟩) (World.block_lt_of_cell? w3 _ d1) d5).trans d3
                   have HNM := Lib.hid (HR3.out.mark d1 HKL.out (m.data.toList, x.x.b.length) ((Fr.refl _ w3).alloc (.cells #[.string m, .int .i64 x.x.b.length] 118)) o1 o2 o3)
                   clear o1 o2 o3 hw5 d1 d3 d5))
              obtain ⟨F', n1, n2, n3⟩ := HNM.out
              have hx2 : (m.extract (1 + K) m.size).size = m.size - (1 + K) := by rw [ByteArray.size_extract, Nat.min_self]
              go_roundg (m.size - (1 + K))
              case rel =>
                have hf1 : Fr F w W := HX.out.2.2.2.1
                have hs1 := HX.out.2.2.2.2
                have hf2 : Fr F w w3 := hf1.trans HF3.out fun i hi h => (hs1 i h).resolve_right (by omega)
                refine ⟨_, ⟨{ x.x with b := x.x.b ++ m.data.toList.take (1 + K) }, updAt x.get m.data.toList x.x.b.length⟩, F', _, hx2.symm, rfl, ?_, n1, HX.out.2.2.1, ?_, ?_, ?_, hf2.trans n2 fun i hi h => (hs1 i h).resolve_right (by omega), fun i hi => ?_⟩
                · rw [knownAt_snoc _ _ _ HG.out, HX.out.1]
                · rw [HEX2.out]; exact H4.out
                · rw [HEX2.out]; exact k4
                · rw [hx2]
                  dsimp only
                  rw [List.length_append, List.length_take, size_l]
                  omega
                · rcases n3 i hi with h | h
                  · exact hs1 i h
                  · exact .inr (Nat.le_trans hf2.size h)
              case measure => omega
            · have hpe' : ((x.x.put (m.data.toList.take (1 + K))).2 != 0) = true := by simp [hpe]
              rw [Pk.rest_stop hml hg (by rw [hKO]; exact hpe), hKO] at r4
              have H4 := Lib.hid r4
              have HR3 := Lib.hid hR3
              have HF3 := Lib.hid hF3'
              clear r4 hR3 hF3' HRD HWD
              go_wp2_with fail
              go_ret
              rw [← H4.out]
              exact RPkPost.of (w1 := W) (F1 := G) ⟨rfl, G, k, HX.out.1, HR3.out, HF3.out, fun _ h => .inl h⟩ HX.out.2.2.2.1 HX.out.2.2.2.2
    · have hk' : (ckN n != 0) = true := by simp [hk]
      have hr : y.name n = (y, ckN n) := by unfold Pk.name; rw [if_neg (by simp [he]), if_pos hk]
      rw [hr]
      clear hr hwr hrw hFp hs
      go_enter Try.func47, Try.ntmps47
      go_wp2_with fail
      refine (rcheck_any n _).mono ?_
      rintro e w' ⟨rfl, rfl⟩
      go_wp2_with fail
      go_ret
      exact ⟨rfl, F, l, hl, H.out, Fr.refl _ _, fun _ h => .inl h⟩
  · have he' : (y.x.e != 0) = true := by simp [he]
    have hr : y.name n = (y, y.x.e) := by unfold Pk.name; rw [if_pos he]
    rw [hr]
    clear hr hwr hrw hFp hs
    go_enter Try.func47, Try.ntmps47
    go_wp2_with fail
    go_ret
    exact ⟨rfl, F, l, hl, H.out, Fr.refl _ _, fun _ h => .inl h⟩
end Go.Proofs.Ytbemackcdccpaaa
