/-
  LAYER 11: what lies while a message is read.
-/
import Derived.Test.YtmbgejiahmhffaaGreatUMra
import Derived.Test.YtmbgejiahmhffaaGreatUMcq
namespace Go.Proofs.YtmbgejiahmhffaaGreat
open Go.RowKit
set_option linter.unusedVariables false
set_option linter.unusedSimpArgs false

/-- Where a record's texts lie. -/
def TxAt (W : World) (M : Nat) (Aa Ab Ac : Option Addr) (x : Rcd × Option Addr × Nat) : Prop :=
  Strs W x.2.1 x.1.d.texts ∧ ∀ k, rowOf x.2.1 k → k < W.heap.size ∧ M < k ∧ ¬ rowOf Aa k ∧ ¬ rowOf Ab k ∧ ¬ rowOf Ac k
structure Rmst (w W : World) (R0 Hb M : Nat) (h : Hd) (Aq : Option Addr) (lq : List Qn) (cq : Nat) (Aa : Option Addr) (la : RLm) (ca : Nat) (Ab : Option Addr) (lb : RLm) (cb : Nat) (Ac : Option Addr) (lc : RLm) (cc : Nat) : Prop where
  rb : Blk W R0 29 #[.int .u16 0, .bool false, .int .i64 0, .bool false, .bool false, .bool false, .bool false, .bool false, .bool false, .int .i64 0, .int .i64 0, .int .i64 0, .int .i64 0, .int .i64 0, .slice none 0 0, .slice none 0 0, .slice none 0 0, .slice none 0 0]
  hb : Blk W Hb 25 #[.int .u16 h.id, .bool h.resp, .int .i64 h.op, .bool h.aa, .bool h.tc, .bool h.rd, .bool h.ra, .bool h.ad, .bool h.cd, .int .i64 h.rc, .int .i64 h.c0, .int .i64 h.c1, .int .i64 h.c2, .int .i64 h.c3]
  mb : Blk W M 29 #[.int .u16 h.id, .bool h.resp, .int .i64 h.op, .bool h.aa, .bool h.tc, .bool h.rd, .bool h.ra, .bool h.ad, .bool h.cd, .int .i64 h.rc, .int .i64 h.c0, .int .i64 h.c1, .int .i64 h.c2, .int .i64 h.c3, .slice Aq lq.length cq, .slice Aa la.length ca, .slice Ab lb.length cb, .slice Ac lc.length cc]
  oq : W.ownsRow 0 40 3 (.slice Aq lq.length cq) lq.length (lq.flatMap qcl)
  oa : W.ownsRow 0 55 16 (.slice Aa la.length ca) la.length (la.flatMap rcl)
  ob : W.ownsRow 0 55 16 (.slice Ab lb.length cb) lb.length (lb.flatMap rcl)
  oc : W.ownsRow 0 55 16 (.slice Ac lc.length cc) lc.length (lc.flatMap rcl)
  new : ∀ k, rowOf Aq k ∨ rowOf Aa k ∨ rowOf Ab k ∨ rowOf Ac k → w.heap.size ≤ k
  ab : ∀ k, rowOf Aa k → ¬ rowOf Ab k
  ac : ∀ k, rowOf Aa k → ¬ rowOf Ac k
  bc : ∀ k, rowOf Ab k → ¬ rowOf Ac k
  tx : ∀ x, x ∈ la ∨ x ∈ lb ∨ x ∈ lc → TxAt W M Aa Ab Ac x
  fr : Fr (fun _ => False) w W
  r0 : w.heap.size ≤ R0 ∧ R0 < M ∧ R0 < Hb
theorem own_ty {w : World} {e e' : TypeId} {size n cap size' n' cap' : Nat} {A B : Option Addr} {xs ys : List Value} (h : w.ownsRow 0 e size (.slice A n cap) n xs) (g : w.ownsRow 0 e' size' (.slice B n' cap') n' ys) (hne : e' ≠ e) : ∀ k, rowOf A k → ¬ rowOf B k := fun k hk => by
  obtain ⟨a, rfl, rfl⟩ := hk
  rcases h.2 with ⟨h2, _⟩ | ⟨g', cp, cur, hv, _, hg, _⟩
  · cases h2
  · injection hv with hA _ _
    injection hA with hA
    subst hA
    exact own_ne g (t := e) (cs := cur) hg hne
section
variable {w W W' : World} {R0 Hb M : Nat} {h : Hd} {Aq : Option Addr} {lq : List Qn} {cq : Nat} {Aa : Option Addr} {la : RLm} {ca : Nat} {Ab : Option Addr} {lb : RLm} {cb : Nat} {Ac : Option Addr} {lc : RLm} {cc : Nat}
theorem TxAt.quiet {x : Rcd × Option Addr × Nat} (h : TxAt W M Aa Ab Ac x) (f : Fr (fun _ => False) W W') : TxAt W' M Aa Ab Ac x :=
  ⟨h.1.fr0 f, fun k hk => ⟨Nat.lt_of_lt_of_le (h.2 k hk).1 f.size, (h.2 k hk).2⟩⟩
theorem Rmst.quiet (s : Rmst w W R0 Hb M h Aq lq cq Aa la ca Ab lb cb Ac lc cc) (f : Fr (fun _ => False) W W') : Rmst w W' R0 Hb M h Aq lq cq Aa la ca Ab lb cb Ac lc cc :=
  ⟨s.rb.fr f id, s.hb.fr f id, s.mb.fr f id, own_fr s.oq f (fun _ _ h => h), own_fr s.oa f (fun _ _ h => h), own_fr s.ob f (fun _ _ h => h), own_fr s.oc f (fun _ _ h => h), s.new, s.ab, s.ac, s.bc, fun x hx => (s.tx x hx).quiet f, s.fr.then f, s.r0⟩
/-- A question more. -/
theorem Rmst.addq {Aq' : Option Addr} {cq' : Nat} {q : Qn} (s : Rmst w W R0 Hb M h Aq lq cq none [] 0 none [] 0 none [] 0) (o1 : W'.ownsRow 0 40 3 (.slice Aq' (lq.length + 1) cq') (lq.length + 1) (lq.flatMap qcl ++ qcl q)) (o2 : Fr (rowOf Aq) W W') (o3 : ∀ k, rowOf Aq' k → rowOf Aq k ∨ W.heap.size ≤ k) :
    Rmst w (W'.setCell ⟨M, 14, none⟩ (.slice Aq' (lq.length + 1) cq')) R0 Hb M h Aq' (lq ++ [q]) cq' none [] 0 none [] 0 none [] 0 := by
  have hM : ¬ rowOf Aq M := own_ne s.oq s.mb (by decide)
  have hH : ¬ rowOf Aq Hb := own_ne s.oq s.hb (by decide)
  have hR : ¬ rowOf Aq R0 := own_ne s.oq s.rb (by decide)
  have b1 := s.mb.fr o2 hM
  have b2 := s.hb.fr o2 hH
  have b3 := s.rb.fr o2 hR
  have f : Fr (· = M) W' (W'.setCell ⟨M, 14, none⟩ (.slice Aq' (lq.length + 1) cq')) := (Fr.refl (· = M) _).setCell (p := ⟨M, 14, none⟩) (fun _ => rfl) _
  have hM' : ¬ rowOf Aq' M := fun hk => (o3 M hk).elim hM (fun h => by have := s.mb.lt; omega)
  have hr0 := s.r0
  have e : lq.length + 1 = (lq ++ [q]).length := by simp
  have hmb := b1.set_ 14 (.slice Aq' (lq.length + 1) cq')
  have hsz : w.heap.size ≤ W.heap.size := s.fr.size
  refine ⟨b3.fr f (by omega), b2.fr f (fun h => by have := b2.ne_ b1 (by decide); omega), ?_, ?_, own_nil _ _ _, own_nil _ _ _, own_nil _ _ _, ?_, fun k h => absurd h (rowOf_none k), fun k h => absurd h (rowOf_none k), fun k h => absurd h (rowOf_none k), fun x hx => by simp at hx, ?_, s.r0⟩
  · rw [← e]
    exact hmb
  · rw [List.flatMap_append, ← e]
    have := own_fr o1 f (fun k hk h => by subst h; exact hM' hk)
    simpa using this
  · rintro k (hk | hk | hk | hk)
    · rcases o3 k hk with g | g
      · exact s.new k (.inl g)
      · omega
    · exact absurd hk (rowOf_none k)
    · exact absurd hk (rowOf_none k)
    · exact absurd hk (rowOf_none k)
  · exact (s.fr.step o2 (fun k hk => .inr (s.new k (.inl hk)))).step f (fun k hk => .inr (by omega))
/-- A record more in row 0. -/
theorem Rmst.add0 {Aa' : Option Addr} {ca' : Nat} {x : Rcd × Option Addr × Nat} (s : Rmst w W R0 Hb M h Aq lq cq Aa la ca Ab lb cb Ac lc cc) (hx : TxAt W M Aa Ab Ac x) (o1 : W'.ownsRow 0 55 16 (.slice Aa' (la.length + 1) ca') (la.length + 1) (la.flatMap rcl ++ rcl x)) (o2 : Fr (rowOf Aa) W W') (o3 : ∀ k, rowOf Aa' k → rowOf Aa k ∨ W.heap.size ≤ k) :
    Rmst w (W'.setCell ⟨M, 15, none⟩ (.slice Aa' (la.length + 1) ca')) R0 Hb M h Aq lq cq Aa' (la ++ [x]) ca' Ab lb cb Ac lc cc := by
  have hM : ¬ rowOf Aa M := own_ne s.oa s.mb (by decide)
  have hH : ¬ rowOf Aa Hb := own_ne s.oa s.hb (by decide)
  have hR : ¬ rowOf Aa R0 := own_ne s.oa s.rb (by decide)
  have b1 := s.mb.fr o2 hM
  have b2 := s.hb.fr o2 hH
  have b3 := s.rb.fr o2 hR
  have f : Fr (· = M) W' (W'.setCell ⟨M, 15, none⟩ (.slice Aa' (la.length + 1) ca')) := (Fr.refl (· = M) _).setCell (p := ⟨M, 15, none⟩) (fun _ => rfl) _
  have hM' : ¬ rowOf Aa' M := fun hk => (o3 M hk).elim hM (fun h => by have := s.mb.lt; omega)
  have hr0 := s.r0
  have e : la.length + 1 = (la ++ [x]).length := by simp
  have hmb := b1.set_ 15 (.slice Aa' (la.length + 1) ca')
  have hsz : w.heap.size ≤ W.heap.size := s.fr.size
  have hf2 : Fr (fun k => rowOf Aa k ∨ k = M) W (W'.setCell ⟨M, 15, none⟩ (.slice Aa' (la.length + 1) ca')) := (o2.mono (fun k _ h => .inl h)).then (f.mono (fun k _ h => .inr h))
  have oth : ∀ k, rowOf Aa' k → ∀ B, (∀ k, rowOf B k → ¬ rowOf Aa k) → (∀ k, rowOf B k → k < W.heap.size) → ¬ rowOf B k := fun k hk B h1 h2 h => by
    rcases o3 k hk with g | g
    · exact h1 k h g
    · have := h2 k h; omega
  have txk : ∀ y, TxAt W M Aa Ab Ac y → TxAt (W'.setCell ⟨M, 15, none⟩ (.slice Aa' (la.length + 1) ca')) M Aa' Ab Ac y := fun y hy => by
    refine ⟨hy.1.fr hf2 (fun k hk h => ?_), fun k hk => ?_⟩
    · obtain ⟨_, g2, g3, g4, g5⟩ := hy.2 k hk
      rcases h with h | h
      · exact g3 h
      · omega
    · obtain ⟨g1, g2, g3, g4, g5⟩ := hy.2 k hk
      refine ⟨Nat.lt_of_lt_of_le g1 hf2.size, g2, ?_, ?_, ?_⟩
      · exact fun h => (o3 k h).elim g3 (fun q => by omega)
      · exact g4
      · exact g5
  refine ⟨b3.fr f (by omega), b2.fr f (fun h => by have := b2.ne_ b1 (by decide); omega), ?_, ?_, ?_, ?_, ?_, ?_, ?_, ?_, ?_, ?_, ?_, s.r0⟩
  · rw [← e]
    exact hmb
  · exact own_fr s.oq hf2 (fun k hk h => h.elim (own_ty s.oq s.oa (by decide) k hk) (fun h => by subst h; exact own_ne s.oq s.mb (by decide) hk))
  · rw [List.flatMap_append, ← e]
    have := own_fr o1 f (fun k hk h => by subst h; exact hM' hk)
    simpa using this
  · exact own_fr s.ob hf2 (fun k hk h => h.elim ((fun k hk h => s.ab k h hk) k hk) (fun h => by subst h; exact own_ne s.ob s.mb (by decide) hk))
  · exact own_fr s.oc hf2 (fun k hk h => h.elim ((fun k hk h => s.ac k h hk) k hk) (fun h => by subst h; exact own_ne s.oc s.mb (by decide) hk))
  · rintro k (hk | hk | hk | hk)
    · exact s.new k (.inl hk)
    · rcases o3 k hk with g | g
      · exact s.new k (.inr (.inl g))
      · omega
    · exact s.new k (.inr (.inr (.inl hk)))
    · exact s.new k (.inr (.inr (.inr hk)))
  · exact fun k hk => oth k hk Ab (fun k h g => s.ab k g h) (fun k h => own_lt s.ob h)
  · exact fun k hk => oth k hk Ac (fun k h g => s.ac k g h) (fun k h => own_lt s.oc h)
  · exact s.bc
  · intro y hy
    have hy' : (y ∈ la ∨ y ∈ lb ∨ y ∈ lc) ∨ y = x := by
      simp only [List.mem_append, List.mem_singleton] at hy
      rcases hy with (h | h) | h | h
      · exact .inl (.inl h)
      · exact .inr h
      · exact .inl (.inr (.inl h))
      · exact .inl (.inr (.inr h))
    rcases hy' with hy' | rfl
    · exact txk y (s.tx y hy')
    · exact txk y hx
  · exact (s.fr.step o2 (fun k hk => .inr (s.new k (.inr (.inl hk))))).step f (fun k hk => .inr (by omega))
/-- A record more in row 1. -/
theorem Rmst.add1 {Ab' : Option Addr} {cb' : Nat} {x : Rcd × Option Addr × Nat} (s : Rmst w W R0 Hb M h Aq lq cq Aa la ca Ab lb cb Ac lc cc) (hx : TxAt W M Aa Ab Ac x) (o1 : W'.ownsRow 0 55 16 (.slice Ab' (lb.length + 1) cb') (lb.length + 1) (lb.flatMap rcl ++ rcl x)) (o2 : Fr (rowOf Ab) W W') (o3 : ∀ k, rowOf Ab' k → rowOf Ab k ∨ W.heap.size ≤ k) :
    Rmst w (W'.setCell ⟨M, 16, none⟩ (.slice Ab' (lb.length + 1) cb')) R0 Hb M h Aq lq cq Aa la ca Ab' (lb ++ [x]) cb' Ac lc cc := by
  have hM : ¬ rowOf Ab M := own_ne s.ob s.mb (by decide)
  have hH : ¬ rowOf Ab Hb := own_ne s.ob s.hb (by decide)
  have hR : ¬ rowOf Ab R0 := own_ne s.ob s.rb (by decide)
  have b1 := s.mb.fr o2 hM
  have b2 := s.hb.fr o2 hH
  have b3 := s.rb.fr o2 hR
  have f : Fr (· = M) W' (W'.setCell ⟨M, 16, none⟩ (.slice Ab' (lb.length + 1) cb')) := (Fr.refl (· = M) _).setCell (p := ⟨M, 16, none⟩) (fun _ => rfl) _
  have hM' : ¬ rowOf Ab' M := fun hk => (o3 M hk).elim hM (fun h => by have := s.mb.lt; omega)
  have hr0 := s.r0
  have e : lb.length + 1 = (lb ++ [x]).length := by simp
  have hmb := b1.set_ 16 (.slice Ab' (lb.length + 1) cb')
  have hsz : w.heap.size ≤ W.heap.size := s.fr.size
  have hf2 : Fr (fun k => rowOf Ab k ∨ k = M) W (W'.setCell ⟨M, 16, none⟩ (.slice Ab' (lb.length + 1) cb')) := (o2.mono (fun k _ h => .inl h)).then (f.mono (fun k _ h => .inr h))
  have oth : ∀ k, rowOf Ab' k → ∀ B, (∀ k, rowOf B k → ¬ rowOf Ab k) → (∀ k, rowOf B k → k < W.heap.size) → ¬ rowOf B k := fun k hk B h1 h2 h => by
    rcases o3 k hk with g | g
    · exact h1 k h g
    · have := h2 k h; omega
  have txk : ∀ y, TxAt W M Aa Ab Ac y → TxAt (W'.setCell ⟨M, 16, none⟩ (.slice Ab' (lb.length + 1) cb')) M Aa Ab' Ac y := fun y hy => by
    refine ⟨hy.1.fr hf2 (fun k hk h => ?_), fun k hk => ?_⟩
    · obtain ⟨_, g2, g3, g4, g5⟩ := hy.2 k hk
      rcases h with h | h
      · exact g4 h
      · omega
    · obtain ⟨g1, g2, g3, g4, g5⟩ := hy.2 k hk
      refine ⟨Nat.lt_of_lt_of_le g1 hf2.size, g2, ?_, ?_, ?_⟩
      · exact g3
      · exact fun h => (o3 k h).elim g4 (fun q => by omega)
      · exact g5
  refine ⟨b3.fr f (by omega), b2.fr f (fun h => by have := b2.ne_ b1 (by decide); omega), ?_, ?_, ?_, ?_, ?_, ?_, ?_, ?_, ?_, ?_, ?_, s.r0⟩
  · rw [← e]
    exact hmb
  · exact own_fr s.oq hf2 (fun k hk h => h.elim (own_ty s.oq s.ob (by decide) k hk) (fun h => by subst h; exact own_ne s.oq s.mb (by decide) hk))
  · exact own_fr s.oa hf2 (fun k hk h => h.elim (s.ab k hk) (fun h => by subst h; exact own_ne s.oa s.mb (by decide) hk))
  · rw [List.flatMap_append, ← e]
    have := own_fr o1 f (fun k hk h => by subst h; exact hM' hk)
    simpa using this
  · exact own_fr s.oc hf2 (fun k hk h => h.elim ((fun k hk h => s.bc k h hk) k hk) (fun h => by subst h; exact own_ne s.oc s.mb (by decide) hk))
  · rintro k (hk | hk | hk | hk)
    · exact s.new k (.inl hk)
    · exact s.new k (.inr (.inl hk))
    · rcases o3 k hk with g | g
      · exact s.new k (.inr (.inr (.inl g)))
      · omega
    · exact s.new k (.inr (.inr (.inr hk)))
  · exact fun k hk h => oth k h Aa s.ab (fun k h => own_lt s.oa h) hk
  · exact s.ac
  · exact fun k hk => oth k hk Ac (fun k h g => s.bc k g h) (fun k h => own_lt s.oc h)
  · intro y hy
    have hy' : (y ∈ la ∨ y ∈ lb ∨ y ∈ lc) ∨ y = x := by
      simp only [List.mem_append, List.mem_singleton] at hy
      rcases hy with h | (h | h) | h
      · exact .inl (.inl h)
      · exact .inl (.inr (.inl h))
      · exact .inr h
      · exact .inl (.inr (.inr h))
    rcases hy' with hy' | rfl
    · exact txk y (s.tx y hy')
    · exact txk y hx
  · exact (s.fr.step o2 (fun k hk => .inr (s.new k (.inr (.inr (.inl hk)))))).step f (fun k hk => .inr (by omega))
/-- A record more in row 2. -/
theorem Rmst.add2 {Ac' : Option Addr} {cc' : Nat} {x : Rcd × Option Addr × Nat} (s : Rmst w W R0 Hb M h Aq lq cq Aa la ca Ab lb cb Ac lc cc) (hx : TxAt W M Aa Ab Ac x) (o1 : W'.ownsRow 0 55 16 (.slice Ac' (lc.length + 1) cc') (lc.length + 1) (lc.flatMap rcl ++ rcl x)) (o2 : Fr (rowOf Ac) W W') (o3 : ∀ k, rowOf Ac' k → rowOf Ac k ∨ W.heap.size ≤ k) :
    Rmst w (W'.setCell ⟨M, 17, none⟩ (.slice Ac' (lc.length + 1) cc')) R0 Hb M h Aq lq cq Aa la ca Ab lb cb Ac' (lc ++ [x]) cc' := by
  have hM : ¬ rowOf Ac M := own_ne s.oc s.mb (by decide)
  have hH : ¬ rowOf Ac Hb := own_ne s.oc s.hb (by decide)
  have hR : ¬ rowOf Ac R0 := own_ne s.oc s.rb (by decide)
  have b1 := s.mb.fr o2 hM
  have b2 := s.hb.fr o2 hH
  have b3 := s.rb.fr o2 hR
  have f : Fr (· = M) W' (W'.setCell ⟨M, 17, none⟩ (.slice Ac' (lc.length + 1) cc')) := (Fr.refl (· = M) _).setCell (p := ⟨M, 17, none⟩) (fun _ => rfl) _
  have hM' : ¬ rowOf Ac' M := fun hk => (o3 M hk).elim hM (fun h => by have := s.mb.lt; omega)
  have hr0 := s.r0
  have e : lc.length + 1 = (lc ++ [x]).length := by simp
  have hmb := b1.set_ 17 (.slice Ac' (lc.length + 1) cc')
  have hsz : w.heap.size ≤ W.heap.size := s.fr.size
  have hf2 : Fr (fun k => rowOf Ac k ∨ k = M) W (W'.setCell ⟨M, 17, none⟩ (.slice Ac' (lc.length + 1) cc')) := (o2.mono (fun k _ h => .inl h)).then (f.mono (fun k _ h => .inr h))
  have oth : ∀ k, rowOf Ac' k → ∀ B, (∀ k, rowOf B k → ¬ rowOf Ac k) → (∀ k, rowOf B k → k < W.heap.size) → ¬ rowOf B k := fun k hk B h1 h2 h => by
    rcases o3 k hk with g | g
    · exact h1 k h g
    · have := h2 k h; omega
  have txk : ∀ y, TxAt W M Aa Ab Ac y → TxAt (W'.setCell ⟨M, 17, none⟩ (.slice Ac' (lc.length + 1) cc')) M Aa Ab Ac' y := fun y hy => by
    refine ⟨hy.1.fr hf2 (fun k hk h => ?_), fun k hk => ?_⟩
    · obtain ⟨_, g2, g3, g4, g5⟩ := hy.2 k hk
      rcases h with h | h
      · exact g5 h
      · omega
    · obtain ⟨g1, g2, g3, g4, g5⟩ := hy.2 k hk
      refine ⟨Nat.lt_of_lt_of_le g1 hf2.size, g2, ?_, ?_, ?_⟩
      · exact g3
      · exact g4
      · exact fun h => (o3 k h).elim g5 (fun q => by omega)
  refine ⟨b3.fr f (by omega), b2.fr f (fun h => by have := b2.ne_ b1 (by decide); omega), ?_, ?_, ?_, ?_, ?_, ?_, ?_, ?_, ?_, ?_, ?_, s.r0⟩
  · rw [← e]
    exact hmb
  · exact own_fr s.oq hf2 (fun k hk h => h.elim (own_ty s.oq s.oc (by decide) k hk) (fun h => by subst h; exact own_ne s.oq s.mb (by decide) hk))
  · exact own_fr s.oa hf2 (fun k hk h => h.elim (s.ac k hk) (fun h => by subst h; exact own_ne s.oa s.mb (by decide) hk))
  · exact own_fr s.ob hf2 (fun k hk h => h.elim (s.bc k hk) (fun h => by subst h; exact own_ne s.ob s.mb (by decide) hk))
  · rw [List.flatMap_append, ← e]
    have := own_fr o1 f (fun k hk h => by subst h; exact hM' hk)
    simpa using this
  · rintro k (hk | hk | hk | hk)
    · exact s.new k (.inl hk)
    · exact s.new k (.inr (.inl hk))
    · exact s.new k (.inr (.inr (.inl hk)))
    · rcases o3 k hk with g | g
      · exact s.new k (.inr (.inr (.inr g)))
      · omega
  · exact s.ab
  · exact fun k hk h => oth k h Aa s.ac (fun k h => own_lt s.oa h) hk
  · exact fun k hk h => oth k h Ab s.bc (fun k h => own_lt s.ob h) hk
  · intro y hy
    have hy' : (y ∈ la ∨ y ∈ lb ∨ y ∈ lc) ∨ y = x := by
      simp only [List.mem_append, List.mem_singleton] at hy
      rcases hy with h | h | h | h
      · exact .inl (.inl h)
      · exact .inl (.inr (.inl h))
      · exact .inl (.inr (.inr h))
      · exact .inr h
    rcases hy' with hy' | rfl
    · exact txk y (s.tx y hy')
    · exact txk y hx
  · exact (s.fr.step o2 (fun k hk => .inr (s.new k (.inr (.inr (.inr hk)))))).step f (fun k hk => .inr (by omega))
end
end Go.Proofs.YtmbgejiahmhffaaGreat
