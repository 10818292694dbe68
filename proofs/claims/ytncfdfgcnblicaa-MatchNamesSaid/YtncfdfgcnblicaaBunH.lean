/-
  TEXTS OF THIS CLAIM, TOGETHER: Ppl, Dln, Lv9, Dpf, Ppb, Dpo, Dpu, Lw9p, Ppm, Opend, Pdx.
-/
import Derived.Test.YtncfdfgcnblicaaBunD
import Derived.Test.YtncfdfgcnblicaaBunB
import Derived.Test.YtncfdfgcnblicaaBunC
import Derived.Test.YtncfdfgcnblicaaBunG
import Derived.Test.YtncfdfgcnblicaaBunA
import Derived.Test.YtncfdfgcnblicaaBunE
import Derived.Test.YtncfdfgcnblicaaRows
/-
  LAYER 7: a new packer; a packer that nobody made; the chapter's example.
-/
namespace Go.Proofs.Ytncfdfgcnblicaa
open Go.RowKit Go.Maps

/-! ### Closed examples are reckoned. -/
def pkF : Nat → Pk → List UInt8 → Option (Pk × Int)
  | 0, _, _ => none
  | k + 1, p, n =>
    if n = [] then some ({ p with x := (p.x.put [0]).1 }, (p.x.put [0]).2)
    else match p.get n with
    | some a => some ({ p with x := (p.x.number (49152 + a) 2).1 }, (p.x.number (49152 + a) 2).2)
    | none =>
      if (p.x.put (n.take (1 + oc n 0))).2 = 0 then pkF k ⟨(p.x.put (n.take (1 + oc n 0))).1, updAt p.get n p.x.b.length⟩ (n.drop (1 + oc n 0))
      else some ({ p with x := (p.x.put (n.take (1 + oc n 0))).1 }, (p.x.put (n.take (1 + oc n 0))).2)
theorem pkF_eq : ∀ (k : Nat) {p : Pk} {n : List UInt8} {r : Pk × Int}, pkF k p n = some r → p.rest n = r
  | 0, _, _, _, h => by cases h
  | k + 1, p, n, r, h => by
    rw [pkF] at h
    by_cases hn : n = []
    · subst hn
      rw [if_pos rfl] at h
      rw [Pk.rest_nil]
      exact Option.some.inj h
    · rw [if_neg hn] at h
      cases hg : p.get n with
      | some a =>
        rw [hg] at h
        rw [Pk.rest_some hn hg]
        exact Option.some.inj h
      | none =>
        rw [hg] at h
        dsimp only at h
        by_cases h0 : (p.x.put (n.take (1 + oc n 0))).2 = 0
        · rw [if_pos h0] at h
          rw [Pk.rest_go hn hg h0]
          exact pkF_eq k h
        · rw [if_neg h0] at h
          rw [Pk.rest_stop hn hg h0]
          exact Option.some.inj h
def ckF : Nat → List UInt8 → Nat → Option Int
  | 0, _, _ => none
  | k + 1, s, a => if s.length ≤ a then some 0 else if oc s a < 1 ∨ 63 < oc s a ∨ s.length < a + 1 + oc s a then some 4 else ckF k s (a + 1 + oc s a)
theorem ckF_eq : ∀ (k : Nat) {s : List UInt8} {a : Nat} {r : Int}, ckF k s a = some r → ckAt s a = r
  | 0, _, _, _, h => by cases h
  | k + 1, s, a, r, h => by
    rw [ckF] at h
    rw [ckAt]
    split at h
    · rename_i h1
      rw [if_pos h1]
      exact Option.some.inj h
    · rename_i h1
      rw [if_neg h1]
      split at h
      · rename_i h2
        rw [if_pos h2]
        exact Option.some.inj h
      · rename_i h2
        rw [if_neg h2]
        exact ckF_eq k h
theorem ckN_eq (k : Nat) {s : ByteArray} {r : Int} (h0 : decide (254 < s.size) = false) (h : ckF k s.data.toList 0 = some r) : ckN s = r := by
  unfold ckN
  rw [if_neg (of_decide_eq_false h0)]
  exact ckF_eq k h
theorem name_eq (k : Nat) {y : Pk} {n : ByteArray} {r : Pk × Int} (he : y.x.e = 0) (h0 : decide (254 < n.size) = false) (hc : ckF k n.data.toList 0 = some 0) (h : pkF k y n.data.toList = some r) : y.name n = r := by
  unfold Pk.name
  rw [if_neg (by simp [he]), if_neg (by simp [ckN_eq k h0 hc])]
  exact pkF_eq k h

def live1 : Pk := ⟨⟨[1, 97, 1, 98, 0], 99, 0⟩, updAt (updAt (fun _ => none) [1, 97, 1, 98] 0) [1, 98] 2⟩
def live2 : Pk := ⟨⟨[1, 97, 1, 98, 0, 1, 99, 192, 2], 99, 0⟩, updAt live1.get [1, 99, 1, 98] 5⟩
def live3 : Pk := ⟨⟨[1, 97, 1, 98, 0, 1, 99, 192, 2, 192, 0], 99, 0⟩, live2.get⟩
theorem live1_eq : Pk.name ⟨⟨[], max 0 99, 0⟩, fun _ => none⟩ ⟨#[1, 97, 1, 98]⟩ = (live1, 0) := name_eq 9 rfl (by kernel_rfl) (by kernel_rfl) (by kernel_rfl)
theorem live2_eq : live1.name ⟨#[1, 99, 1, 98]⟩ = (live2, 0) := name_eq 9 rfl (by kernel_rfl) (by kernel_rfl) (by kernel_rfl)
theorem live3_eq : live2.name ⟨#[1, 97, 1, 98]⟩ = (live3, 0) := name_eq 9 rfl (by kernel_rfl) (by kernel_rfl) (by kernel_rfl)

end Go.Proofs.Ytncfdfgcnblicaa

/-
  LAYER 9, PLAIN: data that is no raw octets has an octet at least. No program.
-/
namespace Go.Proofs.Ytncfdfgcnblicaa
set_option linter.unusedVariables false
set_option linter.unusedSimpArgs false
open Go.RowKit

theorem take_end (S : List UInt8) (n : Nat) (c : Cu) (h : c.e ≠ 0 ∨ S.length ≤ c.at_) (hn : 0 < n) : (c.take S S.length n).2.e ≠ 0 := by
  unfold Cu.take
  by_cases h0 : c.e ≠ 0
  · rw [if_pos h0]; exact h0
  · rw [if_neg h0, if_pos (by have := h.resolve_left h0; omega)]
    show (8 : Int) ≠ 0
    decide
theorem number_end (S : List UInt8) (n : Nat) (c : Cu) (h : c.e ≠ 0 ∨ S.length ≤ c.at_) (hn : 0 < n) : (c.number S S.length n).2.e ≠ 0 := take_end S n c h hn
theorem nums_end (S : List UInt8) (wide : Nat) (hw : 0 < wide) : ∀ (k : Nat) (c : Cu), c.e ≠ 0 ∨ (0 < k ∧ S.length ≤ c.at_) → (Cu.nums S S.length wide k c).2.e ≠ 0
  | 0, c, h => by rcases h with h | ⟨h, _⟩; exact h; omega
  | k + 1, c, h => by
    unfold Cu.nums
    dsimp only
    exact nums_end S wide hw k _ (.inl (number_end S wide c (h.imp id fun h => h.2) hw))
theorem name_end (S : List UInt8) (p : Bool) (c : Cu) (h : c.e ≠ 0 ∨ S.length ≤ c.at_) : (c.name S S.length p).2.e ≠ 0 := by
  unfold Cu.name
  by_cases h0 : c.e ≠ 0
  · rw [if_pos h0]; exact h0
  · rw [if_neg h0, uread_bad (show Un.step S (!p) ⟨c.at_, c.at_, -1, 0, []⟩ = .bad 8 by unfold Un.step; rw [if_pos (h.resolve_left h0)])]
    show (8 : Int) ≠ 0
    decide
theorem dread_end (S : List UInt8) (t : Int) (hr : (whatN t).raw = false) : (dreadB S S.length (whatN t) S.length).2.e ≠ 0 := by
  have g1 : ∀ (p : Bool) (c : Cu), S.length ≤ c.at_ → (c.name S S.length p).2.e ≠ 0 := fun p c h => name_end S p c (.inr h)
  have g2 : ∀ (p : Bool) (c : Cu), c.e ≠ 0 → (c.name S S.length p).2.e ≠ 0 := fun p c h => name_end S p c (.inl h)
  have g3 : ∀ (wide : Nat) (k : Nat) (c : Cu), 0 < wide → c.e ≠ 0 → (Cu.nums S S.length wide k c).2.e ≠ 0 := fun wide k c h0 h => nums_end S wide h0 k c (.inl h)
  have g4 : ∀ (wide : Nat) (k : Nat) (c : Cu), 0 < wide → 0 < k → S.length ≤ c.at_ → (Cu.nums S S.length wide k c).2.e ≠ 0 := fun wide k c h0 hk h => nums_end S wide h0 k c (.inr ⟨hk, h⟩)
  rcases whatN_cases t with e | e | e | e | e | e | e | e <;> rw [e] at hr ⊢ <;> simp only [dreadB, Nat.lt_irrefl, Nat.reduceLT, Nat.reduceLeDiff, Nat.not_lt_zero, Nat.le_refl, Bool.false_eq_true, if_true, if_false, ↓reduceIte]
  · exact take_end S 4 ⟨S.length, 0⟩ (.inr (Nat.le_refl _)) (by decide)
  · exact take_end S 16 ⟨S.length, 0⟩ (.inr (Nat.le_refl _)) (by decide)
  · exact g1 _ _ (Nat.le_refl _)
  · refine g3 _ _ _ (by decide) ?_
    refine g2 _ _ ?_
    exact g1 _ _ (Nat.le_refl _)
  · refine g2 _ _ ?_
    exact g4 _ _ _ (by decide) (by decide) (Nat.le_refl _)
  · refine g2 _ _ ?_
    exact g4 _ _ _ (by decide) (by decide) (Nat.le_refl _)
  · have e0 : (Cu.nums S S.length 0 0 ⟨S.length, 0⟩).2 = ⟨S.length, 0⟩ := rfl
    rw [e0]
    generalize hl : S.length + 1 = f
    have hf : 0 < f := by omega
    obtain ⟨f, rfl⟩ : ∃ k, f = k + 1 := ⟨f - 1, by omega⟩
    unfold Cu.texts
    rw [if_neg (by simp)]
    dsimp only
    have h1 := number_end S 1 ⟨S.length, 0⟩ (.inr (Nat.le_refl _)) (by decide)
    have h2 : (((Cu.number S S.length ⟨S.length, 0⟩ 1).2).take S S.length (Cu.number S S.length ⟨S.length, 0⟩ 1).1).2.e ≠ 0 := by
      unfold Cu.take
      rw [if_pos h1]
      exact h1
    generalize (((Cu.number S S.length ⟨S.length, 0⟩ 1).2).take S S.length (Cu.number S S.length ⟨S.length, 0⟩ 1).1) = c at *
    split
    · have : (Cu.texts S S.length f c.2) = ([], c.2) := by
        cases f with
        | zero => rfl
        | succ k => unfold Cu.texts; rw [if_pos h2]
      dsimp only
      rw [this]
      exact h2
    · exact h2
  · exact absurd hr (by decide)
theorem dput_longer {y : Pk} {B : Nat} {t : Int} {d : Dt} (h : UG y B) (hd : d.ok) (hc : dcheck t d = 0) (hB : B + 600 + d.size (whatN t) ≤ 65535) (hr : (whatN t).raw = false) : y.x.b.length < (dputB y (whatN t) d).x.b.length := by
  obtain ⟨ht, hb, k1, k2, k3, _⟩ := dcheck_ok hc
  obtain ⟨_, ⟨T, g2⟩, _, g4⟩ := read_dput h ⟨t, rfl⟩ hd hb k1 k2 k3 hB [] _ (Nat.le_refl _) (fun _ => rfl)
  apply Nat.lt_of_not_le
  intro hle
  have hT : T = [] := by
    rw [g2, List.length_append] at hle
    exact List.eq_nil_of_length_eq_zero (by omega)
  rw [hT, List.append_nil] at g2
  rw [g2, List.append_nil] at g4
  have := dread_end y.x.b t hr
  rw [g4] at this
  exact this rfl
end Go.Proofs.Ytncfdfgcnblicaa

/-
  LAYER 9: the chapter's example.
-/
namespace Go.Proofs.Ytncfdfgcnblicaa
set_option linter.unusedVariables false
set_option linter.unusedSimpArgs false
open Go.RowKit

def live9D : Dt := ⟨false, 0, 16909060, ⟨#[]⟩, ⟨#[]⟩, 0, 0, 0, 0, 0, [], ⟨#[]⟩⟩
theorem ckE9 : ckN ⟨#[]⟩ = 0 := ckN_eq 9 (by kernel_rfl) (by kernel_rfl)
theorem ckAB9 : ckN ⟨#[1, 97, 1, 98]⟩ = 0 := ckN_eq 9 (by kernel_rfl) (by kernel_rfl)
theorem live9_read : dreadC ⟨#[1, 2, 3, 4]⟩ 0 4 1 = (live9D, 0) := by
  rw [dreadC_eq]
  unfold dreadN
  rw [if_neg (by decide)]
  dsimp only
  have h : dreadB (⟨#[1, 2, 3, 4]⟩ : ByteArray).data.toList (4 : Int).toNat (whatN 1) (0 : Int).toNat = (live9D, ⟨4, 0⟩) := by kernel_rfl
  rw [h]
  dsimp only
  have hc : dcheck 1 live9D = 0 := by
    refine dcheck_intro (by decide) ?_ ckE9 ckE9 (fun x hx => by cases hx) (by decide)
    refine ⟨fun _ => rfl, fun _ => rfl, fun _ => rfl, ⟨(fun h => by cases h), (fun h => absurd rfl h)⟩, (fun h => by cases h), fun _ => ⟨fun _ => ⟨rfl, by decide⟩, ⟨(fun h => by cases h), (fun h => by cases h)⟩⟩, fun i _ _ => ?_, (fun h => by cases h)⟩
    unfold Dt.num
    split <;> rfl
  rw [if_neg (by simp), if_neg (by simp [hc])]
def live9M : Dt := ⟨false, 0, 0, ⟨#[1, 97, 1, 98]⟩, ⟨#[]⟩, 10, 0, 0, 0, 0, [], ⟨#[]⟩⟩
theorem live9_size : dsizeB 15 live9M = 7 := by
  have hb : live9M.bare (whatN 15) := by
    refine ⟨(fun h => absurd h (by decide)), fun _ => rfl, fun _ => rfl, ⟨(fun h => by cases h), (fun h => absurd rfl h)⟩, fun _ => ⟨rfl, rfl, rfl⟩, (fun h => absurd h (by decide)), fun i h5 hi => ?_, fun _ i h5 => ?_⟩
    · have hi : 1 ≤ i := hi
      rcases (show i = 1 ∨ i = 2 ∨ i = 3 ∨ i = 4 by omega) with rfl | rfl | rfl | rfl <;> rfl
    · rcases (show i = 0 ∨ i = 1 ∨ i = 2 ∨ i = 3 ∨ i = 4 by omega) with rfl | rfl | rfl | rfl | rfl <;> decide
  have hc : dcheck 15 live9M = 0 := dcheck_intro (by decide) hb ckAB9 ckE9 (fun x hx => by cases hx) (by decide)
  have h0 : dcheckB0 15 live9M = 0 := by
    rw [dcheckB0_eq]
    unfold dcheck at hc
    split at hc
    · exact absurd hc (by assumption)
    · exact Classical.not_not.1 (by assumption)
  unfold dsizeB
  rw [if_pos h0]
  rfl
end Go.Proofs.Ytncfdfgcnblicaa

/-
  LAYERS 7, 9, PLAIN: what stands never outgrows the room. No program.
-/
namespace Go.Proofs.Ytncfdfgcnblicaa
set_option linter.unusedVariables false
set_option linter.unusedSimpArgs false
open Go.RowKit

/-- There is room for what stands. -/
def Wst.fit (x : Wst) : Prop := (x.b.length : Int) ≤ x.most ∧ x.most ≤ 65535
def Pk.fit (y : Pk) : Prop := y.x.fit
theorem Wst.fit.put {x : Wst} (h : x.fit) (l : List UInt8) : (x.put l).1.fit := by
  unfold Wst.put
  obtain ⟨h1, h2⟩ := h
  split
  · exact ⟨h1, h2⟩
  · split
    · exact ⟨h1, h2⟩
    · refine ⟨?_, h2⟩
      dsimp only
      rw [List.length_append]
      omega
theorem Wst.fit.number {x : Wst} (h : x.fit) (v n : Int) : (x.number v n).1.fit := by
  unfold Wst.number
  split
  · exact h
  · split
    · exact h.put _
    · exact h
theorem Pk.fit.put {y : Pk} (h : y.fit) (l : List UInt8) : (y.putP l).fit := Wst.fit.put h l
theorem Pk.fit.num {y : Pk} (h : y.fit) (v n : Int) : (y.numP v n).fit := Wst.fit.number h v n
theorem Pk.fit.rest : ∀ (n : List UInt8) {y : Pk}, y.fit → (y.rest n).1.fit := by
  intro n
  generalize hk : n.length = k
  induction k using Nat.strongRecOn generalizing n with
  | _ k ih =>
    intro y h
    by_cases hn : n = []
    · subst hn
      rw [Pk.rest_nil]
      exact Wst.fit.put h _
    · have hp : 0 < n.length := List.length_pos_iff.2 hn
      cases hg : y.get n with
      | some a =>
        rw [Pk.rest_some hn hg]
        exact Wst.fit.number h _ _
      | none =>
        by_cases h0 : (y.x.put (n.take (1 + oc n 0))).2 = 0
        · rw [Pk.rest_go hn hg h0]
          exact ih _ (by rw [← hk, List.length_drop]; omega) _ rfl (Wst.fit.put h _)
        · rw [Pk.rest_stop hn hg h0]
          exact Wst.fit.put h _
theorem Pk.fit.name {y : Pk} (h : y.fit) (n : ByteArray) : (y.name n).1.fit := by
  unfold Pk.name
  split
  · exact h
  · split
    · exact h
    · exact Pk.fit.rest _ h
theorem Pk.fit.plain {y : Pk} (h : y.fit) (n : ByteArray) : (y.plain n).1.fit := by
  unfold Pk.plain
  split
  · exact h
  · split
    · exact h
    · exact Wst.fit.put h _
theorem Pk.fit.nameB {y : Pk} (h : y.fit) (p : Bool) (n : ByteArray) : (y.nameB p n).fit := by
  cases p
  · exact h.name n
  · exact h.plain n
theorem Pk.fit.nums (d : Dt) (wide : Nat) : ∀ (k j : Nat) {y : Pk}, y.fit → (y.numsP d wide j k).fit
  | 0, _, _, h => h
  | k + 1, j, _, h => Pk.fit.nums d wide k (j + 1) (h.num _ _)
theorem Pk.fit.texts : ∀ (l : List ByteArray) {y : Pk}, y.fit → (y.textsP l).fit
  | [], _, h => h
  | _ :: r, _, h => Pk.fit.texts r ((h.num _ _).put _)
theorem Pk.fit.len {y : Pk} (h : y.fit) : y.x.b.length ≤ 65535 := by have h1 := h.1; have h2 := h.2; omega
end Go.Proofs.Ytncfdfgcnblicaa

/-
  LAYER 7: THE PROGRAM's PACKER: lengths begun, ended.
-/
namespace Go.Proofs.Ytncfdfgcnblicaa
open Go.RowKit Go.Maps

theorem Try.infoInt : (Try.prog.info? 3).map (fun i => (i.zero, i.size, i.bytes)) = some (some (.int .i64 0), 1, 8) := by kernel_rfl
theorem int_new (w : World) (v : Int) (T : TypeId) : ∀ j u, ([Value.int .i64 v] : List Value)[j]? = some u → (w.alloc (.cells #[.int .i64 v] T)).cell? ((⟨w.heap.size, 0, none⟩ : Addr).add j) = some u := by
  intro j u hu
  have ha : (⟨w.heap.size, 0, none⟩ : Addr).add j = ⟨w.heap.size, j, none⟩ := by unfold Addr.add; split <;> simp_all
  rw [ha, (Blk.new w T _).cell]
  simpa using hu
theorem int_one (v : Int) : ∀ u ∈ ([Value.int .i64 v] : List Value), u.oneCell' = true := by
  intro u hu
  simp only [List.mem_singleton] at hu
  subst hu
  rfl

theorem Blk.cells_of {w : World} {q : Nat} {t : TypeId} {cs : Array Value} (h : Blk w q t cs) : ((w.heap[q]?.bind fun o => match o with | .cells cs _ _ => some cs | _ => none).getD #[]) = cs := by
  unfold Blk at h
  rw [h]
  rfl
theorem own_take {w : World} {e : TypeId} {A : Option Addr} {n cap m : Nat} {xs : List Value} (h : w.ownsRow 0 e 1 (.slice A n cap) n xs) (hm : m ≤ n) : w.ownsRow 0 e 1 (.slice A m cap) m (xs.take m) := by
  have hl := h.1
  refine ⟨by rw [List.length_take]; omega, ?_⟩
  rcases h.2 with ⟨hv, h0⟩ | ⟨g, cp, cur, hv, hb, hg, r1, r2, r3, r4⟩
  · injection hv with hA _ hc
    subst hA h0 hc
    have : m = 0 := by omega
    subst this
    exact .inl ⟨rfl, rfl⟩
  · injection hv with hA _ hc
    subst hA hc
    refine .inr ⟨g, cap, cur, rfl, hb, hg, by omega, r2, r3, ?_⟩
    rw [← r4, List.take_take]
    congr 1
    omega

theorem patch_len2 (x : Wst) (a v : Int) : (x.patch a v 2).1.b.length = x.b.length := by
  unfold Wst.patch
  split
  · rfl
  · split
    · rename_i h
      dsimp only
      rw [List.length_append, List.length_append, octs_length, List.length_take, List.length_drop]
      omega
    · rfl
end Go.Proofs.Ytncfdfgcnblicaa

/-
  LAYER 9: what is known at each step of a put of data; the numbers' put.
-/
namespace Go.Proofs.Ytncfdfgcnblicaa
set_option linter.unusedVariables false
set_option linter.unusedSimpArgs false
open Go.RowKit

/-- The texts' row, if there is a text. -/
def rowT (A : Option Addr) (l : List ByteArray) (k : Nat) : Prop := l ≠ [] ∧ rowOf A k
theorem Strs.frT {w w' : World} {A : Option Addr} {l : List ByteArray} {S : Nat → Prop} (h : Strs w A l) (hf : Fr S w w') (hs : ∀ k, rowT A l k → ¬ S k) : Strs w' A l := by
  by_cases hl : l = []
  · subst hl
    exact Strs.nil _ _
  · exact h.fr hf fun k hk => hs k ⟨hl, hk⟩
theorem Strs.ltT {w : World} {A : Option Addr} {l : List ByteArray} (h : Strs w A l) {k : Nat} (hk : rowT A l k) : k < w.heap.size := by
  obtain ⟨hl, a, rfl, rfl⟩ := hk
  obtain ⟨b, off, e, h2, _⟩ := h (by rw [List.length_map]; exact List.length_pos_iff.2 hl)
  cases e
  exact h2
theorem DtIn.frT {w w' : World} {A : Option Addr} {d : Dt} {S : Nat → Prop} (h : DtIn w A d) (hf : Fr S w w') (hs : ∀ k, rowT A d.texts k → ¬ S k) : DtIn w' A d := ⟨h.hi, h.lo, h.num, h.txt.frT hf hs, h.len, h.raw⟩

section
variable {w0 w w' : World} {q : Nat} {F0 F F' : Nat → Prop} {y y' : Pk} {bg : List Int} {p3 p5 p8 : Nat} {A : Option Addr} {cap : Nat} {d : Dt} {wh : Wh} {tx : ByteArray}
end

theorem run_sliceNums (p n : Nat) (hn : n ≤ 5) (w : World) :
    (Instr.sliceAt 58 (.pointer (some ⟨p, 5, none⟩)) none (some (.int .i64 n)) none).run Try.prog w = .ok (.slice (some ⟨p, 5, none⟩) n 5) w := by
  rcases (show n = 0 ∨ n = 1 ∨ n = 2 ∨ n = 3 ∨ n = 4 ∨ n = 5 by omega) with rfl | rfl | rfl | rfl | rfl | rfl <;> kernel_rfl

end Go.Proofs.Ytncfdfgcnblicaa

/-
  LAYER 9: Put: data is put.
-/
namespace Go.Proofs.Ytncfdfgcnblicaa
set_option linter.unusedVariables false
set_option linter.unusedSimpArgs false
open Go.RowKit

def dputR (y : Pk) (t : Int) (d : Dt) : Pk × Int := if dcheckB t d ≠ 0 then (y, dcheckB t d) else (dputP y (whatN t) d, (dputP y (whatN t) d).x.e)
/-- Names put one by one. -/
def Pk.namesP (y : Pk) (p : Bool) : List ByteArray → Pk
  | [] => y
  | n :: r => Pk.namesP (y.nameB p n) p r
theorem Pk.fit.names (p : Bool) : ∀ (l : List ByteArray) {y : Pk}, y.fit → (y.namesP p l).fit
  | [], _, h => h
  | n :: r, _, h => Pk.fit.names p r (h.nameB p n)
theorem dputP_eq (y : Pk) (w : Wh) (d : Dt) (hn : w.names ≤ 2) : dputP y w d =
    ((((if w.first = true then Pk.namesP (if w.first = true then (if 0 < w.addr then y.putP (addrL d w) else y).numsP d w.wide 0 w.nums else (if 0 < w.addr then y.putP (addrL d w) else y)) w.plain ([d.name, d.mail].take w.names)
      else (Pk.namesP (if w.first = true then (if 0 < w.addr then y.putP (addrL d w) else y).numsP d w.wide 0 w.nums else (if 0 < w.addr then y.putP (addrL d w) else y)) w.plain ([d.name, d.mail].take w.names)).numsP d w.wide 0 w.nums)).textsP d.texts).putP d.raw.data.toList) := by
  unfold dputP
  rcases (show w.names = 0 ∨ w.names = 1 ∨ w.names = 2 by omega) with h | h | h <;> rw [h] <;> rfl

theorem addrL_adr {d : Dt} {w : Wh} (hb : d.bare w) (h0 : 0 < w.addr) (hw : w.addr = 0 ∨ w.addr = 4 ∨ w.addr = 16) : adrCk d.six d.hi d.lo = 0 ∧ adrL d.six d.hi d.lo = addrL d w := by
  obtain ⟨_, _, _, _, _, h6, _⟩ := hb
  obtain ⟨g1, g2⟩ := h6 h0
  constructor
  · unfold adrCk
    rw [if_neg]
    rintro ⟨e1, e2⟩
    exact e2 (g1 e1)
  · unfold adrL addrL
    rcases hw with e | e | e
    · omega
    · rw [if_neg (fun h => by have := g2.1 h; omega), if_pos e]
    · rw [if_pos (g2.2 e), if_neg (by omega), if_pos e]

end Go.Proofs.Ytncfdfgcnblicaa

/-
  LAYER 9, PLAIN: what Put leaves in a new packer of 65,535 octets of room. No program.
-/
namespace Go.Proofs.Ytncfdfgcnblicaa
set_option linter.unusedVariables false
set_option linter.unusedSimpArgs false
open Go.RowKit

theorem UG.self {y : Pk} {B : Nat} (h : UG y B) : Pk.mk { y.x with most := (65535 : Int) } y.get = y := by
  have := h.most
  obtain ⟨⟨b, m, e⟩, g⟩ := y
  simp only at this
  subst this
  rfl
theorem Rm.self {y : Pk} {B : Nat} (h : UG y B) (hB : B ≤ 65535) : Rm 65535 y y := .inl ⟨by have := h.len; omega, h.self.symm⟩
theorem Rm.out {y z : Pk} {B : Nat} (h : Rm 65535 y z) (hu : UG z B) (hB : B ≤ 65535) : y = z := by
  rcases h with ⟨_, h2⟩ | ⟨h1, _⟩
  · rw [h2]
    exact hu.self
  · have := hu.len
    omega
theorem UG.fit {y : Pk} {B : Nat} (h : UG y B) (hB : B ≤ 65535) : y.fit := ⟨by rw [h.most]; have := h.len; omega, by rw [h.most]; decide⟩
theorem size_light (t : Int) (d : Dt) : d.size (whatN t) ≤ d.light + 40 := by
  have hq : d.light = d.raw.size + d.name.size + d.mail.size + textsLen d.texts := rfl
  unfold Dt.size
  rcases whatN_cases t with e | e | e | e | e | e | e | e <;> rw [e] <;> dsimp only <;> (try split) <;> (try split) <;> omega
/-- What Put of light data leaves. -/
theorem dputR_good {y : Pk} {B : Nat} {t : Int} {d : Dt} (hu : UG y B) (hd : d.ok) (hB : B + 640 + d.light ≤ 65535) :
    dputR y t d = if dcheck t d ≠ 0 then (y, dcheck t d) else (dputB y (whatN t) d, 0) := by
  unfold dputR
  rw [dcheckB_eq]
  by_cases hc : dcheck t d = 0
  · rw [if_neg (by simp [hc]), if_neg (by simp [hc])]
    have hsz := size_light t d
    obtain ⟨ht, hb, k1, k2, k3, _⟩ := dcheck_ok hc
    have hr := Rm.dput (Rm.self hu (by omega)) hu ⟨t, rfl⟩ hd hb k1 k2 k3 (by omega)
    obtain ⟨g, _⟩ := read_dput hu ⟨t, rfl⟩ hd hb k1 k2 k3 (by omega) [] _ (Nat.le_refl _) (fun _ => rfl)
    rw [hr.out g (by omega), g.e]
  · rw [if_pos hc, if_pos hc]
theorem dputB_good {y : Pk} {B : Nat} {t : Int} {d : Dt} (hu : UG y B) (hd : d.ok) (hB : B + 640 + d.light ≤ 65535) (hc : dcheck t d = 0) : UG (dputB y (whatN t) d) (B + 640 + d.light) := by
  have hsz := size_light t d
  obtain ⟨ht, hb, k1, k2, k3, _⟩ := dcheck_ok hc
  obtain ⟨g, _⟩ := read_dput hu ⟨t, rfl⟩ hd hb k1 k2 k3 (by omega) [] _ (Nat.le_refl _) (fun _ => rfl)
  exact g.more (by omega)
/-- Unlike data have unlike octets. -/
theorem unlike_9 {t : Int} {a b : Dt} (ha : a.ok) (hb : b.ok) (la : a.light ≤ 2000) (lb : b.light ≤ 2000) (ca : dcheck t a = 0) (cb : dcheck t b = 0) :
    ((dputB ⟨⟨[], 65535, 0⟩, fun _ => none⟩ (whatN t) a).x.b = (dputB ⟨⟨[], 65535, 0⟩, fun _ => none⟩ (whatN t) b).x.b ↔ a = b) := by
  have sa := size_light t a
  have sb := size_light t b
  obtain ⟨_, ba, a1, a2, a3, _⟩ := dcheck_ok ca
  obtain ⟨_, bb, b1, b2, b3, _⟩ := dcheck_ok cb
  exact put_unlike UG.start ⟨t, rfl⟩ ha ba a1 a2 a3 (by omega) hb bb b1 b2 b3 (by omega)
end Go.Proofs.Ytncfdfgcnblicaa

/-
  LAYER 7: PackNames.
-/
namespace Go.Proofs.Ytncfdfgcnblicaa
open Go.RowKit Go.Maps

section
variable {w w' w2 : World} {p q r : Nat} {F G H F' : Nat → Prop} {y z u y' : Pk} {bg bg' : List Int}
end

def nm0 : Pk := ⟨⟨[], 99, 0⟩, fun _ => none⟩
def nm1 : Pk := ⟨⟨[1, 97, 0], 99, 0⟩, fun _ => none⟩
def nm2 : Pk := ⟨⟨[1, 97, 0, 1, 65, 0], 99, 0⟩, updAt (fun _ => none) [1, 65] 3⟩
def nm3 : Pk := ⟨⟨[1, 97, 0, 1, 65, 0, 1, 97, 0], 99, 0⟩, updAt nm2.get [1, 97] 6⟩
def nm4 : Pk := ⟨⟨[1, 97, 0, 1, 65, 0, 1, 97, 0, 0], 99, 0⟩, nm3.get⟩
def nm5 : Pk := ⟨⟨[1, 97, 0, 1, 65, 0, 1, 97, 0, 0, 0, 0], 99, 0⟩, nm3.get⟩
def nm6 : Pk := ⟨⟨[1, 97, 0, 1, 65, 0, 1, 97, 0, 0, 0, 0, 120, 121, 122], 99, 0⟩, nm3.get⟩
def nm7 : Pk := ⟨⟨[1, 97, 0, 1, 65, 0, 1, 97, 0, 0, 0, 3, 120, 121, 122], 99, 0⟩, nm3.get⟩
def nm8 : Pk := ⟨⟨[1, 97, 0, 1, 65, 0, 1, 97, 0, 0, 0, 3, 120, 121, 122, 7], 99, 0⟩, nm3.get⟩
def zm0 : Pk := ⟨⟨[], 3, 0⟩, fun _ => none⟩
def zm1 : Pk := ⟨⟨[1, 97], 3, 3⟩, updAt (fun _ => none) [1, 97, 1, 98] 0⟩
def um0 : Pk := ⟨⟨[], 0, 0⟩, fun _ => none⟩
theorem ckBad : ckN ⟨#[2, 97]⟩ = 4 := ckN_eq 9 (by kernel_rfl) (by kernel_rfl)
theorem ckA : ckN ⟨#[1, 97]⟩ = 0 := ckN_eq 9 (by kernel_rfl) (by kernel_rfl)
theorem ckE : ckN ⟨#[]⟩ = 0 := ckN_eq 9 (by kernel_rfl) (by kernel_rfl)
theorem nmA : nm0.name ⟨#[2, 97]⟩ = (nm0, 4) := by unfold Pk.name; rw [if_neg (by decide), if_pos (by rw [ckBad]; decide), ckBad]
theorem nmB : nm0.plain ⟨#[1, 97]⟩ = (nm1, 0) := by
  unfold Pk.plain
  rw [if_neg (by decide), if_neg (by rw [ckA]; decide)]
  kernel_rfl
theorem nmC : nm1.name ⟨#[1, 65]⟩ = (nm2, 0) := name_eq 9 rfl (by kernel_rfl) (by kernel_rfl) (by kernel_rfl)
theorem nmD : nm2.name ⟨#[1, 97]⟩ = (nm3, 0) := name_eq 9 rfl (by kernel_rfl) (by kernel_rfl) (by kernel_rfl)
theorem nmE : nm3.name ⟨#[]⟩ = (nm4, 0) := name_eq 9 rfl (by kernel_rfl) (by kernel_rfl) (by kernel_rfl)
theorem nmF : (nm4.x.number 0 2) = (nm5.x, 0) := by kernel_rfl
theorem nmG : (nm5.x.put (⟨#[120, 121, 122]⟩ : ByteArray).data.toList) = (nm6.x, 0) := by kernel_rfl
theorem nmH : (nm6.x.patch (10 : Nat) ((nm6.x.b.length - 10 - 2 : Nat) : Int) 2) = (nm7.x, 0) := by kernel_rfl
theorem nmI : (nm7.x.number 7 1) = (nm8.x, 0) := by kernel_rfl
theorem nmJ : (nm8.x.number 256 1) = (nm8.x, 2) := by kernel_rfl
theorem zmA : zm0.name ⟨#[1, 97, 1, 98]⟩ = (zm1, 3) := name_eq 9 rfl (by kernel_rfl) (by kernel_rfl) (by kernel_rfl)
theorem zmB : (zm1.x.put (⟨#[]⟩ : ByteArray).data.toList) = (zm1.x, 3) := by kernel_rfl
theorem umA : (um0.x.number 0 2).2 = 3 := by kernel_rfl

end Go.Proofs.Ytncfdfgcnblicaa

/-
  DATA, RECORDS, QUESTIONS THAT CAME IN, OPENED; and what the bound of the second form gives.
-/
namespace Go.Proofs.Ytncfdfgcnblicaa
set_option linter.unusedVariables false
set_option linter.unusedSimpArgs false
set_option linter.constructorNameAsVariable false
open Go.ChangeShapes Go.WideShapes Go.ChangeAt Go.RowKit Go.Deep

theorem bulk_part {H : Type} : ∀ {l : List (DataW H)} {i : Nat} {d : DataW H}, l[i]? = some d → Rows.uptoBulk d ≤ Rows.uptoBulkAll l
  | [], i, d, h => by simp at h
  | x :: r, 0, d, h => by
    simp only [List.getElem?_cons_zero, Option.some.injEq] at h
    subst h
    simp only [Rows.uptoBulkAll]
    omega
  | x :: r, i + 1, d, h => by
    rw [List.getElem?_cons_succ] at h
    have := bulk_part h
    simp only [Rows.uptoBulkAll]
    omega
theorem bulk_texts (H : Type) : ∀ l : List ByteArray, Rows.uptoBulkAll (l.map fun x => DataW.lit (H := H) (.string x.data.toList)) = textsLen l
  | [] => rfl
  | x :: r => by
    have e : x.data.toList.length = x.size := by rw [Array.length_toList]; rfl
    simp only [List.map_cons, Rows.uptoBulkAll, Rows.uptoBulk, textsLen, bulk_texts H r, e]
    omega
theorem bulk_str (H : Type) (x : ByteArray) : Rows.uptoBulk (DataW.lit (H := H) (.string x.data.toList)) = x.size + 1 := by
  have e : x.data.toList.length = x.size := by rw [Array.length_toList]; rfl
  simp only [Rows.uptoBulk, e]

section
variable {W : World} {H : Type} {enc : TypeId × Value → H} {fuel : Nat} {cs : List Value} {x : DataW H × List MemPlace}
theorem open_texts_c {t e : TypeId} (ht : Try.prog.underlying t = some (.slice e)) (he : Try.prog.underlying e = some .string) (hc1 : Try.prog.cellsOf e = 1)
    (h : DataW.trod enc Try.prog W 0 (fun _ => true) true fuel t cs = some x) :
    ∃ (l : List ByteArray) (A : Option Addr) (cap : Nat), cs = [.slice A l.length cap] ∧ Strs W A l ∧ textsLen l < Rows.uptoBulk x.1 := by
  rcases open_slice ht h with ⟨hcs, rfl⟩ | ⟨a, len', cap', m, n, D, Pl, hcs, _, hl, hm, hmm, rfl, hi⟩
  · exact ⟨[], none, 0, hcs, fun h => by simp at h, by simp [textsLen, Rows.uptoBulk]⟩
  · have hlm : len' ≤ m := by simp at hmm; omega
    have key : ∀ i, i < len' → ∃ x : ByteArray, D i = .lit (.string x.data.toList) ∧ W.cell? (a.add i) = some (.string x) := by
      intro i hi'
      obtain ⟨cs', hc, ht'⟩ := hi i (by omega)
      rw [hc1] at hc
      obtain ⟨_, hcl, hat⟩ := World.cells?_some hc
      obtain ⟨s, q, hx, b⟩ := DataW.trod_string he ht'
      subst q
      have := hat 0 (by omega)
      simp only [Nat.mul_one] at this
      refine ⟨s, (Prod.mk.inj hx).1, ?_⟩
      simpa [Addr.add] using this
    obtain ⟨l, hll, hp⟩ := list_of key
    subst hll
    refine ⟨l, some a, cap', hcs, rowIn_of _ fun i x hx => (hp i x hx).2, ?_⟩
    have hD : (List.range l.length).map D = l.map fun x => DataW.lit (.string x.data.toList) := by
      apply List.ext_getElem?
      intro i
      by_cases hi : i < l.length
      · have h1 : l[i]? = some l[i] := List.getElem?_eq_getElem hi
        rw [List.getElem?_map, List.getElem?_map, h1, List.getElem?_range hi, Option.map_some, Option.map_some, (hp i _ h1).1]
      · rw [List.getElem?_eq_none (by simp; omega), List.getElem?_eq_none (by simp; omega)]
    simp only [Rows.uptoBulk]
    rw [hD, bulk_texts]
    omega
theorem open_str_c {t : TypeId} (ht : Try.prog.underlying t = some .string) (h : DataW.trod enc Try.prog W 0 (fun _ => true) true fuel t cs = some x) :
    ∃ s : ByteArray, cs = [.string s] ∧ s.size < Rows.uptoBulk x.1 := by
  obtain ⟨s, hs, rfl, _⟩ := DataW.trod_string ht h
  exact ⟨s, hs, by rw [bulk_str]; omega⟩

theorem twelve {α : Type} : ∀ l : List α, l.length = 12 → ∃ e0 e1 e2 e3 e4 e5 e6 e7 e8 e9 e10 e11, l = [e0, e1, e2, e3, e4, e5, e6, e7, e8, e9, e10, e11]
  | [e0, e1, e2, e3, e4, e5, e6, e7, e8, e9, e10, e11], _ => ⟨e0, e1, e2, e3, e4, e5, e6, e7, e8, e9, e10, e11, rfl⟩

set_option maxRecDepth 100000 in
theorem open_data_c (hf : DataW.trod enc Try.prog W 0 (fun _ => true) true fuel 61 cs = some x) :
    ∃ (d : Dt) (A : Option Addr) (cap : Nat), cs = (d.cells (.slice A d.texts.length cap)).toList ∧ d.ok ∧ Strs W A d.texts ∧ d.light < Rows.uptoBulk x.1 := by
  obtain ⟨ys, n, _, hxx, hl, hyl, hff⟩ := DataW.trod_struct Try.underlying61 hf
  have hc : Try.prog.cellsOf 61 = 12 := by kernel_rfl
  have c3 : Try.prog.cellsOf 57 = 3 := by kernel_rfl
  have c1 : Try.prog.cellsOf 4 = 1 := by kernel_rfl
  have c64 : Try.prog.cellsOf 55 = 1 := by kernel_rfl
  have c32 : Try.prog.cellsOf 54 = 1 := by kernel_rfl
  have cN : Try.prog.cellsOf 23 = 1 := by kernel_rfl
  have cS : Try.prog.cellsOf 9 = 1 := by kernel_rfl
  have cT : Try.prog.cellsOf 59 = 1 := by kernel_rfl
  have c5 : Try.prog.cellsOf 58 = 5 := by kernel_rfl
  rw [hc] at hl
  change ys.length = 6 at hyl
  obtain ⟨e0, e1, e2, e3, e4, e5, e6, e7, e8, e9, e10, e11, hcs⟩ := twelve _ hl
  rw [hcs] at hff
  have t0 : DataW.trod enc Try.prog W 0 (fun _ => true) true n 57 (([e0, e1, e2, e3, e4, e5, e6, e7, e8, e9, e10, e11].drop 0).take (Try.prog.cellsOf 57)) = ys[0]? := hff 0 _ rfl
  rw [c3, List.getElem?_eq_getElem (by omega : 0 < ys.length)] at t0
  obtain ⟨zs, m, _, _, _, hzl, hzz⟩ := DataW.trod_struct Try.underlying57 t0
  change zs.length = 3 at hzl
  have u0 : DataW.trod enc Try.prog W 0 (fun _ => true) true m 4 (((([e0, e1, e2, e3, e4, e5, e6, e7, e8, e9, e10, e11].drop 0).take 3).drop 0).take (Try.prog.cellsOf 4)) = zs[0]? := hzz 0 _ rfl
  rw [c1, List.getElem?_eq_getElem (by omega : 0 < zs.length)] at u0
  obtain ⟨six, s0, _⟩ := DataW.trod_bool Try.underlying4 u0
  have u1 : DataW.trod enc Try.prog W 0 (fun _ => true) true m 55 (((([e0, e1, e2, e3, e4, e5, e6, e7, e8, e9, e10, e11].drop 0).take 3).drop 1).take (Try.prog.cellsOf 55)) = zs[1]? := hzz 1 _ rfl
  rw [c64, List.getElem?_eq_getElem (by omega : 1 < zs.length)] at u1
  obtain ⟨hi, s1, _, x1⟩ := DataW.trod_int Try.underlying55 u1
  have y1 := bounds_u64 x1
  have u2 : DataW.trod enc Try.prog W 0 (fun _ => true) true m 55 (((([e0, e1, e2, e3, e4, e5, e6, e7, e8, e9, e10, e11].drop 0).take 3).drop 2).take (Try.prog.cellsOf 55)) = zs[2]? := hzz 2 _ rfl
  rw [c64, List.getElem?_eq_getElem (by omega : 2 < zs.length)] at u2
  obtain ⟨lo, s2, _, x2⟩ := DataW.trod_int Try.underlying55 u2
  have y2 := bounds_u64 x2
  have t1 : DataW.trod enc Try.prog W 0 (fun _ => true) true n 23 (([e0, e1, e2, e3, e4, e5, e6, e7, e8, e9, e10, e11].drop 3).take (Try.prog.cellsOf 23)) = ys[1]? := hff 1 _ rfl
  rw [cN, List.getElem?_eq_getElem (by omega : 1 < ys.length)] at t1
  obtain ⟨nm, q3, r3⟩ := open_str_c Try.underlying23 t1
  have t2 : DataW.trod enc Try.prog W 0 (fun _ => true) true n 23 (([e0, e1, e2, e3, e4, e5, e6, e7, e8, e9, e10, e11].drop 4).take (Try.prog.cellsOf 23)) = ys[2]? := hff 2 _ rfl
  rw [cN, List.getElem?_eq_getElem (by omega : 2 < ys.length)] at t2
  obtain ⟨ml, q4, r4⟩ := open_str_c Try.underlying23 t2
  have t3 : DataW.trod enc Try.prog W 0 (fun _ => true) true n 58 (([e0, e1, e2, e3, e4, e5, e6, e7, e8, e9, e10, e11].drop 5).take (Try.prog.cellsOf 58)) = ys[3]? := hff 3 _ rfl
  rw [c5, List.getElem?_eq_getElem (by omega : 3 < ys.length)] at t3
  obtain ⟨vs, m2, _, _, _, hvl, hvv⟩ := DataW.trod_array Try.underlying58 t3
  have v0 := hvv 0 (by decide)
  rw [c32, List.getElem?_eq_getElem (by omega : 0 < vs.length)] at v0
  obtain ⟨n0, p0, _, z0⟩ := DataW.trod_int Try.underlying54 v0
  have o0 := bounds_u32 z0
  have v1 := hvv 1 (by decide)
  rw [c32, List.getElem?_eq_getElem (by omega : 1 < vs.length)] at v1
  obtain ⟨n1, p1, _, z1⟩ := DataW.trod_int Try.underlying54 v1
  have o1 := bounds_u32 z1
  have v2 := hvv 2 (by decide)
  rw [c32, List.getElem?_eq_getElem (by omega : 2 < vs.length)] at v2
  obtain ⟨n2, p2, _, z2⟩ := DataW.trod_int Try.underlying54 v2
  have o2 := bounds_u32 z2
  have v3 := hvv 3 (by decide)
  rw [c32, List.getElem?_eq_getElem (by omega : 3 < vs.length)] at v3
  obtain ⟨n3, p3, _, z3⟩ := DataW.trod_int Try.underlying54 v3
  have o3 := bounds_u32 z3
  have v4 := hvv 4 (by decide)
  rw [c32, List.getElem?_eq_getElem (by omega : 4 < vs.length)] at v4
  obtain ⟨n4, p4, _, z4⟩ := DataW.trod_int Try.underlying54 v4
  have o4 := bounds_u32 z4
  have t4 : DataW.trod enc Try.prog W 0 (fun _ => true) true n 59 (([e0, e1, e2, e3, e4, e5, e6, e7, e8, e9, e10, e11].drop 10).take (Try.prog.cellsOf 59)) = ys[4]? := hff 4 _ rfl
  rw [cT, List.getElem?_eq_getElem (by omega : 4 < ys.length)] at t4
  obtain ⟨l, A, cap, q10, hst, r10⟩ := open_texts_c Try.underlying59 Try.underlying9 cS t4
  have t5 : DataW.trod enc Try.prog W 0 (fun _ => true) true n 9 (([e0, e1, e2, e3, e4, e5, e6, e7, e8, e9, e10, e11].drop 11).take (Try.prog.cellsOf 9)) = ys[5]? := hff 5 _ rfl
  rw [cS, List.getElem?_eq_getElem (by omega : 5 < ys.length)] at t5
  obtain ⟨rw_, q11, r11⟩ := open_str_c Try.underlying9 t5
  simp only [List.drop_succ_cons, List.drop_zero, List.take_succ_cons, List.take_zero, List.cons.injEq, and_true, Nat.zero_mul, Nat.one_mul, Nat.reduceMul] at s0 s1 s2 q3 q4 p0 p1 p2 p3 p4 q10 q11
  try simp at s0
  try simp at s1
  try simp at s2
  try simp at q3
  try simp at q4
  try simp at p0
  try simp at p1
  try simp at p2
  try simp at p3
  try simp at p4
  try simp at q10
  try simp at q11
  subst s0 s1 s2 q3 q4 p0 p1 p2 p3 p4 q10 q11
  obtain ⟨hi, rfl⟩ : ∃ k : Nat, hi = k := ⟨hi.toNat, by omega⟩
  obtain ⟨lo, rfl⟩ : ∃ k : Nat, lo = k := ⟨lo.toNat, by omega⟩
  obtain ⟨n0, rfl⟩ : ∃ k : Nat, n0 = k := ⟨n0.toNat, by omega⟩
  obtain ⟨n1, rfl⟩ : ∃ k : Nat, n1 = k := ⟨n1.toNat, by omega⟩
  obtain ⟨n2, rfl⟩ : ∃ k : Nat, n2 = k := ⟨n2.toNat, by omega⟩
  obtain ⟨n3, rfl⟩ : ∃ k : Nat, n3 = k := ⟨n3.toNat, by omega⟩
  obtain ⟨n4, rfl⟩ : ∃ k : Nat, n4 = k := ⟨n4.toNat, by omega⟩
  refine ⟨⟨six, hi, lo, nm, ml, n0, n1, n2, n3, n4, l, rw_⟩, A, cap, hcs, ⟨?_, ?_, ?_⟩, hst, ?_⟩
  · show hi < _
    omega
  · show lo < _
    omega
  · intro i
    match i with
    | 0 => show n0 < _; omega
    | 1 => show n1 < _; omega
    | 2 => show n2 < _; omega
    | 3 => show n3 < _; omega
    | i + 4 => show n4 < _; omega
  · subst hxx
    show rw_.size + nm.size + ml.size + textsLen l < _
    obtain ⟨a0, a1, a2, a3, a4, a5, rfl⟩ : ∃ a0 a1 a2 a3 a4 a5, ys = [a0, a1, a2, a3, a4, a5] := by
      match ys, hyl with
      | [a0, a1, a2, a3, a4, a5], _ => exact ⟨a0, a1, a2, a3, a4, a5, rfl⟩
    simp only [List.getElem_cons_succ, List.getElem_cons_zero] at r3 r4 r10 r11
    simp only [List.map_cons, List.map_nil, Rows.uptoBulk, Rows.uptoBulkAll]
    omega
end
set_option maxRecDepth 100000 in
theorem light_in {W : World} {A : Option Addr} {d : Dt} (hok : d.ok) (hs : Strs W A d.texts) (hl : d.light ≤ 1048576) : DtIn W A d := by
  obtain ⟨h1, h2, h3⟩ := hok
  have hq : d.light = d.raw.size + d.name.size + d.mail.size + textsLen d.texts := rfl
  have := texts_len_le d.texts
  exact ⟨h1, h2, h3, hs, by omega, by omega⟩
set_option maxRecDepth 100000 in
theorem open_data {W : World} {H : Type} {enc : TypeId × Value → H} {v : Value} {base : Nat} {d : DataW H} {p : List MemPlace}
    (hv : Value.okWide Try.prog W .any base 61 v) (h : DataW.Trod enc Try.prog W 0 (fun _ => true) true 61 v d p) (hb : Rows.uptoBulk d ≤ 1048576) : ∃ (x : Dt) (A : Option Addr) (cap : Nat), v = x.val (.slice A x.texts.length cap) ∧ DtIn W A x ∧ x.light ≤ 1048576 := by
  obtain ⟨cs, rfl, _⟩ := okWide_struct Try.underlying61 hv
  obtain ⟨fuel, hf⟩ := h
  obtain ⟨x, A, cap, h1, h2, h3, h4⟩ := open_data_c hf
  dsimp only at h4
  refine ⟨x, A, cap, ?_, light_in h2 h3 (by omega), by omega⟩
  have : cs.toList = _ := h1
  unfold Dt.val
  exact congrArg Value.agg (Array.toList_inj.1 this)
set_option maxRecDepth 100000 in
theorem open_str_u {W : World} {H : Type} {enc : TypeId × Value → H} {v : Value} {base : Nat} {d : DataW H} {p : List MemPlace} {t : TypeId} (ht : Try.prog.underlying t = some .string)
    (hv : Value.okWide Try.prog W .any base t v) (h : DataW.Trod enc Try.prog W 0 (fun _ => true) true t v d p) (hb : Rows.uptoBulk d ≤ 1048576) : ∃ s : ByteArray, v = .string s ∧ s.size ≤ 1048576 := by
  obtain ⟨s, rfl, rfl, _, _⟩ := Go.ChangeMaps.open_string ht hv h
  refine ⟨s, rfl, ?_⟩
  rw [bulk_str] at hb
  omega
set_option maxRecDepth 100000 in
theorem open_texts_u {W : World} {H : Type} {enc : TypeId × Value → H} {v : Value} {base : Nat} {d : DataW H} {p : List MemPlace}
    (hv : Value.okWide Try.prog W .any base 59 v) (h : DataW.Trod enc Try.prog W 0 (fun _ => true) true 59 v d p) (hb : Rows.uptoBulk d ≤ 1048576) :
    ∃ (l : List ByteArray) (A : Option Addr) (cap : Nat), v = .slice A l.length cap ∧ Strs W A l ∧ textsLen l ≤ 1048576 := by
  obtain ⟨A, len, cap, rfl⟩ := okWide_slice Try.underlying59 hv
  obtain ⟨fuel, hf⟩ := h
  obtain ⟨l, A', cap', hc, h2, h3⟩ := open_texts_c Try.underlying59 Try.underlying9 (by kernel_rfl) hf
  simp only [Value.cells, List.cons.injEq, and_true] at hc
  refine ⟨l, A', cap', hc, h2, ?_⟩
  dsimp only at h3
  omega
end Go.Proofs.Ytncfdfgcnblicaa

/-
  A NEW PACKER, AND WHAT STOOD BEFORE IT.
-/
namespace Go.Proofs.Ytncfdfgcnblicaa
set_option linter.unusedVariables false
set_option linter.unusedSimpArgs false
open Go.RowKit

section
variable {w0 w w' : World} {p : Nat} {F F' : Nat → Prop} {y y' : Pk}
end
end Go.Proofs.Ytncfdfgcnblicaa
