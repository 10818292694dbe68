/-
  TEXTS OF THIS CLAIM, TOGETHER: Itr, Ors, Fop, Fow, Fom, Ite, Fok.
-/
import Derived.RangeFuncGives
import Derived.Maps.AppendAt
import Derived.Sort.KeysCollected
import Derived.Shelf.Abstract
import Derived.OwnWalkIn
import Derived.TacticsInMore
import Derived.RegionIn
import Derived.LoopNIn
import Derived.LoopIn
import Derived.Test.YtncfdfgcnblicaaBunD
import Derived.Test.YtncfdfgcnblicaaBunM
import Derived.Test.YtncfdfgcnblicaaBunB
import Derived.Deep.MidRow
import Derived.Test.YtncfdfgcnblicaaBunA
import Derived.Deep.DeepCutAuto
import Derived.Outline
import Derived.Test.YtncfdfgcnblicaaBunE
import Derived.Deep.LoopGhost
/-
  ITERATORS: slices.AppendSeq, slices.Collect at strings, against whatever iterator value; the labels of a name, one by one (name.each); name.Labels. (slices' part: a worked proof of the kit, turned to this program.)
-/
namespace Go.Proofs.Ytncfdfgcnblicaa
open Go.RowKit Go.Maps Go.Sort Go.Shelf
set_option linter.unusedVariables false
set_option linter.unusedSimpArgs false

theorem Try.infoStr2 : (Try.prog.info? 9).map (fun i => (i.zero, i.size, i.bytes)) = some (some (.string ⟨#[]⟩), 1, 16) := by kernel_rfl
def ap_Assign : Code := (Code.region 2 #[{ dst := some 5, op := Op.assign (Operand.tmp 7), type := 9, pos := "iter.go:51", after := #[], guard := none }] false)
def ap_Body : Code := (Code.block 1 (Code.region 3 #[{ dst := some 8, op := Op.load 59 (Operand.tmp 2), type := 59, pos := "iter.go:52", after := #[], guard := none }, { dst := some 9, op := Op.move (Operand.tmp 5), type := 9, pos := "iter.go:52", after := #[], guard := none }, { dst := some 10, op := Op.buildSlice 59 1 #[(0, Operand.tmp 9)], type := 59, pos := "iter.go:52", after := #[{ on := 1, ground := Ground.data }], guard := none }, { dst := some 11, op := Op.call { callee := Callee.builtin Builtin.append, args := #[Operand.tmp 8, Operand.tmp 10], argTypes := #[59, 59] }, type := 59, pos := "iter.go:52", after := #[{ on := 0, ground := Ground.data }, { on := 2, ground := Ground.data }], guard := none }, { dst := none, op := Op.store 59 (Operand.tmp 2) (Operand.tmp 11), type := 0, pos := "iter.go:52", after := #[{ on := 3, ground := Ground.data }, { on := 3, ground := Ground.chain }, { on := 0, ground := Ground.phase }, { on := 1, ground := Ground.phase }, { on := 2, ground := Ground.phase }, { on := 3, ground := Ground.phase }], guard := none }] false))
/-- The loop's record: AppendSeq's temporaries as they stood at the entering: 's' boxed in block Bs; sv: the iterator's value. -/
def ap_Rec (fn : FuncId) (sv : Value) (Bs D : Nat) (st : LoopState) (pend : Option Code) : Loop :=
  { state := st, pending := pend, fn, tmps := #[.slice none 0 0, sv, .pointer (some ⟨Bs, 0, none⟩), undef, .slice none 0 0, undef, sv, undef, undef, undef, undef, undef, undef], params := #[7], assign := ap_Assign, body := ap_Body, defers := D }

/-- BETWEEN TWO ROUNDS: the box holds a slice that owns, in a block of the call's own, what has come so far; IT IS nil JUST AS LONG AS NOTHING HAS COME; nothing that lay before the call has turned. -/
structure ApAtS (w0 : World) (fn : FuncId) (sv : Value) (Bs l D : Nat) (ss : List (List UInt8)) (W : World) : Prop where
  box : ∃ v, W.heap[Bs]? = some (.cells #[v] 59 (0, 0)) ∧ W.ownsRow w0.heap.size 9 1 v ss.length (ss.map encStr) ∧ (v = .slice none 0 0 ↔ ss = [])
  L : W.heap[l]? = some (.loop (ap_Rec fn sv Bs D .ready none))
  K : W.heap[D]? = some (.deferred (some []))
  below : Below w0.heap.size w0 W

/-- A slice's own row is no walk's object: it abides an iterator's step. -/
theorem ownsRow_abides {W W' : World} {row : Option Nat} {base : Nat} {e : TypeId} {size : Nat} {v : Value} {k : Nat} {xs : List Value} (h : W.ownsRow base e size v k xs) (hg : W.grownBy W' row)
    (hrow : ∀ r, row = some r → ∃ o : Obj, W.heap[r]? = some o ∧ o.isWalk = true) : W'.ownsRow base e size v k xs := by
  refine h.kept hg ?_
  rcases h.2 with ⟨rfl, _⟩ | ⟨g, cap, cur, rfl, _, hgb, _⟩
  · exact .inl rfl
  · refine .inr fun e' => ?_
    obtain ⟨o, ho, hw⟩ := hrow g (by simpa [Value.ownBlock] using e'.symm)
    rw [hgb] at ho; cases ho; cases hw

theorem ap__abides (w0 : World) (fn : FuncId) (sv : Value) (Bs l D B : Nat) (hB : w0.heap.size ≤ B) : AbidesFrom B (ApAtS w0 fn sv Bs l D) := fun s W W' row h hg hrow => by
  have hrow' : ∀ r, row = some r → ∃ o : Obj, W.heap[r]? = some o ∧ o.isWalk = true := fun r e => (hrow r e).2
  obtain ⟨v, hv, hr, hn⟩ := h.box
  exact ⟨⟨v, (grownBy_keeps hg hrow' hv rfl).trans hv, ownsRow_abides hr hg hrow', hn⟩, (grownBy_keeps hg hrow' h.L rfl).trans h.L, (grownBy_keeps hg hrow' h.K rfl).trans h.K,
    h.below.grown hg h.below.size (fun k e => Nat.le_trans hB (hrow k e).1)⟩

theorem grownBy_putObj (W : World) (l : Nat) (o : Obj) : W.grownBy (W.putObj l o) (some l) :=
  ⟨rfl, rfl, rfl, by simp, fun k _ hk => World.putObj_heap_other (fun e => hk (by rw [e]))⟩
theorem grownBy_setCell0 (W : World) (b : Nat) (v : Value) : W.grownBy (W.setCell ⟨b, 0, none⟩ v) (some b) :=
  ⟨rfl, rfl, rfl, (KeepsWalks.setCell W _ v).size, fun k _ hk => Below.heap_setCell _ _ _ k (fun e => hk (by rw [e]))⟩
/-- A slice's own row is not a block that holds something else than cells of its element's type. -/
theorem ownsRow_ne {W : World} {base : Nat} {e : TypeId} {size : Nat} {v : Value} {k : Nat} {xs : List Value} (h : W.ownsRow base e size v k xs) {j : Nat} {o : Obj} (hj : W.heap[j]? = some o) (hno : ∀ cur, o ≠ .cells cur e (0, 0)) :
    v.ownBlock = none ∨ v.ownBlock ≠ some j := by
  rcases h.2 with ⟨rfl, _⟩ | ⟨g, cap, cur, rfl, _, hgb, _⟩
  · exact .inl rfl
  · refine .inr fun e' => ?_
    have : g = j := by simpa [Value.ownBlock] using e'
    subst this; rw [hgb] at hj; cases hj; exact hno cur rfl
theorem cell_of_box {W : World} {B : Nat} {v : Value} {t : TypeId} (h : W.heap[B]? = some (.cells #[v] t (0, 0))) : W.cell? ⟨B, 0, none⟩ = some v ∧ W.frozen? ⟨B, 0, none⟩ = false := by
  constructor <;> simp [World.cell?, World.frozen?, h]

theorem heap_setCell_box {W : World} {B : Nat} {v : Value} {t : TypeId} (v' : Value) (h : W.heap[B]? = some (.cells #[v] t (0, 0))) : (W.setCell ⟨B, 0, none⟩ v').heap[B]? = some (.cells #[v'] t (0, 0)) := by
  obtain ⟨hlt, hk⟩ := Array.getElem?_eq_some_iff.1 h
  show (W.heap.modify B _)[B]? = _
  rw [Array.getElem?_eq_getElem (by rw [Array.size_modify]; exact hlt), Array.getElem_modify_self, hk]
  rfl
theorem ownsRow_not_walk {W : World} {base : Nat} {e : TypeId} {size : Nat} {v : Value} {k : Nat} {xs : List Value} (h : W.ownsRow base e size v k xs) : ∀ (j : Nat) (o : Obj), v.ownBlock = some j → W.heap[j]? = some o → o.isWalk = false := by
  intro j o hj ho
  rcases h.2 with ⟨rfl, _⟩ | ⟨g, cap, cur, rfl, _, hgb, _⟩
  · simp [Value.ownBlock] at hj
  · have : g = j := by simpa [Value.ownBlock] using hj
    subst this; rw [hgb] at ho; cases ho; rfl


set_option maxRecDepth 100000 in
set_option maxHeartbeats 2000000 in
theorem ap_Yield (F : Fence) (m : Nat) (w0 : World) (fn : FuncId) (hfn : F.fn fn) (sv : Value) (Bs l D : Nat) (hBl : Bs ≠ l) (hDl : D ≠ l) (hDB : D ≠ Bs) (h0B : w0.heap.size ≤ Bs) (h0l : w0.heap.size ≤ l)
    (N : Nat) (hN : N ≤ maxLen) (hNb : N * 16 ≤ 140737488355328) (ss : List (List UInt8)) (x : List UInt8) (W : World) (h : ApAtS w0 fn sv Bs l D ss W) (hlen : ss.length < N) :
    YieldAt F m Try.prog l #[encStr x] W fun e W' => e = .returned (.bool true) ∧ ApAtS w0 fn sv Bs l D (ss ++ [x]) W' ∧ KeepsWalks W W' := by
  obtain ⟨i0, hi, hz0, hz1, hz2⟩ := info_parts Try.infoStr2
  obtain ⟨v, hv, hrow, _⟩ := h.box
  refine ⟨fn, #[.slice none 0 0, sv, .pointer (some ⟨Bs, 0, none⟩), undef, .slice none 0 0, undef, sv, encStr x, undef, undef, undef, undef, undef], ap_Assign, ap_Body, by simpa [ap_Rec] using run_yield (P := Try.prog) (args := #[encStr x]) h.L rfl, roundIn_of_wpIn hfn ?_⟩
  have hl : l < W.heap.size := (Array.getElem?_eq_some_iff.1 h.L).1
  have hbr := run_beginRound (P := Try.prog) h.L rfl
  obtain ⟨W2, hW2⟩ : ∃ W2, W.putObj l (.loop { ap_Rec fn sv Bs D .ready none with state := .busy }) = W2 := ⟨_, rfl⟩
  rw [hW2] at hbr
  have hg2 : W.grownBy W2 (some l) := by rw [← hW2]; exact grownBy_putObj _ _ _
  have hk2 : KeepsWalks W W2 := by rw [← hW2]; exact KeepsWalks.putObj _ h.L rfl
  have hv2 : W2.heap[Bs]? = some (.cells #[v] 59 (0, 0)) := by rw [← hW2]; exact (World.putObj_heap_other hBl).trans hv
  have hK2 : W2.heap[D]? = some (.deferred (some [])) := by rw [← hW2]; exact (World.putObj_heap_other hDl).trans h.K
  have hL2 : W2.heap[l]? = some (.loop { ap_Rec fn sv Bs D .ready none with state := .busy }) := by rw [← hW2]; exact World.putObj_heap_same hl
  have hrow2 : W2.ownsRow w0.heap.size 9 1 v ss.length (ss.map encStr) := hrow.kept hg2 (ownsRow_ne hrow h.L (fun cur e => by cases e))
  have hb2 : Below w0.heap.size w0 W2 := h.below.grown hg2 h.below.size (fun k e => by cases e; exact h0l)
  obtain ⟨hc2, hf2⟩ := cell_of_box hv2
  have hBlt : Bs < W2.heap.size := (Array.getElem?_eq_some_iff.1 hv2).1
  have hl2 : l < W2.heap.size := (Array.getElem?_eq_some_iff.1 hL2).1
  have hDlt : D < W2.heap.size := (Array.getElem?_eq_some_iff.1 hK2).1
  have ne_of : ∀ {j : Nat} {o : Obj}, W2.heap[j]? = some o → (∀ cur, o ≠ .cells cur 9 (0, 0)) → some j ≠ v.ownBlock := fun hj hno => by
    rcases ownsRow_ne hrow2 hj hno with e | e
    · rw [e]; simp
    · exact fun e' => e e'.symm
  clear hW2
  unfold ap_Assign
  gi_wp2_with (rw [Oper.semAt_eq _ _ _ (fun c h => by cases h)]; go_simp; try go_bits)
  unfold ap_Body
  gi_wp2_with (first
    | (gi_at_builtin; refine wpListIn_append_own _ rfl _ _ 59 rfl w0.heap.size 9 i0 (.string ⟨#[]⟩) 1 16 Try.underlying59 hi hz0 hz1 hz2 rfl (by decide) _ _ _ rfl (hrow2.alloc _) ⟨W2.heap.size, 0, none⟩ 1 1 [encStr x] rfl rfl (cell_one_new _ _ _) (by simp [Value.oneCell', encStr]) (by omega) (by omega) (by have := hb2.size; simp; omega) ?_; intro v' w3 hown' hg3 hnil3
       have hv3 : w3.heap[Bs]? = some (.cells #[v] 59 (0, 0)) := (hg3.block Bs (by simp; omega) (ne_of hv2 (fun cur e => by cases e))).trans ((Below.heap_alloc _ _ Bs hBlt).trans hv2)
       obtain ⟨hc3, hf3⟩ := cell_of_box hv3
       obtain ⟨g', cap', cur', rfl, hbase', hgb', hr1, hr2, hr3, hr4⟩ : ∃ g' cap' cur', v' = .slice (some ⟨g', 0, none⟩) (ss.length + 1) cap' ∧ w0.heap.size ≤ g' ∧ w3.heap[g']? = some (.cells cur' 9 (0, 0)) ∧ ss.length + 1 ≤ cap' ∧ cap' ≤ maxLen ∧ cur'.size = cap' * 1 ∧ cur'.toList.take ((ss.length + 1) * 1) = ss.map encStr ++ [encStr x] := by
         rcases hown'.2 with ⟨_, h0⟩ | h'
         · exact absurd h0 (by omega)
         · exact h'
       go_frame)
    | (rw [Oper.semAt_eq _ _ _ (fun c h => by cases h)]; go_simp; try go_bits))
  have hg3' : (W2.alloc (.cells #[encStr x] 9)).grownBy w3 v.ownBlock := hg3
  have hL3 : w3.heap[l]? = some (.loop { ap_Rec fn sv Bs D .ready none with state := .busy }) := (hg3'.block l (by simp; omega) (ne_of hL2 (fun cur e => by cases e))).trans ((Below.heap_alloc _ _ l hl2).trans hL2)
  have hK3 : w3.heap[D]? = some (.deferred (some [])) := (hg3'.block D (by simp; omega) (ne_of hK2 (fun cur e => by cases e))).trans ((Below.heap_alloc _ _ D hDlt).trans hK2)
  obtain ⟨w4, hw4⟩ : ∃ w4, w3.setCell ⟨Bs, 0, none⟩ (.slice (some ⟨g', 0, none⟩) (ss.length + 1) cap') = w4 := ⟨_, rfl⟩
  rw [hw4]
  have hg4 : w3.grownBy w4 (some Bs) := by rw [← hw4]; exact grownBy_setCell0 _ _ _
  have hv4 : w4.heap[Bs]? = some (.cells #[.slice (some ⟨g', 0, none⟩) (ss.length + 1) cap'] 59 (0, 0)) := by rw [← hw4]; exact heap_setCell_box _ hv3
  have hL4 : w4.heap[l]? = some (.loop { ap_Rec fn sv Bs D .ready none with state := .busy }) := (hg4.block l (Array.getElem?_eq_some_iff.1 hL3).1 (fun e => hBl (by cases e; rfl))).trans hL3
  have hK4 : w4.heap[D]? = some (.deferred (some [])) := (hg4.block D (Array.getElem?_eq_some_iff.1 hK3).1 (fun e => hDB (by cases e; rfl))).trans hK3
  have hrow4 := hown'.kept hg4 (ownsRow_ne hown' hv3 (fun cur e => by cases e))
  have hl4 : l < w4.heap.size := (Array.getElem?_eq_some_iff.1 hL4).1
  have hb3 : Below w0.heap.size w0 w3 := (hb2.alloc hb2.size _).grown hg3' (by have := hb2.size; simp; omega) (fun k e => (hrow2.lt k e).1)
  have hb4 : Below w0.heap.size w0 w4 := hb3.grown hg4 hb3.size (fun k e => by cases e; exact h0B)
  have hk4 : KeepsWalks W w4 := ((hk2.trans (KeepsWalks.alloc _ _)).trans (KeepsWalks.of_grownBy hg3' (ownsRow_not_walk (hrow2.alloc _)))).trans (by rw [← hw4]; exact KeepsWalks.setCell _ _ _)
  clear hw4
  refine ⟨_, _, run_endRound none hL4, rfl, ⟨⟨_, (World.putObj_heap_other hBl).trans hv4, ?_, by simp⟩, World.putObj_heap_same hl4, (World.putObj_heap_other hDl).trans hK4, hb4.grown (grownBy_putObj _ _ _) hb4.size (fun k e => by cases e; exact h0l)⟩, hk4.trans (KeepsWalks.putObj _ hL4 rfl)⟩
  have := hrow4.kept (grownBy_putObj w4 l (.loop { { ap_Rec fn sv Bs D .ready none with state := .busy } with state := if (none : Option Code).isNone then .ready else .done, pending := none })) (ownsRow_ne hrow4 hL4 (fun cur e => by cases e))
  simpa using this


set_option maxRecDepth 100000 in
set_option maxHeartbeats 2000000 in
/-- **slices.AppendSeq(nil, seq), AGAINST WHATEVER ITERATOR VALUE THAT 'SeqGives'**: it hands back a slice that owns, in a block of the call's own, JUST WHAT THE ITERATOR GAVE, IN THAT ORDER; nil JUST WHERE IT GAVE NOTHING (as Go: 'slices.Collect' of nothing is nil); nothing that lay before the call has turned. -/
theorem ap_pendSeq_in (F : Fence) (n : Nat) (h11 : F.fn 90) (hro : F.round = none) (hn : 2 ≤ n) (g : Nat) (lb : Array Value) (hFg : F.fn g) (eg : ∀ args w, (callFunc g args).run Try.prog w = .ok (.enter g args) w)
    (S : List (List UInt8) → Prop) (N : Nat) (hN : N ≤ maxLen) (hNb : N * 16 ≤ 140737488355328) (w : World) (hseq : SeqGives F (n - 1) Try.prog g lb encStr S N w) :
    CallsIn F n Try.prog 90 #[.slice none 0 0, .func (.func g) #[] lb] w fun e w' => ∃ (v : Value) (ss : List (List UInt8)), e = .returned v ∧ S ss ∧ w'.ownsRow w.heap.size 9 1 v ss.length (ss.map encStr) ∧ (v = .slice none 0 0 ↔ ss = []) ∧ Below w.heap.size w w' := by
  have h1 : 1 ≤ n := by omega
  refine callsIn_of_wp_marks Try.func90 rfl h11 ?_ hro
  simp only [Try.ntmps90, List.size_toArray, List.length_cons, List.length_nil, Nat.reduceAdd, Nat.reduceSub, Array.replicate_succ, Array.replicate_zero, List.push_toArray, List.append_toArray, List.nil_append, List.cons_append]
  gi_wp2
  refine wpIn_rangeFunc ?_
  intro fn hfn
  rw [hro]
  obtain ⟨W0, hW0⟩ : ∃ W0, w.alloc (.cells #[.slice none 0 0] 59) = W0 := ⟨_, rfl⟩
  have hs0 : W0.heap.size = w.heap.size + 1 := by rw [← hW0]; simp
  have hv0 : W0.heap[w.heap.size]? = some (.cells #[.slice none 0 0] 59 (0, 0)) := by rw [← hW0]; exact World.alloc_heap_new w _
  have hb0 : Below w.heap.size w W0 := by rw [← hW0]; exact (Below.refl _ w).alloc (Nat.le_refl _) _
  rw [hW0]
  obtain ⟨W1, hW1⟩ : ∃ W1, (W0.alloc (.deferred (some []))).alloc (.loop (ap_Rec fn (.func (.func g) #[] lb) w.heap.size W0.heap.size .ready none)) = W1 := ⟨_, rfl⟩
  have hold : ∀ k, k < W0.heap.size → W1.heap[k]? = W0.heap[k]? := fun k hk => by
    rw [← hW1]; exact (Below.heap_alloc _ _ k (by simp; omega)).trans (Below.heap_alloc _ _ k hk)
  have hb1 : Below w.heap.size w W1 := by rw [← hW1]; exact (hb0.alloc hb0.size _).alloc (by have := hb0.size; simp; omega) _
  have hs1 : W1.heap.size = W0.heap.size + 2 := by rw [← hW1]; simp
  have hM : ApAtS w fn (.func (.func g) #[] lb) w.heap.size (W0.heap.size + 1) W0.heap.size [] W1 :=
    ⟨⟨_, (hold w.heap.size (by omega)).trans hv0, ⟨rfl, .inl ⟨rfl, rfl⟩⟩, by simp⟩,
     by rw [← hW1]; have := World.alloc_heap_new (W0.alloc (.deferred (some []))) (.loop (ap_Rec fn (.func (.func g) #[] lb) w.heap.size W0.heap.size .ready none)); rwa [World.size_alloc] at this,
     by rw [← hW1]; exact (Below.heap_alloc _ _ _ (by simp)).trans (World.alloc_heap_new W0 _), hb1⟩
  refine ⟨W0.heap.size + 1, [{ target := .collected W0.heap.size, args := #[] }], W1, { target := .fn (.func g) lb, args := #[.func (.yield (W0.heap.size + 1)) #[] #[]] }, W1, g,
    #[.func (.yield (W0.heap.size + 1)) #[] #[]] ++ lb, W1, ?_, ?_, ?_, ?_, fun _ => h1, ?_⟩
  · rw [← hW1]; exact run_enterLoop_outer _ _ _ _ _
  · simp [resolve, go_sem]
  · intro f' hf'; simp [Target.leads] at hf'; subst hf'; exact hFg
  · simp [invoke, go_sem, eg]
  · refine (hseq (W0.heap.size + 1) (ApAtS w fn (.func (.func g) #[] lb) w.heap.size (W0.heap.size + 1) W0.heap.size) W1 hb1 (ap__abides _ _ _ _ _ _ _ hb1.size)
      (fun pre x W hJ hl => ap_Yield F (n - 1 - 1) w fn hfn _ w.heap.size (W0.heap.size + 1) W0.heap.size (by omega) (by omega) (by omega) (Nat.le_refl _) (by omega) N hN hNb pre x W hJ hl) hM).mono ?_
    rintro e W2 ⟨⟨v0, rfl⟩, ss, hS, h2⟩
    obtain ⟨v, hv, hrow, hnil⟩ := h2.box
    have hend := run_endLoop (P := Try.prog) h2.L (by simp [ap_Rec])
    obtain ⟨W3, hW3⟩ : ∃ W3, W2.putObj (W0.heap.size + 1) (.loop { ap_Rec fn (.func (.func g) #[] lb) w.heap.size W0.heap.size .ready none with state := .exhausted }) = W3 := ⟨_, rfl⟩
    rw [hW3] at hend
    have hg3 : W2.grownBy W3 (some (W0.heap.size + 1)) := by rw [← hW3]; exact grownBy_putObj _ _ _
    have hv3 : W3.heap[w.heap.size]? = some (.cells #[v] 59 (0, 0)) := by rw [← hW3]; exact (World.putObj_heap_other (by omega)).trans hv
    have hK3 : W3.heap[W0.heap.size]? = some (.deferred (some [])) := by rw [← hW3]; exact (World.putObj_heap_other (by omega)).trans h2.K
    have hrow3 := hrow.kept hg3 (ownsRow_ne hrow h2.L (fun cur e => by cases e))
    have hb3 : Below w.heap.size w W3 := h2.below.grown hg3 h2.below.size (fun k e => by cases e; omega)
    obtain ⟨hc3, hf3⟩ := cell_of_box hv3
    clear hW3
    refine ⟨none, W3, hend, ?_⟩
    gi_wp2
    rw [← hs0]
    refine ⟨by simp, .inl ⟨_, _, rfl, run_takeDeferred hK3, ?_⟩⟩
    exact ⟨_, results_tmp rfl _ _ _, v, ss, rfl, hS, hrow3.kept (grownBy_putObj _ _ _) (ownsRow_ne hrow3 hK3 (fun cur e => by cases e)), hnil, hb3.grown (grownBy_putObj _ _ _) hb3.size (fun k e => by cases e; omega)⟩


set_option maxHeartbeats 1000000 in
/-- **slices.Collect(seq), AGAINST WHATEVER ITERATOR VALUE.** -/
theorem collect_in (F : Fence) (n : Nat) (h8 : F.fn 81) (h11 : F.fn 90) (hro : F.round = none) (hn : 3 ≤ n) (g : Nat) (lb : Array Value) (hFg : F.fn g) (eg : ∀ args w, (callFunc g args).run Try.prog w = .ok (.enter g args) w)
    (S : List (List UInt8) → Prop) (N : Nat) (hN : N ≤ maxLen) (hNb : N * 16 ≤ 140737488355328) (w : World) (hseq : SeqGives F (n - 1 - 1) Try.prog g lb encStr S N w) :
    CallsIn F n Try.prog 81 #[.func (.func g) #[] lb] w fun e w' => ∃ (v : Value) (ss : List (List UInt8)), e = .returned v ∧ S ss ∧ w'.ownsRow w.heap.size 9 1 v ss.length (ss.map encStr) ∧ (v = .slice none 0 0 ↔ ss = []) ∧ Below w.heap.size w w' := by
  have h1 : 1 ≤ n := by omega
  refine callsIn_of_wp Try.func81 rfl h8 ?_ hro
  simp only [Try.ntmps81, List.size_toArray, List.length_cons, List.length_nil, Nat.reduceAdd, Nat.reduceSub, Array.replicate_succ, Array.replicate_zero, List.push_toArray, List.append_toArray, List.nil_append, List.cons_append]
  gi_wp2_with (gi_at_call 90; refine (ap_pendSeq_in F (n - 1) h11 hro (by omega) g lb hFg eg S N hN hNb _ hseq).mono ?_; rintro e w' ⟨v, ss, rfl, hS, hrow, hnil, hb⟩)
  go_ret
  exact ⟨v, ss, rfl, hS, hrow, hnil, hb⟩

end Go.Proofs.Ytncfdfgcnblicaa

/-
  LAYER 24: a value put into an ordered map.
-/
namespace Go.Proofs.Ytncfdfgcnblicaa
open Go.RowKit Go.Maps Go.ChangeMaps Go.WideMaps
set_option linter.unusedVariables false
set_option linter.unusedSimpArgs false

/-- What stands behind a put: the book's block, the map, its keys, what was turned. -/
def SetPost (w : World) (p o : Nat) (T K E : TypeId) (cs : Array Value) (mb : Option Nat) (n : Nat) (g : Lit → Option Value) (kl : Lit) (v : Value) (KA : Option Addr) (keys' : List Value) (e : Ending) (w' : World) : Prop :=
  e = .returned (.tuple #[]) ∧ ∃ b n' KA' kc', Blk w' p T ((cs.setIfInBounds o (.map (some b))).setIfInBounds (o + 1) (.slice KA' keys'.length kc')) ∧ VMap w' K b n' (putM g kl v) ∧ n' ≤ n + 1 ∧
    w'.ownsRow 0 E 1 (.slice KA' keys'.length kc') keys'.length keys' ∧ (mb = some b ∨ (mb = none ∧ w.heap.size ≤ b)) ∧ (∀ k, rowOf KA' k → rowOf KA k ∨ w.heap.size ≤ k) ∧ Fr (fun k => k = p ∨ mb = some k ∨ rowOf KA k) w w'
set_option maxRecDepth 100000 in
set_option maxHeartbeats 4000000 in
theorem set1_new (p o : Nat) (T : TypeId) (cs : Array Value) (s : ByteArray) (q : Pn) (A : Option Addr) (cap : Nat) (w : World) (hb : Blk w p T cs) (h0 : cs[o]? = some (.map none)) (h1 : cs[o + 1]? = some (.slice none 0 0)) (hs : s.size ≤ 1000000) :
    Calls Try.prog 56 #[.pointer (some ⟨p, o, none⟩), .string s, .agg #[.int .u16 (q.id : Nat), .string q.q.1, .int .i64 q.q.2.1, .int .i64 q.q.2.2, .int .i64 q.sv, .int .i64 q.tr, .int .i64 q.dl, .slice A q.ws.length cap]] w (SetPost w p o T 9 9 cs none 0 (fun _ => none) (.string s.data.toList) (.agg #[.int .u16 (q.id : Nat), .string q.q.1, .int .i64 q.q.2.1, .int .i64 q.q.2.2, .int .i64 q.sv, .int .i64 q.tr, .int .i64 q.dl, .slice A q.ws.length cap]) none [.string s]) := by
  obtain ⟨i0, hi, hz0, hz1, hz2⟩ := info_parts Try.infoStr2
  have hsm : s.size ≤ maxLen := by simp only [maxLen]; omega
  obtain ⟨W, hW⟩ : ∃ W, W = w.alloc (.cells #[.int .u16 (q.id : Nat), .string q.q.1, .int .i64 q.q.2.1, .int .i64 q.q.2.2, .int .i64 q.sv, .int .i64 q.tr, .int .i64 q.dl, .slice A q.ws.length cap] 28) := ⟨_, rfl⟩
  have hbv : Blk W w.heap.size 28 #[.int .u16 (q.id : Nat), .string q.q.1, .int .i64 q.q.2.1, .int .i64 q.q.2.2, .int .i64 q.sv, .int .i64 q.tr, .int .i64 q.dl, .slice A q.ws.length cap] := by rw [hW]; exact Blk.new _ _ _
  have hf : Fr (fun _ => False) w W := by rw [hW]; exact (Fr.refl _ _).alloc _
  have hbW := hb.fr hf id
  have ho1 : o + 1 < cs.size := (Array.getElem?_eq_some_iff.1 h1).1
  have c0 := (hbW.cell o).trans h0
  have z0 := hbW.frozen o
  have c0m := ((hbW.alloc (.map #[] 0)).cell o).trans h0
  have z0m := (hbW.alloc (.map #[] 0)).frozen o
  have hmk := run_makeMap (P := Try.prog) 97
  have HB := Lib.hid (And.intro hbW (And.intro hbv (And.intro hf (And.intro h0 h1))))
  have HW := Lib.hid hW
  have hplt := hb.lt
  have heq : ∀ w, (Go.binOp .eql 97 (.map none) (.map none)).run Try.prog w = .ok (.bool true) w := fun w => by
    have := run_eql_map_nil (P := Try.prog) w 97 9 28 none Try.underlying97
    simpa using this
  clear hbv hf hW hb hbW h0 h1
  go_enter Try.func56, Try.ntmps56
  go_upto_region 1 with fail
  rw [← HW.out]
  clear HW
  go_upto_region 3 with fail
  obtain ⟨W2, hW2⟩ : ∃ W2, W2 = ((W.alloc (.map #[] 0)).setCell ⟨p, o, none⟩ (.map (some W.heap.size))) := ⟨_, rfl⟩
  rw [← hW2]
  have hb2 : Blk W2 p T (cs.setIfInBounds o (.map (some W.heap.size))) := by rw [hW2]; exact (HB.out.1.alloc _).set_ o _
  have hpW := HB.out.1.lt
  have hbx : Blk W2 w.heap.size 28 #[.int .u16 (q.id : Nat), .string q.q.1, .int .i64 q.q.2.1, .int .i64 q.q.2.2, .int .i64 q.sv, .int .i64 q.tr, .int .i64 q.dl, .slice A q.ws.length cap] := by rw [hW2]; exact (HB.out.2.1.alloc _).far (p := ⟨p, o, none⟩) (by dsimp only; omega) _
  have hfm : Fr (· = p) (W.alloc (.map #[] 0)) W2 := by rw [hW2]; exact (Fr.refl (· = p) _).setCell (p := ⟨p, o, none⟩) (fun _ => rfl) _
  have hmm : VMap W2 9 W.heap.size 0 (fun _ => none) := (VMap.made W 9).fr hfm (by omega)
  have hf2 : Fr (· = p) w W2 := (HB.out.2.2.1.mono (fun _ _ h => h.elim)).then (((Fr.refl (· = p) W).alloc _).then hfm)
  have c0' : W2.cell? ⟨p, o, none⟩ = some (.map (some W.heap.size)) := by rw [hb2.cell o, Array.getElem?_setIfInBounds, if_pos rfl, if_pos (by omega)]
  have c1' : W2.cell? ⟨p, o + 1, none⟩ = some (.slice none 0 0) := by rw [hb2.cell (o + 1), Array.getElem?_setIfInBounds, if_neg (by omega)]; exact HB.out.2.2.2.2
  have hlk := hmm.look (string_keyed Try.underlying9) Try.underlying97 (pendZero W2) (keyOf_string_mk Try.underlying9 hsm)
  simp only [Option.getD_none, Option.isSome_none] at hlk
  have hws := HB.out.2.2.1.size
  have hwlt := HB.out.2.1.lt
  obtain ⟨B, hB⟩ : ∃ B, B = W.heap.size := ⟨_, rfl⟩
  rw [← hB] at hb2 hmm c0' hlk hwlt hws hpW ⊢
  have hBW : B < W2.heap.size := hmm.lt
  have H2 := Lib.hid (And.intro hb2 (And.intro hbx (And.intro hmm hf2)))
  clear hW2 hb2 hbx hmm hf2 hfm hmk heq c0 z0 hB c0m z0m
  go_wp2_with (first
    | (refine wpList_store_part rfl 28 _ _ rfl W2.heap.size 0 (by rfl) _ (by rfl) 28 _ (Blk.new W2 28 _) (by kernel_rfl) (by simp [Value.oneCell']) (by simp) #[.int .u16 0, .string ⟨#[]⟩, .int .i64 0, .int .i64 0, .int .i64 0, .int .i64 0, .int .i64 0, .slice none 0 0] (by rfl) ?_
       intro w3 b3 f3
       have f23 : Fr (fun _ => False) W2 w3 := ((Fr.refl (fun _ => False) W2).alloc _).step f3 (fun k hk => .inr (by subst hk; exact Nat.le_refl _))
       have hb3 := H2.out.1.fr f23 id
       have c0'' : w3.cell? ⟨p, o, none⟩ = some (.map (some B)) := (f23.cell (p := ⟨p, o, none⟩) H2.out.1.lt id).trans c0'
       have c1'' : w3.cell? ⟨p, o + 1, none⟩ = some (.slice none 0 0) := (f23.cell (p := ⟨p, o + 1, none⟩) H2.out.1.lt id).trans c1'
       have H3 := Lib.hid (And.intro hb3 (And.intro (H2.out.2.1.fr f23 id) (And.intro (H2.out.2.2.1.fr f23 id) (H2.out.2.2.2.then (f23.mono (fun _ _ h => h.elim))))))
       clear b3 f3 f23 hb3 hlk c0' c1')
    | (at_builtin; refine wpList_append_src rfl (.tmp 32) (.tmp 34) _ _ rfl 9 i0 _ 1 16 Try.underlying59 hi hz0 hz1 hz2 rfl (by decide) none 0 0 [] (by rfl) (own_nil _ _ _) _ 1 [.string s] (by rfl)
         (Src.ofSlice _ Try.underlying59 ⟨w3.heap.size, 0, none⟩ 1 1 [.string s] rfl (str_new _ _ _) (str_one _)) (by simp only [maxLen]; omega) (by omega) ?_
       intro KA kc w4 o1 o2 o3
       rw [Nat.zero_add, List.nil_append] at o1
       have f34 : Fr (fun _ => False) w3 w4 := ((Fr.refl (fun _ => False) w3).alloc _).then (o2.mono (fun k _ h => absurd h (rowOf_none k)))
       have hb4 := H3.out.1.fr f34 id
       have c0'3 : w4.cell? ⟨p, o, none⟩ = some (.map (some B)) := (f34.cell (p := ⟨p, o, none⟩) H3.out.1.lt id).trans c0''
       have c1'3 : w4.cell? ⟨p, o + 1, none⟩ = some (.slice none 0 0) := (f34.cell (p := ⟨p, o + 1, none⟩) H3.out.1.lt id).trans c1''
       have z1'3 := hb4.frozen (o + 1)
       have hK : ∀ k, rowOf KA k → w3.heap.size ≤ k := fun k hk => (o3 k hk).elim (fun h => absurd h (rowOf_none k)) (fun h => by rw [World.size_alloc] at h; omega)
       have H4 := Lib.hid (And.intro hb4 (And.intro (H3.out.2.1.fr f34 id) (And.intro (H3.out.2.2.1.fr f34 id) (And.intro (H3.out.2.2.2.then (f34.mono (fun _ _ h => h.elim))) (And.intro o1 hK)))))
       clear o1 o2 o3 f34 hb4 hK c0'' c1'')
    | fail "no arm")
  obtain ⟨W5, hW5⟩ : ∃ W5, W5 = w4.setCell ⟨p, o + 1, none⟩ (.slice KA 1 kc) := ⟨_, rfl⟩
  rw [← hW5]
  have hp4 := H4.out.1.lt
  have f45 : Fr (· = p) w4 W5 := by rw [hW5]; exact (Fr.refl (· = p) _).setCell (p := ⟨p, o + 1, none⟩) (fun _ => rfl) _
  have hb5 : Blk W5 p T ((cs.setIfInBounds o (.map (some B))).setIfInBounds (o + 1) (.slice KA 1 kc)) := by rw [hW5]; exact H4.out.1.set_ (o + 1) _
  have hs24 := H2.out.2.2.2.size
  have hKp : ∀ k, rowOf KA k → k ≠ p := fun k hk e => by have := H4.out.2.2.2.2.2 k hk; have := H3.out.1.lt; omega
  have H5 := Lib.hid (And.intro hb5 (And.intro (H4.out.2.1.fr f45 (by omega)) (And.intro (H4.out.2.2.1.fr f45 (by omega)) (And.intro (H4.out.2.2.2.1.then f45) (own_fr H4.out.2.2.2.2.1 f45 hKp)))))
  clear hW5 hb5 f45 c0'3 c1'3 z1'3
  have hrg : W5.rangeAt w.heap.size 0 [.int .u16 (q.id : Nat), .string q.q.1, .int .i64 q.q.2.1, .int .i64 q.q.2.2, .int .i64 q.sv, .int .i64 q.tr, .int .i64 q.dl, .slice A q.ws.length cap] := fun j v hv => by rw [Nat.zero_add, H5.out.2.1.cell j, List.getElem?_toArray]; exact hv
  have c05 : W5.cell? ⟨p, o, none⟩ = some (.map (some B)) := by rw [H5.out.1.cell o, Array.getElem?_setIfInBounds, if_neg (by omega), Array.getElem?_setIfInBounds, if_pos rfl, if_pos (by omega)]
  refine wp_region_held_drew (S := fun w' => w'.cell? ⟨p, o, none⟩ = some (.map (some B)) ∧ w'.rangeAt w.heap.size 0 [.int .u16 (q.id : Nat), .string q.q.1, .int .i64 q.q.2.1, .int .i64 q.q.2.2, .int .i64 q.sv, .int .i64 q.tr, .int .i64 q.dl, .slice A q.ws.length cap]) (by kernel_rfl) ⟨c05, hrg⟩ (fun hHeld => ?_)
  refine wpAnyH_take (i := 0) (v := ?_) rfl (by kernel_rfl) (by kernel_rfl) (by kernel_rfl) (fun _ _ _ h => h) (Or.inl ⟨by rfl, ?_⟩) (by assumption) ?_
  rotate_left
  · intro w hSw
    go_simp
    try with_reducible rfl
  try simp only [Act.put, List.setIfInBounds_toArray, List.set_cons_zero, List.set_cons_succ, List.getElem_toArray, List.getElem_cons_zero, List.getElem_cons_succ]
  refine wpAnyH_take (i := 1) (v := ?_) rfl (by kernel_rfl) (by kernel_rfl) (by kernel_rfl) (fun _ _ _ h => h) (Or.inl ⟨by rfl, ?_⟩) (by assumption) ?_
  rotate_left
  · intro w hSw
    go_simp
    try with_reducible rfl
  try simp only [Act.put, List.setIfInBounds_toArray, List.set_cons_zero, List.set_cons_succ, List.getElem_toArray, List.getElem_cons_zero, List.getElem_cons_succ]
  refine wpAnyH_take (i := 2) (v := ?_) rfl (by kernel_rfl) (by kernel_rfl) (by kernel_rfl) (fun _ _ _ h => h) (Or.inl ⟨by rfl, ?_⟩) (by assumption) ?_
  rotate_left
  · intro w hSw
    go_simp
    try with_reducible rfl
  try simp only [Act.put, List.setIfInBounds_toArray, List.set_cons_zero, List.set_cons_succ, List.getElem_toArray, List.getElem_cons_zero, List.getElem_cons_succ]
  refine wpAnyH_take (i := 3) (v := ?_) rfl (by kernel_rfl) (by kernel_rfl) (by kernel_rfl) (fun _ _ _ h => h) (Or.inl ⟨by rfl, ?_⟩) (by assumption) ?_
  rotate_left
  · intro w hSw
    have hc0 : w.cell? _ = _ := hSw.1
    go_simp
    try with_reducible rfl
  try simp only [Act.put, List.setIfInBounds_toArray, List.set_cons_zero, List.set_cons_succ, List.getElem_toArray, List.getElem_cons_zero, List.getElem_cons_succ]
  refine wpAnyH_take (i := 4) (v := ?_) rfl (by kernel_rfl) (by kernel_rfl) (by kernel_rfl) (fun _ _ _ h => h) (Or.inl ⟨by rfl, ?_⟩) (by assumption) ?_
  rotate_left
  · intro w hSw
    go_simp
    try with_reducible rfl
  try simp only [Act.put, List.setIfInBounds_toArray, List.set_cons_zero, List.set_cons_succ, List.getElem_toArray, List.getElem_cons_zero, List.getElem_cons_succ]
  refine wpAnyH_take (i := 5) rfl (by kernel_rfl) (by kernel_rfl) (by kernel_rfl) (fun _ _ _ h => h) (yieldsIf_load_mid (by rfl) _ _ rfl w.heap.size 0 (by rfl) [.int .u16 (q.id : Nat), .string q.q.1, .int .i64 q.q.2.1, .int .i64 q.q.2.2, .int .i64 q.sv, .int .i64 q.tr, .int .i64 q.dl, .slice A q.ws.length cap] _ (fun w' h => h.2) Try.underlying28 rfl (by kernel_rfl)) (by assumption) ?_
  try simp only [Act.put, List.setIfInBounds_toArray, List.set_cons_zero, List.set_cons_succ, List.getElem_toArray, List.getElem_cons_zero, List.getElem_cons_succ]
  obtain ⟨w6, hrun, hv6, hf6⟩ := (H5.out.2.2.1.fr ((Fr.refl (fun _ => False) W5).drew) id).put (string_keyed Try.underlying9) Try.underlying97 (by simp only [maxLen]; omega) (keyOf_string_mk Try.underlying9 hsm) trivial (.agg #[.int .u16 (q.id : Nat), .string q.q.1, .int .i64 q.q.2.1, .int .i64 q.q.2.2, .int .i64 q.sv, .int .i64 q.tr, .int .i64 q.dl, .slice A q.ws.length cap])
  refine wpAnyH_ready (rs := [6]) (by kernel_rfl) (by simp) ?_
  refine AllReadyH.cons rfl (fun K hK => ?_) AllReadyH.nil
  go_simp
  have hpB : p ≠ B := by omega
  have hs25 := H5.out.2.2.2.1.size
  have h6 := hf6.fromD
  refine hK.out _ _ ⟨(h6.cell (p := ⟨p, o, none⟩) H5.out.1.lt (by dsimp only; omega)).trans c05, fun j v hv => (h6.cell (p := ⟨w.heap.size, 0 + j, none⟩) H5.out.2.1.lt (by dsimp only; omega)).trans (hrg j v hv)⟩ (fun hHeld => ?_)
  clear hK K
  try simp only [Act.put, List.setIfInBounds_toArray, List.set_cons_zero, List.set_cons_succ, List.getElem_toArray, List.getElem_cons_zero, List.getElem_cons_succ]
  refine wpAnyH_done (by kernel_rfl) ?_ _
  clear hHeld
  go_wp2_with fail
  go_end0
  refine ⟨rfl, B, 1, KA, kc, H5.out.1.fr h6 hpB, hv6, Nat.le_refl _, own_fr H5.out.2.2.2.2 h6 (fun k hk e => ?_), .inr ⟨rfl, by omega⟩, fun k hk => .inr ?_, (H5.out.2.2.2.1.mono (fun _ _ h => .inl h)).step h6 fun k hk => .inr ?_⟩
  · have := H4.out.2.2.2.2.2 k hk
    have := H3.out.2.2.1.lt
    omega
  · have := H4.out.2.2.2.2.2 k hk
    have := H3.out.2.2.2.size
    omega
  · subst hk; omega

theorem Try.infoU16 : (Try.prog.info? 22).map (fun i => (i.zero, i.size, i.bytes)) = some (some (.int .u16 0), 1, 2) := by kernel_rfl
theorem u16_new (w : World) (v : Int) (T : TypeId) : ∀ j u, ([Value.int .u16 v] : List Value)[j]? = some u → (w.alloc (.cells #[.int .u16 v] T)).cell? ((⟨w.heap.size, 0, none⟩ : Addr).add j) = some u := by
  intro j u hu
  have hb := Blk.new w T #[.int .u16 v]
  rw [show (⟨w.heap.size, 0, none⟩ : Addr).add j = ⟨w.heap.size, j, none⟩ from by unfold Addr.add; split <;> simp_all, hb.cell j]
  simpa using hu
theorem u16_one (v : Int) : ∀ u ∈ ([Value.int .u16 v] : List Value), u.oneCell' = true := by
  intro u hu
  simp at hu
  subst hu
  rfl
set_option maxRecDepth 100000 in
set_option maxHeartbeats 4000000 in
theorem set2_new (p o : Nat) (T : TypeId) (cs : Array Value) (k : Nat) (s : ByteArray) (w : World) (hb : Blk w p T cs) (h0 : cs[o]? = some (.map none)) (h1 : cs[o + 1]? = some (.slice none 0 0)) (hk : k < 65536) :
    Calls Try.prog 57 #[.pointer (some ⟨p, o, none⟩), .int .u16 (k : Nat), .string s] w (SetPost w p o T 22 22 cs none 0 (fun _ => none) (.int .u16 (k : Nat)) (.string s) none [.int .u16 (k : Nat)]) := by
  obtain ⟨i0, hi, hz0, hz1, hz2⟩ := info_parts Try.infoU16
  have hwf : (Lit.int .u16 (k : Nat)).wf = true := by simp [Lit.wf, IntKind.min, IntKind.max, IntKind.signed, IntKind.bits]; omega
  have HWF := Lib.hid hwf
  have ho1 : o + 1 < cs.size := (Array.getElem?_eq_some_iff.1 h1).1
  have c0 := (hb.cell o).trans h0
  have c0m := ((hb.alloc (.map #[] 0)).cell o).trans h0
  have z0m := (hb.alloc (.map #[] 0)).frozen o
  have hmk := run_makeMap (P := Try.prog) 100
  have hplt := hb.lt
  have heq : ∀ w, (Go.binOp .eql 100 (.map none) (.map none)).run Try.prog w = .ok (.bool true) w := fun w => by
    have := run_eql_map_nil (P := Try.prog) w 100 22 9 none Try.underlying100
    simpa using this
  have HB := Lib.hid (And.intro hb (And.intro h0 h1))
  clear hb h0 h1 hwf
  go_enter Try.func57, Try.ntmps57
  go_upto_region 2 with fail
  obtain ⟨W2, hW2⟩ : ∃ W2, W2 = ((w.setCell ⟨p, o, none⟩ (.map (some w.heap.size))).alloc (.map #[] 0)) := ⟨_, rfl⟩
  rw [← hW2]
  have hb2 : Blk W2 p T (cs.setIfInBounds o (.map (some w.heap.size))) := by rw [hW2]; exact (HB.out.1.set_ o _).alloc _
  have hsz : (w.setCell ⟨p, o, none⟩ (.map (some w.heap.size))).heap.size = w.heap.size := by simp [World.setCell]
  have hmm : VMap W2 22 w.heap.size 0 (fun _ => none) := by rw [hW2]; have := VMap.made (w.setCell ⟨p, o, none⟩ (.map (some w.heap.size))) 22; rwa [hsz] at this
  have hf2 : Fr (· = p) w W2 := by rw [hW2]; exact ((Fr.refl (· = p) w).setCell (p := ⟨p, o, none⟩) (fun _ => rfl) _).alloc _
  have c0' : W2.cell? ⟨p, o, none⟩ = some (.map (some w.heap.size)) := by rw [hb2.cell o, Array.getElem?_setIfInBounds, if_pos rfl, if_pos (by omega)]
  have c1' : W2.cell? ⟨p, o + 1, none⟩ = some (.slice none 0 0) := by rw [hb2.cell (o + 1), Array.getElem?_setIfInBounds, if_neg (by omega)]; exact HB.out.2.2
  have hlk := hmm.look (int_keyed Try.underlying22) Try.underlying100 (strZero W2) (keyOf_int_mk Try.underlying22 HWF.out)
  simp only [Option.getD_none, Option.isSome_none] at hlk
  obtain ⟨B, hB⟩ : ∃ B, B = w.heap.size := ⟨_, rfl⟩
  have hBw : w.heap.size ≤ B := by omega
  rw [← hB] at hb2 hmm c0' hlk hplt ⊢
  have H2 := Lib.hid (And.intro hb2 (And.intro hmm hf2))
  clear hW2 hb2 hmm hf2 hsz hmk heq c0 hB c0m z0m
  go_upto_region 5 with (first
    | (at_builtin; refine wpList_append_src rfl (.tmp 32) (.tmp 34) _ _ rfl 22 i0 _ 1 2 Try.underlying101 hi hz0 hz1 hz2 rfl (by decide) none 0 0 [] (by rfl) (own_nil _ _ _) _ 1 [.int .u16 (k : Nat)] (by rfl)
         (Src.ofSlice _ Try.underlying101 ⟨W2.heap.size, 0, none⟩ 1 1 [.int .u16 (k : Nat)] rfl (u16_new _ _ _) (u16_one _)) (by simp only [maxLen]; omega) (by omega) ?_
       intro KA kc w4 o1 o2 o3
       rw [Nat.zero_add, List.nil_append] at o1
       have f34 : Fr (fun _ => False) W2 w4 := ((Fr.refl (fun _ => False) W2).alloc _).then (o2.mono (fun k _ h => absurd h (rowOf_none k)))
       have hb4 := H2.out.1.fr f34 id
       have c0'3 : w4.cell? ⟨p, o, none⟩ = some (.map (some B)) := (f34.cell (p := ⟨p, o, none⟩) H2.out.1.lt id).trans c0'
       have c1'3 : w4.cell? ⟨p, o + 1, none⟩ = some (.slice none 0 0) := (f34.cell (p := ⟨p, o + 1, none⟩) H2.out.1.lt id).trans c1'
       have z1'3 := hb4.frozen (o + 1)
       have hK : ∀ k, rowOf KA k → W2.heap.size ≤ k := fun k hk => (o3 k hk).elim (fun h => absurd h (rowOf_none k)) (fun h => by rw [World.size_alloc] at h; omega)
       have H4 := Lib.hid (And.intro hb4 (And.intro (H2.out.2.1.fr f34 id) (And.intro (H2.out.2.2.then (f34.mono (fun _ _ h => h.elim))) (And.intro o1 hK))))
       clear o1 o2 o3 f34 hb4 hK c0' c1')
    | fail "no arm")
  obtain ⟨W5, hW5⟩ : ∃ W5, W5 = w4.setCell ⟨p, o + 1, none⟩ (.slice KA 1 kc) := ⟨_, rfl⟩
  rw [← hW5]
  have hp4 := H4.out.1.lt
  have f45 : Fr (· = p) w4 W5 := by rw [hW5]; exact (Fr.refl (· = p) _).setCell (p := ⟨p, o + 1, none⟩) (fun _ => rfl) _
  have hb5 : Blk W5 p T ((cs.setIfInBounds o (.map (some B))).setIfInBounds (o + 1) (.slice KA 1 kc)) := by rw [hW5]; exact H4.out.1.set_ (o + 1) _
  have hs24 := H2.out.2.2.size
  have hKp : ∀ k, rowOf KA k → k ≠ p := fun k hk e => by have := H4.out.2.2.2.2 k hk; have := H2.out.1.lt; omega
  have H5 := Lib.hid (And.intro hb5 (And.intro (H4.out.2.1.fr f45 (by omega)) (And.intro (H4.out.2.2.1.then f45) (own_fr H4.out.2.2.2.1 f45 hKp))))
  clear hW5 hb5 f45 c0'3 c1'3 z1'3 hlk
  have c05 : W5.cell? ⟨p, o, none⟩ = some (.map (some B)) := by rw [H5.out.1.cell o, Array.getElem?_setIfInBounds, if_neg (by omega), Array.getElem?_setIfInBounds, if_pos rfl, if_pos (by omega)]
  obtain ⟨w6, hrun, hv6, hf6⟩ := H5.out.2.1.put (int_keyed Try.underlying22) Try.underlying100 (by simp only [maxLen]; omega) (keyOf_int_mk Try.underlying22 HWF.out) trivial (.string s)
  have H6 := Lib.hid (And.intro hv6 hf6)
  clear hv6 hf6
  go_wp2_with fail
  go_end0
  have hpB : p ≠ B := by omega
  have hs25 := H5.out.2.2.1.size
  have h6 := H6.out.2
  refine ⟨rfl, B, 1, KA, kc, H5.out.1.fr h6 hpB, H6.out.1, Nat.le_refl _, own_fr H5.out.2.2.2 h6 (fun k hk e => ?_), .inr ⟨rfl, by omega⟩, fun k hk => .inr ?_, (H5.out.2.2.1.mono (fun _ _ h => .inl h)).step h6 fun k hk => .inr ?_⟩
  · have := H4.out.2.2.2.2 k hk
    have := H2.out.2.1.lt
    omega
  · have := H4.out.2.2.2.2 k hk
    omega
  · subst hk; omega
end Go.Proofs.Ytncfdfgcnblicaa

/-
  LAYERS 1, 2, PLAIN: a name's labels; a name folded; a question's key. No program.
-/
namespace Go.Proofs.Ytncfdfgcnblicaa
open Go.RowKit

/-- A name's labels, one behind the other. -/
def labs : List UInt8 → List (List UInt8)
  | [] => []
  | c :: r => r.take c.toNat :: labs (r.drop c.toNat)
termination_by m => m.length
decreasing_by simp only [List.length_drop, List.length_cons]; omega
/-- May the labels be? -/
def okN : List UInt8 → Prop
  | [] => True
  | c :: r => 1 ≤ c.toNat ∧ c.toNat ≤ 63 ∧ c.toNat ≤ r.length ∧ okN (r.drop c.toNat)
termination_by m => m.length
decreasing_by simp only [List.length_drop, List.length_cons]; omega
theorem labs_cons (c : UInt8) (r : List UInt8) : labs (c :: r) = r.take c.toNat :: labs (r.drop c.toNat) := by rw [labs]
theorem labs_nil : labs [] = [] := by rw [labs]
theorem okN_cons (c : UInt8) (r : List UInt8) : okN (c :: r) ↔ 1 ≤ c.toNat ∧ c.toNat ≤ 63 ∧ c.toNat ≤ r.length ∧ okN (r.drop c.toNat) := by rw [okN]
theorem okN_nil : okN [] := by rw [okN]; trivial
theorem ckAt_okN : ∀ (n : Nat) (s : List UInt8) (a : Nat), s.length - a ≤ n → (ckAt s a = 0 ↔ okN (s.drop a))
  | 0, s, a, h => by
    rw [ckAt, if_pos (by omega), List.drop_eq_nil_of_le (by omega)]
    exact ⟨fun _ => okN_nil, fun _ => rfl⟩
  | n + 1, s, a, h => by
    rw [ckAt]
    by_cases h1 : s.length ≤ a
    · rw [if_pos h1, List.drop_eq_nil_of_le h1]
      exact ⟨fun _ => okN_nil, fun _ => rfl⟩
    · rw [if_neg h1]
      have hd : s.drop a = s[a] :: s.drop (a + 1) := List.drop_eq_getElem_cons (by omega)
      have ho : oc s a = s[a].toNat := by unfold oc; rw [List.getD_eq_getElem?_getD, List.getElem?_eq_getElem (by omega)]; rfl
      have hl : (s.drop (a + 1)).length = s.length - (a + 1) := List.length_drop
      rw [hd, okN_cons, ← ho, hl, List.drop_drop]
      by_cases h2 : oc s a < 1 ∨ 63 < oc s a ∨ s.length < a + 1 + oc s a
      · rw [if_pos h2]
        constructor
        · intro h; omega
        · rintro ⟨k1, k2, k3, _⟩; omega
      · rw [if_neg h2, ckAt_okN n s (a + 1 + oc s a) (by omega)]
        constructor
        · intro h; exact ⟨by omega, by omega, by omega, h⟩
        · rintro ⟨_, _, _, h⟩; exact h
theorem ckN_okN (s : ByteArray) : ckN s = 0 ↔ s.size ≤ 254 ∧ okN s.data.toList := by
  unfold ckN
  by_cases h : 254 < s.size
  · rw [if_pos h]; constructor
    · intro h; omega
    · rintro ⟨h, _⟩; omega
  · rw [if_neg h]
    have := ckAt_okN s.data.toList.length s.data.toList 0 (by omega)
    rw [List.drop_zero] at this
    rw [this]
    exact ⟨fun k => ⟨by omega, k⟩, fun k => k.2⟩
/-- An octet, a label, a name folded. -/
def fold1 (c : UInt8) : UInt8 := if 65 ≤ c.toNat ∧ c.toNat ≤ 90 then c + 32 else c
def foldL (l : List UInt8) : List UInt8 := l.map fold1
noncomputable def foldN (s : ByteArray) : List UInt8 := if ckN s = 0 then foldL s.data.toList else []
theorem fold1_small {c : UInt8} (h : c.toNat ≤ 63) : fold1 c = c := by unfold fold1; rw [if_neg (by omega)]
theorem foldL_length (l : List UInt8) : (foldL l).length = l.length := by unfold foldL; simp
theorem foldL_app (a b : List UInt8) : foldL (a ++ b) = foldL a ++ foldL b := by unfold foldL; simp
/-- Labels with their lengths, one behind the other. -/
def mkN : List (List UInt8) → List UInt8
  | [] => []
  | l :: k => UInt8.ofNat l.length :: (l ++ mkN k)
theorem mkN_app (a b : List (List UInt8)) : mkN (a ++ b) = mkN a ++ mkN b := by
  induction a with
  | nil => rfl
  | cons x a ih => show UInt8.ofNat x.length :: (x ++ mkN (a ++ b)) = _; rw [ih]; simp [mkN]
theorem mkN_labs : ∀ (n : Nat) (m : List UInt8), m.length ≤ n → okN m → mkN (labs m) = m
  | _, [], _, _ => by rw [labs_nil]; rfl
  | 0, c :: r, h, _ => by simp at h
  | n + 1, c :: r, h, hk => by
    rw [okN_cons] at hk
    obtain ⟨h1, h2, h3, h4⟩ := hk
    rw [labs_cons]
    show UInt8.ofNat (r.take c.toNat).length :: (r.take c.toNat ++ mkN (labs (r.drop c.toNat))) = _
    rw [mkN_labs n _ (by simp at h ⊢; omega) h4, List.take_append_drop, List.length_take, Nat.min_eq_left h3]
    simp
theorem mkN_fold : ∀ (n : Nat) (m : List UInt8), m.length ≤ n → okN m → mkN ((labs m).map foldL) = foldL m
  | _, [], _, _ => by rw [labs_nil]; rfl
  | 0, c :: r, h, _ => by simp at h
  | n + 1, c :: r, h, hk => by
    rw [okN_cons] at hk
    obtain ⟨h1, h2, h3, h4⟩ := hk
    rw [labs_cons, List.map_cons]
    show UInt8.ofNat (foldL (r.take c.toNat)).length :: (foldL (r.take c.toNat) ++ mkN ((labs (r.drop c.toNat)).map foldL)) = _
    rw [mkN_fold n _ (by simp at h ⊢; omega) h4, ← foldL_app, List.take_append_drop, foldL_length, List.length_take, Nat.min_eq_left h3]
    show _ = fold1 c :: foldL r
    rw [fold1_small h2]
    simp
theorem labs_all : ∀ (n : Nat) (m : List UInt8), m.length ≤ n → okN m → ∀ l ∈ labs m, 1 ≤ l.length ∧ l.length ≤ 63
  | _, [], _, _ => by rw [labs_nil]; intro l h; cases h
  | 0, c :: r, h, _ => by simp at h
  | n + 1, c :: r, h, hk => by
    rw [okN_cons] at hk
    obtain ⟨h1, h2, h3, h4⟩ := hk
    rw [labs_cons]
    intro l hl
    rcases List.mem_cons.1 hl with rfl | hl
    · rw [List.length_take, Nat.min_eq_left h3]; omega
    · exact labs_all n _ (by simp at h ⊢; omega) h4 l hl
theorem labs_len : ∀ (n : Nat) (m : List UInt8), m.length ≤ n → okN m → (labs m).length ≤ m.length
  | _, [], _, _ => by rw [labs_nil]; exact Nat.le_refl _
  | 0, c :: r, h, _ => by simp at h
  | n + 1, c :: r, h, hk => by
    rw [okN_cons] at hk
    obtain ⟨h1, h2, h3, h4⟩ := hk
    have := labs_len n _ (by simp at h ⊢; omega : (r.drop c.toNat).length ≤ n) h4
    rw [labs_cons]
    simp only [List.length_cons, List.length_drop] at *
    omega
theorem mkN_length : ∀ l : List (List UInt8), (mkN l).length = (l.map fun x => x.length + 1).sum
  | [] => rfl
  | x :: l => by show (UInt8.ofNat x.length :: (x ++ mkN l)).length = _; rw [List.length_cons, List.length_append, mkN_length l, List.map_cons, List.sum_cons]; omega
/-- Folded twice is folded once; a folded name may be where the name may. -/
theorem fold1_twice (c : UInt8) : fold1 (fold1 c) = fold1 c := by
  unfold fold1
  by_cases h : 65 ≤ c.toNat ∧ c.toNat ≤ 90
  · rw [if_pos h]
    have : (c + 32).toNat = c.toNat + 32 := by rw [UInt8.toNat_add]; have : (32 : UInt8).toNat = 32 := rfl; omega
    rw [if_neg (by omega)]
  · rw [if_neg h, if_neg h]
/-- A question's key. -/
noncomputable def keyQ (n : ByteArray) (t cl : Int) : List UInt8 := foldN n ++ (octs (t % 65536).toNat 2 ++ octs (cl % 65536).toNat 2)
end Go.Proofs.Ytncfdfgcnblicaa

/-
  LAYER 1: label.Check, label.Fold.
-/
namespace Go.Proofs.Ytncfdfgcnblicaa
set_option linter.unusedVariables false
set_option linter.unusedSimpArgs false
open Go.RowKit

/-- May a label be? -/
def ckL (n : Nat) : Int := if n = 0 then 2 else if 63 < n then 3 else 0
theorem lcheck_any (l : ByteArray) (w : World) : Calls Try.prog 85 #[.string l] w fun e w' => e = .returned (.int .i64 (ckL l.size)) ∧ w = w' := by
  unfold ckL
  by_cases h0 : l.size = 0
  · rw [if_pos h0]
    have hb : ((l.size : Int) == 0) = true := by simp [h0]
    have H0 := Lib.hid h0
    clear h0
    go_enter Try.func85, Try.ntmps85
    go_wp2_with fail
    go_ret
    exact ⟨rfl, rfl⟩
  · rw [if_neg h0]
    have hb : ((l.size : Int) == 0) = false := by rw [beq_eq_false_iff_ne]; omega
    by_cases h1 : 63 < l.size
    · rw [if_pos h1]
      go_enter Try.func85, Try.ntmps85
      go_wp2_with fail
      go_ret
      exact ⟨rfl, rfl⟩
    · rw [if_neg h1]
      go_enter Try.func85, Try.ntmps85
      go_wp2_with fail
      go_ret
      exact ⟨rfl, rfl⟩
theorem fold1_int {c : UInt8} : ((fold1 c).toNat : Int) = if 65 ≤ (c.toNat : Int) ∧ (c.toNat : Int) ≤ 90 then (c.toNat : Int) + 32 else c.toNat := by
  unfold fold1
  by_cases h : 65 ≤ c.toNat ∧ c.toNat ≤ 90
  · rw [if_pos h, if_pos (by omega)]
    have : (c + 32).toNat = c.toNat + 32 := by rw [UInt8.toNat_add]; have : (32 : UInt8).toNat = 32 := rfl; omega
    omega
  · rw [if_neg h, if_neg (by omega)]
theorem low_any (c : UInt8) (w : World) : Calls Try.prog 83 #[.int .u8 c.toNat] w fun e w' => e = .returned (.int .u8 (fold1 c).toNat) ∧ w = w' := by
  have hc : c.toNat < 256 := c.toNat_lt
  have hi := fold1_int (c := c)
  obtain ⟨x, hx⟩ : ∃ x : Nat, x = c.toNat := ⟨_, rfl⟩
  rw [← hx] at hi hc ⊢
  rw [hi]
  clear hx hi
  by_cases h1 : 65 ≤ x
  · by_cases h2 : x ≤ 90
    · rw [if_pos (by omega)]
      go_enter Try.func83, Try.ntmps83
      go_wp2_with fail
      go_ret
      exact ⟨ret_int (by omega), rfl⟩
    · rw [if_neg (by omega)]
      go_enter Try.func83, Try.ntmps83
      go_wp2_with fail
      go_ret
      exact ⟨rfl, rfl⟩
  · rw [if_neg (by omega)]
    go_enter Try.func83, Try.ntmps83
    go_wp2_with fail
    go_ret
    exact ⟨rfl, rfl⟩
/-- While octets are turned: those of the row, the first k turned. -/
structure FB (w : World) (g : Nat) (l : List UInt8) (k : Nat) : Prop where
  c : ∀ j (hj : j < l.length), w.cell? ⟨g, j, none⟩ = some (.int .u8 ((if j < k then fold1 l[j] else l[j]).toNat : Nat))
  z : ∀ j, j < l.length → w.frozen? ⟨g, j, none⟩ = false
  lt : g < w.heap.size
theorem FB.next {w : World} {g : Nat} {l : List UInt8} {k : Nat} (h : FB w g l k) (hk : k < l.length) : FB (w.setCell ⟨g, k, none⟩ (.int .u8 ((fold1 l[k]).toNat : Nat))) g l (k + 1) := by
  refine ⟨fun j hj => ?_, fun j hj => by rw [World.frozen?_setCell]; exact h.z j hj, by simpa [World.setCell] using h.lt⟩
  by_cases e : j = k
  · subst e
    rw [if_pos (by omega)]
    obtain ⟨v', hv⟩ : ∃ v', w.cell? ⟨g, j, none⟩ = some v' := ⟨_, h.c j hj⟩
    exact World.cell?_setCell_same _ _ _ hv
  · have hne : (⟨g, j, none⟩ : Addr) ≠ ⟨g, k, none⟩ := fun hh => e (by injection hh)
    rw [World.cell?_setCell_other _ _ _ _ (fun hh => hne hh.symm), h.c j hj]
    by_cases hlt : j < k
    · rw [if_pos hlt, if_pos (by omega)]
    · rw [if_neg hlt, if_neg (by omega)]
set_option maxRecDepth 100000 in
set_option maxHeartbeats 2000000 in
theorem leach_any (l : ByteArray) (w : World) (hl : l.size ≤ 1000) :
    Calls Try.prog 84 #[.string l, .func (.func 83) #[] #[]] w fun e w' => e = .returned (.string ⟨(foldL l.data.toList).toArray⟩) ∧ Fr (fun _ => False) w w' := by
  have hcv := run_bytes_of_string (P := Try.prog) w 9 120 5 l Try.underlying9 Try.underlying120 Try.underlying5
  have hge := grownCap_ge w l.size 0 5
  generalize grownCap w l.size 0 5 = C at hcv hge
  have hsz : (bytesRow l C).size = C := by
    have : l.data.size = l.size := rfl
    simp [bytesRow, this]
    omega
  rw [hsz] at hcv
  obtain ⟨W, hW⟩ : ∃ W, W = w.drew.alloc (.cells (bytesRow l C) 5 (C, C + 1)) := ⟨_, rfl⟩
  rw [← hW] at hcv
  have hll : l.data.toList.length = l.size := by rw [Array.length_toList]; rfl
  have H0 : FB W w.heap.size l.data.toList 0 ∧ Fr (fun _ => False) w W := by
    rw [hW]
    refine ⟨⟨fun j hj => ?_, fun j hj => ?_, by simp⟩, ((Fr.refl _ _).drew).alloc _⟩
    · have := World.cell?_alloc_mark w.drew (bytesRow l C) 5 (C, C + 1) j
      rw [show w.drew.heap.size = w.heap.size from rfl] at this
      rw [this, bytesRow_at l C j (by simpa using hj), if_neg (by omega)]
      simp
    · have := World.frozen?_alloc_mark w.drew (bytesRow l C) 5 C (C + 1) j
      rw [show w.drew.heap.size = w.heap.size from rfl] at this
      rw [this, decide_eq_false (by omega)]
      rfl
  have HH := Lib.hid H0
  clear H0 hW hsz
  go_enter Try.func84, Try.ntmps84
  go_upto_region 3 with fail
  clear hcv
  go_loopw [12] (fun i wr => ∃ k : Nat, k ≤ l.size ∧ i = .int .i64 (k : Nat) ∧ FB wr w.heap.size l.data.toList k ∧ Fr (fun _ => False) w wr) (fun i _ => l.size - (intOf i).toNat)
  case atStart => exact ⟨0, Nat.zero_le _, rfl, HH.out.1, HH.out.2⟩
  case round =>
    obtain ⟨k, hk, rfl, hfb, hfr⟩ := hrel
    have HF := Lib.hid (And.intro hfb hfr)
    clear hfb hfr
    by_cases hlt : k < l.size
    · have hc := HF.out.1.c k (by omega)
      rw [if_neg (by omega)] at hc
      have hz := HF.out.1.z k (by omega)
      obtain ⟨c, hcc⟩ : ∃ c, c = l.data.toList[k]'(by omega) := ⟨_, rfl⟩
      rw [← hcc] at hc
      have HN := HF.out.1.next (by omega : k < l.data.toList.length)
      rw [← hcc] at HN
      have HN' := Lib.hid (And.intro HN (HF.out.2.setCell (p := ⟨w.heap.size, k, none⟩) (fun h => absurd h (Nat.lt_irrefl _)) (.int .u8 ((fold1 c).toNat : Nat))))
      clear HN hcc
      go_wp2_with (first
        | (refine (low_any c _).mono ?_
           rintro e w' ⟨rfl, rfl⟩)
        | fail "no arm")
      go_roundw
      case rel => exact ⟨k + 1, by omega, by go_num, HN'.out.1, HN'.out.2⟩
      case measure => simp [intOf]; omega
    · have hke : k = l.size := by omega
      subst hke
      have hcb : ∀ w', w' = wr → (convert 120 9 (.slice (some ⟨w.heap.size, 0, none⟩) l.size C)).run Try.prog w' = .ok (.string ⟨(foldL l.data.toList).toArray⟩) w' := fun w' hw' => by
        rw [hw', show l.size = (foldL l.data.toList).length from by rw [foldL_length, hll]]
        refine run_convert_bytes_back wr _ _ 5 ⟨w.heap.size, 0, none⟩ C (foldL l.data.toList) Try.underlying120 Try.underlying5 Try.underlying9 (fun j hj => ?_)
        rw [foldL_length] at hj
        rw [show ((⟨w.heap.size, 0, none⟩ : Addr).add j) = ⟨w.heap.size, j, none⟩ from by unfold Addr.add; split <;> simp_all, HF.out.1.c j hj, if_pos (by omega)]
        simp [foldL]
      have hcb' := hcb wr rfl
      clear hcb
      go_wp2_with fail
      go_ret
      exact ⟨rfl, HF.out.2⟩
theorem lfold_any (l : ByteArray) (w : World) (hl : l.size ≤ 1000) :
    Calls Try.prog 75 #[.string l] w fun e w' => e = .returned (.string ⟨(foldL l.data.toList).toArray⟩) ∧ Fr (fun _ => False) w w' := by
  go_enter Try.func75, Try.ntmps75
  go_wp2_with (first
    | (refine (leach_any l _ hl).mono ?_
       rintro e w1 ⟨rfl, f1⟩
       have H1 := Lib.hid f1
       clear f1)
    | fail "no arm")
  go_ret
  exact ⟨rfl, H1.out⟩
end Go.Proofs.Ytncfdfgcnblicaa

/-
  LAYER 2: name.Make, of labels that may be.
-/
namespace Go.Proofs.Ytncfdfgcnblicaa
set_option linter.unusedVariables false
set_option linter.unusedSimpArgs false
open Go.RowKit

set_option maxHeartbeats 2000000 in
set_option maxRecDepth 100000 in
theorem writeByte_any (p o : Nat) (T : TypeId) (cs : Array Value) (v : Value) (A : Option Addr) (cap : Nat) (l : List UInt8) (c : UInt8) (w : World) (hb : Blk w p T cs) (h0 : cs[o]? = some v) (hv : selfOr p o v)
    (h1 : cs[o + 1]? = some (.slice A l.length cap)) (hown : w.ownsRow 0 5 1 (.slice A l.length cap) l.length (u8s l)) (hT : T ≠ 5)
    (hlies : liesAt Try.prog Try.prog.depth T (cs.size / Try.prog.cellsOf T) o 140 1 = true) (hs : l.length + 1 ≤ 140737488355328) :
    Calls Try.prog 86 #[.pointer (some ⟨p, o, none⟩), .int .u8 c.toNat] w (BldPost w p o T cs A (l ++ [c]) .nilIface) := by
  obtain ⟨i0, hi, hz0, hz1, hz2⟩ := info_parts Try.infoU8
  go_enter Try.func86, Try.ntmps86
  go_wp2_with fail
  refine (copyCheck_any p o T cs v _ hb h0 hv hlies).mono ?_
  rintro e w1 ⟨rfl, hb1, f1⟩
  have hrow : ¬ rowOf A p := own_ne hown hb (fun h => hT h.symm)
  have hown1 := own_fr hown f1 (fun k hk e => hrow (e ▸ hk))
  have hc1 : (cs.setIfInBounds o (.pointer (some ⟨p, o, none⟩)))[o + 1]? = some (.slice A l.length cap) := by
    rw [Array.getElem?_setIfInBounds, if_neg (by omega)]; exact h1
  have ho : o + 1 < cs.size := (Array.getElem?_eq_some_iff.1 h1).1
  have c1 : w1.cell? ⟨p, o + 1, none⟩ = some (.slice A l.length cap) := (hb1.cell (o + 1)).trans hc1
  have H1 := Lib.hid hown1
  have F1 := Lib.hid f1
  have HB1 := Lib.hid hb1
  clear hown1 f1 hb1 hown hv h0
  go_wp2_with (first
    | (at_builtin; refine wpList_append_src rfl (.tmp 11) (.tmp 13) _ _ rfl 5 i0 _ 1 1 Try.underlying120 hi hz0 hz1 hz2 rfl (by decide) A l.length cap (u8s l) (by rfl) (H1.out.alloc _) _ 1 [.int .u8 c.toNat] (by rfl)
         (Src.ofSlice _ Try.underlying120 ⟨w1.heap.size, 0, none⟩ 1 1 [.int .u8 c.toNat] rfl (u8_new _ _ _) (u8_one _)) (by simp only [maxLen]; omega) (by omega) ?_
       intro A' cap' w2 hown2 hfr2 hat2
       have hB2 := (HB1.out.alloc _).fr hfr2 hrow
       have d1 : w2.cell? ⟨p, o + 1, none⟩ = some (.slice A l.length cap) := (hB2.cell (o + 1)).trans hc1
       have g1 := hB2.frozen (o + 1)
       have Hown := Lib.hid hown2
       have HF2 := Lib.hid (((Fr.refl (rowOf A) w1).alloc _).then hfr2)
       have HAT := Lib.hid hat2
       have HB2 := Lib.hid hB2
       clear hown2 hfr2 hat2 hB2))
  go_ret
  have hrow' : ¬ rowOf A' p := own_ne Hown.out HB2.out (fun h => hT h.symm)
  have hf3 : Fr (· = p) w2 (w2.setCell ⟨p, o + 1, none⟩ (.slice A' (l.length + 1) cap')) := Fr.setCell (S := (· = p)) (Fr.refl _ w2) (p := ⟨p, o + 1, none⟩) (fun _ => rfl) _
  have hl : (l ++ [c]).length = l.length + 1 := by simp
  refine ⟨rfl, A', cap', ?_, ?_, ?_, ?_⟩
  · rw [hl]
    exact HB2.out.set_ (o + 1) _
  · rw [hl, u8s_append]
    exact own_fr Hown.out hf3 (fun k hk e => hrow' (e ▸ hk))
  · exact ((F1.out.mono (fun _ _ h => .inl h)).then ((HF2.out.mono (fun _ _ h => .inr h)).then (hf3.mono (fun _ _ h => .inl h))))
  · exact fun k hk => (HAT.out k hk).imp id (fun h => Nat.le_trans F1.out.size (by rw [World.size_alloc] at h; omega))

/-- A builder of the call's own. -/
def BB (w0 w : World) (p : Nat) (l : List UInt8) : Prop :=
  ∃ v A cap, Blk w p 140 #[v, .slice A l.length cap] ∧ selfOr p 0 v ∧ w.ownsRow 0 5 1 (.slice A l.length cap) l.length (u8s l) ∧ (∀ k, rowOf A k → w0.heap.size ≤ k) ∧ w0.heap.size ≤ p ∧ Fr (fun _ => False) w0 w
theorem Try.liesBuilder : liesAt Try.prog Try.prog.depth 140 (2 / Try.prog.cellsOf 140) 0 140 1 = true := by kernel_rfl
theorem BB.new (w : World) : BB w (w.alloc (.cells #[.pointer none, .slice none 0 0] 140)) w.heap.size [] :=
  ⟨.pointer none, none, 0, Blk.new _ _ _, .inl rfl, own_nil _ _ _, fun k h => absurd h (rowOf_none k), Nat.le_refl _, (Fr.refl _ _).alloc _⟩
theorem BB.fr {w0 w : World} {p : Nat} {l : List UInt8} (h : BB w0 w p l) : Fr (fun _ => False) w0 w := by
  obtain ⟨_, _, _, _, _, _, _, _, hf⟩ := h
  exact hf
theorem BB.post {w0 w w' : World} {p : Nat} {l l' : List UInt8} {A : Option Addr} {cap : Nat} {v r : Value} {e : Ending} (h2 : ∀ k, rowOf A k → w0.heap.size ≤ k) (h3 : w0.heap.size ≤ p) (h4 : Fr (fun _ => False) w0 w)
    (h : BldPost w p 0 140 #[v, .slice A l.length cap] A l' r e w') : e = .returned r ∧ BB w0 w' p l' := by
  obtain ⟨rfl, A', cap', b1, b2, b3, b4⟩ := h
  refine ⟨rfl, _, A', cap', b1, .inr rfl, b2, fun k hk => (b4 k hk).elim (h2 k) (fun h => Nat.le_trans h4.size h), h3, h4.step b3 fun k hk => .inr (hk.elim (fun e => by subst e; exact h3) (h2 k))⟩
theorem bbByte {w0 w : World} {p : Nat} {l : List UInt8} (h : BB w0 w p l) (c : UInt8) (hl : l.length ≤ 1000000) :
    Calls Try.prog 86 #[.pointer (some ⟨p, 0, none⟩), .int .u8 c.toNat] w fun e w' => e = .returned .nilIface ∧ BB w0 w' p (l ++ [c]) := by
  obtain ⟨v, A, cap, b1, b2, b3, b4, b5, b6⟩ := h
  exact (writeByte_any p 0 _ _ v A cap l c w b1 rfl b2 rfl b3 (by decide) Try.liesBuilder (by omega)).mono fun e w' h => BB.post b4 b5 b6 h
theorem bbStr {w0 w : World} {p : Nat} {l : List UInt8} (h : BB w0 w p l) (s : ByteArray) (hl : l.length ≤ 1000000) (hs : s.size ≤ 1000000) :
    Calls Try.prog 87 #[.pointer (some ⟨p, 0, none⟩), .string s] w fun e w' => e = .returned (.tuple #[.int .i64 s.size, .nilIface]) ∧ BB w0 w' p (l ++ s.data.toList) := by
  obtain ⟨v, A, cap, b1, b2, b3, b4, b5, b6⟩ := h
  exact (writeString_any p 0 _ _ v A cap l s w b1 rfl b2 rfl b3 (by decide) Try.liesBuilder (by omega)).mono fun e w' h => BB.post b4 b5 b6 h
theorem bbLen {w0 w : World} {p : Nat} {l : List UInt8} (h : BB w0 w p l) :
    Calls Try.prog 88 #[.pointer (some ⟨p, 0, none⟩)] w fun e w' => e = .returned (.int .i64 l.length) ∧ w = w' := by
  obtain ⟨v, A, cap, b1, b2, b3, b4, b5, b6⟩ := h
  exact bldLen_any p 0 A l.length cap w (b1.cell 1)
theorem bbString {w0 w : World} {p : Nat} {l : List UInt8} (h : BB w0 w p l) :
    Calls Try.prog 89 #[.pointer (some ⟨p, 0, none⟩)] w fun e w' => e = .returned (.string ⟨l.toArray⟩) ∧ Fr (fun _ => False) w0 w' := by
  obtain ⟨v, A, cap, b1, b2, b3, b4, b5, b6⟩ := h
  refine (bldString_any p 0 140 _ w A cap l b1 rfl b3).mono ?_
  rintro e w' ⟨rfl, f⟩
  exact ⟨rfl, b6.step f fun k hk => .inr (b4 k hk)⟩

/-- What Make leaves. -/
def MakePost (w : World) (L : List (List UInt8)) (e : Ending) (w' : World) : Prop :=
  e = .returned (.tuple (if (mkN L).length ≤ 254 then #[.string ⟨(mkN L).toArray⟩, .int .i64 0] else #[.string ⟨#[]⟩, .int .i64 3])) ∧ Fr (fun _ => False) w w'
theorem mkN_take {L : List (List UInt8)} {k : Nat} {x : List UInt8} (h : L[k]? = some x) : mkN (L.take (k + 1)) = mkN (L.take k) ++ [UInt8.ofNat x.length] ++ x := by
  rw [List.take_add_one, h, mkN_app]
  show _ ++ mkN [x] = _
  simp [mkN]
theorem mkN_take_le (L : List (List UInt8)) (k : Nat) (hL : ∀ x ∈ L, x.length ≤ 63) : (mkN (L.take k)).length ≤ 64 * k := by
  induction k with
  | zero => simp [mkN]
  | succ k ih =>
    rcases h : L[k]? with _ | x
    · rw [List.take_add_one, h]; simp; omega
    · rw [mkN_take h]
      have := hL x (List.mem_of_getElem? h)
      simp
      omega
set_option maxRecDepth 100000 in
set_option maxHeartbeats 4000000 in
theorem make_any (A : Option Addr) (cap : Nat) (l : List ByteArray) (w : World) (h : Strs w A l) (hl : ∀ x ∈ l, 1 ≤ x.size ∧ x.size ≤ 63) (hn : l.length ≤ 1000) :
    Calls Try.prog 76 #[.slice A l.length cap] w (MakePost w (l.map fun x => x.data.toList)) := by
  obtain ⟨L, hL⟩ : ∃ L, L = l.map fun x => x.data.toList := ⟨_, rfl⟩
  rw [← hL]
  have hL63 : ∀ x ∈ L, x.length ≤ 63 := fun x hx => by
    rw [hL] at hx
    obtain ⟨y, hy, rfl⟩ := List.mem_map.1 hx
    rw [size_l]; exact (hl y hy).2
  have HL := Lib.hid (And.intro hL (And.intro hL63 (And.intro h hl)))
  clear hL hL63 h hl
  go_enter Try.func76, Try.ntmps76
  go_upto_region 2 with fail
  go_loop [12] (fun i => ∃ k : Nat, k ≤ l.length ∧ i = .int .i64 (k : Nat)) (fun i => l.length - (intOf i).toNat)
  case atStart => exact ⟨0, Nat.zero_le _, rfl⟩
  case round =>
    obtain ⟨k, hk, rfl⟩ := hrel
    by_cases hlt : k < l.length
    · obtain ⟨x, hx⟩ : ∃ x, l[k]? = some x := ⟨l[k], List.getElem?_eq_getElem hlt⟩
      obtain ⟨b, off, rfl, hbs, hc⟩ := HL.out.2.2.1 (by rw [List.length_map]; omega)
      have hcx := hc k (.string x) (by rw [List.getElem?_map, hx]; rfl)
      have hx2 := HL.out.2.2.2 x (List.mem_of_getElem? hx)
      have hck : ckL x.size = 0 := by unfold ckL; rw [if_neg (by omega), if_neg (by omega)]
      have HC := Lib.hid (And.intro hck hx2)
      clear hc hx hck hx2
      go_wp2_with (first
        | (refine (lcheck_any x _).mono ?_
           rintro e w' ⟨rfl, rfl⟩
           rw [HC.out.1])
        | fail "no arm")
      go_round
      case rel => exact ⟨k + 1, by omega, by go_num⟩
      case measure => simp [intOf]; omega
    · go_upto_region 10 with fail
      have H0 := Lib.hid (BB.new w)
      generalize w.alloc (.cells #[.pointer none, .slice none 0 0] 140) = W at *
      go_loopw [24] (fun i wr => ∃ k : Nat, k ≤ l.length ∧ i = .int .i64 (k : Nat) ∧ BB w wr w.heap.size (mkN (L.take k))) (fun i _ => l.length - (intOf i).toNat)
      case atStart => exact ⟨0, Nat.zero_le _, rfl, H0.out⟩
      case round =>
        obtain ⟨j, hj, rfl, hbb⟩ := hrel
        have HB := Lib.hid hbb
        have hlen := mkN_take_le L j HL.out.2.1
        clear hbb
        by_cases hlt2 : j < l.length
        · obtain ⟨x, hx⟩ : ∃ x, l[j]? = some x := ⟨l[j], List.getElem?_eq_getElem hlt2⟩
          have hst := HL.out.2.2.1.fr0 HB.out.fr
          obtain ⟨b, off, rfl, hbs, hc⟩ := hst (by rw [List.length_map]; omega)
          have hcx := hc j (.string x) (by rw [List.getElem?_map, hx]; rfl)
          have hx2 := HL.out.2.2.2 x (List.mem_of_getElem? hx)
          have hLx : L[j]? = some x.data.toList := by rw [HL.out.1, List.getElem?_map, hx]; rfl
          have hsnoc := mkN_take hLx
          rw [size_l] at hsnoc
          have hu8 : ((x.size : Nat) : Int) = ((UInt8.ofNat x.size).toNat : Nat) := by rw [UInt8.toNat_ofNat']; omega
          have hcv : IntKind.u8.wrap ((x.size : Nat) : Int) = ((UInt8.ofNat x.size).toNat : Nat) := by rw [← hu8]; exact IntWalk.u8_in _ (by omega)
          have HX := Lib.hid (And.intro hsnoc hx2)
          have HU := Lib.hid hu8
          clear hc hx hst hsnoc hLx hx2 hu8
          go_wp2_with (first
            | (refine (bbByte HB.out (UInt8.ofNat x.size) (by omega)).mono ?_
               rintro e w1 ⟨rfl, g1⟩
               have H1 := Lib.hid g1
               clear g1)
            | (refine (bbStr H1.out x (by rw [List.length_append]; show _ + 1 ≤ _; omega) (by have := HX.out.2; omega)).mono ?_
               rintro e w2 ⟨rfl, g1⟩
               have H2 := Lib.hid g1
               clear g1)
            | fail "no arm")
          go_roundw
          case rel => exact ⟨j + 1, by omega, by go_num, by rw [HX.out.1]; exact H2.out⟩
          case measure => simp [intOf]; omega
        · have hje : j = l.length := by omega
          subst hje
          have hLl : L.length = l.length := by rw [HL.out.1, List.length_map]
          have hall : L.take l.length = L := by rw [← hLl]; exact List.take_length
          rw [hall] at HB hlen
          by_cases h254 : (mkN L).length ≤ 254
          · go_wp2_with (first
              | (refine (bbLen HB.out).mono ?_
                 rintro e w1 ⟨rfl, rfl⟩)
              | (refine (bbString HB.out).mono ?_
                 rintro e w2 ⟨rfl, f2⟩
                 have H2 := Lib.hid f2
                 clear f2)
              | fail "no arm")
            go_ret2
            exact ⟨by rw [if_pos h254]; rfl, H2.out⟩
          · go_wp2_with (first
              | (refine (bbLen HB.out).mono ?_
                 rintro e w1 ⟨rfl, rfl⟩)
              | fail "no arm")
            go_ret2
            exact ⟨by rw [if_neg h254]; rfl, HB.out.fr⟩
end Go.Proofs.Ytncfdfgcnblicaa

/-
  LAYER 2: name.each, name.Labels, name.Fold.
-/
namespace Go.Proofs.Ytncfdfgcnblicaa
open Go.RowKit Go.Maps Go.Sort Go.Shelf
set_option linter.unusedVariables false
set_option linter.unusedSimpArgs false

theorem cutl_nil (w : World) : Calls Try.prog 80 #[.string ⟨#[]⟩] w fun e w' => e = .returned (.tuple #[.string ⟨#[]⟩, .string ⟨#[]⟩, .bool false]) ∧ ∃ n, w' = w.drewN n := by
  go_enter Try.func80, Try.ntmps80
  go_wp2_with fail
  go_ret3
  exact ⟨rfl, 0, rfl⟩
theorem cutl_ok (c : UInt8) (r : List UInt8) (h1 : 1 ≤ c.toNat) (h2 : c.toNat ≤ 63) (h3 : c.toNat ≤ r.length) (w : World) :
    Calls Try.prog 80 #[.string ⟨(c :: r).toArray⟩] w fun e w' => e = .returned (.tuple #[.string ⟨(r.take c.toNat).toArray⟩, .string ⟨(r.drop c.toNat).toArray⟩, .bool true]) ∧ ∃ n, w' = w.drewN n := by
  have hne : (⟨(c :: r).toArray⟩ : ByteArray) ≠ ⟨#[]⟩ := fun h => by have := congrArg (fun b : ByteArray => b.data.size) h; simp at this
  have hoc : oc ((⟨(c :: r).toArray⟩ : ByteArray).data.toList) 0 = c.toNat := by simp [oc]
  have hsz : (⟨(c :: r).toArray⟩ : ByteArray).size = r.length + 1 := by simp [ByteArray.size]
  have hb : ¬ cutBad (⟨(c :: r).toArray⟩ : ByteArray) := by unfold cutBad; rw [hoc, hsz]; omega
  have h := cut_ok _ w hne hb
  rw [hoc, hsz] at h
  have e1 : (⟨(c :: r).toArray⟩ : ByteArray).extract 1 (1 + c.toNat) = ⟨(r.take c.toNat).toArray⟩ := by rw [str_sub]; simp
  have e2 : (⟨(c :: r).toArray⟩ : ByteArray).extract (1 + c.toNat) (r.length + 1) = ⟨(r.drop c.toNat).toArray⟩ := by
    rw [str_sub, show 1 + c.toNat = c.toNat + 1 from Nat.add_comm _ _, List.drop_succ_cons, List.take_of_length_le (by simp)]
  rw [e1, e2] at h
  exact h
theorem grown_drewN (w : World) (n : Nat) : w.grownBy (w.drewN n) none := ⟨rfl, rfl, rfl, Nat.le_refl _, fun _ _ _ => rfl⟩
/-- The head of the loop: what has come, what is left. -/
def EachAt (N : List UInt8) (J : List (List UInt8) → World → Prop) (l r o : Value) (wr : World) (g : Nat) : Prop :=
  ∃ (pre : List (List UInt8)) (m : List UInt8), g = m.length ∧ labs N = pre ++ labs m ∧ J pre wr ∧ okN m ∧ pre.length + m.length ≤ N.length ∧
    ((m = [] ∧ o = .bool false) ∨ ∃ c t, m = c :: t ∧ l = .string ⟨(t.take c.toNat).toArray⟩ ∧ r = .string ⟨(t.drop c.toNat).toArray⟩ ∧ o = .bool true)

def eachM (r o : Value) : Nat := match o, r with
  | .bool true, .string s => s.size + 1
  | _, _ => 0
set_option maxRecDepth 100000 in
set_option maxHeartbeats 2000000 in
theorem each1_in (n : Nat) (l Bm : Nat) (N : List UInt8) (hN : okN N) (hl : N.length ≤ 254) (J : List (List UInt8) → World → Prop)
    (hY : ∀ pre x W, J pre W → pre.length < 255 → YieldAt Fence.wide (n - 1) Try.prog l #[encStr x] W fun e W' => e = .returned (.bool true) ∧ J (pre ++ [x]) W' ∧ KeepsWalks W W')
    (W : World) (hJ : AbidesFrom W.heap.size J) (hm : W.cell? ⟨Bm, 0, none⟩ = some (.string ⟨N.toArray⟩)) (h0 : J [] W) (hn : 1 ≤ n) :
    CallsIn Fence.wide n Try.prog 91 #[.func (.yield l) #[] #[], .pointer (some ⟨Bm, 0, none⟩)] W fun e W' => (∃ v, e = .returned v) ∧ ∃ ss : List (List UInt8), ss = labs N ∧ J ss W' := by
  have hJd : ∀ pre w k, J pre w → J pre (w.drewN k) := fun pre w k h => hJ pre w (w.drewN k) none h (grown_drewN w k) (fun r e => by cases e)
  have HJ := Lib.hid hJd
  clear hJd
  have HY := Lib.hid (And.intro hY hN)
  clear hY hN hJ
  refine callsIn_of_wp Try.func91 rfl trivial ?_ rfl
  simp only [Try.ntmps91, List.size_toArray, List.length_cons, List.length_nil, Nat.reduceAdd, Nat.reduceSub, Array.replicate_succ, Array.replicate_zero, List.push_toArray, List.append_toArray, List.nil_append, List.cons_append]
  rcases N with _ | ⟨c, t⟩
  · gi_wp2_with (first
      | (refine ⟨trivial, ?_⟩; refine (callsIn_wide.2 (cutl_nil _)).mono ?_; rintro e w' ⟨rfl, k, rfl⟩)
      | gi_in)
    gi_loopw [3, 4, 5] (fun l' r o wr => ∃ g, EachAt ([]) J l' r o wr g) (fun _ r o _ => eachM r o)
    case atStart => exact ⟨0, [], [], rfl, by simp, HJ.out _ _ _ h0, okN_nil, Nat.le_refl _, .inl ⟨rfl, rfl⟩⟩
    case round =>
      obtain ⟨g, pre, m, rfl, hlab, hj, hok, hlen, hst⟩ := hrel
      rcases hst with ⟨rfl, rfl⟩ | ⟨c, t, rfl, rfl, rfl, rfl⟩
      · have hfin : pre = labs ([]) := by rw [hlab, labs_nil, List.append_nil]
        have HF := Lib.hid (And.intro hfin hj)
        clear hfin hj hlab
        gi_wp2_with (first
          | (refine ⟨fun _ h => (by cases h), ?_⟩)
          | gi_in)
        go_end0
        exact ⟨⟨_, rfl⟩, pre, HF.out.1, HF.out.2⟩
      · rw [okN_cons] at hok
        obtain ⟨k1, k2, k3, k4⟩ := hok
        rw [labs_cons] at hlab
        obtain ⟨fn, tmps, assign, body, hy, hR⟩ := HY.out.1 pre (t.take c.toNat) wr hj (by have := hlen; simp only [List.length_cons, List.length_nil] at this; omega)
        have hy' := hy
        simp only [encStr] at hy'
        obtain ⟨d, hd⟩ : ∃ d, d = t.drop c.toNat := ⟨_, rfl⟩
        have hdl : d.length = t.length - c.toNat := by rw [hd, List.length_drop]
        rw [← hd] at hlab k4 ⊢
        have hlen2 : (pre ++ [t.take c.toNat]).length + d.length ≤ ([] : List UInt8).length := by have h9 := hlen; simp only [List.length_append, List.length_cons, List.length_nil] at h9 ⊢; omega
        have HK := Lib.hid (And.intro hlab (And.intro k4 (And.intro hlen2 hdl)))
        have HR := Lib.hid hR
        clear hlab k4 hlen hR hj hy hd hlen2 hdl
        rcases d with _ | ⟨c2, t2⟩
        · gi_wp2
          refine HR.out.mono ?_
          rintro e W3 ⟨rfl, hJ3, hk3⟩
          have HJ3 := Lib.hid hJ3
          clear hJ3 hk3 hy'
          gi_wp2_with (first
            | (refine ⟨trivial, ?_⟩; refine (callsIn_wide.2 (cutl_nil _)).mono ?_; rintro e w' ⟨rfl, k, rfl⟩)
            | gi_in)
          go_roundw
          case rel => exact ⟨0, pre ++ [t.take c.toNat], [], rfl, by rw [List.append_assoc]; exact HK.out.1, HJ.out _ _ _ HJ3.out, okN_nil, HK.out.2.2.1, .inl ⟨rfl, rfl⟩⟩
          case measure => simp [eachM]
        · have hok2 := HK.out.2.1
          rw [okN_cons] at hok2
          obtain ⟨q1, q2, q3, _⟩ := hok2
          gi_wp2
          refine HR.out.mono ?_
          rintro e W3 ⟨rfl, hJ3, hk3⟩
          have HJ3 := Lib.hid hJ3
          clear hJ3 hk3 hy'
          gi_wp2_with (first
            | (refine ⟨trivial, ?_⟩; refine (callsIn_wide.2 (cutl_ok c2 t2 q1 q2 q3 _)).mono ?_; rintro e w' ⟨rfl, k, rfl⟩)
            | gi_in)
          go_roundw
          case rel => exact ⟨(c2 :: t2).length, pre ++ [t.take c.toNat], c2 :: t2, rfl, by rw [List.append_assoc]; exact HK.out.1, HJ.out _ _ _ HJ3.out, HK.out.2.1, HK.out.2.2.1, .inr ⟨c2, t2, rfl, rfl, rfl, rfl⟩⟩
          case measure =>
            have h1 : (⟨(t2.drop c2.toNat).toArray⟩ : ByteArray).size = t2.length - c2.toNat := by simp [ByteArray.size]
            have h2 : (⟨(c2 :: t2).toArray⟩ : ByteArray).size = t2.length + 1 := by simp [ByteArray.size]
            show eachM (.string ⟨(t2.drop c2.toNat).toArray⟩) (.bool true) < eachM (.string ⟨(c2 :: t2).toArray⟩) (.bool true)
            simp only [eachM, h1, h2]
            omega
  · have hok := HY.out.2
    rw [okN_cons] at hok
    obtain ⟨k1, k2, k3, _⟩ := hok
    gi_wp2_with (first
      | (refine ⟨trivial, ?_⟩; refine (callsIn_wide.2 (cutl_ok c t k1 k2 k3 _)).mono ?_; rintro e w' ⟨rfl, k, rfl⟩)
      | gi_in)
    obtain ⟨NN, hNN⟩ : ∃ NN, NN = c :: t := ⟨_, rfl⟩
    have hl2 : NN.length ≤ 254 := by rw [hNN]; exact hl
    have HNN := Lib.hid hNN
    rw [← hNN] at hm hl HY ⊢
    clear hNN
    gi_loopw [3, 4, 5] (fun l' r o wr => ∃ g, EachAt (NN) J l' r o wr g) (fun _ r o _ => eachM r o)
    case atStart => exact ⟨(c :: t).length, [], c :: t, rfl, by rw [HNN.out]; rfl, HJ.out _ _ _ h0, by rw [← HNN.out]; exact HY.out.2, by rw [HNN.out]; simp, .inr ⟨c, t, rfl, rfl, rfl, rfl⟩⟩
    case round =>
      obtain ⟨g, pre, m, rfl, hlab, hj, hok, hlen, hst⟩ := hrel
      rcases hst with ⟨rfl, rfl⟩ | ⟨c, t, rfl, rfl, rfl, rfl⟩
      · have hfin : pre = labs (NN) := by rw [hlab, labs_nil, List.append_nil]
        have HF := Lib.hid (And.intro hfin hj)
        clear hfin hj hlab
        gi_wp2_with (first
          | (refine ⟨fun _ h => (by cases h), ?_⟩)
          | gi_in)
        go_end0
        exact ⟨⟨_, rfl⟩, pre, by rw [HF.out.1, HNN.out], HF.out.2⟩
      · rw [okN_cons] at hok
        obtain ⟨k1, k2, k3, k4⟩ := hok
        rw [labs_cons] at hlab
        obtain ⟨fn, tmps, assign, body, hy, hR⟩ := HY.out.1 pre (t.take c.toNat) wr hj (by have := hlen; simp only [List.length_cons, List.length_nil] at this; omega)
        have hy' := hy
        simp only [encStr] at hy'
        obtain ⟨d, hd⟩ : ∃ d, d = t.drop c.toNat := ⟨_, rfl⟩
        have hdl : d.length = t.length - c.toNat := by rw [hd, List.length_drop]
        rw [← hd] at hlab k4 ⊢
        have hlen2 : (pre ++ [t.take c.toNat]).length + d.length ≤ (NN).length := by have h9 := hlen; simp only [List.length_append, List.length_cons, List.length_nil] at h9 ⊢; omega
        have HK := Lib.hid (And.intro hlab (And.intro k4 (And.intro hlen2 hdl)))
        have HR := Lib.hid hR
        clear hlab k4 hlen hR hj hy hd hlen2 hdl
        rcases d with _ | ⟨c2, t2⟩
        · gi_wp2
          refine HR.out.mono ?_
          rintro e W3 ⟨rfl, hJ3, hk3⟩
          have HJ3 := Lib.hid hJ3
          clear hJ3 hk3 hy'
          gi_wp2_with (first
            | (refine ⟨trivial, ?_⟩; refine (callsIn_wide.2 (cutl_nil _)).mono ?_; rintro e w' ⟨rfl, k, rfl⟩)
            | gi_in)
          go_roundw
          case rel => exact ⟨0, pre ++ [t.take c.toNat], [], rfl, by rw [List.append_assoc]; exact HK.out.1, HJ.out _ _ _ HJ3.out, okN_nil, HK.out.2.2.1, .inl ⟨rfl, rfl⟩⟩
          case measure => simp [eachM]
        · have hok2 := HK.out.2.1
          rw [okN_cons] at hok2
          obtain ⟨q1, q2, q3, _⟩ := hok2
          gi_wp2
          refine HR.out.mono ?_
          rintro e W3 ⟨rfl, hJ3, hk3⟩
          have HJ3 := Lib.hid hJ3
          clear hJ3 hk3 hy'
          gi_wp2_with (first
            | (refine ⟨trivial, ?_⟩; refine (callsIn_wide.2 (cutl_ok c2 t2 q1 q2 q3 _)).mono ?_; rintro e w' ⟨rfl, k, rfl⟩)
            | gi_in)
          go_roundw
          case rel => exact ⟨(c2 :: t2).length, pre ++ [t.take c.toNat], c2 :: t2, rfl, by rw [List.append_assoc]; exact HK.out.1, HJ.out _ _ _ HJ3.out, HK.out.2.1, HK.out.2.2.1, .inr ⟨c2, t2, rfl, rfl, rfl, rfl⟩⟩
          case measure =>
            have h1 : (⟨(t2.drop c2.toNat).toArray⟩ : ByteArray).size = t2.length - c2.toNat := by simp [ByteArray.size]
            have h2 : (⟨(c2 :: t2).toArray⟩ : ByteArray).size = t2.length + 1 := by simp [ByteArray.size]
            show eachM (.string ⟨(t2.drop c2.toNat).toArray⟩) (.bool true) < eachM (.string ⟨(c2 :: t2).toArray⟩) (.bool true)
            simp only [eachM, h1, h2]
            omega

/-- The closure that tells a name's labels. -/
theorem each_gives (n : Nat) (Bm : Nat) (N : List UInt8) (hN : okN N) (hl : N.length ≤ 254) (w : World) (hBm : Bm < w.heap.size) (hm : w.cell? ⟨Bm, 0, none⟩ = some (.string ⟨N.toArray⟩)) (hn : 1 ≤ n) :
    SeqGives Fence.wide n Try.prog 91 #[.pointer (some ⟨Bm, 0, none⟩)] encStr (fun ss => ss = labs N) 255 w := fun l J W hW hJ hY h0 =>
  each1_in n l Bm N hN hl J hY W hJ ((hW.cell (p := ⟨Bm, 0, none⟩) hBm).trans hm) h0 hn
theorem collect_labs (Bm : Nat) (N : List UInt8) (hN : okN N) (hl : N.length ≤ 254) (w : World) (hBm : Bm < w.heap.size) (hm : w.cell? ⟨Bm, 0, none⟩ = some (.string ⟨N.toArray⟩)) :
    Calls Try.prog 81 #[.func (.func 91) #[] #[.pointer (some ⟨Bm, 0, none⟩)]] w fun e w' => ∃ v, e = .returned v ∧ w'.ownsRow w.heap.size 9 1 v (labs N).length ((labs N).map encStr) ∧ Below w.heap.size w w' := by
  refine (callsIn_wide.1 (collect_in Fence.wide 5 trivial trivial rfl (by decide) 91 _ trivial (enters_of Try.func91 (by kernel_rfl) rfl) (fun ss => ss = labs N) 255 (by decide) (by decide) w (each_gives 3 Bm N hN hl w hBm hm (by decide)))).mono ?_
  rintro e w' ⟨v, ss, rfl, rfl, h1, h2, h3⟩
  exact ⟨v, rfl, h1, h3⟩
theorem own_rowIn0 {w : World} {base : Nat} {e : TypeId} {size n cap : Nat} {A : Option Addr} {xs : List Value} (h : w.ownsRow base e size (.slice A n cap) n xs) : RowIn w A xs := by
  intro h0'
  have h0 := h0'
  rcases h.2 with ⟨h2, h0⟩ | ⟨g, cp, cur, hv, _, hg, h3, h4, h5, h6⟩
  · have hl := h.1
    rw [h0] at hl
    have : xs = [] := List.eq_nil_of_length_eq_zero (by simpa using hl)
    subst this
    simp at h0'
  · injection hv with hA _ _
    have hc := fun j u hu => by
      have := h.cells (g := g) (by rw [hA]; rfl) j u hu
      rwa [show (⟨g, 0, none⟩ : Addr).add j = ⟨g, j, none⟩ from by unfold Addr.add; split <;> simp_all] at this
    refine ⟨g, 0, hA, (Array.getElem?_eq_some_iff.1 hg).1, fun i x hx => ?_⟩
    rw [Nat.zero_add]
    exact hc i x hx
theorem own_shape {w : World} {base : Nat} {e : TypeId} {size n : Nat} {v : Value} {xs : List Value} (h : w.ownsRow base e size v n xs) :
    ∃ A cap, v = .slice A n cap ∧ w.ownsRow 0 e size (.slice A n cap) n xs ∧ ∀ k, rowOf A k → base ≤ k := by
  have h' : w.ownsRow 0 e size v n xs := by
    refine ⟨h.1, ?_⟩
    rcases h.2 with h2 | ⟨g, cp, cur, hv, _, r⟩
    · exact .inl h2
    · exact .inr ⟨g, cp, cur, hv, Nat.zero_le _, r⟩
  rcases h.2 with ⟨hv, hn⟩ | ⟨g, cp, cur, hv, hb, r⟩
  · subst hn
    exact ⟨none, 0, hv, by rw [← hv]; exact h', fun k hk => absurd hk (rowOf_none k)⟩
  · refine ⟨_, cp, hv, by rw [← hv]; exact h', fun k hk => ?_⟩
    obtain ⟨a, ha, rfl⟩ := hk
    injection ha with ha
    subst ha
    exact hb
/-- A row of strings of the call's own. -/
theorem own_strs {w : World} {base : Nat} {A : Option Addr} {n cap : Nat} {ss : List (List UInt8)} (h : w.ownsRow base 9 1 (.slice A n cap) n (ss.map encStr)) : Strs w A (ss.map fun x => ⟨x.toArray⟩) := by
  unfold Strs
  have e : (ss.map fun x => (⟨x.toArray⟩ : ByteArray)).map Value.string = ss.map encStr := by rw [List.map_map]; rfl
  rw [e]
  exact own_rowIn0 h
/-- What Labels leaves. -/
def LabsPost (w : World) (N : List UInt8) (e : Ending) (w' : World) : Prop :=
  ∃ A cap, e = .returned (.slice A (labs N).length cap) ∧ w'.ownsRow 0 9 1 (.slice A (labs N).length cap) (labs N).length ((labs N).map encStr) ∧ (∀ k, rowOf A k → w.heap.size ≤ k) ∧ Fr (fun _ => False) w w'
theorem each_any (s : ByteArray) (w : World) : Calls Try.prog 82 #[.string s] w fun e w' => e = .returned (.func (.func 91) #[] #[.pointer (some ⟨w.heap.size, 0, none⟩)]) ∧ w'.cell? ⟨w.heap.size, 0, none⟩ = some (.string s) ∧ Fr (fun _ => False) w w' := by
  go_enter Try.func82, Try.ntmps82
  go_wp2_with fail
  go_ret
  exact ⟨rfl, (Blk.new w _ _).cell 0, (Fr.refl _ _).alloc _⟩
set_option maxHeartbeats 1000000 in
theorem labels_any (s : ByteArray) (w : World) (hs : ckN s = 0) : Calls Try.prog 74 #[.string s] w (LabsPost w s.data.toList) := by
  obtain ⟨h1, h2⟩ := (ckN_okN s).1 hs
  have HO := Lib.hid (And.intro hs h2)
  have hl : s.data.toList.length ≤ 254 := by rw [size_l]; exact h1
  clear hs h2
  go_enter Try.func74, Try.ntmps74
  go_wp2_with (first
    | (refine (ncheck_any s _).mono ?_
       rintro e w1 ⟨rfl, n, rfl⟩
       rw [HO.out.1])
    | (go_at_call 82
       (with_reducible refine (each_any s _).mono ?_)
       rintro e w2 ⟨rfl, hm2, hf2⟩
       have H2 := Lib.hid (And.intro hm2 hf2)
       clear hm2 hf2)
    | (go_at_call 81
       have hm2 : w2.cell? ⟨w.heap.size, 0, none⟩ = some (.string ⟨s.data.toList.toArray⟩) := by simpa using H2.out.1
       refine (collect_labs w.heap.size s.data.toList HO.out.2 hl w2 (World.block_lt_of_cell? _ _ hm2) hm2).mono ?_
       clear hm2
       rintro e w3 ⟨v, rfl, o1, o2⟩
       obtain ⟨A, cap, rfl, o3, o4⟩ := own_shape o1
       have H3 := Lib.hid (And.intro o3 (And.intro o4 o2))
       clear o1 o2 o3 o4)
    | fail "no arm")
  go_ret
  exact ⟨A, cap, rfl, H3.out.1, fun k hk => Nat.le_trans H2.out.2.size (H3.out.2.1 k hk), H2.out.2.fromN.then (Fr.of_below H3.out.2.2 _)⟩
theorem labels_bad (s : ByteArray) (w : World) (hs : ckN s ≠ 0) : Calls Try.prog 74 #[.string s] w fun e w' => e = .returned (.slice none 0 0) ∧ Fr (fun _ => False) w w' := by
  obtain ⟨k, hk⟩ : ∃ k, k = ckN s := ⟨_, rfl⟩
  have hne : (k != 0) = true := by rw [hk]; simp [hs]
  have HK := Lib.hid hk
  clear hk hs
  go_enter Try.func74, Try.ntmps74
  go_wp2_with (first
    | (refine (ncheck_any s _).mono ?_
       rintro e w1 ⟨rfl, n, rfl⟩
       rw [← HK.out])
    | fail "no arm")
  go_ret
  exact ⟨rfl, (Fr.refl _ _).drewN _⟩
end Go.Proofs.Ytncfdfgcnblicaa

/-
  LAYER 2: name.Fold. LAYER 23: cache.Key.
-/
namespace Go.Proofs.Ytncfdfgcnblicaa
open Go.RowKit Go.Maps Go.Sort Go.Shelf
set_option linter.unusedVariables false
set_option linter.unusedSimpArgs false

/-- Strings of a row of the call's own, the first k folded. -/
structure SB (w : World) (g : Nat) (L : List (List UInt8)) (k : Nat) : Prop where
  c : ∀ j (hj : j < L.length), w.cell? ⟨g, j, none⟩ = some (.string ⟨(if j < k then foldL L[j] else L[j]).toArray⟩)
  z : ∀ j, j < L.length → w.frozen? ⟨g, j, none⟩ = false
  lt : g < w.heap.size
theorem SB.next {w : World} {g : Nat} {L : List (List UInt8)} {k : Nat} (h : SB w g L k) (hk : k < L.length) : SB (w.setCell ⟨g, k, none⟩ (.string ⟨(foldL L[k]).toArray⟩)) g L (k + 1) := by
  refine ⟨fun j hj => ?_, fun j hj => by rw [World.frozen?_setCell]; exact h.z j hj, by simpa [World.setCell] using h.lt⟩
  by_cases e : j = k
  · subst e
    rw [if_pos (by omega)]
    exact World.cell?_setCell_same _ _ _ (h.c j hj)
  · have hne : (⟨g, j, none⟩ : Addr) ≠ ⟨g, k, none⟩ := fun hh => e (by injection hh)
    rw [World.cell?_setCell_other _ _ _ _ (fun hh => hne hh.symm), h.c j hj]
    by_cases hlt : j < k
    · rw [if_pos hlt, if_pos (by omega)]
    · rw [if_neg hlt, if_neg (by omega)]
theorem SB.fr0 {w w' : World} {g : Nat} {L : List (List UInt8)} {k : Nat} (h : SB w g L k) (f : Fr (fun _ => False) w w') : SB w' g L k :=
  ⟨fun j hj => (f.cell (p := ⟨g, j, none⟩) h.lt id).trans (h.c j hj), fun j hj => (f.frozen (p := ⟨g, j, none⟩) h.lt id).trans (h.z j hj), Nat.lt_of_lt_of_le h.lt f.size⟩
theorem SB.own {w : World} {A : Option Addr} {cap : Nat} {L : List (List UInt8)} (h : w.ownsRow 0 9 1 (.slice A L.length cap) L.length (L.map encStr)) (h0 : 0 < L.length) : ∃ g, A = some ⟨g, 0, none⟩ ∧ SB w g L 0 := by
  rcases h.2 with ⟨h2, hn⟩ | ⟨g, cp, cur, hv, _, hg, h3, h4, h5, h6⟩
  · omega
  · injection hv with hA _ _
    refine ⟨g, hA, fun j hj => ?_, fun j hj => by simp [World.frozen?, hg], (Array.getElem?_eq_some_iff.1 hg).1⟩
    have := h.cells (g := g) (by rw [hA]; rfl) j (encStr L[j]) (by rw [List.getElem?_map, List.getElem?_eq_getElem hj]; rfl)
    rw [show (⟨g, 0, none⟩ : Addr).add j = ⟨g, j, none⟩ from by unfold Addr.add; split <;> simp_all] at this
    rw [this, if_neg (by omega)]
    try rfl
theorem SB.strs {w : World} {g : Nat} {L : List (List UInt8)} (h : SB w g L L.length) : Strs w (some ⟨g, 0, none⟩) ((L.map foldL).map fun x => ⟨x.toArray⟩) := fun h0 => by
  refine ⟨g, 0, rfl, h.lt, fun i x hx => ?_⟩
  simp only [List.getElem?_map] at hx
  rcases hL : L[i]? with _ | y
  · rw [hL] at hx; cases hx
  · rw [hL] at hx
    obtain ⟨hi, hy⟩ := List.getElem?_eq_some_iff.1 hL
    rw [Nat.zero_add, h.c i hi, if_pos hi, hy]
    exact hx
theorem foldN_len (s : ByteArray) : (foldN s).length ≤ 254 := by
  unfold foldN
  by_cases h : ckN s = 0
  · rw [if_pos h, foldL_length, size_l]
    exact ((ckN_okN s).1 h).1
  · rw [if_neg h]; exact Nat.zero_le _

def i64ok' (n : Int) : Prop := -9223372036854775808 ≤ n ∧ n ≤ 9223372036854775807
set_option maxRecDepth 100000 in
set_option maxHeartbeats 4000000 in
theorem nfold_any (s : ByteArray) (w : World) : Calls Try.prog 65 #[.string s] w fun e w' => e = .returned (.string ⟨(foldN s).toArray⟩) ∧ Fr (fun _ => False) w w' := by
  have hstr : ∀ w : World, Strs w none ([] : List ByteArray) := fun w h => by simp at h
  by_cases hs : ckN s = 0
  · obtain ⟨g1, g2⟩ := (ckN_okN s).1 hs
    obtain ⟨N, hN⟩ : ∃ N, N = s.data.toList := ⟨_, rfl⟩
    have hNl : N.length ≤ 254 := by rw [hN, size_l]; exact g1
    rw [← hN] at g2
    have hfn : foldN s = mkN ((labs N).map foldL) := by unfold foldN; rw [if_pos hs, ← hN, mkN_fold _ N (Nat.le_refl _) g2]
    have hml : (mkN ((labs N).map foldL)).length ≤ 254 := by rw [mkN_fold _ N (Nat.le_refl _) g2, foldL_length]; exact hNl
    have hall : ∀ x ∈ labs N, 1 ≤ x.length ∧ x.length ≤ 63 := labs_all _ N (Nat.le_refl _) g2
    have hLn : (labs N).length ≤ 254 := Nat.le_trans (labs_len _ N (Nat.le_refl _) g2) hNl
    have hlb := labels_any s w hs
    rw [← hN] at hlb
    rw [hfn]
    obtain ⟨L, hL⟩ : ∃ L, L = labs N := ⟨_, rfl⟩
    rw [← hL] at hml hall hLn ⊢
    have HL := Lib.hid (And.intro hL (And.intro hall hml))
    have HLB := Lib.hid hlb
    clear hlb hfn hL hall hN hNl hml g1 g2
    go_enter Try.func65, Try.ntmps65
    go_upto_region 3 with (first
      | (refine HLB.out.mono ?_
         unfold LabsPost
         rintro e w1 ⟨A, cap, rfl, o1, o2, o3⟩
         rw [← HL.out.1] at o1 ⊢
         have H1 := Lib.hid (And.intro o1 (And.intro o2 o3))
         clear o1 o2 o3)
      | fail "no arm")
    go_loopw [12] (fun i wr => ∃ k : Nat, k ≤ L.length ∧ i = .int .i64 (k : Nat) ∧ (∀ g, A = some ⟨g, 0, none⟩ → 0 < L.length → SB wr g L k) ∧ Fr (fun _ => False) w wr) (fun i _ => L.length - (intOf i).toNat)
    case atStart =>
      refine ⟨0, Nat.zero_le _, rfl, fun g hg h0 => ?_, H1.out.2.2⟩
      obtain ⟨g', hg', hsb⟩ := SB.own H1.out.1 h0
      rw [hg] at hg'
      injection hg' with hg'
      injection hg' with hg'
      rw [hg']
      exact hsb
    case round =>
      obtain ⟨k, hk, rfl, hsb, hfr⟩ := hrel
      have HF := Lib.hid (And.intro hsb hfr)
      clear hsb hfr
      by_cases hlt : k < L.length
      · obtain ⟨g, rfl, _⟩ := SB.own H1.out.1 (by omega)
        have hsb := HF.out.1 g rfl (by omega)
        have hc := hsb.c k hlt
        rw [if_neg (by omega)] at hc
        have hgw : w.heap.size ≤ g := H1.out.2.1 g ⟨_, rfl, rfl⟩
        obtain ⟨x, hx⟩ : ∃ x, x = L[k] := ⟨_, rfl⟩
        have hx63 := (HL.out.2.1 L[k] (List.getElem_mem hlt)).2
        rw [← hx] at hc hx63
        have HSB := Lib.hid (And.intro hsb hx)
        clear hx hsb
        have hxs : (⟨x.toArray⟩ : ByteArray).size ≤ 1000 := by simp [ByteArray.size]; omega
        have hxd : (⟨x.toArray⟩ : ByteArray).data.toList = x := by simp
        have HXD := Lib.hid hxd
        clear hxd
        go_wp2_with (first
          | (refine (lfold_any ⟨x.toArray⟩ _ hxs).mono ?_
             rintro e w2 ⟨rfl, f2⟩
             have hs2 := HSB.out.1.fr0 f2
             have hc2 := hs2.c k hlt
             rw [if_neg (by omega)] at hc2
             have hz2 := hs2.z k hlt
             have H2 := Lib.hid (And.intro hs2 (HF.out.2.then f2))
             clear hs2 f2 hc)
          | fail "no arm")
        go_roundw
        case rel =>
          refine ⟨k + 1, by omega, by go_num, fun g' hg' _ => ?_, H2.out.2.setCell (p := ⟨g, k, none⟩) (fun h => absurd h (Nat.not_lt.2 hgw)) _⟩
          injection hg' with hg'
          injection hg' with hg'
          rw [← hg', HSB.out.2]
          exact H2.out.1.next hlt
        case measure => simp [intOf]; omega
      · have hke : k = L.length := by omega
        subst hke
        have hst : Strs wr A ((L.map foldL).map fun x => ⟨x.toArray⟩) := by
          by_cases h0 : 0 < L.length
          · obtain ⟨g, rfl, _⟩ := SB.own H1.out.1 h0
            exact (HF.out.1 g rfl h0).strs
          · have hL0 : L = [] := List.eq_nil_of_length_eq_zero (by omega)
            rw [hL0]
            exact fun h => by simp at h
        have hmk := make_any A cap ((L.map foldL).map fun x => ⟨x.toArray⟩) wr hst (fun x hx => by
          obtain ⟨y, hy, rfl⟩ := List.mem_map.1 hx
          obtain ⟨z, hz, rfl⟩ := List.mem_map.1 hy
          have := HL.out.2.1 z hz
          rw [show (⟨(foldL z).toArray⟩ : ByteArray).size = z.length from by simp [ByteArray.size, foldL_length]]
          exact this) (by simp; omega)
        have hmm : ((L.map foldL).map fun x => (⟨x.toArray⟩ : ByteArray)).map (fun x => x.data.toList) = L.map foldL := by simp [List.map_map, Function.comp_def]
        rw [hmm, List.length_map, List.length_map] at hmk
        unfold MakePost at hmk
        rw [if_pos HL.out.2.2] at hmk
        have HM := Lib.hid hmk
        clear hmk hmm hst
        go_wp2_with (first
          | (refine HM.out.mono ?_
             rintro e w3 ⟨rfl, f3⟩
             have H3 := Lib.hid f3
             clear f3)
          | fail "no arm")
        go_ret
        exact ⟨rfl, HF.out.2.then H3.out⟩
  · have hfn : foldN s = [] := by unfold foldN; rw [if_neg hs]
    rw [hfn]
    have hlb := labels_bad s w hs
    have hmk := fun w' => make_any none 0 [] w' (hstr w') (fun x hx => by cases hx) (Nat.zero_le _)
    have HM := Lib.hid (And.intro hlb hmk)
    clear hlb hmk hfn
    go_enter Try.func65, Try.ntmps65
    go_upto_region 3 with (first
      | (refine HM.out.1.mono ?_
         rintro e w1 ⟨rfl, f1⟩
         have H1 := Lib.hid f1
         clear f1)
      | fail "no arm")
    go_loop [12] (fun i => i = .int .i64 0) (fun _ => 0)
    case atStart => rfl
    case round =>
      subst hrel
      have hmk := HM.out.2 w1
      unfold MakePost at hmk
      have HMK := Lib.hid hmk
      clear hmk
      go_wp2_with (first
        | (refine HMK.out.mono ?_
           rintro e w3 ⟨rfl, f3⟩
           have H3 := Lib.hid f3
           clear f3)
        | fail "no arm")
      go_ret
      exact ⟨rfl, H1.out.then H3.out⟩
theorem row_str (w : World) (x0 x1 x2 x3 : UInt8) : (convert 120 9 (.slice (some ⟨w.heap.size, 0, none⟩) 4 4)).run Try.prog (w.alloc (.cells #[.int .u8 x0.toNat, .int .u8 x1.toNat, .int .u8 x2.toNat, .int .u8 x3.toNat] 5)) = .ok (.string ⟨[x0, x1, x2, x3].toArray⟩) (w.alloc (.cells #[.int .u8 x0.toNat, .int .u8 x1.toNat, .int .u8 x2.toNat, .int .u8 x3.toNat] 5)) := by
  have hb := Blk.new w 5 #[.int .u8 x0.toNat, .int .u8 x1.toNat, .int .u8 x2.toNat, .int .u8 x3.toNat]
  exact run_convert_bytes_back _ _ _ 5 ⟨w.heap.size, 0, none⟩ 4 [x0, x1, x2, x3] Try.underlying120 Try.underlying5 Try.underlying9 (fun j hj => by
    rw [show ((⟨w.heap.size, 0, none⟩ : Addr).add j) = ⟨w.heap.size, j, none⟩ from by unfold Addr.add; split <;> simp_all, hb.cell j]
    have h4 : j < 4 := hj
    rcases (show j = 0 ∨ j = 1 ∨ j = 2 ∨ j = 3 by omega) with rfl | rfl | rfl | rfl <;> rfl)
theorem row_str2 {w w2 : World} {x0 x1 x2 x3 : UInt8} (f : Fr (fun _ => False) (w.alloc (.cells #[.int .u8 x0.toNat, .int .u8 x1.toNat, .int .u8 x2.toNat, .int .u8 x3.toNat] 5)) w2) : (convert 120 9 (.slice (some ⟨w.heap.size, 0, none⟩) 4 4)).run Try.prog w2 = .ok (.string ⟨[x0, x1, x2, x3].toArray⟩) w2 := by
  have hb := (Blk.new w 5 #[.int .u8 x0.toNat, .int .u8 x1.toNat, .int .u8 x2.toNat, .int .u8 x3.toNat]).fr f id
  exact run_convert_bytes_back _ _ _ 5 ⟨w.heap.size, 0, none⟩ 4 [x0, x1, x2, x3] Try.underlying120 Try.underlying5 Try.underlying9 (fun j hj => by
    rw [show ((⟨w.heap.size, 0, none⟩ : Addr).add j) = ⟨w.heap.size, j, none⟩ from by unfold Addr.add; split <;> simp_all, hb.cell j]
    have h4 : j < 4 := hj
    rcases (show j = 0 ∨ j = 1 ∨ j = 2 ∨ j = 3 by omega) with rfl | rfl | rfl | rfl <;> rfl)
theorem wrap_u8 (a : Nat) : IntKind.u8.wrap (a : Int) = ((UInt8.ofNat a).toNat : Nat) := by
  unfold IntKind.wrap
  rw [UInt8.toNat_ofNat']
  simp [IntKind.signed, IntKind.bits]
set_option maxRecDepth 100000 in
set_option maxHeartbeats 4000000 in
theorem key_any (n : ByteArray) (t cl : Int) (w : World) (ht : i64ok' t) (hc : i64ok' cl) : Calls Try.prog 46 #[.agg #[.string n, .int .i64 t, .int .i64 cl]] w fun e w' => e = .returned (.string ⟨(keyQ n t cl).toArray⟩) ∧ Fr (fun _ => False) w w' := by
  obtain ⟨a, ha⟩ : ∃ a : Nat, a = (t % 65536).toNat := ⟨_, rfl⟩
  obtain ⟨b, hb⟩ : ∃ b : Nat, b = (cl % 65536).toNat := ⟨_, rfl⟩
  have ha' : IntKind.u16.wrap t = (a : Int) := by unfold IntKind.wrap; simp [IntKind.signed, IntKind.bits]; omega
  have hb' : IntKind.u16.wrap cl = (b : Int) := by unfold IntKind.wrap; simp [IntKind.signed, IntKind.bits]; omega
  have hka : keyQ n t cl = foldN n ++ (octs a 2 ++ octs b 2) := by unfold keyQ; rw [← ha, ← hb]
  have ha1 : a < 65536 := by omega
  have hb1 : b < 65536 := by omega
  have hko : octs a 2 ++ octs b 2 = [UInt8.ofNat (a / 256), UInt8.ofNat a, UInt8.ofNat (b / 256), UInt8.ofNat b] := by simp [octs]
  rw [hko] at hka
  rw [hka]
  have hx0 : IntKind.u8.wrap ((a : Int) / 256) = ((UInt8.ofNat (a / 256)).toNat : Nat) := by rw [← wrap_u8]; congr 1
  have hx1 : IntKind.u8.wrap (a : Int) = ((UInt8.ofNat a).toNat : Nat) := wrap_u8 a
  have hx2 : IntKind.u8.wrap ((b : Int) / 256) = ((UInt8.ofNat (b / 256)).toNat : Nat) := by rw [← wrap_u8]; congr 1
  have hx3 : IntKind.u8.wrap (b : Int) = ((UInt8.ofNat b).toNat : Nat) := wrap_u8 b
  generalize UInt8.ofNat (a / 256) = x0 at *
  generalize UInt8.ofNat a = x1 at *
  generalize UInt8.ofNat (b / 256) = x2 at *
  generalize UInt8.ofNat b = x3 at *
  have HX := Lib.hid (And.intro hx0 (And.intro hx1 (And.intro hx2 hx3)))
  have hfl : (⟨(foldN n).toArray⟩ : ByteArray).size ≤ 254 := by simp [ByteArray.size]; exact foldN_len n
  clear hka ha hb hko hx0 hx1 hx2 hx3
  have HAB := Lib.hid (And.intro ha' hb')
  clear ha' hb'
  go_enter Try.func46, Try.ntmps46
  go_wp2_with fail
  obtain ⟨W, hW⟩ : ∃ W, W = w.alloc (.cells #[.string n, .int .i64 t, .int .i64 cl] 25) := ⟨_, rfl⟩
  rw [← hW]
  have hbl : Blk W w.heap.size 25 #[.string n, .int .i64 t, .int .i64 cl] := by rw [hW]; exact Blk.new _ _ _
  have hfr : Fr (fun _ => False) w W := by rw [hW]; exact (Fr.refl _ _).alloc _
  have c0 := hbl.cell 0
  have c1 := hbl.cell 1
  have c2 := hbl.cell 2
  have HB := Lib.hid (And.intro hbl hfr)
  clear hW hbl hfr
  go_quiet (fail)
  rw [HAB.out.1, HAB.out.2]
  have hB1 := And.intro (HB.out.1.drewN nq) (HB.out.2.drewN nq)
  clear c0 c1 c2
  generalize W.drewN nq = W1 at *
  have HB1 := Lib.hid hB1
  clear hB1
  go_wp2_with fail
  refine wp_region_held_drew (S := fun w' => w'.cell? ⟨w.heap.size, 0, none⟩ = some (.string n)) (by kernel_rfl) (HB1.out.1.cell 0) (fun hHeld => ?_)
  obtain ⟨W2, hW2⟩ : ∃ W2, W2 = W1.drew := ⟨_, rfl⟩
  rw [← hW2] at hHeld ⊢
  have hB2 : Blk W2 w.heap.size 25 #[.string n, .int .i64 t, .int .i64 cl] ∧ Fr (fun _ => False) w W2 := by rw [hW2]; exact ⟨HB1.out.1.drew, HB1.out.2.drew⟩
  have HB2 := Lib.hid hB2
  clear hW2 hB2
  refine wpAnyH_take (i := 0) (v := ?_) rfl (by kernel_rfl) (by kernel_rfl) (by kernel_rfl) (fun _ _ _ h => h) (Or.inl ⟨by rfl, ?_⟩) (by assumption) ?_
  rotate_left
  · intro w hSw
    go_simp
    try with_reducible rfl
  try simp only [Act.put, List.setIfInBounds_toArray, List.set_cons_zero, List.set_cons_succ, List.getElem_toArray, List.getElem_cons_zero, List.getElem_cons_succ]
  refine wpAnyH_take (i := 1) (v := ?_) rfl (by kernel_rfl) (by kernel_rfl) (by kernel_rfl) (fun _ _ _ h => h) (Or.inl ⟨by rfl, ?_⟩) (by assumption) ?_
  rotate_left
  · intro w hSw
    have hc0 : w.cell? _ = _ := hSw
    go_simp
    try with_reducible rfl
  try simp only [Act.put, List.setIfInBounds_toArray, List.set_cons_zero, List.set_cons_succ, List.getElem_toArray, List.getElem_cons_zero, List.getElem_cons_succ]
  refine wpAnyH_take (i := 3) (v := ?_) rfl (by kernel_rfl) (by kernel_rfl) (by kernel_rfl) (fun _ _ _ h => h) (Or.inl ⟨by rfl, ?_⟩) (by assumption) ?_
  rotate_left
  · intro w hSw
    go_simp
    try with_reducible rfl
  try simp only [Act.put, List.setIfInBounds_toArray, List.set_cons_zero, List.set_cons_succ, List.getElem_toArray, List.getElem_cons_zero, List.getElem_cons_succ]
  refine wpAnyH_take (i := 4) (v := ?_) rfl (by kernel_rfl) (by kernel_rfl) (by kernel_rfl) (fun _ _ _ h => h) (Or.inl ⟨by rfl, ?_⟩) (by assumption) ?_
  rotate_left
  · intro w hSw
    go_simp
    try with_reducible rfl
  try simp only [Act.put, List.setIfInBounds_toArray, List.set_cons_zero, List.set_cons_succ, List.getElem_toArray, List.getElem_cons_zero, List.getElem_cons_succ]
  refine wpAnyH_take (i := 5) (v := ?_) rfl (by kernel_rfl) (by kernel_rfl) (by kernel_rfl) (fun _ _ _ h => h) (Or.inl ⟨by rfl, ?_⟩) (by assumption) ?_
  rotate_left
  · intro w hSw
    go_simp
    try with_reducible rfl
  try simp only [Act.put, List.setIfInBounds_toArray, List.set_cons_zero, List.set_cons_succ, List.getElem_toArray, List.getElem_cons_zero, List.getElem_cons_succ]
  refine wpAnyH_take (i := 6) (v := ?_) rfl (by kernel_rfl) (by kernel_rfl) (by kernel_rfl) (fun _ _ _ h => h) (Or.inl ⟨by rfl, ?_⟩) (by assumption) ?_
  rotate_left
  · intro w hSw
    go_simp
    try with_reducible rfl
  try simp only [Act.put, List.setIfInBounds_toArray, List.set_cons_zero, List.set_cons_succ, List.getElem_toArray, List.getElem_cons_zero, List.getElem_cons_succ]
  refine wpAnyH_take (i := 7) (v := ?_) rfl (by kernel_rfl) (by kernel_rfl) (by kernel_rfl) (fun _ _ _ h => h) (Or.inl ⟨by rfl, ?_⟩) (by assumption) ?_
  rotate_left
  · intro w hSw
    go_simp
    try with_reducible rfl
  try simp only [Act.put, List.setIfInBounds_toArray, List.set_cons_zero, List.set_cons_succ, List.getElem_toArray, List.getElem_cons_zero, List.getElem_cons_succ]
  refine wpAnyH_take (i := 8) (v := ?_) rfl (by kernel_rfl) (by kernel_rfl) (by kernel_rfl) (fun _ _ _ h => h) (Or.inl ⟨by rfl, ?_⟩) (by assumption) ?_
  rotate_left
  · intro w hSw
    go_simp
    try with_reducible rfl
  try simp only [Act.put, List.setIfInBounds_toArray, List.set_cons_zero, List.set_cons_succ, List.getElem_toArray, List.getElem_cons_zero, List.getElem_cons_succ]
  refine wpAnyH_take (i := 9) (v := ?_) rfl (by kernel_rfl) (by kernel_rfl) (by kernel_rfl) (fun _ _ _ h => h) (Or.inl ⟨by rfl, ?_⟩) (by assumption) ?_
  rotate_left
  · intro w hSw
    go_simp
    try with_reducible rfl
  try simp only [Act.put, List.setIfInBounds_toArray, List.set_cons_zero, List.set_cons_succ, List.getElem_toArray, List.getElem_cons_zero, List.getElem_cons_succ]
  refine wpAnyH_take (i := 10) (v := ?_) rfl (by kernel_rfl) (by kernel_rfl) (by kernel_rfl) (fun _ _ _ h => h) (Or.inl ⟨by rfl, ?_⟩) (by assumption) ?_
  rotate_left
  · intro w hSw
    go_simp
    try with_reducible rfl
  try simp only [Act.put, List.setIfInBounds_toArray, List.set_cons_zero, List.set_cons_succ, List.getElem_toArray, List.getElem_cons_zero, List.getElem_cons_succ]
  refine wpAnyH_take (i := 11) (v := ?_) rfl (by kernel_rfl) (by kernel_rfl) (by kernel_rfl) (fun _ _ _ h => h) (Or.inl ⟨by rfl, ?_⟩) (by assumption) ?_
  rotate_left
  · intro w hSw
    go_simp
    try with_reducible rfl
  try simp only [Act.put, List.setIfInBounds_toArray, List.set_cons_zero, List.set_cons_succ, List.getElem_toArray, List.getElem_cons_zero, List.getElem_cons_succ]
  refine wpAnyH_take (i := 12) (v := ?_) rfl (by kernel_rfl) (by kernel_rfl) (by kernel_rfl) (fun _ _ _ h => h) (Or.inl ⟨by rfl, ?_⟩) (by assumption) ?_
  rotate_left
  · intro w hSw
    go_simp
    try with_reducible rfl
  try simp only [Act.put, List.setIfInBounds_toArray, List.set_cons_zero, List.set_cons_succ, List.getElem_toArray, List.getElem_cons_zero, List.getElem_cons_succ]
  rw [HX.out.1, HX.out.2.1, HX.out.2.2.1, HX.out.2.2.2]
  have hif : (9223372036854775807 < (foldN n).length + 4) = False := eq_false (by have := foldN_len n; omega)
  refine wpAnyH_ready (rs := [2, 13]) (by kernel_rfl) (by simp) ?_
  refine AllReadyH.cons rfl (fun K hK => ?_) (AllReadyH.cons rfl (fun K hK => ?_) AllReadyH.nil)
  · go_simp
    (with_reducible refine (nfold_any n W2).mono ?_)
    rintro e w2 ⟨rfl, f2⟩
    have c2 := (f2.cell (p := ⟨w.heap.size, 0, none⟩) HB2.out.1.lt id).trans (HB2.out.1.cell 0)
    have F2 := Lib.hid f2
    clear f2
    refine hK.out _ _ c2 (fun hHeld => ?_)
    clear hK K
    try simp only [Act.put, List.setIfInBounds_toArray, List.set_cons_zero, List.set_cons_succ, List.getElem_toArray, List.getElem_cons_zero, List.getElem_cons_succ]
    refine wpAnyH_ready (rs := [13]) (by kernel_rfl) (by simp) ?_
    refine AllReadyH.cons rfl (fun K hK => ?_) AllReadyH.nil
    go_simp
    have d2 := ((Fr.refl (fun _ => False) w2).alloc (Obj.cells #[Value.int IntKind.u8 x0.toNat, Value.int IntKind.u8 x1.toNat, Value.int IntKind.u8 x2.toNat, Value.int IntKind.u8 x3.toNat] 5)).cell (p := ⟨w.heap.size, 0, none⟩) (World.block_lt_of_cell? _ _ c2) id
    refine hK.out _ _ (d2.trans c2) (fun hHeld => ?_)
    clear hK K
    try simp only [Act.put, List.setIfInBounds_toArray, List.set_cons_zero, List.set_cons_succ, List.getElem_toArray, List.getElem_cons_zero, List.getElem_cons_succ]
    refine wpAnyH_ready (rs := [14]) (by kernel_rfl) (by simp) ?_
    refine AllReadyH.cons rfl (fun K hK => ?_) AllReadyH.nil
    have hcv := row_str w2 x0 x1 x2 x3
    go_simp
    refine hK.out _ _ (d2.trans c2) (fun hHeld => ?_)
    clear hK K
    try simp only [Act.put, List.setIfInBounds_toArray, List.set_cons_zero, List.set_cons_succ, List.getElem_toArray, List.getElem_cons_zero, List.getElem_cons_succ]
    clear hcv
    refine wpAnyH_take (i := 15) (v := ?_) rfl (by kernel_rfl) (by kernel_rfl) (by kernel_rfl) (fun _ _ _ h => h) (Or.inl ⟨by rfl, ?_⟩) (by assumption) ?_
    rotate_left
    · intro w hSw
      go_simp
      try with_reducible rfl
    try simp only [Act.put, List.setIfInBounds_toArray, List.set_cons_zero, List.set_cons_succ, List.getElem_toArray, List.getElem_cons_zero, List.getElem_cons_succ]
    refine wpAnyH_take (i := 16) (v := ?_) rfl (by kernel_rfl) (by kernel_rfl) (by kernel_rfl) (fun _ _ _ h => h) (Or.inl ⟨by rfl, ?_⟩) (by assumption) ?_
    rotate_left
    · intro w hSw
      go_simp
      try with_reducible rfl
    try simp only [Act.put, List.setIfInBounds_toArray, List.set_cons_zero, List.set_cons_succ, List.getElem_toArray, List.getElem_cons_zero, List.getElem_cons_succ]
    refine wpAnyH_done (by kernel_rfl) ?_ _
    clear hHeld
    go_wp2_with fail
    go_ret
    exact ⟨ret_str (str_app2 _ _), HB2.out.2.then (F2.out.alloc _)⟩
  · go_simp
    have d1 := ((Fr.refl (fun _ => False) W2).alloc (Obj.cells #[Value.int IntKind.u8 x0.toNat, Value.int IntKind.u8 x1.toNat, Value.int IntKind.u8 x2.toNat, Value.int IntKind.u8 x3.toNat] 5)).cell (p := ⟨w.heap.size, 0, none⟩) HB2.out.1.lt id
    have e1 := d1.trans (HB2.out.1.cell 0)
    refine hK.out _ _ e1 (fun hHeld => ?_)
    clear hK K
    try simp only [Act.put, List.setIfInBounds_toArray, List.set_cons_zero, List.set_cons_succ, List.getElem_toArray, List.getElem_cons_zero, List.getElem_cons_succ]
    refine wpAnyH_ready (rs := [2, 14]) (by kernel_rfl) (by simp) ?_
    refine AllReadyH.cons rfl (fun K hK => ?_) (AllReadyH.cons rfl (fun K hK => ?_) AllReadyH.nil)
    · go_simp
      (with_reducible refine (nfold_any n _).mono ?_)
      rintro e w2 ⟨rfl, f2⟩
      have c2 := (f2.cell (p := ⟨w.heap.size, 0, none⟩) (World.block_lt_of_cell? _ _ e1) id).trans e1
      have F2 := Lib.hid f2
      have hcv := row_str2 f2
      clear f2
      refine hK.out _ _ c2 (fun hHeld => ?_)
      clear hK K
      try simp only [Act.put, List.setIfInBounds_toArray, List.set_cons_zero, List.set_cons_succ, List.getElem_toArray, List.getElem_cons_zero, List.getElem_cons_succ]
      refine wpAnyH_ready (rs := [14]) (by kernel_rfl) (by simp) ?_
      refine AllReadyH.cons rfl (fun K hK => ?_) AllReadyH.nil
      go_simp
      refine hK.out _ _ c2 (fun hHeld => ?_)
      clear hK K
      try simp only [Act.put, List.setIfInBounds_toArray, List.set_cons_zero, List.set_cons_succ, List.getElem_toArray, List.getElem_cons_zero, List.getElem_cons_succ]
      clear hcv
      refine wpAnyH_take (i := 15) (v := ?_) rfl (by kernel_rfl) (by kernel_rfl) (by kernel_rfl) (fun _ _ _ h => h) (Or.inl ⟨by rfl, ?_⟩) (by assumption) ?_
      rotate_left
      · intro w hSw
        go_simp
        try with_reducible rfl
      try simp only [Act.put, List.setIfInBounds_toArray, List.set_cons_zero, List.set_cons_succ, List.getElem_toArray, List.getElem_cons_zero, List.getElem_cons_succ]
      refine wpAnyH_take (i := 16) (v := ?_) rfl (by kernel_rfl) (by kernel_rfl) (by kernel_rfl) (fun _ _ _ h => h) (Or.inl ⟨by rfl, ?_⟩) (by assumption) ?_
      rotate_left
      · intro w hSw
        go_simp
        try with_reducible rfl
      try simp only [Act.put, List.setIfInBounds_toArray, List.set_cons_zero, List.set_cons_succ, List.getElem_toArray, List.getElem_cons_zero, List.getElem_cons_succ]
      refine wpAnyH_done (by kernel_rfl) ?_ _
      clear hHeld
      go_wp2_with fail
      go_ret
      exact ⟨ret_str (str_app2 _ _), HB2.out.2.then (((Fr.refl (fun _ => False) W2).alloc _).then F2.out)⟩
    · have hcv := row_str W2 x0 x1 x2 x3
      go_simp
      refine hK.out _ _ e1 (fun hHeld => ?_)
      clear hK K
      try simp only [Act.put, List.setIfInBounds_toArray, List.set_cons_zero, List.set_cons_succ, List.getElem_toArray, List.getElem_cons_zero, List.getElem_cons_succ]
      clear hcv
      refine wpAnyH_ready (rs := [2]) (by kernel_rfl) (by simp) ?_
      refine AllReadyH.cons rfl (fun K hK => ?_) AllReadyH.nil
      go_simp
      (with_reducible refine (nfold_any n _).mono ?_)
      rintro e w2 ⟨rfl, f2⟩
      have c2 := (f2.cell (p := ⟨w.heap.size, 0, none⟩) (World.block_lt_of_cell? _ _ e1) id).trans e1
      have F2 := Lib.hid f2
      clear f2
      refine hK.out _ _ c2 (fun hHeld => ?_)
      clear hK K
      try simp only [Act.put, List.setIfInBounds_toArray, List.set_cons_zero, List.set_cons_succ, List.getElem_toArray, List.getElem_cons_zero, List.getElem_cons_succ]
      refine wpAnyH_take (i := 15) (v := ?_) rfl (by kernel_rfl) (by kernel_rfl) (by kernel_rfl) (fun _ _ _ h => h) (Or.inl ⟨by rfl, ?_⟩) (by assumption) ?_
      rotate_left
      · intro w hSw
        go_simp
        try with_reducible rfl
      try simp only [Act.put, List.setIfInBounds_toArray, List.set_cons_zero, List.set_cons_succ, List.getElem_toArray, List.getElem_cons_zero, List.getElem_cons_succ]
      refine wpAnyH_take (i := 16) (v := ?_) rfl (by kernel_rfl) (by kernel_rfl) (by kernel_rfl) (fun _ _ _ h => h) (Or.inl ⟨by rfl, ?_⟩) (by assumption) ?_
      rotate_left
      · intro w hSw
        go_simp
        try with_reducible rfl
      try simp only [Act.put, List.setIfInBounds_toArray, List.set_cons_zero, List.set_cons_succ, List.getElem_toArray, List.getElem_cons_zero, List.getElem_cons_succ]
      refine wpAnyH_done (by kernel_rfl) ?_ _
      clear hHeld
      go_wp2_with fail
      go_ret
      exact ⟨ret_str (str_app2 _ _), HB2.out.2.then (((Fr.refl (fun _ => False) W2).alloc _).then F2.out)⟩
end Go.Proofs.Ytncfdfgcnblicaa
