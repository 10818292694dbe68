/-
  TEXTS OF THIS CLAIM, TOGETHER: Run, Rde, Openl, Rba.
-/
import Derived.Test.YtmbgejiahmhffaaGreatUunI
import Derived.Test.YtmbgejiahmhffaaGreatUunH
import Derived.Deep.DeepCutAuto
import Derived.Deep.MidRow
import Derived.Test.YtmbgejiahmhffaaGreatUunJ
import Derived.Test.YtmbgejiahmhffaaGreatUunB
/-
  LAYER 10: RecordUnlike.
-/
namespace Go.Proofs.YtmbgejiahmhffaaGreat
set_option linter.unusedVariables false
set_option linter.unusedSimpArgs false
open Go.RowKit

/-- The four arguments in blocks of the call's. -/
structure RU (w W : World) (a b : Rcd) (q r : Qn) (A B : Option Addr) (ka kb : Nat) : Prop where
  ba : Blk W w.heap.size 55 (a.cells (.slice A a.d.texts.length ka))
  bb : Blk W (w.heap.size + 1) 55 (b.cells (.slice B b.d.texts.length kb))
  bq : Blk W (w.heap.size + 1 + 1) 40 #[.string q.1, .int .i64 q.2.1, .int .i64 q.2.2]
  br : Blk W (w.heap.size + 1 + 1 + 1) 40 #[.string r.1, .int .i64 r.2.1, .int .i64 r.2.2]
  ra : RcIn W A a
  rb : RcIn W B b
  fr : Fr (fun _ => False) w W
section
variable {w W W' : World} {a b : Rcd} {q r : Qn} {A B : Option Addr} {ka kb : Nat}
theorem RU.step {S : Nat → Prop} (h : RU w W a b q r A B ka kb) (f : Fr S W W') (hs : ∀ k, S k → w.heap.size + 1 + 1 + 1 < k ∧ (rowT A a.d.texts k → False) ∧ (rowT B b.d.texts k → False)) : RU w W' a b q r A B ka kb :=
  ⟨h.ba.fr f fun g => by have := (hs _ g).1; omega, h.bb.fr f fun g => by have := (hs _ g).1; omega, h.bq.fr f fun g => by have := (hs _ g).1; omega, h.br.fr f fun g => by have := (hs _ g).1; omega,
    h.ra.frT f fun k hk g => (hs k g).2.1 hk, h.rb.frT f fun k hk g => (hs k g).2.2 hk, h.fr.step f fun k g => .inr (by have := (hs _ g).1; omega)⟩
theorem RU.fr0 (h : RU w W a b q r A B ka kb) (f : Fr (fun _ => False) W W') : RU w W' a b q r A B ka kb := h.step f fun _ g => g.elim
theorem RU.cq (h : RU w W a b q r A B ka kb) : W.cell? ⟨(w.heap.size + 1 + 1), 0, none⟩ = some (.string q.1) ∧ W.cell? ⟨(w.heap.size + 1 + 1), 1, none⟩ = some (.int .i64 q.2.1) ∧ W.cell? ⟨(w.heap.size + 1 + 1), 2, none⟩ = some (.int .i64 q.2.2) := ⟨h.bq.cell 0, h.bq.cell 1, h.bq.cell 2⟩
theorem RU.cr (h : RU w W a b q r A B ka kb) : W.cell? ⟨(w.heap.size + 1 + 1 + 1), 0, none⟩ = some (.string r.1) ∧ W.cell? ⟨(w.heap.size + 1 + 1 + 1), 1, none⟩ = some (.int .i64 r.2.1) ∧ W.cell? ⟨(w.heap.size + 1 + 1 + 1), 2, none⟩ = some (.int .i64 r.2.2) := ⟨h.br.cell 0, h.br.cell 1, h.br.cell 2⟩
end
theorem RU.far {w W : World} {a b : Rcd} {q r : Qn} {A B : Option Addr} {ka kb : Nat} (h : RU w W a b q r A B ka kb) : ∀ k, W.heap.size ≤ k → w.heap.size + 1 + 1 + 1 < k ∧ (rowT A a.d.texts k → False) ∧ (rowT B b.d.texts k → False) := fun k hk =>
  ⟨Nat.lt_of_lt_of_le h.br.lt hk, fun g => by have := h.ra.d.txt.ltT g; omega, fun g => by have := h.rb.d.txt.ltT g; omega⟩
end Go.Proofs.YtmbgejiahmhffaaGreat

/-
  LAYER 10: what Read tells is what the plain reader tells.
-/
namespace Go.Proofs.YtmbgejiahmhffaaGreat
set_option linter.unusedVariables false
set_option linter.unusedSimpArgs false
open Go.RowKit

/-- The states from the cursor behind the name on. -/
def rk3 (s : ByteArray) (c : Cu) : Nat × Cu := (c.has s 10).number s.data.toList s.size 2
def rk4 (s : ByteArray) (c : Cu) : Nat × Cu := (rk3 s c).2.number s.data.toList s.size 2
def rk5 (s : ByteArray) (c : Cu) : Nat × Cu := (rk4 s c).2.number s.data.toList s.size 4
def rk6 (s : ByteArray) (c : Cu) : Nat × Cu := (rk5 s c).2.number s.data.toList s.size 2
def rk7 (s : ByteArray) (c : Cu) : Cu := (rk6 s c).2.has s (if (rk5 s c).2.e = 0 then (rk6 s c).1 else 0)
theorem rk7_err {s : ByteArray} {c : Cu} (h : (c.has s 10).e ≠ 0) : rk7 s c = c.has s 10 := by
  have h3 : (rk3 s c).2 = c.has s 10 := Cu.number_err h
  have h4 : (rk4 s c).2 = c.has s 10 := (Cu.number_err (by rw [h3]; exact h)).trans h3
  have h5 : (rk5 s c).2 = c.has s 10 := (Cu.number_err (by rw [h4]; exact h)).trans h4
  have h6 : (rk6 s c).2 = c.has s 10 := (Cu.number_err (by rw [h5]; exact h)).trans h5
  unfold rk7
  rw [h6]
  exact Cu.has_err h
theorem rreadC_k (s : ByteArray) (a : Int) : rreadC s a =
    if (rk7 s ((crAt s a).rname s)).e ≠ 0 then (Rcd.zero, 0, (rk7 s ((crAt s a).rname s)).e)
    else if (dreadC s ((rk7 s ((crAt s a).rname s)).at_ : Nat) (((rk7 s ((crAt s a).rname s)).at_ : Nat) + ((rk6 s ((crAt s a).rname s)).1 : Nat)) ((rk3 s ((crAt s a).rname s)).1 : Nat)).2 ≠ 0 then (Rcd.zero, 0, (dreadC s ((rk7 s ((crAt s a).rname s)).at_ : Nat) (((rk7 s ((crAt s a).rname s)).at_ : Nat) + ((rk6 s ((crAt s a).rname s)).1 : Nat)) ((rk3 s ((crAt s a).rname s)).1 : Nat)).2)
    else (⟨(nameAt s (crAt s a).at_ true).name, ((rk3 s ((crAt s a).rname s)).1 : Nat), ((rk4 s ((crAt s a).rname s)).1 : Nat), (rk5 s ((crAt s a).rname s)).1, (dreadC s ((rk7 s ((crAt s a).rname s)).at_ : Nat) (((rk7 s ((crAt s a).rname s)).at_ : Nat) + ((rk6 s ((crAt s a).rname s)).1 : Nat)) ((rk3 s ((crAt s a).rname s)).1 : Nat)).1⟩, (((rk7 s ((crAt s a).rname s)).at_ : Nat) : Int) + (((rk6 s ((crAt s a).rname s)).1 : Nat) : Int), 0) := rfl
theorem rreadC_eq (s : ByteArray) (a : Int) : rreadC s a = rreadN s.data.toList a := by
  have hl : s.data.toList.length = s.size := by rw [Array.length_toList]; rfl
  rw [rreadC_k]
  unfold rreadN
  rw [hl]
  by_cases h : a < 0 ∨ (s.size : Int) < a
  · have h1 : crAt s a = ⟨0, 2⟩ := by unfold crAt; rw [if_pos h]
    have h2 : (crAt s a).rname s = ⟨0, 2⟩ := by rw [h1]; exact Cu.rname_err (by decide)
    have h3 : (Cu.mk 0 2).has s 10 = ⟨0, 2⟩ := Cu.has_err (by decide)
    have h7 : rk7 s ⟨0, 2⟩ = ⟨0, 2⟩ := (rk7_err (by rw [h3]; decide)).trans h3
    rw [if_pos h, h2, h7]
    rfl
  · have h1 : crAt s a = ⟨a.toNat, 0⟩ := by unfold crAt; rw [if_neg h]
    rw [if_neg h]
    have hn : nameAt s ((a.toNat : Nat) : Int) true = uread s.data.toList true ⟨a.toNat, a.toNat, -1, 0, []⟩ := by
      unfold nameAt
      rw [if_neg (by omega), Int.toNat_natCast]
    have h3 : (nameAt s (crAt s a).at_ true).name = (nameAt s ((a.toNat : Nat) : Int) true).name := by rw [h1]
    rw [h3, hn]
    cases hu : uread s.data.toList true ⟨a.toNat, a.toNat, -1, 0, []⟩ with
    | done z =>
      have hf : 0 ≤ z.fin ∧ z.fin ≤ s.size := nameAt_fin (f := true) (a := a.toNat) (by omega) (hn.trans hu)
      have hc2 : (crAt s a).rname s = ⟨z.fin.toNat, 0⟩ := by
        rw [h1]
        unfold Cu.rname
        dsimp only
        rw [hn, hu]
        rfl
      rw [hc2]
      dsimp only [Ust.name]
      generalize z.fin.toNat = p at *
      by_cases h4 : s.size - p < 10
      · have h2 : (Cu.mk p 0).has s 10 = ⟨p, 8⟩ := by unfold Cu.has; rw [if_pos ⟨rfl, h4⟩]
        have h7 : rk7 s ⟨p, 0⟩ = ⟨p, 8⟩ := (rk7_err (by rw [h2]; exact (by decide : (8 : Int) ≠ 0))).trans h2
        rw [h7, if_pos (show (8 : Int) ≠ 0 by decide), if_pos h4]
      · have h2 : (Cu.mk p 0).has s 10 = ⟨p, 0⟩ := by unfold Cu.has; rw [if_neg (fun g => h4 g.2)]
        have k3 : rk3 s ⟨p, 0⟩ = (numAt s.data.toList p 2, ⟨p + 2, 0⟩) := by unfold rk3; rw [h2]; exact Cu.number_ok rfl (by dsimp only; omega)
        have k4 : rk4 s ⟨p, 0⟩ = (numAt s.data.toList (p + 2) 2, ⟨p + 4, 0⟩) := by unfold rk4; rw [k3]; exact Cu.number_ok rfl (by dsimp only; omega)
        have k5 : rk5 s ⟨p, 0⟩ = (numAt s.data.toList (p + 4) 4, ⟨p + 8, 0⟩) := by unfold rk5; rw [k4]; exact Cu.number_ok rfl (by dsimp only; omega)
        have k6 : rk6 s ⟨p, 0⟩ = (numAt s.data.toList (p + 8) 2, ⟨p + 10, 0⟩) := by unfold rk6; rw [k5]; exact Cu.number_ok rfl (by dsimp only; omega)
        have k7 : rk7 s ⟨p, 0⟩ = (Cu.mk (p + 10) 0).has s (numAt s.data.toList (p + 8) 2) := by
          unfold rk7
          rw [k6, k5]
          dsimp only
          rw [if_pos rfl]
        rw [if_neg h4, k3, k4, k5, k6, k7]
        dsimp only
        by_cases h5 : s.size - (p + 10) < numAt s.data.toList (p + 8) 2
        · have h6 : (Cu.mk (p + 10) 0).has s (numAt s.data.toList (p + 8) 2) = ⟨p + 10, 8⟩ := by unfold Cu.has; rw [if_pos ⟨rfl, h5⟩]
          rw [h6, if_pos (show (8 : Int) ≠ 0 by decide), if_pos h5]
        · have h6 : (Cu.mk (p + 10) 0).has s (numAt s.data.toList (p + 8) 2) = ⟨p + 10, 0⟩ := by unfold Cu.has; rw [if_neg (fun g => h5 g.2)]
          rw [h6, if_neg (show ¬ (0 : Int) ≠ 0 by simp), if_neg h5]
          dsimp only
          rw [dreadC_eq, show (((p + 10 : Nat) : Int) + ((numAt s.data.toList (p + 8) 2 : Nat) : Int)) = ((p + 10 + numAt s.data.toList (p + 8) 2 : Nat) : Int) by omega]
    | bad e =>
      have hne := uread_bad_ne hu
      have hc2 : (crAt s a).rname s = ⟨a.toNat, e⟩ := by
        rw [h1]
        unfold Cu.rname
        dsimp only
        rw [hn, hu]
        dsimp only [Ust.err]
        simp [hne]
      have h2 : (Cu.mk a.toNat e).has s 10 = ⟨a.toNat, e⟩ := Cu.has_err hne
      have h7 : rk7 s ⟨a.toNat, e⟩ = ⟨a.toNat, e⟩ := (rk7_err (by rw [h2]; exact hne)).trans h2
      rw [hc2, h7, if_pos hne]
    | on z =>
      rcases uread_cases s.data.toList true ⟨a.toNat, a.toNat, -1, 0, []⟩ with ⟨y, hy⟩ | ⟨e, hy⟩
      · rw [hu] at hy
        cases hy
      · rw [hu] at hy
        cases hy
end Go.Proofs.YtmbgejiahmhffaaGreat

/-
  LISTS OF QUESTIONS AND OF RECORDS OPENED (second form).
-/
namespace Go.Proofs.YtmbgejiahmhffaaGreat
set_option linter.unusedVariables false
set_option linter.unusedSimpArgs false
open Go.ChangeShapes Go.WideShapes Go.ChangeAt Go.RowKit Go.Deep

theorem flat_put {α : Type} (mk : α → List Value) (k : Nat) (hk : ∀ x, (mk x).length = k) : ∀ (l : List α) (q j : Nat) (x : α) (v : Value), l[q]? = some x → (mk x)[j]? = some v → (l.flatMap mk)[q * k + j]? = some v
  | [], q, j, x, v, h, _ => by simp at h
  | y :: l, 0, j, x, v, h, g => by
    obtain rfl : y = x := by simpa using h
    have hj := (List.getElem?_eq_some_iff.1 g).1
    rw [Nat.zero_mul, Nat.zero_add, List.flatMap_cons, List.getElem?_append, if_pos hj]
    exact g
  | y :: l, q + 1, j, x, v, h, g => by
    rw [List.flatMap_cons, List.getElem?_append, if_neg (by rw [hk, Nat.succ_mul]; omega), hk, show (q + 1) * k + j - k = q * k + j by rw [Nat.succ_mul]; omega]
    exact flat_put mk k hk l q j x v (by simpa using h) g
theorem flat_len {α : Type} (mk : α → List Value) (k : Nat) (hk : ∀ x, (mk x).length = k) : ∀ l : List α, (l.flatMap mk).length = l.length * k
  | [] => by simp
  | y :: l => by rw [List.flatMap_cons, List.length_append, flat_len mk k hk l, hk, List.length_cons, Nat.succ_mul]; omega
def qcl (q : Qn) : List Value := [.string q.1, .int .i64 q.2.1, .int .i64 q.2.2]
def rcl (x : Rcd × Option Addr × Nat) : List Value := (x.1.cells (.slice x.2.1 x.1.d.texts.length x.2.2)).toList
end Go.Proofs.YtmbgejiahmhffaaGreat

/-
  LAYER 10: RecordBack: what stands while the law puts: the packer, the questions and the records that went in, the ends. No walk.
-/
namespace Go.Proofs.YtmbgejiahmhffaaGreat
set_option linter.unusedVariables false
set_option linter.unusedSimpArgs false
open Go.RowKit

def endl (E : List Nat) : List Value := E.map fun n => .int .i64 (n : Nat)
structure RB (w0 w : World) (p : Nat) (F : Nat → Prop) (y : Pk) (A : Option Addr) (ca : Nat) (G : List Qn) (B : Option Addr) (cb : Nat) (R : List (Rcd × Option Addr × Nat)) (C : Option Addr) (cc : Nat) (E : List Nat) : Prop where
  pd : PD w0 w p F y
  q : w.ownsRow 0 40 3 (.slice A G.length ca) G.length (G.flatMap qcl)
  r : w.ownsRow 0 55 16 (.slice B R.length cb) R.length (R.flatMap rcl)
  e : w.ownsRow 0 3 1 (.slice C E.length cc) E.length (endl E)
  fq : ∀ k, rowOf A k → w0.heap.size ≤ k ∧ ¬ F k
  fr : ∀ k, rowOf B k → w0.heap.size ≤ k ∧ ¬ F k
  fe : ∀ k, rowOf C k → w0.heap.size ≤ k ∧ ¬ F k
  qr : ∀ k, rowOf A k → ¬ rowOf B k
  qe : ∀ k, rowOf A k → ¬ rowOf C k
  re : ∀ k, rowOf B k → ¬ rowOf C k
section
variable {w0 w w' : World} {p : Nat} {F F' : Nat → Prop} {y y' : Pk} {A A' B B' C C' : Option Addr} {ca cb cc c' : Nat} {G G' : List Qn} {R R' : List (Rcd × Option Addr × Nat)} {E E' : List Nat}
theorem RB.start (h : PD w0 w p F y) : RB w0 w p F y none 0 [] none 0 [] none 0 [] :=
  ⟨h, own_nil _ _ _, own_nil _ _ _, own_nil _ _ _, fun k h => absurd h (rowOf_none k), fun k h => absurd h (rowOf_none k), fun k h => absurd h (rowOf_none k), fun k h => absurd h (rowOf_none k), fun k h => absurd h (rowOf_none k), fun k h => absurd h (rowOf_none k)⟩
theorem RB.quiet (h : RB w0 w p F y A ca G B cb R C cc E) (f : Fr (fun _ => False) w w') : RB w0 w' p F y A ca G B cb R C cc E :=
  ⟨h.pd.quiet f, own_fr h.q f (fun _ _ => id), own_fr h.r f (fun _ _ => id), own_fr h.e f (fun _ _ => id), h.fq, h.fr, h.fe, h.qr, h.qe, h.re⟩
/-- The packer has been written to. -/
theorem RB.put (h : RB w0 w p F y A ca G B cb R C cc E) (g : PD w0 w' p F' y') (f : Fr F w w') (hs : ∀ k, F' k → F k ∨ w.heap.size ≤ k) : RB w0 w' p F' y' A ca G B cb R C cc E := by
  have key : ∀ {D : Option Addr}, (∀ k, rowOf D k → w0.heap.size ≤ k ∧ ¬ F k) → (∀ k, rowOf D k → k < w.heap.size) → ∀ k, rowOf D k → w0.heap.size ≤ k ∧ ¬ F' k := fun h1 h2 k hk =>
    ⟨(h1 k hk).1, fun h3 => (hs k h3).elim (h1 k hk).2 fun h4 => by have := h2 k hk; omega⟩
  exact ⟨g, own_fr h.q f (fun k hk => (h.fq k hk).2), own_fr h.r f (fun k hk => (h.fr k hk).2), own_fr h.e f (fun k hk => (h.fe k hk).2),
    key h.fq (fun k hk => own_lt h.q hk), key h.fr (fun k hk => own_lt h.r hk), key h.fe (fun k hk => own_lt h.e hk), h.qr, h.qe, h.re⟩
/-- The packer beside an append. -/
theorem RB.pdf (h : RB w0 w p F y A ca G B cb R C cc E) {D : Option Addr} (hd : ∀ k, rowOf D k → w0.heap.size ≤ k ∧ ¬ F k) (f : Fr (rowOf D) w w') : PD w0 w' p F y :=
  ⟨h.pd.pk.fr f (fun k hk hd' => (hd k hd').2 hk), h.pd.fr.step f (fun k hk => .inr (hd k hk).1), h.pd.far⟩
theorem RB.pklt (h : RB w0 w p F y A ca G B cb R C cc E) {k : Nat} (hk : F k) : k < w.heap.size := h.pd.pk.lt k hk
theorem RB.new (h : RB w0 w p F y A ca G B cb R C cc E) {D D' : Option Addr} (hd : ∀ k, rowOf D k → w0.heap.size ≤ k ∧ ¬ F k) (hs : ∀ k, rowOf D' k → rowOf D k ∨ w.heap.size ≤ k) : ∀ k, rowOf D' k → w0.heap.size ≤ k ∧ ¬ F k := fun k hk =>
  (hs k hk).elim (hd k) fun hl => ⟨Nat.le_trans h.pd.fr.size hl, fun hF => by have := h.pklt hF; omega⟩
theorem dis_new {D D' X : Option Addr} {n : Nat} (hd : ∀ k, rowOf D k → ¬ rowOf X k) (hs : ∀ k, rowOf D' k → rowOf D k ∨ n ≤ k) (hx : ∀ k, rowOf X k → k < n) : ∀ k, rowOf D' k → ¬ rowOf X k := fun k hk hX =>
  (hs k hk).elim (fun h => hd k h hX) fun h => by have := hx k hX; omega
theorem RB.addq (h : RB w0 w p F y A ca G B cb R C cc E) {q : Qn} (f : Fr (rowOf A) w w') (hq : w'.ownsRow 0 40 3 (.slice A' (G.length + 1) c') (G.length + 1) (G.flatMap qcl ++ qcl q)) (hs : ∀ k, rowOf A' k → rowOf A k ∨ w.heap.size ≤ k) :
    RB w0 w' p F y A' c' (G ++ [q]) B cb R C cc E :=
  ⟨h.pdf h.fq f, by rw [List.length_append, List.flatMap_append]; simpa using hq, own_fr h.r f (fun k hk hA => h.qr k hA hk), own_fr h.e f (fun k hk hA => h.qe k hA hk),
    h.new h.fq hs, h.fr, h.fe, dis_new h.qr hs (fun k hk => own_lt h.r hk), dis_new h.qe hs (fun k hk => own_lt h.e hk), h.re⟩
theorem RB.addr (h : RB w0 w p F y A ca G B cb R C cc E) {x : Rcd × Option Addr × Nat} (f : Fr (rowOf B) w w') (hq : w'.ownsRow 0 55 16 (.slice B' (R.length + 1) c') (R.length + 1) (R.flatMap rcl ++ rcl x)) (hs : ∀ k, rowOf B' k → rowOf B k ∨ w.heap.size ≤ k) :
    RB w0 w' p F y A ca G B' c' (R ++ [x]) C cc E :=
  ⟨h.pdf h.fr f, own_fr h.q f (fun k hk hB => h.qr k hk hB), by rw [List.length_append, List.flatMap_append]; simpa using hq, own_fr h.e f (fun k hk hB => h.re k hB hk),
    h.fq, h.new h.fr hs, h.fe, fun k hk hB => (hs k hB).elim (h.qr k hk) (fun hl => by have := own_lt h.q hk; omega), h.qe, dis_new h.re hs (fun k hk => own_lt h.e hk)⟩
end

/-! ### A struct of a row read -/
theorem own_rowIn {w : World} {e : TypeId} {size n cap : Nat} {A : Option Addr} {xs : List Value} (h : w.ownsRow 0 e size (.slice A n cap) n xs) : RowIn w A xs := by
  intro h0'
  have h0 := h0'
  rcases h.2 with ⟨h2, h0⟩ | ⟨g, cp, cur, hv, _, hg, h3, h4, h5, h6⟩
  · have hl := h.1
    rw [h0] at hl
    have : xs = [] := List.eq_nil_of_length_eq_zero (by simpa using hl)
    subst this
    simp at h0'
  · injection hv with hA _ _
    have hc := fun j u hu => by
      have := h.cells (g := g) (by rw [hA]; rfl) j u hu
      rwa [show (⟨g, 0, none⟩ : Addr).add j = ⟨g, j, none⟩ from by unfold Addr.add; split <;> simp_all] at this
    refine ⟨g, 0, hA, own_lt h ⟨_, hA, rfl⟩, fun i x hx => ?_⟩
    rw [Nat.zero_add]
    exact hc i x hx
end Go.Proofs.YtmbgejiahmhffaaGreat
