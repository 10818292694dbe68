/-
  TEXTS OF THIS CLAIM, TOGETHER: Run, Rde, Openl, Rba, Rbb, Rbc.
-/
import Derived.Test.YtmbgejiahmhffaaGreatBunI
import Derived.Deep.DeepCutAuto
import Derived.Deep.MidRow
import Derived.Test.YtmbgejiahmhffaaGreatBunJ
import Derived.Test.YtmbgejiahmhffaaGreatBunB
/-
  LAYER 10: RecordUnlike.
-/
namespace Go.Proofs.YtmbgejiahmhffaaGreat
set_option linter.unusedVariables false
set_option linter.unusedSimpArgs false
open Go.RowKit

theorem rput_ug {w0 w : World} {p : Nat} {F : Nat → Prop} {y : Pk} {Bd : Nat} (h : PD w0 w p F y) (hu : UG y Bd) (r : Rcd) (A : Option Addr) (cap : Nat) (hr : RcIn w0 A r) (hB : Bd + 1040 + r.d.light ≤ 65535) :
    Calls Tryz.prog 36 #[.pointer (some ⟨p, 0, none⟩), .agg #[.string r.name, .int .i64 r.t, .int .i64 r.cl, .int .u32 r.ttl, .bool r.d.six, .int .u64 r.d.hi, .int .u64 r.d.lo, .string r.d.name, .string r.d.mail, .int .u32 r.d.n0, .int .u32 r.d.n1, .int .u32 r.d.n2, .int .u32 r.d.n3, .int .u32 r.d.n4, .slice A r.d.texts.length cap, .string r.d.raw]] w
      fun e w' => e = .returned (.int .i64 (if r.check ≠ 0 then (y, r.check) else (rputB y r, 0)).2) ∧ ∃ F', PD w0 w' p F' (if r.check ≠ 0 then (y, r.check) else (rputB y r, 0)).1 ∧ Fr F w w' ∧ ∀ k, F' k → F k ∨ w.heap.size ≤ k := by
  obtain ⟨g1, g2⟩ := rputR_good hu hr.ok hB
  refine (recput_any p F y [] r A cap w h.pk (hu.fit (by omega)) (by decide) (hr.fr0 h.fr) (h.row hr.d.txt)).mono ?_
  rintro e w' ⟨rfl, F', bg', k1, k2, k3, k4⟩
  rw [g1] at k1 ⊢
  have hbg : bg' = [] := k2 (by
    by_cases hc : r.check = 0
    · exact .inr (g2 hc)
    · exact .inl (by rw [rcheckB_eq]; exact hc))
  subst hbg
  exact ⟨rfl, F', h.step k1 k3 k4, k3, k4⟩
theorem qput_ug {w0 w : World} {p : Nat} {F : Nat → Prop} {y : Pk} {Bd : Nat} (h : PD w0 w p F y) (hu : UG y Bd) (n : ByteArray) (t cl : Int) (hB : Bd + 300 ≤ 65535) :
    Calls Tryz.prog 35 #[.pointer (some ⟨p, 0, none⟩), .agg #[.string n, .int .i64 t, .int .i64 cl]] w
      fun e w' => e = .returned (.int .i64 (if qcheck n t cl ≠ 0 then (y, qcheck n t cl) else (headB y n t cl, 0)).2) ∧ ∃ F', PD w0 w' p F' (if qcheck n t cl ≠ 0 then (y, qcheck n t cl) else (headB y n t cl, 0)).1 ∧ Fr F w w' ∧ ∀ k, F' k → F k ∨ w.heap.size ≤ k := by
  refine (qput_any p F y [] n t cl w h.pk (hu.fit (by omega))).mono ?_
  rintro e w' ⟨rfl, F', k1, k2, k3⟩
  rw [qputR_good hu hB] at k1 ⊢
  exact ⟨rfl, F', h.step k1 k2 k3, k2, k3⟩
theorem rput_ok {w0 w : World} {p : Nat} {F : Nat → Prop} {y : Pk} {Bd : Nat} (h : PD w0 w p F y) (hu : UG y Bd) (r : Rcd) (A : Option Addr) (cap : Nat) (hr : RcIn w0 A r) (hB : Bd + 1040 + r.d.light ≤ 65535) (hc : r.check = 0) :
    Calls Tryz.prog 36 #[.pointer (some ⟨p, 0, none⟩), .agg #[.string r.name, .int .i64 r.t, .int .i64 r.cl, .int .u32 r.ttl, .bool r.d.six, .int .u64 r.d.hi, .int .u64 r.d.lo, .string r.d.name, .string r.d.mail, .int .u32 r.d.n0, .int .u32 r.d.n1, .int .u32 r.d.n2, .int .u32 r.d.n3, .int .u32 r.d.n4, .slice A r.d.texts.length cap, .string r.d.raw]] w
      fun e w' => e = .returned (.int .i64 0) ∧ ∃ F', PD w0 w' p F' (rputB y r) ∧ Fr F w w' ∧ ∀ k, F' k → F k ∨ w.heap.size ≤ k := by
  have := rput_ug h hu r A cap hr hB
  rw [if_neg (by simp [hc])] at this
  exact this
theorem rput_no {w0 w : World} {p : Nat} {F : Nat → Prop} {y : Pk} {Bd : Nat} (h : PD w0 w p F y) (hu : UG y Bd) (r : Rcd) (A : Option Addr) (cap : Nat) (hr : RcIn w0 A r) (hB : Bd + 1040 + r.d.light ≤ 65535) (hc : r.check ≠ 0) :
    Calls Tryz.prog 36 #[.pointer (some ⟨p, 0, none⟩), .agg #[.string r.name, .int .i64 r.t, .int .i64 r.cl, .int .u32 r.ttl, .bool r.d.six, .int .u64 r.d.hi, .int .u64 r.d.lo, .string r.d.name, .string r.d.mail, .int .u32 r.d.n0, .int .u32 r.d.n1, .int .u32 r.d.n2, .int .u32 r.d.n3, .int .u32 r.d.n4, .slice A r.d.texts.length cap, .string r.d.raw]] w
      fun e w' => e = .returned (.int .i64 r.check) ∧ ∃ F', PD w0 w' p F' y ∧ Fr F w w' ∧ ∀ k, F' k → F k ∨ w.heap.size ≤ k := by
  have := rput_ug h hu r A cap hr hB
  rw [if_pos hc] at this
  exact this
theorem qput_ok {w0 w : World} {p : Nat} {F : Nat → Prop} {y : Pk} {Bd : Nat} (h : PD w0 w p F y) (hu : UG y Bd) (n : ByteArray) (t cl : Int) (hB : Bd + 300 ≤ 65535) (hc : qcheck n t cl = 0) :
    Calls Tryz.prog 35 #[.pointer (some ⟨p, 0, none⟩), .agg #[.string n, .int .i64 t, .int .i64 cl]] w
      fun e w' => e = .returned (.int .i64 0) ∧ ∃ F', PD w0 w' p F' (headB y n t cl) ∧ Fr F w w' ∧ ∀ k, F' k → F k ∨ w.heap.size ≤ k := by
  have := qput_ug h hu n t cl hB
  rw [if_neg (by simp [hc])] at this
  exact this
theorem qput_no {w0 w : World} {p : Nat} {F : Nat → Prop} {y : Pk} {Bd : Nat} (h : PD w0 w p F y) (hu : UG y Bd) (n : ByteArray) (t cl : Int) (hB : Bd + 300 ≤ 65535) (hc : qcheck n t cl ≠ 0) :
    Calls Tryz.prog 35 #[.pointer (some ⟨p, 0, none⟩), .agg #[.string n, .int .i64 t, .int .i64 cl]] w
      fun e w' => e = .returned (.int .i64 (qcheck n t cl)) ∧ ∃ F', PD w0 w' p F' y ∧ Fr F w w' ∧ ∀ k, F' k → F k ∨ w.heap.size ≤ k := by
  have := qput_ug h hu n t cl hB
  rw [if_pos hc] at this
  exact this

/-- The four arguments in blocks of the call's. -/
structure RU (w W : World) (a b : Rcd) (q r : Qn) (A B : Option Addr) (ka kb : Nat) : Prop where
  ba : Blk W w.heap.size 55 (a.cells (.slice A a.d.texts.length ka))
  bb : Blk W (w.heap.size + 1) 55 (b.cells (.slice B b.d.texts.length kb))
  bq : Blk W (w.heap.size + 1 + 1) 40 #[.string q.1, .int .i64 q.2.1, .int .i64 q.2.2]
  br : Blk W (w.heap.size + 1 + 1 + 1) 40 #[.string r.1, .int .i64 r.2.1, .int .i64 r.2.2]
  ra : RcIn W A a
  rb : RcIn W B b
  fr : Fr (fun _ => False) w W
section
variable {w W W' : World} {a b : Rcd} {q r : Qn} {A B : Option Addr} {ka kb : Nat}
theorem RU.step {S : Nat → Prop} (h : RU w W a b q r A B ka kb) (f : Fr S W W') (hs : ∀ k, S k → w.heap.size + 1 + 1 + 1 < k ∧ (rowT A a.d.texts k → False) ∧ (rowT B b.d.texts k → False)) : RU w W' a b q r A B ka kb :=
  ⟨h.ba.fr f fun g => by have := (hs _ g).1; omega, h.bb.fr f fun g => by have := (hs _ g).1; omega, h.bq.fr f fun g => by have := (hs _ g).1; omega, h.br.fr f fun g => by have := (hs _ g).1; omega,
    h.ra.frT f fun k hk g => (hs k g).2.1 hk, h.rb.frT f fun k hk g => (hs k g).2.2 hk, h.fr.step f fun k g => .inr (by have := (hs _ g).1; omega)⟩
theorem RU.fr0 (h : RU w W a b q r A B ka kb) (f : Fr (fun _ => False) W W') : RU w W' a b q r A B ka kb := h.step f fun _ g => g.elim
theorem RU.cq (h : RU w W a b q r A B ka kb) : W.cell? ⟨(w.heap.size + 1 + 1), 0, none⟩ = some (.string q.1) ∧ W.cell? ⟨(w.heap.size + 1 + 1), 1, none⟩ = some (.int .i64 q.2.1) ∧ W.cell? ⟨(w.heap.size + 1 + 1), 2, none⟩ = some (.int .i64 q.2.2) := ⟨h.bq.cell 0, h.bq.cell 1, h.bq.cell 2⟩
theorem RU.cr (h : RU w W a b q r A B ka kb) : W.cell? ⟨(w.heap.size + 1 + 1 + 1), 0, none⟩ = some (.string r.1) ∧ W.cell? ⟨(w.heap.size + 1 + 1 + 1), 1, none⟩ = some (.int .i64 r.2.1) ∧ W.cell? ⟨(w.heap.size + 1 + 1 + 1), 2, none⟩ = some (.int .i64 r.2.2) := ⟨h.br.cell 0, h.br.cell 1, h.br.cell 2⟩
end
theorem RU.far {w W : World} {a b : Rcd} {q r : Qn} {A B : Option Addr} {ka kb : Nat} (h : RU w W a b q r A B ka kb) : ∀ k, W.heap.size ≤ k → w.heap.size + 1 + 1 + 1 < k ∧ (rowT A a.d.texts k → False) ∧ (rowT B b.d.texts k → False) := fun k hk =>
  ⟨Nat.lt_of_lt_of_le h.br.lt hk, fun g => by have := h.ra.d.txt.ltT g; omega, fun g => by have := h.rb.d.txt.ltT g; omega⟩
theorem RU.range_a {w W : World} {a b : Rcd} {q r : Qn} {A B : Option Addr} {ka kb : Nat} (h : RU w W a b q r A B ka kb) : W.rangeAt w.heap.size 0 [.string a.name, .int .i64 a.t, .int .i64 a.cl, .int .u32 a.ttl, .bool a.d.six, .int .u64 a.d.hi, .int .u64 a.d.lo, .string a.d.name, .string a.d.mail, .int .u32 a.d.n0, .int .u32 a.d.n1, .int .u32 a.d.n2, .int .u32 a.d.n3, .int .u32 a.d.n4, .slice A a.d.texts.length ka, .string a.d.raw] := fun j v hv => by
  rw [Nat.zero_add]
  refine (h.ba.cell j).trans ?_
  unfold Rcd.cells
  rw [List.getElem?_toArray]
  exact hv
theorem RU.range_b {w W : World} {a b : Rcd} {q r : Qn} {A B : Option Addr} {ka kb : Nat} (h : RU w W a b q r A B ka kb) : W.rangeAt (w.heap.size + 1) 0 [.string b.name, .int .i64 b.t, .int .i64 b.cl, .int .u32 b.ttl, .bool b.d.six, .int .u64 b.d.hi, .int .u64 b.d.lo, .string b.d.name, .string b.d.mail, .int .u32 b.d.n0, .int .u32 b.d.n1, .int .u32 b.d.n2, .int .u32 b.d.n3, .int .u32 b.d.n4, .slice B b.d.texts.length kb, .string b.d.raw] := fun j v hv => by
  rw [Nat.zero_add]
  refine (h.bb.cell j).trans ?_
  unfold Rcd.cells
  rw [List.getElem?_toArray]
  exact hv
/-- An operation that its guard passes over. -/
theorem wpAnyH_skip {P : Program} {ops : Array Oper} {Q : Exit → Act → World → Prop} {md : Region.Mode} {S : World → Prop} (i : Nat) {oi : Oper} {fuel : Nat} {listed : Array Bool} {a : Act} {w : World} (hi : ops[i]? = some oi)
    (hs : Region.noSelect ops = true) (hf : Region.free md ops listed i = true) (hr : (Region.ready md ops listed).contains i = true)
    (hQ : ∀ c a w, Q (.panic c) (a.put oi.dst undef) w → Q (.panic c) a w) (hy : Region.wanted oi (yielded ops a.tmps) = false) (hS : S w)
    (h : wpAnyH P md ops Q S fuel (listed.setIfInBounds i true) (a.put oi.dst undef) w) : wpAnyH P md ops Q S (fuel + 1) listed a w :=
  wpAnyH_take hi hs hf hr hQ (.inr ⟨hy, rfl⟩) hS h

/-- What the first comparison turned: the first two packers alone. -/
def Tw (w3 w5 w7 wx : World) : Prop := Fr (fun k => w3.heap.size ≤ k ∧ k < w5.heap.size) w7 wx

end Go.Proofs.YtmbgejiahmhffaaGreat

/-
  LAYER 10: what Read tells is what the plain reader tells.
-/
namespace Go.Proofs.YtmbgejiahmhffaaGreat
set_option linter.unusedVariables false
set_option linter.unusedSimpArgs false
open Go.RowKit

/-- The states from the cursor behind the name on. -/
def rk3 (s : ByteArray) (c : Cu) : Nat × Cu := (c.has s 10).number s.data.toList s.size 2
def rk4 (s : ByteArray) (c : Cu) : Nat × Cu := (rk3 s c).2.number s.data.toList s.size 2
def rk5 (s : ByteArray) (c : Cu) : Nat × Cu := (rk4 s c).2.number s.data.toList s.size 4
def rk6 (s : ByteArray) (c : Cu) : Nat × Cu := (rk5 s c).2.number s.data.toList s.size 2
def rk7 (s : ByteArray) (c : Cu) : Cu := (rk6 s c).2.has s (if (rk5 s c).2.e = 0 then (rk6 s c).1 else 0)
theorem rk7_err {s : ByteArray} {c : Cu} (h : (c.has s 10).e ≠ 0) : rk7 s c = c.has s 10 := by
  have h3 : (rk3 s c).2 = c.has s 10 := Cu.number_err h
  have h4 : (rk4 s c).2 = c.has s 10 := (Cu.number_err (by rw [h3]; exact h)).trans h3
  have h5 : (rk5 s c).2 = c.has s 10 := (Cu.number_err (by rw [h4]; exact h)).trans h4
  have h6 : (rk6 s c).2 = c.has s 10 := (Cu.number_err (by rw [h5]; exact h)).trans h5
  unfold rk7
  rw [h6]
  exact Cu.has_err h
theorem rreadC_k (s : ByteArray) (a : Int) : rreadC s a =
    if (rk7 s ((crAt s a).rname s)).e ≠ 0 then (Rcd.zero, 0, (rk7 s ((crAt s a).rname s)).e)
    else if (dreadC s ((rk7 s ((crAt s a).rname s)).at_ : Nat) (((rk7 s ((crAt s a).rname s)).at_ : Nat) + ((rk6 s ((crAt s a).rname s)).1 : Nat)) ((rk3 s ((crAt s a).rname s)).1 : Nat)).2 ≠ 0 then (Rcd.zero, 0, (dreadC s ((rk7 s ((crAt s a).rname s)).at_ : Nat) (((rk7 s ((crAt s a).rname s)).at_ : Nat) + ((rk6 s ((crAt s a).rname s)).1 : Nat)) ((rk3 s ((crAt s a).rname s)).1 : Nat)).2)
    else (⟨(nameAt s (crAt s a).at_ true).name, ((rk3 s ((crAt s a).rname s)).1 : Nat), ((rk4 s ((crAt s a).rname s)).1 : Nat), (rk5 s ((crAt s a).rname s)).1, (dreadC s ((rk7 s ((crAt s a).rname s)).at_ : Nat) (((rk7 s ((crAt s a).rname s)).at_ : Nat) + ((rk6 s ((crAt s a).rname s)).1 : Nat)) ((rk3 s ((crAt s a).rname s)).1 : Nat)).1⟩, (((rk7 s ((crAt s a).rname s)).at_ : Nat) : Int) + (((rk6 s ((crAt s a).rname s)).1 : Nat) : Int), 0) := rfl
theorem rreadC_eq (s : ByteArray) (a : Int) : rreadC s a = rreadN s.data.toList a := by
  have hl : s.data.toList.length = s.size := by rw [Array.length_toList]; rfl
  rw [rreadC_k]
  unfold rreadN
  rw [hl]
  by_cases h : a < 0 ∨ (s.size : Int) < a
  · have h1 : crAt s a = ⟨0, 2⟩ := by unfold crAt; rw [if_pos h]
    have h2 : (crAt s a).rname s = ⟨0, 2⟩ := by rw [h1]; exact Cu.rname_err (by decide)
    have h3 : (Cu.mk 0 2).has s 10 = ⟨0, 2⟩ := Cu.has_err (by decide)
    have h7 : rk7 s ⟨0, 2⟩ = ⟨0, 2⟩ := (rk7_err (by rw [h3]; decide)).trans h3
    rw [if_pos h, h2, h7]
    rfl
  · have h1 : crAt s a = ⟨a.toNat, 0⟩ := by unfold crAt; rw [if_neg h]
    rw [if_neg h]
    have hn : nameAt s ((a.toNat : Nat) : Int) true = uread s.data.toList true ⟨a.toNat, a.toNat, -1, 0, []⟩ := by
      unfold nameAt
      rw [if_neg (by omega), Int.toNat_natCast]
    have h3 : (nameAt s (crAt s a).at_ true).name = (nameAt s ((a.toNat : Nat) : Int) true).name := by rw [h1]
    rw [h3, hn]
    cases hu : uread s.data.toList true ⟨a.toNat, a.toNat, -1, 0, []⟩ with
    | done z =>
      have hf : 0 ≤ z.fin ∧ z.fin ≤ s.size := nameAt_fin (f := true) (a := a.toNat) (by omega) (hn.trans hu)
      have hc2 : (crAt s a).rname s = ⟨z.fin.toNat, 0⟩ := by
        rw [h1]
        unfold Cu.rname
        dsimp only
        rw [hn, hu]
        rfl
      rw [hc2]
      dsimp only [Ust.name]
      generalize z.fin.toNat = p at *
      by_cases h4 : s.size - p < 10
      · have h2 : (Cu.mk p 0).has s 10 = ⟨p, 8⟩ := by unfold Cu.has; rw [if_pos ⟨rfl, h4⟩]
        have h7 : rk7 s ⟨p, 0⟩ = ⟨p, 8⟩ := (rk7_err (by rw [h2]; exact (by decide : (8 : Int) ≠ 0))).trans h2
        rw [h7, if_pos (show (8 : Int) ≠ 0 by decide), if_pos h4]
      · have h2 : (Cu.mk p 0).has s 10 = ⟨p, 0⟩ := by unfold Cu.has; rw [if_neg (fun g => h4 g.2)]
        have k3 : rk3 s ⟨p, 0⟩ = (numAt s.data.toList p 2, ⟨p + 2, 0⟩) := by unfold rk3; rw [h2]; exact Cu.number_ok rfl (by dsimp only; omega)
        have k4 : rk4 s ⟨p, 0⟩ = (numAt s.data.toList (p + 2) 2, ⟨p + 4, 0⟩) := by unfold rk4; rw [k3]; exact Cu.number_ok rfl (by dsimp only; omega)
        have k5 : rk5 s ⟨p, 0⟩ = (numAt s.data.toList (p + 4) 4, ⟨p + 8, 0⟩) := by unfold rk5; rw [k4]; exact Cu.number_ok rfl (by dsimp only; omega)
        have k6 : rk6 s ⟨p, 0⟩ = (numAt s.data.toList (p + 8) 2, ⟨p + 10, 0⟩) := by unfold rk6; rw [k5]; exact Cu.number_ok rfl (by dsimp only; omega)
        have k7 : rk7 s ⟨p, 0⟩ = (Cu.mk (p + 10) 0).has s (numAt s.data.toList (p + 8) 2) := by
          unfold rk7
          rw [k6, k5]
          dsimp only
          rw [if_pos rfl]
        rw [if_neg h4, k3, k4, k5, k6, k7]
        dsimp only
        by_cases h5 : s.size - (p + 10) < numAt s.data.toList (p + 8) 2
        · have h6 : (Cu.mk (p + 10) 0).has s (numAt s.data.toList (p + 8) 2) = ⟨p + 10, 8⟩ := by unfold Cu.has; rw [if_pos ⟨rfl, h5⟩]
          rw [h6, if_pos (show (8 : Int) ≠ 0 by decide), if_pos h5]
        · have h6 : (Cu.mk (p + 10) 0).has s (numAt s.data.toList (p + 8) 2) = ⟨p + 10, 0⟩ := by unfold Cu.has; rw [if_neg (fun g => h5 g.2)]
          rw [h6, if_neg (show ¬ (0 : Int) ≠ 0 by simp), if_neg h5]
          dsimp only
          rw [dreadC_eq, show (((p + 10 : Nat) : Int) + ((numAt s.data.toList (p + 8) 2 : Nat) : Int)) = ((p + 10 + numAt s.data.toList (p + 8) 2 : Nat) : Int) by omega]
    | bad e =>
      have hne := uread_bad_ne hu
      have hc2 : (crAt s a).rname s = ⟨a.toNat, e⟩ := by
        rw [h1]
        unfold Cu.rname
        dsimp only
        rw [hn, hu]
        dsimp only [Ust.err]
        simp [hne]
      have h2 : (Cu.mk a.toNat e).has s 10 = ⟨a.toNat, e⟩ := Cu.has_err hne
      have h7 : rk7 s ⟨a.toNat, e⟩ = ⟨a.toNat, e⟩ := (rk7_err (by rw [h2]; exact hne)).trans h2
      rw [hc2, h7, if_pos hne]
    | on z =>
      rcases uread_cases s.data.toList true ⟨a.toNat, a.toNat, -1, 0, []⟩ with ⟨y, hy⟩ | ⟨e, hy⟩
      · rw [hu] at hy
        cases hy
      · rw [hu] at hy
        cases hy
end Go.Proofs.YtmbgejiahmhffaaGreat

/-
  LISTS OF QUESTIONS AND OF RECORDS OPENED (second form).
-/
namespace Go.Proofs.YtmbgejiahmhffaaGreat
set_option linter.unusedVariables false
set_option linter.unusedSimpArgs false
open Go.ChangeShapes Go.WideShapes Go.ChangeAt Go.RowKit Go.Deep

theorem flat_get {α : Type} (mk : α → List Value) (k : Nat) (hk : ∀ x, (mk x).length = k) : ∀ (l : List α) (i : Nat) (v : Value), (l.flatMap mk)[i]? = some v → ∃ q j x, i = q * k + j ∧ l[q]? = some x ∧ (mk x)[j]? = some v
  | [], i, v, h => by simp at h
  | y :: l, i, v, h => by
    rw [List.flatMap_cons, List.getElem?_append] at h
    split at h
    · exact ⟨0, i, y, by omega, rfl, h⟩
    · rename_i hi
      obtain ⟨q, j, x, h1, h2, h3⟩ := flat_get mk k hk l _ v h
      rw [hk] at h1 hi
      exact ⟨q + 1, j, x, by rw [Nat.succ_mul]; omega, h2, h3⟩
theorem flat_put {α : Type} (mk : α → List Value) (k : Nat) (hk : ∀ x, (mk x).length = k) : ∀ (l : List α) (q j : Nat) (x : α) (v : Value), l[q]? = some x → (mk x)[j]? = some v → (l.flatMap mk)[q * k + j]? = some v
  | [], q, j, x, v, h, _ => by simp at h
  | y :: l, 0, j, x, v, h, g => by
    obtain rfl : y = x := by simpa using h
    have hj := (List.getElem?_eq_some_iff.1 g).1
    rw [Nat.zero_mul, Nat.zero_add, List.flatMap_cons, List.getElem?_append, if_pos hj]
    exact g
  | y :: l, q + 1, j, x, v, h, g => by
    rw [List.flatMap_cons, List.getElem?_append, if_neg (by rw [hk, Nat.succ_mul]; omega), hk, show (q + 1) * k + j - k = q * k + j by rw [Nat.succ_mul]; omega]
    exact flat_put mk k hk l q j x v (by simpa using h) g
theorem flat_len {α : Type} (mk : α → List Value) (k : Nat) (hk : ∀ x, (mk x).length = k) : ∀ l : List α, (l.flatMap mk).length = l.length * k
  | [] => by simp
  | y :: l => by rw [List.flatMap_cons, List.length_append, flat_len mk k hk l, hk, List.length_cons, Nat.succ_mul]; omega
theorem rowIn_flat {α : Type} {W : World} {a : Addr} (mk : α → List Value) (k : Nat) (hk : ∀ x, (mk x).length = k) {l : List α}
    (h : ∀ q x, l[q]? = some x → ∀ j v, (mk x)[j]? = some v → W.cell? (a.add (q * k + j)) = some v) : RowIn W (some a) (l.flatMap mk) := by
  intro h0
  have hh : ∀ i v, (l.flatMap mk)[i]? = some v → W.cell? (a.add i) = some v := fun i v hv => by
    obtain ⟨q, j, x, h1, h2, h3⟩ := flat_get mk k hk l i v hv
    rw [h1]
    exact h q x h2 j v h3
  have c0 : W.cell? a = some (l.flatMap mk)[0] := by have := hh 0 _ (List.getElem?_eq_getElem h0); simpa [Addr.add] using this
  obtain ⟨b, off, rfl, hadd⟩ := addr_flat c0
  refine ⟨b, off, rfl, World.block_lt_of_cell? W _ c0, fun i v hv => ?_⟩
  have := hh i v hv
  rwa [hadd] at this

def qcl (q : Qn) : List Value := [.string q.1, .int .i64 q.2.1, .int .i64 q.2.2]
def rcl (x : Rcd × Option Addr × Nat) : List Value := (x.1.cells (.slice x.2.1 x.1.d.texts.length x.2.2)).toList

set_option maxRecDepth 100000 in
theorem open_questions {W : World} {H : Type} {enc : TypeId × Value → H} {v : Value} {base : Nat} {d : DataW H} {p : List MemPlace}
    (hv : Value.okWide Tryz.prog W .any base 26 v) (h : DataW.Trod enc Tryz.prog W 0 (fun _ => true) true 26 v d p) (hb : Rows.uptoBulk d ≤ 1048576) :
    ∃ (l : List Qn) (A : Option Addr) (cap : Nat), v = .slice A l.length cap ∧ RowIn W A (l.flatMap qcl) ∧ ∀ q ∈ l, QOk q := by
  obtain ⟨A, len, cap, rfl⟩ := okWide_slice Tryz.underlying26 hv
  obtain ⟨fuel, hf⟩ := h
  rcases open_slice Tryz.underlying26 hf with ⟨hcs, _⟩ | ⟨a, len', cap', m, n, D, Pl, hcs, _, hl, hm, hmm, hx, hi⟩
  · simp [Value.cells] at hcs
    obtain ⟨rfl, rfl, rfl⟩ := hcs
    exact ⟨[], none, 0, rfl, fun h => by simp at h, fun q hq => by simp at hq⟩
  · simp [Value.cells] at hcs
    obtain ⟨rfl, rfl, rfl⟩ := hcs
    have hc : Tryz.prog.cellsOf 40 = 3 := by kernel_rfl
    have hlm : len ≤ m := by simp at hmm; omega
    simp only [Prod.mk.injEq] at hx
    have key : ∀ i, i < len → ∃ q : Qn, QOk q ∧ ∀ j v, (qcl q)[j]? = some v → W.cell? (a.add (i * 3 + j)) = some v := fun i hil => by
      obtain ⟨cs', h1, h2⟩ := hi i (by omega)
      rw [hc] at h1
      obtain ⟨q, e1, e2, e3, e4⟩ := open_question_c h2
      dsimp only at e2
      have hbi := bulk_part (l := (List.range len).map D) (i := i) (d := D i) (by simp [hil])
      rw [hx.1] at hb
      simp only [Rows.uptoBulk] at hb
      refine ⟨q, ⟨by omega, e3, e4⟩, fun j v hj => ?_⟩
      obtain ⟨_, hcl, hat⟩ := World.cells?_some h1
      rw [← Go.Deep.add_add, hat j (by have := (List.getElem?_eq_some_iff.1 hj).1; exact this), e1]
      exact hj
    obtain ⟨l, hll, hp⟩ := list_of key
    subst hll
    refine ⟨l, some a, cap, rfl, rowIn_flat qcl 3 (fun _ => rfl) (fun q x hq => (hp q x hq).2), fun q hq => ?_⟩
    obtain ⟨i, hi'⟩ := List.mem_iff_getElem?.1 hq
    exact (hp i q hi').1
set_option maxRecDepth 100000 in
theorem open_records {W : World} {H : Type} {enc : TypeId × Value → H} {v : Value} {base : Nat} {d : DataW H} {p : List MemPlace}
    (hv : Value.okWide Tryz.prog W .any base 27 v) (h : DataW.Trod enc Tryz.prog W 0 (fun _ => true) true 27 v d p) (hb : Rows.uptoBulk d ≤ 1048576) :
    ∃ (l : List (Rcd × Option Addr × Nat)) (A : Option Addr) (cap : Nat), v = .slice A l.length cap ∧ RowIn W A (l.flatMap rcl) ∧ ∀ x ∈ l, RcIn W x.2.1 x.1 ∧ x.1.name.size + x.1.d.light ≤ 1048576 := by
  obtain ⟨A, len, cap, rfl⟩ := okWide_slice Tryz.underlying27 hv
  obtain ⟨fuel, hf⟩ := h
  rcases open_slice Tryz.underlying27 hf with ⟨hcs, _⟩ | ⟨a, len', cap', m, n, D, Pl, hcs, _, hl, hm, hmm, hx, hi⟩
  · simp [Value.cells] at hcs
    obtain ⟨rfl, rfl, rfl⟩ := hcs
    exact ⟨[], none, 0, rfl, fun h => by simp at h, fun q hq => by simp at hq⟩
  · simp [Value.cells] at hcs
    obtain ⟨rfl, rfl, rfl⟩ := hcs
    have hc : Tryz.prog.cellsOf 55 = 16 := by kernel_rfl
    have hlm : len ≤ m := by simp at hmm; omega
    simp only [Prod.mk.injEq] at hx
    have key : ∀ i, i < len → ∃ x : Rcd × Option Addr × Nat, (RcIn W x.2.1 x.1 ∧ x.1.name.size + x.1.d.light ≤ 1048576) ∧ ∀ j v, (rcl x)[j]? = some v → W.cell? (a.add (i * 16 + j)) = some v := fun i hil => by
      obtain ⟨cs', h1, h2⟩ := hi i (by omega)
      rw [hc] at h1
      obtain ⟨r, A, cap, e1, e2, e3, e4, e5, e6⟩ := open_record_c h2
      dsimp only at e6
      have hbi := bulk_part (l := (List.range len).map D) (i := i) (d := D i) (by simp [hil])
      rw [hx.1] at hb
      simp only [Rows.uptoBulk] at hb
      have hrc := rec_in e2 e3 e4 e5 (by omega)
      have hlt : r.name.size + r.d.light ≤ 1048576 := by omega
      refine ⟨(r, A, cap), ⟨hrc, hlt⟩, fun j v hj => ?_⟩
      obtain ⟨_, hcl, hat⟩ := World.cells?_some h1
      rw [← Go.Deep.add_add, hat j (by have := (List.getElem?_eq_some_iff.1 hj).1; exact this), e1]
      exact hj
    obtain ⟨l, hll, hp⟩ := list_of key
    subst hll
    refine ⟨l, some a, cap, rfl, rowIn_flat rcl 16 (fun _ => rfl) (fun q x hq => (hp q x hq).2), fun q hq => ?_⟩
    obtain ⟨i, hi'⟩ := List.mem_iff_getElem?.1 hq
    exact (hp i q hi').1
end Go.Proofs.YtmbgejiahmhffaaGreat

/-
  LAYER 10: RecordBack: what stands while the law puts: the packer, the questions and the records that went in, the ends. No walk.
-/
namespace Go.Proofs.YtmbgejiahmhffaaGreat
set_option linter.unusedVariables false
set_option linter.unusedSimpArgs false
open Go.RowKit

def endl (E : List Nat) : List Value := E.map fun n => .int .i64 (n : Nat)
structure RB (w0 w : World) (p : Nat) (F : Nat → Prop) (y : Pk) (A : Option Addr) (ca : Nat) (G : List Qn) (B : Option Addr) (cb : Nat) (R : List (Rcd × Option Addr × Nat)) (C : Option Addr) (cc : Nat) (E : List Nat) : Prop where
  pd : PD w0 w p F y
  q : w.ownsRow 0 40 3 (.slice A G.length ca) G.length (G.flatMap qcl)
  r : w.ownsRow 0 55 16 (.slice B R.length cb) R.length (R.flatMap rcl)
  e : w.ownsRow 0 3 1 (.slice C E.length cc) E.length (endl E)
  fq : ∀ k, rowOf A k → w0.heap.size ≤ k ∧ ¬ F k
  fr : ∀ k, rowOf B k → w0.heap.size ≤ k ∧ ¬ F k
  fe : ∀ k, rowOf C k → w0.heap.size ≤ k ∧ ¬ F k
  qr : ∀ k, rowOf A k → ¬ rowOf B k
  qe : ∀ k, rowOf A k → ¬ rowOf C k
  re : ∀ k, rowOf B k → ¬ rowOf C k
section
variable {w0 w w' : World} {p : Nat} {F F' : Nat → Prop} {y y' : Pk} {A A' B B' C C' : Option Addr} {ca cb cc c' : Nat} {G G' : List Qn} {R R' : List (Rcd × Option Addr × Nat)} {E E' : List Nat}
theorem RB.start (h : PD w0 w p F y) : RB w0 w p F y none 0 [] none 0 [] none 0 [] :=
  ⟨h, own_nil _ _ _, own_nil _ _ _, own_nil _ _ _, fun k h => absurd h (rowOf_none k), fun k h => absurd h (rowOf_none k), fun k h => absurd h (rowOf_none k), fun k h => absurd h (rowOf_none k), fun k h => absurd h (rowOf_none k), fun k h => absurd h (rowOf_none k)⟩
theorem RB.quiet (h : RB w0 w p F y A ca G B cb R C cc E) (f : Fr (fun _ => False) w w') : RB w0 w' p F y A ca G B cb R C cc E :=
  ⟨h.pd.quiet f, own_fr h.q f (fun _ _ => id), own_fr h.r f (fun _ _ => id), own_fr h.e f (fun _ _ => id), h.fq, h.fr, h.fe, h.qr, h.qe, h.re⟩
/-- The packer has been written to. -/
theorem RB.put (h : RB w0 w p F y A ca G B cb R C cc E) (g : PD w0 w' p F' y') (f : Fr F w w') (hs : ∀ k, F' k → F k ∨ w.heap.size ≤ k) : RB w0 w' p F' y' A ca G B cb R C cc E := by
  have key : ∀ {D : Option Addr}, (∀ k, rowOf D k → w0.heap.size ≤ k ∧ ¬ F k) → (∀ k, rowOf D k → k < w.heap.size) → ∀ k, rowOf D k → w0.heap.size ≤ k ∧ ¬ F' k := fun h1 h2 k hk =>
    ⟨(h1 k hk).1, fun h3 => (hs k h3).elim (h1 k hk).2 fun h4 => by have := h2 k hk; omega⟩
  exact ⟨g, own_fr h.q f (fun k hk => (h.fq k hk).2), own_fr h.r f (fun k hk => (h.fr k hk).2), own_fr h.e f (fun k hk => (h.fe k hk).2),
    key h.fq (fun k hk => own_lt h.q hk), key h.fr (fun k hk => own_lt h.r hk), key h.fe (fun k hk => own_lt h.e hk), h.qr, h.qe, h.re⟩
/-- The packer beside an append. -/
theorem RB.pdf (h : RB w0 w p F y A ca G B cb R C cc E) {D : Option Addr} (hd : ∀ k, rowOf D k → w0.heap.size ≤ k ∧ ¬ F k) (f : Fr (rowOf D) w w') : PD w0 w' p F y :=
  ⟨h.pd.pk.fr f (fun k hk hd' => (hd k hd').2 hk), h.pd.fr.step f (fun k hk => .inr (hd k hk).1), h.pd.far⟩
theorem RB.pklt (h : RB w0 w p F y A ca G B cb R C cc E) {k : Nat} (hk : F k) : k < w.heap.size := h.pd.pk.lt k hk
theorem RB.new (h : RB w0 w p F y A ca G B cb R C cc E) {D D' : Option Addr} (hd : ∀ k, rowOf D k → w0.heap.size ≤ k ∧ ¬ F k) (hs : ∀ k, rowOf D' k → rowOf D k ∨ w.heap.size ≤ k) : ∀ k, rowOf D' k → w0.heap.size ≤ k ∧ ¬ F k := fun k hk =>
  (hs k hk).elim (hd k) fun hl => ⟨Nat.le_trans h.pd.fr.size hl, fun hF => by have := h.pklt hF; omega⟩
theorem dis_new {D D' X : Option Addr} {n : Nat} (hd : ∀ k, rowOf D k → ¬ rowOf X k) (hs : ∀ k, rowOf D' k → rowOf D k ∨ n ≤ k) (hx : ∀ k, rowOf X k → k < n) : ∀ k, rowOf D' k → ¬ rowOf X k := fun k hk hX =>
  (hs k hk).elim (fun h => hd k h hX) fun h => by have := hx k hX; omega
theorem RB.addq (h : RB w0 w p F y A ca G B cb R C cc E) {q : Qn} (f : Fr (rowOf A) w w') (hq : w'.ownsRow 0 40 3 (.slice A' (G.length + 1) c') (G.length + 1) (G.flatMap qcl ++ qcl q)) (hs : ∀ k, rowOf A' k → rowOf A k ∨ w.heap.size ≤ k) :
    RB w0 w' p F y A' c' (G ++ [q]) B cb R C cc E :=
  ⟨h.pdf h.fq f, by rw [List.length_append, List.flatMap_append]; simpa using hq, own_fr h.r f (fun k hk hA => h.qr k hA hk), own_fr h.e f (fun k hk hA => h.qe k hA hk),
    h.new h.fq hs, h.fr, h.fe, dis_new h.qr hs (fun k hk => own_lt h.r hk), dis_new h.qe hs (fun k hk => own_lt h.e hk), h.re⟩
theorem RB.addr (h : RB w0 w p F y A ca G B cb R C cc E) {x : Rcd × Option Addr × Nat} (f : Fr (rowOf B) w w') (hq : w'.ownsRow 0 55 16 (.slice B' (R.length + 1) c') (R.length + 1) (R.flatMap rcl ++ rcl x)) (hs : ∀ k, rowOf B' k → rowOf B k ∨ w.heap.size ≤ k) :
    RB w0 w' p F y A ca G B' c' (R ++ [x]) C cc E :=
  ⟨h.pdf h.fr f, own_fr h.q f (fun k hk hB => h.qr k hk hB), by rw [List.length_append, List.flatMap_append]; simpa using hq, own_fr h.e f (fun k hk hB => h.re k hB hk),
    h.fq, h.new h.fr hs, h.fe, fun k hk hB => (hs k hB).elim (h.qr k hk) (fun hl => by have := own_lt h.q hk; omega), h.qe, dis_new h.re hs (fun k hk => own_lt h.e hk)⟩
theorem RB.adde (h : RB w0 w p F y A ca G B cb R C cc E) {n : Nat} (f : Fr (rowOf C) w w') (hq : w'.ownsRow 0 3 1 (.slice C' (E.length + 1) c') (E.length + 1) (endl E ++ [.int .i64 (n : Nat)])) (hs : ∀ k, rowOf C' k → rowOf C k ∨ w.heap.size ≤ k) :
    RB w0 w' p F y A ca G B cb R C' c' (E ++ [n]) :=
  ⟨h.pdf h.fe f, own_fr h.q f (fun k hk hC => h.qe k hk hC), own_fr h.r f (fun k hk hC => h.re k hk hC), by rw [List.length_append]; unfold endl; rw [List.map_append]; exact hq,
    h.fq, h.fr, h.new h.fe hs, h.qr, fun k hk hC => (hs k hC).elim (h.qe k hk) (fun hl => by have := own_lt h.q hk; omega), fun k hk hC => (hs k hC).elim (h.re k hk) (fun hl => by have := own_lt h.r hk; omega)⟩
end

/-! ### A struct of a row read -/
theorem rowIn_q {w : World} {A : Option Addr} {l : List Qn} (h : RowIn w A (l.flatMap qcl)) {i : Nat} {q : Qn} (hq : l[i]? = some q) :
    ∃ b off, A = some ⟨b, off, none⟩ ∧ b < w.heap.size ∧ w.cell? ⟨b, off + i * 3, none⟩ = some (.string q.1) ∧ w.cell? ⟨b, off + i * 3 + 1, none⟩ = some (.int .i64 q.2.1) ∧ w.cell? ⟨b, off + i * 3 + 2, none⟩ = some (.int .i64 q.2.2) := by
  have hl := (List.getElem?_eq_some_iff.1 hq).1
  obtain ⟨b, off, h1, h2, h3⟩ := h (by rw [flat_len qcl 3 (fun _ => rfl)]; omega)
  have g := fun j v hj => h3 _ _ (flat_put qcl 3 (fun _ => rfl) l i j q v hq hj)
  exact ⟨b, off, h1, h2, g 0 _ rfl, by rw [Nat.add_assoc]; exact g 1 _ rfl, by rw [Nat.add_assoc]; exact g 2 _ rfl⟩
theorem rowIn_r {w : World} {A : Option Addr} {l : List (Rcd × Option Addr × Nat)} (h : RowIn w A (l.flatMap rcl)) {i : Nat} {x : Rcd × Option Addr × Nat} (hq : l[i]? = some x) :
    ∃ b off, A = some ⟨b, off, none⟩ ∧ b < w.heap.size ∧ ∀ j v, (rcl x)[j]? = some v → w.cell? ⟨b, off + (i * 16 + j), none⟩ = some v := by
  have hl := (List.getElem?_eq_some_iff.1 hq).1
  obtain ⟨b, off, h1, h2, h3⟩ := h (by rw [flat_len rcl 16 (fun _ => rfl)]; omega)
  exact ⟨b, off, h1, h2, fun j v hj => h3 _ _ (flat_put rcl 16 (fun _ => rfl) l i j x v hq hj)⟩
theorem rowIn_fr {w w' : World} {A : Option Addr} {vs : List Value} {S : Nat → Prop} (h : RowIn w A vs) (f : Fr S w w') (hn : ∀ k, rowOf A k → ¬ S k) : RowIn w' A vs := by
  intro h0
  obtain ⟨b, off, rfl, h2, h3⟩ := h h0
  exact ⟨b, off, rfl, Nat.lt_of_lt_of_le h2 f.size, fun i x hx => (f.cell (p := ⟨b, off + i, none⟩) h2 (hn b ⟨_, rfl, rfl⟩)).trans (h3 i x hx)⟩
theorem rowIn_lt {w : World} {A : Option Addr} {vs : List Value} (h : RowIn w A vs) (h0 : 0 < vs.length) {k : Nat} (hk : rowOf A k) : k < w.heap.size := by
  obtain ⟨b, off, rfl, h2, _⟩ := h h0
  obtain ⟨a, h1, rfl⟩ := hk
  injection h1 with h1
  subst h1
  exact h2
theorem own_rowIn {w : World} {e : TypeId} {size n cap : Nat} {A : Option Addr} {xs : List Value} (h : w.ownsRow 0 e size (.slice A n cap) n xs) : RowIn w A xs := by
  intro h0'
  have h0 := h0'
  rcases h.2 with ⟨h2, h0⟩ | ⟨g, cp, cur, hv, _, hg, h3, h4, h5, h6⟩
  · have hl := h.1
    rw [h0] at hl
    have : xs = [] := List.eq_nil_of_length_eq_zero (by simpa using hl)
    subst this
    simp at h0'
  · injection hv with hA _ _
    have hc := fun j u hu => by
      have := h.cells (g := g) (by rw [hA]; rfl) j u hu
      rwa [show (⟨g, 0, none⟩ : Addr).add j = ⟨g, j, none⟩ from by unfold Addr.add; split <;> simp_all] at this
    refine ⟨g, 0, hA, own_lt h ⟨_, hA, rfl⟩, fun i x hx => ?_⟩
    rw [Nat.zero_add]
    exact hc i x hx
/-- One struct, in a block of its own, as the source of an append. -/
theorem src_blk {P : Program} {w : World} {tx e' : TypeId} (hk : P.underlying tx = some (.slice e')) {g : Nat} {T : TypeId} {vs : List Value} (hb : Blk w g T vs.toArray) (h1 : ∀ u ∈ vs, u.oneCell' = true) :
    Src P vs.length tx (.slice (some ⟨g, 0, none⟩) 1 1) 1 vs w :=
  Src.ofSlice w hk ⟨g, 0, none⟩ 1 1 vs (by simp) (fun j u hu => by
    rw [show (⟨g, 0, none⟩ : Addr).add j = ⟨g, j, none⟩ from by unfold Addr.add; split <;> simp_all, hb.cell j]
    simpa using hu) h1
end Go.Proofs.YtmbgejiahmhffaaGreat

/-
  LAYER 10, PLAIN: RecordBack: what is read at each place. No program.
-/
namespace Go.Proofs.YtmbgejiahmhffaaGreat
set_option linter.unusedVariables false
set_option linter.unusedSimpArgs false
open Go.RowKit

theorem qputsB_app : ∀ (l k : List Qn) (y : Pk), qputsB y (l ++ k) = qputsB (qputsB y l) k
  | [], _, _ => rfl
  | q :: l, k, y => qputsB_app l k (headB y q.1 q.2.1 q.2.2)
theorem rputsB_app : ∀ (l k : List Rcd) (y : Pk), rputsB y (l ++ k) = rputsB (rputsB y l) k
  | [], _, _ => rfl
  | r :: l, k, y => rputsB_app l k (rputB y r)
theorem qsum_app : ∀ l k : List Qn, qsum (l ++ k) = qsum l + qsum k
  | [], _ => by simp [qsum]
  | q :: l, k => by
    show q.1.size + 5 + qsum (l ++ k) = (q.1.size + 5 + qsum l) + qsum k
    rw [qsum_app l k]; omega
theorem rsum_app : ∀ l k : List Rcd, rsum (l ++ k) = rsum l + rsum k
  | [], _ => by simp [rsum]
  | r :: l, k => by
    show r.size + rsum (l ++ k) = (r.size + rsum l) + rsum k
    rw [rsum_app l k]; omega
/-- The ends of the questions, of the records. -/
def qends (y : Pk) : List Qn → List Nat
  | [] => []
  | q :: l => (headB y q.1 q.2.1 q.2.2).x.b.length :: qends (headB y q.1 q.2.1 q.2.2) l
def rends (y : Pk) : List Rcd → List Nat
  | [] => []
  | r :: l => (rputB y r).x.b.length :: rends (rputB y r) l
theorem qends_app : ∀ (l k : List Qn) (y : Pk), qends y (l ++ k) = qends y l ++ qends (qputsB y l) k
  | [], _, _ => rfl
  | q :: l, k, y => by
    show _ :: qends _ (l ++ k) = _
    rw [qends_app l k]
    rfl
theorem rends_app : ∀ (l k : List Rcd) (y : Pk), rends y (l ++ k) = rends y l ++ rends (rputsB y l) k
  | [], _, _ => rfl
  | r :: l, k, y => by
    show _ :: rends _ (l ++ k) = _
    rw [rends_app l k]
    rfl
theorem qends_len : ∀ (l : List Qn) (y : Pk), (qends y l).length = l.length
  | [], _ => rfl
  | q :: l, y => by show (qends _ l).length + 1 = _; rw [qends_len l]; rfl
theorem rends_len : ∀ (l : List Rcd) (y : Pk), (rends y l).length = l.length
  | [], _ => rfl
  | r :: l, y => by show (rends _ l).length + 1 = _; rw [rends_len l]; rfl
/-- The question at its place. -/
theorem qread_at {y : Pk} (h : UG y y.x.b.length) (l : List Qn) (q : Qn) (k : List Qn) (hl : ∀ x ∈ l ++ q :: k, qcheck x.1 x.2.1 x.2.2 = 0) (hB : y.x.b.length + qsum (l ++ q :: k) + 2000 ≤ 65535) (Z : List UInt8) :
    qreadN ((qputsB y (l ++ q :: k)).x.b ++ Z) ((qputsB y l).x.b.length : Nat) = (q, (((qputsB y (l ++ [q])).x.b.length : Nat) : Int), 0) := by
  have hs : qsum (q :: k) = q.1.size + 5 + qsum k := rfl
  rw [qsum_app, hs] at hB
  obtain ⟨u1, _, u3, _⟩ := qputs_reads l y h (fun x hx => hl x (by simp [hx])) (by omega)
  have hc : qcheck q.1 q.2.1 q.2.2 = 0 := hl q (by simp)
  obtain ⟨v1, _, v3, _⟩ := qputs_reads (l ++ [q]) y h (fun x hx => hl x (by simp at hx ⊢; rcases hx with g | g; exact .inl g; exact .inr (.inl g))) (by rw [qsum_app]; show _ + (_ + (q.1.size + 5 + 0)) + _ ≤ _; omega)
  have hsq : qsum [q] = q.1.size + 5 + 0 := rfl
  rw [qsum_app, hsq] at v3
  obtain ⟨_, ⟨T, hT⟩, _, _⟩ := qputs_reads k (qputsB y (l ++ [q])) v1 (fun x hx => hl x (by simp [hx])) (by omega)
  have e : qputsB y (l ++ q :: k) = qputsB (qputsB y (l ++ [q])) k := by rw [← qputsB_app, List.append_assoc]; rfl
  have e1 : qputsB y (l ++ [q]) = headB (qputsB y l) q.1 q.2.1 q.2.2 := by rw [qputsB_app]; rfl
  rw [e, hT, List.append_assoc, e1]
  exact qread_qput u1 hc (by omega) (T ++ Z)
/-- The record at its place. -/
theorem rread_at {y : Pk} (h : UG y y.x.b.length) (l : List Rcd) (r : Rcd) (k : List Rcd) (hl : ∀ x ∈ l ++ r :: k, x.ok ∧ x.check = 0) (hB : y.x.b.length + rsum (l ++ r :: k) + 2000 ≤ 65535) (Z : List UInt8) :
    rreadN ((rputsB y (l ++ r :: k)).x.b ++ Z) ((rputsB y l).x.b.length : Nat) = (r, (((rputsB y (l ++ [r])).x.b.length : Nat) : Int), 0) := by
  have hs : rsum (r :: k) = r.name.size + 11 + r.d.size (whatN r.t) + rsum k := rfl
  have hs1 : rsum [r] = r.name.size + 11 + r.d.size (whatN r.t) + 0 := rfl
  rw [rsum_app, hs] at hB
  obtain ⟨u1, _, u3, _⟩ := rputs_reads l y h (fun x hx => hl x (by simp [hx])) (by omega)
  obtain ⟨ho, hc⟩ := hl r (by simp)
  obtain ⟨v1, _, v3, _⟩ := rputs_reads (l ++ [r]) y h (fun x hx => hl x (by simp at hx ⊢; rcases hx with g | g; exact .inl g; exact .inr (.inl g))) (by rw [rsum_app, hs1]; omega)
  rw [rsum_app, hs1] at v3
  obtain ⟨_, ⟨T, hT⟩, _, _⟩ := rputs_reads k (rputsB y (l ++ [r])) v1 (fun x hx => hl x (by simp [hx])) (by omega)
  have e : rputsB y (l ++ r :: k) = rputsB (rputsB y (l ++ [r])) k := by rw [← rputsB_app, List.append_assoc]; rfl
  have e1 : rputsB y (l ++ [r]) = rputB (rputsB y l) r := by rw [rputsB_app]; rfl
  rw [e, hT, List.append_assoc, e1]
  exact rread_rput u1 ho hc (by omega) (T ++ Z)
theorem qsum_le : ∀ l : List Qn, (∀ q ∈ l, q.1.size ≤ 400) → qsum l ≤ 405 * l.length
  | [], _ => Nat.le_refl _
  | q :: l, h => by
    have h1 := h q (by simp)
    have h2 := qsum_le l fun x hx => h x (by simp [hx])
    show q.1.size + 5 + qsum l ≤ 405 * (l.length + 1)
    omega
theorem rsum_le (n : Nat) : ∀ l : List Rcd, (∀ r ∈ l, r.size ≤ n) → rsum l ≤ n * l.length
  | [], _ => Nat.zero_le _
  | r :: l, h => by
    have h1 := h r (by simp)
    have h2 := rsum_le n l fun x hx => h x (by simp [hx])
    show r.size + rsum l ≤ n * (l.length + 1)
    rw [Nat.mul_succ]
    omega
/-- The questions, the records that went in, of the first k. -/
def qacc (l : List Qn) (k : Nat) : List Qn := (l.take k).filter fun q => decide (qcheck q.1 q.2.1 q.2.2 = 0)
noncomputable def racc (l : List Rcd) (k : Nat) : List Rcd := (l.take k).filter fun r => decide (r.check = 0)
theorem take_succ_of {α : Type} {l : List α} {k : Nat} {x : α} (h : l[k]? = some x) : l.take (k + 1) = l.take k ++ [x] := by
  rw [List.take_add_one, h]
  rfl
theorem qacc_succ {l : List Qn} {k : Nat} {q : Qn} (h : l[k]? = some q) : qacc l (k + 1) = if qcheck q.1 q.2.1 q.2.2 = 0 then qacc l k ++ [q] else qacc l k := by
  unfold qacc
  rw [take_succ_of h, List.filter_append]
  by_cases hc : qcheck q.1 q.2.1 q.2.2 = 0 <;> simp [hc]
theorem racc_succ {l : List Rcd} {k : Nat} {r : Rcd} (h : l[k]? = some r) : racc l (k + 1) = if r.check = 0 then racc l k ++ [r] else racc l k := by
  unfold racc
  rw [take_succ_of h, List.filter_append]
  by_cases hc : r.check = 0 <;> simp [hc]
theorem qacc_ok {l : List Qn} {k : Nat} : ∀ q ∈ qacc l k, qcheck q.1 q.2.1 q.2.2 = 0 := fun q hq => by
  unfold qacc at hq
  simpa using (List.mem_filter.1 hq).2
theorem racc_ok {l : List Rcd} {k : Nat} : ∀ r ∈ racc l k, r.check = 0 := fun r hr => by
  unfold racc at hr
  simpa using (List.mem_filter.1 hr).2
theorem qacc_len (l : List Qn) (k : Nat) : (qacc l k).length ≤ k := by
  unfold qacc
  exact Nat.le_trans (List.length_filter_le _ _) (by rw [List.length_take]; omega)
theorem racc_len (l : List Rcd) (k : Nat) : (racc l k).length ≤ k := by
  unfold racc
  exact Nat.le_trans (List.length_filter_le _ _) (by rw [List.length_take]; omega)
end Go.Proofs.YtmbgejiahmhffaaGreat

/-
  LAYER 10, PLAIN: RecordBack: what went in, how long it is, where it is read. No program.
-/
namespace Go.Proofs.YtmbgejiahmhffaaGreat
set_option linter.unusedVariables false
set_option linter.unusedSimpArgs false
open Go.RowKit

abbrev pk0 : Pk := ⟨⟨[], 65535, 0⟩, fun _ => none⟩
theorem ug0 : UG pk0 pk0.x.b.length := ⟨rfl, rfl, (fun _ _ h => by cases h), Nat.le_refl _⟩
theorem qacc_mem {l : List Qn} {k : Nat} {q : Qn} (h : q ∈ qacc l k) : q ∈ l.take k := (List.mem_filter.1 h).1
theorem qacc_facts {l : List Qn} {k : Nat} (hk : k ≤ 20) (hs : ∀ q ∈ l.take k, q.1.size ≤ 400) :
    UG (qputsB pk0 (qacc l k)) (qputsB pk0 (qacc l k)).x.b.length ∧ (qputsB pk0 (qacc l k)).x.b.length ≤ 405 * k ∧ qsum (qacc l k) ≤ 405 * k := by
  have h1 := qsum_le (qacc l k) (fun q hq => hs q (qacc_mem hq))
  have h2 := qacc_len l k
  have h3 : 405 * (qacc l k).length ≤ 405 * k := Nat.mul_le_mul_left _ h2
  have h4 : pk0.x.b.length = 0 := rfl
  obtain ⟨g1, _, g2, _⟩ := qputs_reads (qacc l k) pk0 ug0 qacc_ok (by rw [h4]; omega)
  rw [h4] at g2
  exact ⟨g1, by omega, by omega⟩
/-- The records that went in, of the first k, as they lie. -/
noncomputable def raccx (m : List (Rcd × Option Addr × Nat)) (k : Nat) : List (Rcd × Option Addr × Nat) := (m.take k).filter fun x => decide (x.1.check = 0)
theorem raccx_succ {m : List (Rcd × Option Addr × Nat)} {k : Nat} {x : Rcd × Option Addr × Nat} (h : m[k]? = some x) : raccx m (k + 1) = if x.1.check = 0 then raccx m k ++ [x] else raccx m k := by
  unfold raccx
  rw [take_succ_of h, List.filter_append]
  by_cases hc : x.1.check = 0 <;> simp [hc]
theorem raccx_mem {m : List (Rcd × Option Addr × Nat)} {k : Nat} {x : Rcd × Option Addr × Nat} (h : x ∈ raccx m k) : x ∈ m.take k ∧ x.1.check = 0 := by
  unfold raccx at h
  simpa using List.mem_filter.1 h
theorem raccx_len (m : List (Rcd × Option Addr × Nat)) (k : Nat) : (raccx m k).length ≤ k := by
  unfold raccx
  exact Nat.le_trans (List.length_filter_le _ _) (by rw [List.length_take]; omega)
theorem rlight_size {r : Rcd} (h : rlight r = true) : r.size ≤ 2451 ∧ r.d.light ≤ 2000 ∧ r.name.size ≤ 400 := by
  unfold rlight at h
  simp only [Bool.and_eq_true, decide_eq_true_eq] at h
  have := size_light r.t r.d
  unfold Rcd.size
  omega
theorem raccx_facts {m : List (Rcd × Option Addr × Nat)} {k : Nat} (hk : k ≤ 20) (hs : ∀ x ∈ m.take k, x.1.ok ∧ rlight x.1 = true) {y : Pk} (hu : UG y y.x.b.length) (hy : y.x.b.length ≤ 8100) :
    UG (rputsB y ((raccx m k).map Prod.fst)) (rputsB y ((raccx m k).map Prod.fst)).x.b.length ∧ (rputsB y ((raccx m k).map Prod.fst)).x.b.length ≤ 8100 + 2451 * k ∧ rsum ((raccx m k).map Prod.fst) ≤ 2451 * k := by
  have h1 := rsum_le 2451 ((raccx m k).map Prod.fst) (fun r hr => by
    obtain ⟨x, hx, rfl⟩ := List.mem_map.1 hr
    exact (rlight_size (hs x (raccx_mem hx).1).2).1)
  rw [List.length_map] at h1
  have h2 := raccx_len m k
  have h3 : 2451 * (raccx m k).length ≤ 2451 * k := Nat.mul_le_mul_left _ h2
  obtain ⟨g1, _, g2, _⟩ := rputs_reads ((raccx m k).map Prod.fst) y hu (fun r hr => by
    obtain ⟨x, hx, rfl⟩ := List.mem_map.1 hr
    exact ⟨(hs x (raccx_mem hx).1).1, (raccx_mem hx).2⟩) (by omega)
  exact ⟨g1, by omega, by omega⟩
theorem qends_get : ∀ (l : List Qn) (y : Pk) (j : Nat), j < l.length → (qends y l)[j]? = some (qputsB y (l.take (j + 1))).x.b.length
  | [], _, _, h => by simp at h
  | q :: l, y, 0, _ => rfl
  | q :: l, y, j + 1, h => qends_get l (headB y q.1 q.2.1 q.2.2) j (by simpa using h)
theorem rends_get : ∀ (l : List Rcd) (y : Pk) (j : Nat), j < l.length → (rends y l)[j]? = some (rputsB y (l.take (j + 1))).x.b.length
  | [], _, _, h => by simp at h
  | r :: l, y, 0, _ => rfl
  | r :: l, y, j + 1, h => rends_get l (rputB y r) j (by simpa using h)
theorem qputsB_snoc (y : Pk) (l : List Qn) (q : Qn) : qputsB y (l ++ [q]) = headB (qputsB y l) q.1 q.2.1 q.2.2 := by rw [qputsB_app]; rfl
theorem rputsB_snoc (y : Pk) (l : List Rcd) (r : Rcd) : rputsB y (l ++ [r]) = rputB (rputsB y l) r := by rw [rputsB_app]; rfl
theorem qends_snoc (y : Pk) (l : List Qn) (q : Qn) : qends y (l ++ [q]) = qends y l ++ [(headB (qputsB y l) q.1 q.2.1 q.2.2).x.b.length] := by rw [qends_app]; rfl
theorem rends_snoc (y : Pk) (l : List Rcd) (r : Rcd) : rends y (l ++ [r]) = rends y l ++ [(rputB (rputsB y l) r).x.b.length] := by rw [rends_app]; rfl
/-- Question j of all that were put is read at its place. -/
theorem q_step {l : List Qn} {m : List (Rcd × Option Addr × Nat)} {j : Nat} {q : Qn} (hl : l.length ≤ 20) (hm : m.length ≤ 20) (hs : ∀ q ∈ l, q.1.size ≤ 400) (hr : ∀ x ∈ m, x.1.ok ∧ rlight x.1 = true)
    (hj : (qacc l l.length)[j]? = some q) :
    qreadN (rputsB (qputsB pk0 (qacc l l.length)) ((raccx m m.length).map Prod.fst)).x.b ((qputsB pk0 ((qacc l l.length).take j)).x.b.length : Nat) = (q, (((qputsB pk0 ((qacc l l.length).take (j + 1))).x.b.length : Nat) : Int), 0) := by
  obtain ⟨g1, g2, g3⟩ := qacc_facts (l := l) hl (fun q hq => hs q (List.mem_of_mem_take hq))
  have hmr : ∀ r ∈ (raccx m m.length).map Prod.fst, r.ok ∧ r.check = 0 := fun r h => by
    obtain ⟨x, hx, rfl⟩ := List.mem_map.1 h
    exact ⟨(hr x (List.mem_of_mem_take (raccx_mem hx).1)).1, (raccx_mem hx).2⟩
  obtain ⟨_, _, k3⟩ := raccx_facts (m := m) hm (fun x hx => hr x (List.mem_of_mem_take hx)) g1 (by omega)
  obtain ⟨_, ⟨T, hT⟩, _, _⟩ := rputs_reads ((raccx m m.length).map Prod.fst) _ g1 hmr (by omega)
  rw [hT]
  have hd : qacc l l.length = (qacc l l.length).take j ++ q :: (qacc l l.length).drop (j + 1) := by
    have h := List.take_append_drop j (qacc l l.length)
    have hlt := (List.getElem?_eq_some_iff.1 hj).1
    rw [List.drop_eq_getElem_cons hlt, (List.getElem?_eq_some_iff.1 hj).2] at h
    exact h.symm
  have hok : ∀ x ∈ (qacc l l.length).take j ++ q :: (qacc l l.length).drop (j + 1), qcheck x.1 x.2.1 x.2.2 = 0 := by rw [← hd]; exact qacc_ok
  have hsum : pk0.x.b.length + qsum ((qacc l l.length).take j ++ q :: (qacc l l.length).drop (j + 1)) + 2000 ≤ 65535 := by
    rw [← hd]
    have : pk0.x.b.length = 0 := rfl
    omega
  have := qread_at ug0 _ q _ hok hsum T
  rw [← hd, ← take_succ_of hj] at this
  exact this
/-- Record j of all that were put is read at its place. -/
theorem r_step {l : List Qn} {m : List (Rcd × Option Addr × Nat)} {j : Nat} {x : Rcd × Option Addr × Nat} (hl : l.length ≤ 20) (hm : m.length ≤ 20) (hs : ∀ q ∈ l, q.1.size ≤ 400) (hr : ∀ x ∈ m, x.1.ok ∧ rlight x.1 = true)
    (hj : (raccx m m.length)[j]? = some x) :
    rreadN (rputsB (qputsB pk0 (qacc l l.length)) ((raccx m m.length).map Prod.fst)).x.b ((rputsB (qputsB pk0 (qacc l l.length)) (((raccx m m.length).map Prod.fst).take j)).x.b.length : Nat) = (x.1, (((rputsB (qputsB pk0 (qacc l l.length)) (((raccx m m.length).map Prod.fst).take (j + 1))).x.b.length : Nat) : Int), 0) := by
  obtain ⟨g1, g2, g3⟩ := qacc_facts (l := l) hl (fun q hq => hs q (List.mem_of_mem_take hq))
  have hmr : ∀ r ∈ (raccx m m.length).map Prod.fst, r.ok ∧ r.check = 0 := fun r h => by
    obtain ⟨x, hx, rfl⟩ := List.mem_map.1 h
    exact ⟨(hr x (List.mem_of_mem_take (raccx_mem hx).1)).1, (raccx_mem hx).2⟩
  obtain ⟨_, _, k3⟩ := raccx_facts (m := m) hm (fun x hx => hr x (List.mem_of_mem_take hx)) g1 (by omega)
  have hj1 : ((raccx m m.length).map Prod.fst)[j]? = some x.1 := by rw [List.getElem?_map, hj]; rfl
  generalize (raccx m m.length).map Prod.fst = R at *
  have hd : R = R.take j ++ x.1 :: R.drop (j + 1) := by
    have h := List.take_append_drop j R
    have hlt := (List.getElem?_eq_some_iff.1 hj1).1
    rw [List.drop_eq_getElem_cons hlt, (List.getElem?_eq_some_iff.1 hj1).2] at h
    exact h.symm
  have hok : ∀ r ∈ R.take j ++ x.1 :: R.drop (j + 1), r.ok ∧ r.check = 0 := by rw [← hd]; exact hmr
  have hsum : (qputsB pk0 (qacc l l.length)).x.b.length + rsum (R.take j ++ x.1 :: R.drop (j + 1)) + 2000 ≤ 65535 := by
    rw [← hd]
    omega
  have := rread_at g1 _ x.1 _ hok hsum []
  rw [← hd, ← take_succ_of hj1, List.append_nil] at this
  exact this
end Go.Proofs.YtmbgejiahmhffaaGreat
