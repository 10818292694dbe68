/-
  LAYER 10: RecordUnlike.
-/
import Derived.Test.YtaloihnmefbbaaaBunI
import Derived.Deep.DeepCutAuto
import Derived.Deep.MidRow
namespace Go.Proofs.Ytaloihnmefbbaaa
set_option linter.unusedVariables false
set_option linter.unusedSimpArgs false
open Go.RowKit

theorem rput_ug {w0 w : World} {p : Nat} {F : Nat → Prop} {y : Pk} {Bd : Nat} (h : PD w0 w p F y) (hu : UG y Bd) (r : Rcd) (A : Option Addr) (cap : Nat) (hr : RcIn w0 A r) (hB : Bd + 1040 + r.d.light ≤ 65535) :
    Calls Try.prog 13 #[.pointer (some ⟨p, 0, none⟩), .agg #[.string r.name, .int .i64 r.t, .int .i64 r.cl, .int .u32 r.ttl, .bool r.d.six, .int .u64 r.d.hi, .int .u64 r.d.lo, .string r.d.name, .string r.d.mail, .int .u32 r.d.n0, .int .u32 r.d.n1, .int .u32 r.d.n2, .int .u32 r.d.n3, .int .u32 r.d.n4, .slice A r.d.texts.length cap, .string r.d.raw]] w
      fun e w' => e = .returned (.int .i64 (if r.check ≠ 0 then (y, r.check) else (rputB y r, 0)).2) ∧ ∃ F', PD w0 w' p F' (if r.check ≠ 0 then (y, r.check) else (rputB y r, 0)).1 ∧ Fr F w w' ∧ ∀ k, F' k → F k ∨ w.heap.size ≤ k := by
  obtain ⟨g1, g2⟩ := rputR_good hu hr.ok hB
  refine (recput_any p F y [] r A cap w h.pk (hu.fit (by omega)) (by decide) (hr.fr0 h.fr) (h.row hr.d.txt)).mono ?_
  rintro e w' ⟨rfl, F', bg', k1, k2, k3, k4⟩
  rw [g1] at k1 ⊢
  have hbg : bg' = [] := k2 (by
    by_cases hc : r.check = 0
    · exact .inr (g2 hc)
    · exact .inl (by rw [rcheckB_eq]; exact hc))
  subst hbg
  exact ⟨rfl, F', h.step k1 k3 k4, k3, k4⟩
theorem qput_ug {w0 w : World} {p : Nat} {F : Nat → Prop} {y : Pk} {Bd : Nat} (h : PD w0 w p F y) (hu : UG y Bd) (n : ByteArray) (t cl : Int) (hB : Bd + 300 ≤ 65535) :
    Calls Try.prog 20 #[.pointer (some ⟨p, 0, none⟩), .agg #[.string n, .int .i64 t, .int .i64 cl]] w
      fun e w' => e = .returned (.int .i64 (if qcheck n t cl ≠ 0 then (y, qcheck n t cl) else (headB y n t cl, 0)).2) ∧ ∃ F', PD w0 w' p F' (if qcheck n t cl ≠ 0 then (y, qcheck n t cl) else (headB y n t cl, 0)).1 ∧ Fr F w w' ∧ ∀ k, F' k → F k ∨ w.heap.size ≤ k := by
  refine (qput_any p F y [] n t cl w h.pk (hu.fit (by omega))).mono ?_
  rintro e w' ⟨rfl, F', k1, k2, k3⟩
  rw [qputR_good hu hB] at k1 ⊢
  exact ⟨rfl, F', h.step k1 k2 k3, k2, k3⟩
theorem rput_ok {w0 w : World} {p : Nat} {F : Nat → Prop} {y : Pk} {Bd : Nat} (h : PD w0 w p F y) (hu : UG y Bd) (r : Rcd) (A : Option Addr) (cap : Nat) (hr : RcIn w0 A r) (hB : Bd + 1040 + r.d.light ≤ 65535) (hc : r.check = 0) :
    Calls Try.prog 13 #[.pointer (some ⟨p, 0, none⟩), .agg #[.string r.name, .int .i64 r.t, .int .i64 r.cl, .int .u32 r.ttl, .bool r.d.six, .int .u64 r.d.hi, .int .u64 r.d.lo, .string r.d.name, .string r.d.mail, .int .u32 r.d.n0, .int .u32 r.d.n1, .int .u32 r.d.n2, .int .u32 r.d.n3, .int .u32 r.d.n4, .slice A r.d.texts.length cap, .string r.d.raw]] w
      fun e w' => e = .returned (.int .i64 0) ∧ ∃ F', PD w0 w' p F' (rputB y r) ∧ Fr F w w' ∧ ∀ k, F' k → F k ∨ w.heap.size ≤ k := by
  have := rput_ug h hu r A cap hr hB
  rw [if_neg (by simp [hc])] at this
  exact this
theorem rput_no {w0 w : World} {p : Nat} {F : Nat → Prop} {y : Pk} {Bd : Nat} (h : PD w0 w p F y) (hu : UG y Bd) (r : Rcd) (A : Option Addr) (cap : Nat) (hr : RcIn w0 A r) (hB : Bd + 1040 + r.d.light ≤ 65535) (hc : r.check ≠ 0) :
    Calls Try.prog 13 #[.pointer (some ⟨p, 0, none⟩), .agg #[.string r.name, .int .i64 r.t, .int .i64 r.cl, .int .u32 r.ttl, .bool r.d.six, .int .u64 r.d.hi, .int .u64 r.d.lo, .string r.d.name, .string r.d.mail, .int .u32 r.d.n0, .int .u32 r.d.n1, .int .u32 r.d.n2, .int .u32 r.d.n3, .int .u32 r.d.n4, .slice A r.d.texts.length cap, .string r.d.raw]] w
      fun e w' => e = .returned (.int .i64 r.check) ∧ ∃ F', PD w0 w' p F' y ∧ Fr F w w' ∧ ∀ k, F' k → F k ∨ w.heap.size ≤ k := by
  have := rput_ug h hu r A cap hr hB
  rw [if_pos hc] at this
  exact this
theorem qput_ok {w0 w : World} {p : Nat} {F : Nat → Prop} {y : Pk} {Bd : Nat} (h : PD w0 w p F y) (hu : UG y Bd) (n : ByteArray) (t cl : Int) (hB : Bd + 300 ≤ 65535) (hc : qcheck n t cl = 0) :
    Calls Try.prog 20 #[.pointer (some ⟨p, 0, none⟩), .agg #[.string n, .int .i64 t, .int .i64 cl]] w
      fun e w' => e = .returned (.int .i64 0) ∧ ∃ F', PD w0 w' p F' (headB y n t cl) ∧ Fr F w w' ∧ ∀ k, F' k → F k ∨ w.heap.size ≤ k := by
  have := qput_ug h hu n t cl hB
  rw [if_neg (by simp [hc])] at this
  exact this
theorem qput_no {w0 w : World} {p : Nat} {F : Nat → Prop} {y : Pk} {Bd : Nat} (h : PD w0 w p F y) (hu : UG y Bd) (n : ByteArray) (t cl : Int) (hB : Bd + 300 ≤ 65535) (hc : qcheck n t cl ≠ 0) :
    Calls Try.prog 20 #[.pointer (some ⟨p, 0, none⟩), .agg #[.string n, .int .i64 t, .int .i64 cl]] w
      fun e w' => e = .returned (.int .i64 (qcheck n t cl)) ∧ ∃ F', PD w0 w' p F' y ∧ Fr F w w' ∧ ∀ k, F' k → F k ∨ w.heap.size ≤ k := by
  have := qput_ug h hu n t cl hB
  rw [if_pos hc] at this
  exact this

/-- The four arguments in blocks of the call's. -/
structure RU (w W : World) (a b : Rcd) (q r : Qn) (A B : Option Addr) (ka kb : Nat) : Prop where
  ba : Blk W w.heap.size 32 (a.cells (.slice A a.d.texts.length ka))
  bb : Blk W (w.heap.size + 1) 32 (b.cells (.slice B b.d.texts.length kb))
  bq : Blk W (w.heap.size + 1 + 1) 46 #[.string q.1, .int .i64 q.2.1, .int .i64 q.2.2]
  br : Blk W (w.heap.size + 1 + 1 + 1) 46 #[.string r.1, .int .i64 r.2.1, .int .i64 r.2.2]
  ra : RcIn W A a
  rb : RcIn W B b
  fr : Fr (fun _ => False) w W
section
variable {w W W' : World} {a b : Rcd} {q r : Qn} {A B : Option Addr} {ka kb : Nat}
theorem RU.step {S : Nat → Prop} (h : RU w W a b q r A B ka kb) (f : Fr S W W') (hs : ∀ k, S k → w.heap.size + 1 + 1 + 1 < k ∧ (rowT A a.d.texts k → False) ∧ (rowT B b.d.texts k → False)) : RU w W' a b q r A B ka kb :=
  ⟨h.ba.fr f fun g => by have := (hs _ g).1; omega, h.bb.fr f fun g => by have := (hs _ g).1; omega, h.bq.fr f fun g => by have := (hs _ g).1; omega, h.br.fr f fun g => by have := (hs _ g).1; omega,
    h.ra.frT f fun k hk g => (hs k g).2.1 hk, h.rb.frT f fun k hk g => (hs k g).2.2 hk, h.fr.step f fun k g => .inr (by have := (hs _ g).1; omega)⟩
theorem RU.fr0 (h : RU w W a b q r A B ka kb) (f : Fr (fun _ => False) W W') : RU w W' a b q r A B ka kb := h.step f fun _ g => g.elim
theorem RU.cq (h : RU w W a b q r A B ka kb) : W.cell? ⟨(w.heap.size + 1 + 1), 0, none⟩ = some (.string q.1) ∧ W.cell? ⟨(w.heap.size + 1 + 1), 1, none⟩ = some (.int .i64 q.2.1) ∧ W.cell? ⟨(w.heap.size + 1 + 1), 2, none⟩ = some (.int .i64 q.2.2) := ⟨h.bq.cell 0, h.bq.cell 1, h.bq.cell 2⟩
theorem RU.cr (h : RU w W a b q r A B ka kb) : W.cell? ⟨(w.heap.size + 1 + 1 + 1), 0, none⟩ = some (.string r.1) ∧ W.cell? ⟨(w.heap.size + 1 + 1 + 1), 1, none⟩ = some (.int .i64 r.2.1) ∧ W.cell? ⟨(w.heap.size + 1 + 1 + 1), 2, none⟩ = some (.int .i64 r.2.2) := ⟨h.br.cell 0, h.br.cell 1, h.br.cell 2⟩
end
theorem RU.far {w W : World} {a b : Rcd} {q r : Qn} {A B : Option Addr} {ka kb : Nat} (h : RU w W a b q r A B ka kb) : ∀ k, W.heap.size ≤ k → w.heap.size + 1 + 1 + 1 < k ∧ (rowT A a.d.texts k → False) ∧ (rowT B b.d.texts k → False) := fun k hk =>
  ⟨Nat.lt_of_lt_of_le h.br.lt hk, fun g => by have := h.ra.d.txt.ltT g; omega, fun g => by have := h.rb.d.txt.ltT g; omega⟩
theorem RU.range_a {w W : World} {a b : Rcd} {q r : Qn} {A B : Option Addr} {ka kb : Nat} (h : RU w W a b q r A B ka kb) : W.rangeAt w.heap.size 0 [.string a.name, .int .i64 a.t, .int .i64 a.cl, .int .u32 a.ttl, .bool a.d.six, .int .u64 a.d.hi, .int .u64 a.d.lo, .string a.d.name, .string a.d.mail, .int .u32 a.d.n0, .int .u32 a.d.n1, .int .u32 a.d.n2, .int .u32 a.d.n3, .int .u32 a.d.n4, .slice A a.d.texts.length ka, .string a.d.raw] := fun j v hv => by
  rw [Nat.zero_add]
  refine (h.ba.cell j).trans ?_
  unfold Rcd.cells
  rw [List.getElem?_toArray]
  exact hv
theorem RU.range_b {w W : World} {a b : Rcd} {q r : Qn} {A B : Option Addr} {ka kb : Nat} (h : RU w W a b q r A B ka kb) : W.rangeAt (w.heap.size + 1) 0 [.string b.name, .int .i64 b.t, .int .i64 b.cl, .int .u32 b.ttl, .bool b.d.six, .int .u64 b.d.hi, .int .u64 b.d.lo, .string b.d.name, .string b.d.mail, .int .u32 b.d.n0, .int .u32 b.d.n1, .int .u32 b.d.n2, .int .u32 b.d.n3, .int .u32 b.d.n4, .slice B b.d.texts.length kb, .string b.d.raw] := fun j v hv => by
  rw [Nat.zero_add]
  refine (h.bb.cell j).trans ?_
  unfold Rcd.cells
  rw [List.getElem?_toArray]
  exact hv
/-- An operation that its guard passes over. -/
theorem wpAnyH_skip {P : Program} {ops : Array Oper} {Q : Exit → Act → World → Prop} {md : Region.Mode} {S : World → Prop} (i : Nat) {oi : Oper} {fuel : Nat} {listed : Array Bool} {a : Act} {w : World} (hi : ops[i]? = some oi)
    (hs : Region.noSelect ops = true) (hf : Region.free md ops listed i = true) (hr : (Region.ready md ops listed).contains i = true)
    (hQ : ∀ c a w, Q (.panic c) (a.put oi.dst undef) w → Q (.panic c) a w) (hy : Region.wanted oi (yielded ops a.tmps) = false) (hS : S w)
    (h : wpAnyH P md ops Q S fuel (listed.setIfInBounds i true) (a.put oi.dst undef) w) : wpAnyH P md ops Q S (fuel + 1) listed a w :=
  wpAnyH_take hi hs hf hr hQ (.inr ⟨hy, rfl⟩) hS h

/-- What the first comparison turned: the first two packers alone. -/
def Tw (w3 w5 w7 wx : World) : Prop := Fr (fun k => w3.heap.size ≤ k ∧ k < w5.heap.size) w7 wx

set_option maxRecDepth 100000 in
set_option maxHeartbeats 16000000 in
theorem run_a (a : Rcd) (A : Option Addr) (ka : Nat) (b : Rcd) (B : Option Addr) (kb : Nat) (q r : Qn) (w : World) (ha : RcIn w A a ∧ a.name.size + a.d.light ≤ 1048576) (hb : RcIn w B b ∧ b.name.size + b.d.light ≤ 1048576) (hq : QOk q) (hr : QOk r) (hla : rlight a = false) :
    Calls Try.prog 4 #[a.val (.slice A a.d.texts.length ka), b.val (.slice B b.d.texts.length kb), qval q, qval r] w fun e w' => e = .returned (.bool true) ∧ Below w.heap.size w w' := by
  obtain ⟨W, hW⟩ : ∃ W, W = ((((w.alloc (.cells (a.cells (.slice A a.d.texts.length ka)) 32)).alloc (.cells (b.cells (.slice B b.d.texts.length kb)) 32)).alloc (.cells #[.string q.1, .int .i64 q.2.1, .int .i64 q.2.2] 46)).alloc (.cells #[.string r.1, .int .i64 r.2.1, .int .i64 r.2.2] 46)) := ⟨_, rfl⟩
  have hf : Fr (fun _ => False) w W := by rw [hW]; exact ((((Fr.refl _ _).alloc _).alloc _).alloc _).alloc _
  have hru : RU w W a b q r A B ka kb := by
    refine ⟨?_, ?_, ?_, ?_, ha.1.fr0 hf, hb.1.fr0 hf, hf⟩
    · rw [hW]; exact (((Blk.new w 32 _).alloc _).alloc _).alloc _
    · rw [hW]
      have := ((Blk.new (w.alloc (.cells (a.cells (.slice A a.d.texts.length ka)) 32)) 32 (b.cells (.slice B b.d.texts.length kb))).alloc (.cells #[.string q.1, .int .i64 q.2.1, .int .i64 q.2.2] 46)).alloc (.cells #[.string r.1, .int .i64 r.2.1, .int .i64 r.2.2] 46)
      rwa [World.size_alloc] at this
    · rw [hW]
      have := (Blk.new ((w.alloc (.cells (a.cells (.slice A a.d.texts.length ka)) 32)).alloc (.cells (b.cells (.slice B b.d.texts.length kb)) 32)) 46 #[.string q.1, .int .i64 q.2.1, .int .i64 q.2.2]).alloc (.cells #[.string r.1, .int .i64 r.2.1, .int .i64 r.2.2] 46)
      rwa [World.size_alloc, World.size_alloc] at this
    · rw [hW]
      have := Blk.new (((w.alloc (.cells (a.cells (.slice A a.d.texts.length ka)) 32)).alloc (.cells (b.cells (.slice B b.d.texts.length kb)) 32)).alloc (.cells #[.string q.1, .int .i64 q.2.1, .int .i64 q.2.2] 46)) 46 #[.string r.1, .int .i64 r.2.1, .int .i64 r.2.2]
      rwa [World.size_alloc, World.size_alloc, World.size_alloc] at this
  have H := Lib.hid hru
  have HB := Lib.hid (And.intro ha.2 hb.2)
  have HQ := Lib.hid (And.intro hq hr)
  have HOK := Lib.hid (And.intro ha.1.ok hb.1.ok)
  have hq1 : q.1.size ≤ 1048576 := hq.1
  have hr1 : r.1.size ≤ 1048576 := hr.1
  unfold Rcd.val qval
  unfold Rcd.cells at hW ⊢
  have HW := Lib.hid hW
  clear hf hru ha hb hq hr hW
  go_enter Try.func4, Try.ntmps4
  go_upto_region 1 with fail
  rw [← HW.out]
  clear HW
  go_wp2_with fail
  refine (lives10_any _).mono ?_
  rintro e w1 ⟨rfl, f1⟩
  have H1 := Lib.hid (H.out.fr0 f1)
  clear f1 H
  have x0 := H1.out.cq.1
  have y0 := H1.out.cr.1
  have HLA := Lib.hid hla
  clear hla
  go_wp2_with (first
      | (refine wpList_load_blk rfl 32 _ rfl w.heap.size (by rfl) 32 _ _ H1.out.ba Try.underlying32 rfl (by kernel_rfl) ?_
         unfold Rcd.cells)
      | (go_at_call 11
         (with_reducible refine (rlight_any a A ka w1 H1.out.ra (by have := HB.out.1; omega) (by have := HB.out.1; omega)).mono ?_)
         rintro e w2 ⟨rfl, f2⟩
         rw [HLA.out]
         have H2 := Lib.hid (H1.out.fr0 f2)
         clear f2 x0 y0
         have x0 := H2.out.cq.1
         have y0 := H2.out.cr.1)
      | fail)
  go_ret
  exact ⟨rfl, H2.out.fr.below (fun _ h => h.elim) (Nat.le_refl _)⟩
set_option maxRecDepth 100000 in
set_option maxHeartbeats 16000000 in
theorem run_b (a : Rcd) (A : Option Addr) (ka : Nat) (b : Rcd) (B : Option Addr) (kb : Nat) (q r : Qn) (w : World) (ha : RcIn w A a ∧ a.name.size + a.d.light ≤ 1048576) (hb : RcIn w B b ∧ b.name.size + b.d.light ≤ 1048576) (hq : QOk q) (hr : QOk r) (hla : rlight a = true) (hlb : rlight b = false) :
    Calls Try.prog 4 #[a.val (.slice A a.d.texts.length ka), b.val (.slice B b.d.texts.length kb), qval q, qval r] w fun e w' => e = .returned (.bool true) ∧ Below w.heap.size w w' := by
  obtain ⟨W, hW⟩ : ∃ W, W = ((((w.alloc (.cells (a.cells (.slice A a.d.texts.length ka)) 32)).alloc (.cells (b.cells (.slice B b.d.texts.length kb)) 32)).alloc (.cells #[.string q.1, .int .i64 q.2.1, .int .i64 q.2.2] 46)).alloc (.cells #[.string r.1, .int .i64 r.2.1, .int .i64 r.2.2] 46)) := ⟨_, rfl⟩
  have hf : Fr (fun _ => False) w W := by rw [hW]; exact ((((Fr.refl _ _).alloc _).alloc _).alloc _).alloc _
  have hru : RU w W a b q r A B ka kb := by
    refine ⟨?_, ?_, ?_, ?_, ha.1.fr0 hf, hb.1.fr0 hf, hf⟩
    · rw [hW]; exact (((Blk.new w 32 _).alloc _).alloc _).alloc _
    · rw [hW]
      have := ((Blk.new (w.alloc (.cells (a.cells (.slice A a.d.texts.length ka)) 32)) 32 (b.cells (.slice B b.d.texts.length kb))).alloc (.cells #[.string q.1, .int .i64 q.2.1, .int .i64 q.2.2] 46)).alloc (.cells #[.string r.1, .int .i64 r.2.1, .int .i64 r.2.2] 46)
      rwa [World.size_alloc] at this
    · rw [hW]
      have := (Blk.new ((w.alloc (.cells (a.cells (.slice A a.d.texts.length ka)) 32)).alloc (.cells (b.cells (.slice B b.d.texts.length kb)) 32)) 46 #[.string q.1, .int .i64 q.2.1, .int .i64 q.2.2]).alloc (.cells #[.string r.1, .int .i64 r.2.1, .int .i64 r.2.2] 46)
      rwa [World.size_alloc, World.size_alloc] at this
    · rw [hW]
      have := Blk.new (((w.alloc (.cells (a.cells (.slice A a.d.texts.length ka)) 32)).alloc (.cells (b.cells (.slice B b.d.texts.length kb)) 32)).alloc (.cells #[.string q.1, .int .i64 q.2.1, .int .i64 q.2.2] 46)) 46 #[.string r.1, .int .i64 r.2.1, .int .i64 r.2.2]
      rwa [World.size_alloc, World.size_alloc, World.size_alloc] at this
  have H := Lib.hid hru
  have HB := Lib.hid (And.intro ha.2 hb.2)
  have HQ := Lib.hid (And.intro hq hr)
  have HOK := Lib.hid (And.intro ha.1.ok hb.1.ok)
  have hq1 : q.1.size ≤ 1048576 := hq.1
  have hr1 : r.1.size ≤ 1048576 := hr.1
  unfold Rcd.val qval
  unfold Rcd.cells at hW ⊢
  have HW := Lib.hid hW
  clear hf hru ha hb hq hr hW
  go_enter Try.func4, Try.ntmps4
  go_upto_region 1 with fail
  rw [← HW.out]
  clear HW
  go_wp2_with fail
  refine (lives10_any _).mono ?_
  rintro e w1 ⟨rfl, f1⟩
  have H1 := Lib.hid (H.out.fr0 f1)
  clear f1 H
  have x0 := H1.out.cq.1
  have y0 := H1.out.cr.1
  have HLA := Lib.hid hla
  have HLB := Lib.hid hlb
  clear hla hlb
  go_wp2_with (first
      | (refine wpList_load_blk rfl 32 _ rfl w.heap.size (by rfl) 32 _ _ H1.out.ba Try.underlying32 rfl (by kernel_rfl) ?_
         unfold Rcd.cells)
      | (go_at_call 11
         (with_reducible refine (rlight_any a A ka w1 H1.out.ra (by have := HB.out.1; omega) (by have := HB.out.1; omega)).mono ?_)
         rintro e w2 ⟨rfl, f2⟩
         rw [HLA.out]
         have H2 := Lib.hid (H1.out.fr0 f2)
         clear f2 x0 y0
         have x0 := H2.out.cq.1
         have y0 := H2.out.cr.1)
      | (refine wpList_load_blkg (by rfl) 32 _ rfl (w.heap.size + 1) (by rfl) 32 _ _ H2.out.bb Try.underlying32 rfl (by kernel_rfl) ?_
         unfold Rcd.cells)
      | (go_at_call 11
         (with_reducible refine (rlight_any b B kb w2 H2.out.rb (by have := HB.out.2; omega) (by have := HB.out.2; omega)).mono ?_)
         rintro e w3 ⟨rfl, f3⟩
         rw [HLB.out]
         have H3 := Lib.hid (H2.out.fr0 f3)
         clear f3 x0 y0
         have x0 := H3.out.cq.1
         have y0 := H3.out.cr.1)
      | fail)
  go_ret
  exact ⟨rfl, H3.out.fr.below (fun _ h => h.elim) (Nat.le_refl _)⟩
set_option maxRecDepth 100000 in
set_option maxHeartbeats 16000000 in
theorem run_q (a : Rcd) (A : Option Addr) (ka : Nat) (b : Rcd) (B : Option Addr) (kb : Nat) (q r : Qn) (w : World) (ha : RcIn w A a ∧ a.name.size + a.d.light ≤ 1048576) (hb : RcIn w B b ∧ b.name.size + b.d.light ≤ 1048576) (hq : QOk q) (hr : QOk r) (hla : rlight a = true) (hlb : rlight b = true) (hq4 : 400 < q.1.size) :
    Calls Try.prog 4 #[a.val (.slice A a.d.texts.length ka), b.val (.slice B b.d.texts.length kb), qval q, qval r] w fun e w' => e = .returned (.bool true) ∧ Below w.heap.size w w' := by
  obtain ⟨W, hW⟩ : ∃ W, W = ((((w.alloc (.cells (a.cells (.slice A a.d.texts.length ka)) 32)).alloc (.cells (b.cells (.slice B b.d.texts.length kb)) 32)).alloc (.cells #[.string q.1, .int .i64 q.2.1, .int .i64 q.2.2] 46)).alloc (.cells #[.string r.1, .int .i64 r.2.1, .int .i64 r.2.2] 46)) := ⟨_, rfl⟩
  have hf : Fr (fun _ => False) w W := by rw [hW]; exact ((((Fr.refl _ _).alloc _).alloc _).alloc _).alloc _
  have hru : RU w W a b q r A B ka kb := by
    refine ⟨?_, ?_, ?_, ?_, ha.1.fr0 hf, hb.1.fr0 hf, hf⟩
    · rw [hW]; exact (((Blk.new w 32 _).alloc _).alloc _).alloc _
    · rw [hW]
      have := ((Blk.new (w.alloc (.cells (a.cells (.slice A a.d.texts.length ka)) 32)) 32 (b.cells (.slice B b.d.texts.length kb))).alloc (.cells #[.string q.1, .int .i64 q.2.1, .int .i64 q.2.2] 46)).alloc (.cells #[.string r.1, .int .i64 r.2.1, .int .i64 r.2.2] 46)
      rwa [World.size_alloc] at this
    · rw [hW]
      have := (Blk.new ((w.alloc (.cells (a.cells (.slice A a.d.texts.length ka)) 32)).alloc (.cells (b.cells (.slice B b.d.texts.length kb)) 32)) 46 #[.string q.1, .int .i64 q.2.1, .int .i64 q.2.2]).alloc (.cells #[.string r.1, .int .i64 r.2.1, .int .i64 r.2.2] 46)
      rwa [World.size_alloc, World.size_alloc] at this
    · rw [hW]
      have := Blk.new (((w.alloc (.cells (a.cells (.slice A a.d.texts.length ka)) 32)).alloc (.cells (b.cells (.slice B b.d.texts.length kb)) 32)).alloc (.cells #[.string q.1, .int .i64 q.2.1, .int .i64 q.2.2] 46)) 46 #[.string r.1, .int .i64 r.2.1, .int .i64 r.2.2]
      rwa [World.size_alloc, World.size_alloc, World.size_alloc] at this
  have H := Lib.hid hru
  have HB := Lib.hid (And.intro ha.2 hb.2)
  have HQ := Lib.hid (And.intro hq hr)
  have HOK := Lib.hid (And.intro ha.1.ok hb.1.ok)
  have hq1 : q.1.size ≤ 1048576 := hq.1
  have hr1 : r.1.size ≤ 1048576 := hr.1
  unfold Rcd.val qval
  unfold Rcd.cells at hW ⊢
  have HW := Lib.hid hW
  clear hf hru ha hb hq hr hW
  go_enter Try.func4, Try.ntmps4
  go_upto_region 1 with fail
  rw [← HW.out]
  clear HW
  go_wp2_with fail
  refine (lives10_any _).mono ?_
  rintro e w1 ⟨rfl, f1⟩
  have H1 := Lib.hid (H.out.fr0 f1)
  clear f1 H
  have x0 := H1.out.cq.1
  have y0 := H1.out.cr.1
  have HLA := Lib.hid hla
  have HLB := Lib.hid hlb
  clear hla hlb
  go_wp2_with (first
      | (refine wpList_load_blk rfl 32 _ rfl w.heap.size (by rfl) 32 _ _ H1.out.ba Try.underlying32 rfl (by kernel_rfl) ?_
         unfold Rcd.cells)
      | (go_at_call 11
         (with_reducible refine (rlight_any a A ka w1 H1.out.ra (by have := HB.out.1; omega) (by have := HB.out.1; omega)).mono ?_)
         rintro e w2 ⟨rfl, f2⟩
         rw [HLA.out]
         have H2 := Lib.hid (H1.out.fr0 f2)
         clear f2 x0 y0
         have x0 := H2.out.cq.1
         have y0 := H2.out.cr.1)
      | (refine wpList_load_blkg (by rfl) 32 _ rfl (w.heap.size + 1) (by rfl) 32 _ _ H2.out.bb Try.underlying32 rfl (by kernel_rfl) ?_
         unfold Rcd.cells)
      | (go_at_call 11
         (with_reducible refine (rlight_any b B kb w2 H2.out.rb (by have := HB.out.2; omega) (by have := HB.out.2; omega)).mono ?_)
         rintro e w3 ⟨rfl, f3⟩
         rw [HLB.out]
         have H3 := Lib.hid (H2.out.fr0 f3)
         clear f3 x0 y0
         have x0 := H3.out.cq.1
         have y0 := H3.out.cr.1)
      | fail)
  go_ret
  exact ⟨rfl, H3.out.fr.below (fun _ h => h.elim) (Nat.le_refl _)⟩
set_option maxRecDepth 100000 in
set_option maxHeartbeats 16000000 in
theorem run_r (a : Rcd) (A : Option Addr) (ka : Nat) (b : Rcd) (B : Option Addr) (kb : Nat) (q r : Qn) (w : World) (ha : RcIn w A a ∧ a.name.size + a.d.light ≤ 1048576) (hb : RcIn w B b ∧ b.name.size + b.d.light ≤ 1048576) (hq : QOk q) (hr : QOk r) (hla : rlight a = true) (hlb : rlight b = true) (hq4 : ¬ 400 < q.1.size) (hr4 : 400 < r.1.size) :
    Calls Try.prog 4 #[a.val (.slice A a.d.texts.length ka), b.val (.slice B b.d.texts.length kb), qval q, qval r] w fun e w' => e = .returned (.bool true) ∧ Below w.heap.size w w' := by
  obtain ⟨W, hW⟩ : ∃ W, W = ((((w.alloc (.cells (a.cells (.slice A a.d.texts.length ka)) 32)).alloc (.cells (b.cells (.slice B b.d.texts.length kb)) 32)).alloc (.cells #[.string q.1, .int .i64 q.2.1, .int .i64 q.2.2] 46)).alloc (.cells #[.string r.1, .int .i64 r.2.1, .int .i64 r.2.2] 46)) := ⟨_, rfl⟩
  have hf : Fr (fun _ => False) w W := by rw [hW]; exact ((((Fr.refl _ _).alloc _).alloc _).alloc _).alloc _
  have hru : RU w W a b q r A B ka kb := by
    refine ⟨?_, ?_, ?_, ?_, ha.1.fr0 hf, hb.1.fr0 hf, hf⟩
    · rw [hW]; exact (((Blk.new w 32 _).alloc _).alloc _).alloc _
    · rw [hW]
      have := ((Blk.new (w.alloc (.cells (a.cells (.slice A a.d.texts.length ka)) 32)) 32 (b.cells (.slice B b.d.texts.length kb))).alloc (.cells #[.string q.1, .int .i64 q.2.1, .int .i64 q.2.2] 46)).alloc (.cells #[.string r.1, .int .i64 r.2.1, .int .i64 r.2.2] 46)
      rwa [World.size_alloc] at this
    · rw [hW]
      have := (Blk.new ((w.alloc (.cells (a.cells (.slice A a.d.texts.length ka)) 32)).alloc (.cells (b.cells (.slice B b.d.texts.length kb)) 32)) 46 #[.string q.1, .int .i64 q.2.1, .int .i64 q.2.2]).alloc (.cells #[.string r.1, .int .i64 r.2.1, .int .i64 r.2.2] 46)
      rwa [World.size_alloc, World.size_alloc] at this
    · rw [hW]
      have := Blk.new (((w.alloc (.cells (a.cells (.slice A a.d.texts.length ka)) 32)).alloc (.cells (b.cells (.slice B b.d.texts.length kb)) 32)).alloc (.cells #[.string q.1, .int .i64 q.2.1, .int .i64 q.2.2] 46)) 46 #[.string r.1, .int .i64 r.2.1, .int .i64 r.2.2]
      rwa [World.size_alloc, World.size_alloc, World.size_alloc] at this
  have H := Lib.hid hru
  have HB := Lib.hid (And.intro ha.2 hb.2)
  have HQ := Lib.hid (And.intro hq hr)
  have HOK := Lib.hid (And.intro ha.1.ok hb.1.ok)
  have hq1 : q.1.size ≤ 1048576 := hq.1
  have hr1 : r.1.size ≤ 1048576 := hr.1
  unfold Rcd.val qval
  unfold Rcd.cells at hW ⊢
  have HW := Lib.hid hW
  clear hf hru ha hb hq hr hW
  go_enter Try.func4, Try.ntmps4
  go_upto_region 1 with fail
  rw [← HW.out]
  clear HW
  go_wp2_with fail
  refine (lives10_any _).mono ?_
  rintro e w1 ⟨rfl, f1⟩
  have H1 := Lib.hid (H.out.fr0 f1)
  clear f1 H
  have x0 := H1.out.cq.1
  have y0 := H1.out.cr.1
  have HLA := Lib.hid hla
  have HLB := Lib.hid hlb
  clear hla hlb
  go_wp2_with (first
      | (refine wpList_load_blk rfl 32 _ rfl w.heap.size (by rfl) 32 _ _ H1.out.ba Try.underlying32 rfl (by kernel_rfl) ?_
         unfold Rcd.cells)
      | (go_at_call 11
         (with_reducible refine (rlight_any a A ka w1 H1.out.ra (by have := HB.out.1; omega) (by have := HB.out.1; omega)).mono ?_)
         rintro e w2 ⟨rfl, f2⟩
         rw [HLA.out]
         have H2 := Lib.hid (H1.out.fr0 f2)
         clear f2 x0 y0
         have x0 := H2.out.cq.1
         have y0 := H2.out.cr.1)
      | (refine wpList_load_blkg (by rfl) 32 _ rfl (w.heap.size + 1) (by rfl) 32 _ _ H2.out.bb Try.underlying32 rfl (by kernel_rfl) ?_
         unfold Rcd.cells)
      | (go_at_call 11
         (with_reducible refine (rlight_any b B kb w2 H2.out.rb (by have := HB.out.2; omega) (by have := HB.out.2; omega)).mono ?_)
         rintro e w3 ⟨rfl, f3⟩
         rw [HLB.out]
         have H3 := Lib.hid (H2.out.fr0 f3)
         clear f3 x0 y0
         have x0 := H3.out.cq.1
         have y0 := H3.out.cr.1)
      | fail)
  go_ret
  exact ⟨rfl, H3.out.fr.below (fun _ h => h.elim) (Nat.le_refl _)⟩
end Go.Proofs.Ytaloihnmefbbaaa
