/-
  LAYER 11: what Put needs: packers of any room, questions and records put.
-/
import Derived.Test.YtmbgejiahmhffaaGreatUMsd
import Derived.Test.YtmbgejiahmhffaaGreatUMcq
import Derived.Test.YtmbgejiahmhffaaGreatUunK
import Derived.Test.YtmbgejiahmhffaaGreatUHdrput
import Derived.Test.YtmbgejiahmhffaaGreatUunH
namespace Go.Proofs.YtmbgejiahmhffaaGreat
open Go.RowKit
variable {K : Nat}
set_option linter.unusedVariables false
set_option linter.unusedSimpArgs false

set_option maxRecDepth 100000 in
set_option maxHeartbeats 1000000 in
theorem pnew_big (m : Int) (hm : 65535 < m) (w : World) : Calls Tryz.prog 32 #[.int .i64 m] w (PPkNew w 65535) := by
  have hmm := @run_makeMap Tryz.prog
  go_enter Tryz.func32, Tryz.ntmps32
  go_wp2_with fail
  all_goals first
    | (exfalso; omega)
    | (refine (newWriter_c _ (by omega) _).mono ?_
       rintro e w1 ⟨p, G, rfl, h1, h2, h3⟩
       have HN := Lib.hid (And.intro h1 (And.intro h2 h3))
       clear h1 h2 h3
       go_wp2_with fail
       go_ret
       have hblk := Blk.new (w1.alloc (.map #[] 0)) 116 #[.pointer (some ⟨p, 0, none⟩), .map (some w1.heap.size), .slice none 0 0]
       rw [show (w1.alloc (.map #[] 0)).heap.size = w1.heap.size + 1 by simp] at hblk
       have hfr : Fr (fun _ => False) w1 ((w1.alloc (.map #[] 0)).alloc (.cells #[.pointer (some ⟨p, 0, none⟩), .map (some w1.heap.size), .slice none 0 0] 116)) := ((Fr.refl _ w1).alloc _).alloc _
       have hmp := (MapIs.made w1).fr (S := fun _ => False) ((Fr.refl _ _).alloc (.cells #[.pointer (some ⟨p, 0, none⟩), .map (some w1.heap.size), .slice none 0 0] 116)) id
       have hlt := HN.out.1.lt
       refine ⟨w1.heap.size + 1, fun k => G k ∨ k = w1.heap.size ∨ k = w1.heap.size + 1, rfl, ⟨0, Nat.zero_le _, p, G, w1.heap.size, none, 0, hblk, HN.out.1.fr hfr (fun _ _ h => h), hmp, own_nil _ _ _,
         ⟨fun h => by have := hlt _ h; omega, fun h => by have := hlt _ h; omega, by omega, rowOf_none _, fun k hk => absurd hk (rowOf_none k)⟩, .inr (.inr rfl), .inr (.inl rfl), fun k hk => .inl hk, fun k hk => absurd hk (rowOf_none k), ?_⟩, HN.out.2.1.then hfr, ?_⟩
       · rintro k (hk | rfl | rfl)
         · exact Nat.lt_of_lt_of_le (hlt k hk) hfr.size
         · simp; omega
         · simp
       · rintro k (hk | rfl | rfl)
         · exact HN.out.2.2 k hk
         · exact HN.out.2.1.size
         · exact Nat.le_succ_of_le HN.out.2.1.size)
theorem pnew_room (m : Int) (w : World) : Calls Tryz.prog 32 #[.int .i64 m] w fun e w' => ∃ p F, e = .returned (.pointer (some ⟨p, 0, none⟩)) ∧ PD w w' p F ⟨⟨[], (roomN m : Nat), 0⟩, fun _ => none⟩ := by
  by_cases h : m ≤ 65535
  · refine (pnew_any m h w).mono ?_
    rintro e w' ⟨p, F, rfl, g1, g2, g3⟩
    have e : max 0 m = ((roomN m : Nat) : Int) := by unfold roomN; omega
    rw [e] at g1
    exact ⟨p, F, rfl, g1, g2, g3⟩
  · refine (pnew_big m (by omega) w).mono ?_
    rintro e w' ⟨p, F, rfl, g1, g2, g3⟩
    have e : max (0 : Int) 65535 = ((roomN m : Nat) : Int) := by unfold roomN; omega
    rw [e] at g1
    exact ⟨p, F, rfl, g1, g2, g3⟩
theorem Rm.fit {M : Nat} {y z : Pk} (h : z.x.b.length ≤ M ∧ y = ⟨{ z.x with most := (M : Int) }, z.get⟩) (hM : M ≤ 65535) : y.fit := by
  obtain ⟨h1, rfl⟩ := h
  exact ⟨by dsimp only; omega, by dsimp only; omega⟩
theorem rc2_len {M : Nat} {y z : Pk} (h : Rm M y z) (hu : UGK K z z.x.b.length) {r : Rcd} (hr : r.ok) (hc : r.check = 0) (hB : z.x.b.length + 1000 + r.d.size (whatN r.t) ≤ K) (k2 : (rc0P y r).x.e = 0) : (rc2P y r).x.b.length = (rc2 z r).x.b.length := by
  obtain ⟨hq, hd⟩ := Rcd.check_ok hc
  obtain ⟨hn, ht, hcl⟩ := qcheck_ok hq
  obtain ⟨a1, _, _⟩ := headB_good hu r.t r.cl hn (by omega)
  have f4 : fitsB ((r.ttl : Nat) : Int) 4 = true := by
    simp only [fitsB, decide_eq_true_eq]
    refine ⟨by decide, by decide, ?_⟩
    show ((r.ttl : Nat) : Int) < 256 ^ 4
    have := hr.1
    omega
  have s2 : Rm M (rc2P y r) (rc2 z r) := (h.head hu hq (by omega)).num a1.e f4
  rcases s2 with ⟨_, e⟩ | ⟨_, e⟩
  · rw [e]
  · exfalso
    have e3 : (rc0P y r).x.e = 3 := by
      have : rc0P y r = rc2P y r := by
        show dputP ((rc2P y r).numP 0 2) (whatN r.t) r.d = _
        rw [numP_err (y := rc2P y r) (by rw [e]; decide)]
        exact dput_err (by rw [e]; decide)
      rw [this, e]
    rw [e3] at k2
    cases k2
/-- A record that may be, put into whatever room. -/
def RputRm (w0 w : World) (p : Nat) (M : Nat) (z : Pk) (e : Ending) (w' : World) : Prop :=
  (e = .returned (.int .i64 0) ∧ z.x.b.length ≤ M ∧ ∃ F' y', PD w0 w' p F' y' ∧ y'.fit ∧ Rm M y' z) ∨
  (e = .returned (.int .i64 3) ∧ M < z.x.b.length ∧ ∃ F' y' bg', PPk w' p F' y' bg' ∧ y'.x.e = 3 ∧ Fr (fun _ => False) w0 w')
theorem rput_rm {w0 w : World} {p : Nat} {F : Nat → Prop} {y z : Pk} {M : Nat} (h : PD w0 w p F y) (hfit : y.fit) (hrm : Rm M y z) (hu : UGK K z z.x.b.length) (hM : M ≤ 65535) (x : Rcd × Option Addr × Nat) (hr : RcIn w0 x.2.1 x.1) (hc : rcheckB x.1 = 0) (hB : z.x.b.length + 1000 + x.1.d.size (whatN x.1.t) ≤ K) :
    Calls Tryz.prog 36 #[.pointer (some ⟨p, 0, none⟩), .agg (rcl x).toArray] w (RputRm w0 w p M (rputB z x.1)) := by
  have hc' : x.1.check = 0 := by rw [← rcheckB_eq]; exact hc
  refine (recput_any p F y [] x.1 x.2.1 x.2.2 w h.pk hfit (by decide) (hr.fr0 h.fr) (h.row hr.d.txt)).mono ?_
  rintro e w' ⟨rfl, F', bg', g1, g2, g3, g4⟩
  have e1 : rputR y x.1 = if (rc0P y x.1).x.e ≠ 0 then (rc0P y x.1, (rc0P y x.1).x.e) else (⟨((rc0P y x.1).x.patch ((rc2P y x.1).x.b.length : Nat) (((rc0P y x.1).x.b.length - (rc2P y x.1).x.b.length - 2 : Nat) : Int) 2).1, (rc0P y x.1).get⟩, ((rc0P y x.1).x.patch ((rc2P y x.1).x.b.length : Nat) (((rc0P y x.1).x.b.length - (rc2P y x.1).x.b.length - 2 : Nat) : Int) 2).2) := by
    unfold rputR rc2P
    rw [if_neg (by simp [hc])]
  rcases hrm.ended hu hr.ok hc' hB with ⟨k1, k2⟩ | ⟨k1, k2, k3, k4, k5, k6⟩
  · right
    rw [if_pos (by rw [k2]; decide), k2] at e1
    rw [e1] at g1 ⊢
    exact ⟨rfl, k1, F', _, bg', g1, k2, h.fr.step g3 fun k hk => .inr (h.far k hk)⟩
  · left
    have hbg : bg' = [] := g2 (.inr k2)
    subst hbg
    rw [if_neg (by rw [k2]; decide)] at e1
    have hl2 : (rc2P y x.1).x.b.length = (rc2 z x.1).x.b.length := rc2_len hrm hu hr.ok hc' hB k2
    rw [hl2, k3, k5, k6] at e1
    rw [e1] at g1 ⊢
    have hl : (rputB z x.1).x.b.length ≤ M ∧ (⟨{ (rputB z x.1).x with most := (M : Int) }, (rputB z x.1).get⟩ : Pk) = ⟨{ (rputB z x.1).x with most := (M : Int) }, (rputB z x.1).get⟩ := ⟨k1, rfl⟩
    exact ⟨rfl, k1, F', _, h.step g1 g3 g4, Rm.fit hl hM, .inl hl⟩
theorem qput_rm {w0 w : World} {p : Nat} {F : Nat → Prop} {y z : Pk} {M : Nat} (h : PD w0 w p F y) (hfit : y.fit) (hrm : Rm M y z) (hu : UGK K z z.x.b.length) (x : Qn) (hc : qchk x = 0) (hB : z.x.b.length + 300 ≤ K) :
    Calls Tryz.prog 35 #[.pointer (some ⟨p, 0, none⟩), .agg (qcl x).toArray] w fun e w' => ∃ v F' y', e = .returned v ∧ PD w0 w' p F' y' ∧ y'.fit ∧ Rm M y' (headB z x.1 x.2.1 x.2.2) := by
  refine (qput_any p F y [] x.1 x.2.1 x.2.2 w h.pk hfit).mono ?_
  rintro e w' ⟨rfl, F', g1, g2, g3⟩
  have e1 : qputR y x.1 x.2.1 x.2.2 = (headP y x.1 x.2.1 x.2.2, (headP y x.1 x.2.1 x.2.2).x.e) := by
    unfold qputR
    rw [if_neg (by simpa [qchk] using hc)]
  rw [e1] at g1 ⊢
  exact ⟨_, F', _, rfl, h.step g1 g2 g3, headP_fit hfit _ _ _, hrm.head hu hc hB⟩
end Go.Proofs.YtmbgejiahmhffaaGreat
