/-
  LAYER 11, PLAIN: the errors of Read.
-/
import Derived.Test.YtmbgejiahmhffaaGreatUMrs
namespace Go.Proofs.YtmbgejiahmhffaaGreat
open Go.RowKit
set_option linter.unusedVariables false

section
variable {s : ByteArray}
theorem mE_hd (h0 : ¬ 65535 < s.size) (h1 : (readHd s).2 ≠ 0) : mreadE s = (readHd s).2 := by unfold mreadE; rw [if_neg h0, if_pos h1]
theorem mE_q (h0 : ¬ 65535 < s.size) (h1 : (readHd s).2 = 0) {k : Nat} (hk : k < (readHd s).1.c0.toNat) (h2 : (qaccN s 12 k).2.2 = 0) (h3 : (qreadC s (qaccN s 12 k).2.1).2.2 ≠ 0) : mreadE s = (qreadC s (qaccN s 12 k).2.1).2.2 := by
  have e : (mq s).2.2 = (qreadC s (qaccN s 12 k).2.1).2.2 := by
    have := qaccN_no h2 h3
    unfold mq
    rw [qaccN_stay (n := k + 1) (by rw [this]; exact h3) _ hk, this]
  unfold mreadE
  rw [if_neg h0, if_neg (by simp [h1]), e, if_pos h3]
theorem racc_e {a : Int} {n k : Nat} (hk : k < n) (h2 : (raccN s a k).2.2 = 0) (h3 : (rreadC s (raccN s a k).2.1).2.2 ≠ 0) : (raccN s a n).2.2 = (rreadC s (raccN s a k).2.1).2.2 := by
  have := raccN_no h2 h3
  rw [raccN_stay (n := k + 1) (by rw [this]; exact h3) _ hk, this]
theorem mE_a (h0 : ¬ 65535 < s.size) (h1 : (readHd s).2 = 0) (hq : (mq s).2.2 = 0) {k : Nat} (hk : k < (readHd s).1.c1.toNat) (h2 : (raccN s (mq s).2.1 k).2.2 = 0) (h3 : (rreadC s (raccN s (mq s).2.1 k).2.1).2.2 ≠ 0) : mreadE s = (rreadC s (raccN s (mq s).2.1 k).2.1).2.2 := by
  have e : (ma s).2.2 = _ := racc_e hk h2 h3
  unfold mreadE
  rw [if_neg h0, if_neg (by simp [h1]), if_neg (by simp [hq]), e, if_pos h3]
theorem mE_b (h0 : ¬ 65535 < s.size) (h1 : (readHd s).2 = 0) (hq : (mq s).2.2 = 0) (ha : (ma s).2.2 = 0) {k : Nat} (hk : k < (readHd s).1.c2.toNat) (h2 : (raccN s (ma s).2.1 k).2.2 = 0) (h3 : (rreadC s (raccN s (ma s).2.1 k).2.1).2.2 ≠ 0) : mreadE s = (rreadC s (raccN s (ma s).2.1 k).2.1).2.2 := by
  have e : (mb s).2.2 = _ := racc_e hk h2 h3
  unfold mreadE
  rw [if_neg h0, if_neg (by simp [h1]), if_neg (by simp [hq]), if_neg (by simp [ha]), e, if_pos h3]
theorem mE_c (h0 : ¬ 65535 < s.size) (h1 : (readHd s).2 = 0) (hq : (mq s).2.2 = 0) (ha : (ma s).2.2 = 0) (hb : (mb s).2.2 = 0) {k : Nat} (hk : k < (readHd s).1.c3.toNat) (h2 : (raccN s (mb s).2.1 k).2.2 = 0) (h3 : (rreadC s (raccN s (mb s).2.1 k).2.1).2.2 ≠ 0) : mreadE s = (rreadC s (raccN s (mb s).2.1 k).2.1).2.2 := by
  have e : (mc s).2.2 = _ := racc_e hk h2 h3
  unfold mreadE
  rw [if_neg h0, if_neg (by simp [h1]), if_neg (by simp [hq]), if_neg (by simp [ha]), if_neg (by simp [hb]), e, if_pos h3]
theorem mE_end (h0 : ¬ 65535 < s.size) (h1 : (readHd s).2 = 0) (hq : (mq s).2.2 = 0) (ha : (ma s).2.2 = 0) (hb : (mb s).2.2 = 0) (hc : (mc s).2.2 = 0) : mreadE s = if (mc s).2.1 ≠ (s.size : Nat) then 4 else 0 := by
  unfold mreadE
  rw [if_neg h0, if_neg (by simp [h1]), if_neg (by simp [hq]), if_neg (by simp [ha]), if_neg (by simp [hb]), if_neg (by simp [hc])]
theorem hd_counts (h1 : (readHd s).2 = 0) : (0 ≤ (readHd s).1.c0 ∧ (readHd s).1.c0 ≤ 65535) ∧ (0 ≤ (readHd s).1.c1 ∧ (readHd s).1.c1 ≤ 65535) ∧ (0 ≤ (readHd s).1.c2 ∧ (readHd s).1.c2 ≤ 65535) ∧ (0 ≤ (readHd s).1.c3 ∧ (readHd s).1.c3 ≤ 65535) := by
  rcases readHd_cases s with ⟨g, hg, e⟩ | ⟨_, y, e, hm, _⟩
  · rw [e] at h1
    rcases hg with rfl | rfl <;> cases h1
  · rw [e]
    obtain ⟨_, _, hc⟩ := Hd.may_parts hm
    exact ⟨hc 0, hc 1, hc 2, hc 3⟩
end
/-- What Read leaves. -/
structure RdMem (W : World) (h : Hd) (Aq : Option Addr) (lq : List Qn) (cq : Nat) (Aa : Option Addr) (la : RLm) (ca : Nat) (Ab : Option Addr) (lb : RLm) (cb : Nat) (Ac : Option Addr) (lc : RLm) (cc : Nat) : Prop where
  oq : W.ownsRow 0 40 3 (.slice Aq lq.length cq) lq.length (lq.flatMap qcl)
  oa : W.ownsRow 0 55 16 (.slice Aa la.length ca) la.length (la.flatMap rcl)
  ob : W.ownsRow 0 55 16 (.slice Ab lb.length cb) lb.length (lb.flatMap rcl)
  oc : W.ownsRow 0 55 16 (.slice Ac lc.length cc) lc.length (lc.flatMap rcl)
  tx : ∀ x, x ∈ la ∨ x ∈ lb ∨ x ∈ lc → Strs W x.2.1 x.1.d.texts
def MrdPost (w : World) (s : ByteArray) (e : Ending) (w' : World) : Prop :=
  Fr (fun _ => False) w w' ∧ ((mreadE s ≠ 0 ∧ e = .returned (.tuple #[.agg #[.int .u16 0, .bool false, .int .i64 0, .bool false, .bool false, .bool false, .bool false, .bool false, .bool false, .int .i64 0, .int .i64 0, .int .i64 0, .int .i64 0, .int .i64 0, .slice none 0 0, .slice none 0 0, .slice none 0 0, .slice none 0 0], .int .i64 (mreadE s)])) ∨
  (mreadE s = 0 ∧ ∃ h Aq lq cq Aa la ca Ab lb cb Ac lc cc, e = .returned (.tuple #[.agg #[.int .u16 h.id, .bool h.resp, .int .i64 h.op, .bool h.aa, .bool h.tc, .bool h.rd, .bool h.ra, .bool h.ad, .bool h.cd, .int .i64 h.rc, .int .i64 h.c0, .int .i64 h.c1, .int .i64 h.c2, .int .i64 h.c3, .slice Aq lq.length cq, .slice Aa la.length ca, .slice Ab lb.length cb, .slice Ac lc.length cc], .int .i64 0]) ∧ RdMem w' h Aq lq cq Aa la ca Ab lb cb Ac lc cc ∧ msOf h lq la lb lc = mreadM s))
theorem Rmst.mem {w W W' : World} {R0 Hb M : Nat} {h : Hd} {Aq : Option Addr} {lq : List Qn} {cq : Nat} {Aa : Option Addr} {la : RLm} {ca : Nat} {Ab : Option Addr} {lb : RLm} {cb : Nat} {Ac : Option Addr} {lc : RLm} {cc : Nat} (s : Rmst w W R0 Hb M h Aq lq cq Aa la ca Ab lb cb Ac lc cc) (f : Fr (· = R0) W W') : RdMem W' h Aq lq cq Aa la ca Ab lb cb Ac lc cc := by
  have hr0 := s.r0
  have nr : ∀ {e : TypeId} {size n cap : Nat} {A : Option Addr} {xs : List Value}, W.ownsRow 0 e size (.slice A n cap) n xs → e ≠ 29 → ∀ k, rowOf A k → ¬ k = R0 := fun o hne k hk h => by subst h; exact own_ne o s.rb hne hk
  exact ⟨own_fr s.oq f (nr s.oq (by decide)), own_fr s.oa f (nr s.oa (by decide)), own_fr s.ob f (nr s.ob (by decide)), own_fr s.oc f (nr s.oc (by decide)), fun x hx => (s.tx x hx).1.fr f (fun k hk h => by have := ((s.tx x hx).2 k hk).2.1; omega)⟩
theorem Rmst.frr {w W W' : World} {R0 Hb M : Nat} {h : Hd} {Aq : Option Addr} {lq : List Qn} {cq : Nat} {Aa : Option Addr} {la : RLm} {ca : Nat} {Ab : Option Addr} {lb : RLm} {cb : Nat} {Ac : Option Addr} {lc : RLm} {cc : Nat} (s : Rmst w W R0 Hb M h Aq lq cq Aa la ca Ab lb cb Ac lc cc) (f : Fr (· = R0) W W') : Fr (fun _ => False) w W' := s.fr.step f (fun k hk => .inr (by have := s.r0; omega))
end Go.Proofs.YtmbgejiahmhffaaGreat
