/-
  LAYER 11, PLAIN: how many octets a message has hangs not on its header; what is found of a message that is cut. No program.
-/
import Derived.Test.YtmbgejiahmhffaaGreatSMcp
namespace Go.Proofs.YtmbgejiahmhffaaGreat
open Go.RowKit
set_option linter.unusedVariables false
set_option linter.unusedSimpArgs false

theorem headB_alike {y y' : Pk} {B : Nat} (h : UG y B) (h' : UG y' B) (hg : y.get = y'.get) (hl : y.x.b.length = y'.x.b.length) {n : ByteArray} (t cl : Int) (hn : ckN n = 0) (hB : B + 256 ≤ 65535) : Alike y y' (headB y n t cl) (headB y' n t cl) :=
  ((nameB_alike h h' hg hl false n hn hB).more _).more _
theorem Alike.get {y y' z z' : Pk} (h : Alike y y' z z') : z.get = z'.get := h.choose_spec.2.2
theorem rputB_alike {y y' : Pk} {B : Nat} (h : UG y B) (h' : UG y' B) (hg : y.get = y'.get) (hl : y.x.b.length = y'.x.b.length) {r : Rcd} (hr : r.ok) (hc : r.check = 0) (hB : B + 1000 + r.d.size (whatN r.t) ≤ 65535) : Alike y y' (rputB y r) (rputB y' r) := by
  obtain ⟨hq, hd⟩ := Rcd.check_ok hc
  obtain ⟨hn, ht, hcl⟩ := qcheck_ok hq
  obtain ⟨_, hb, k1, k2, k3, _⟩ := dcheck_ok hd
  obtain ⟨a1, _, _⟩ := headB_good h r.t r.cl hn (by omega)
  obtain ⟨a1', _, _⟩ := headB_good h' r.t r.cl hn (by omega)
  have a4 := a1.put (octs r.ttl 4)
  have a4' := a1'.put (octs r.ttl 4)
  rw [octs_length] at a4 a4'
  have s2 : Alike y y' (rc2 y r) (rc2 y' r) := (headB_alike h h' hg hl r.t r.cl hn (by omega)).more _
  have hl2 := s2.len hl
  have b0 : UG ((rc2 y r).more [0, 0]) (B + 270) := (UG.put a4 [0, 0]).more (by simp)
  have b0' : UG ((rc2 y' r).more [0, 0]) (B + 270) := (UG.put a4' [0, 0]).more (by simp)
  have t0 : Alike _ _ (rc0 y r) (rc0 y' r) := dputB_alike (w := whatN r.t) (d := r.d) b0 b0' s2.get (by rw [Pk.more_b, Pk.more_b, List.length_append, List.length_append, hl2]) ⟨_, rfl⟩ k1 k2 (by omega)
  have hl0 : (rc0 y r).x.b.length = (rc0 y' r).x.b.length := t0.len (by rw [Pk.more_b, Pk.more_b, List.length_append, List.length_append, hl2])
  have hL : rcL y r = rcL y' r := by unfold rcL; rw [hl0, hl2]
  have b1 : UG ((rc2 y r).more (octs (rcL y r) 2)) (B + 270) := (UG.put a4 (octs (rcL y r) 2)).more (by rw [octs_length]; omega)
  have b1' : UG ((rc2 y' r).more (octs (rcL y' r) 2)) (B + 270) := (UG.put a4' (octs (rcL y' r) 2)).more (by rw [octs_length]; omega)
  have t1 : Alike _ _ (rputB y r) (rputB y' r) := dputB_alike (w := whatN r.t) (d := r.d) b1 b1' s2.get (by rw [Pk.more_b, Pk.more_b, List.length_append, List.length_append, hl2, octs_length, octs_length]) ⟨_, rfl⟩ k1 k2 (by omega)
  have s3 : Alike y y' ((rc2 y r).more (octs (rcL y r) 2)) ((rc2 y' r).more (octs (rcL y' r) 2)) := by rw [← hL]; exact s2.more _
  exact s3.trans t1
theorem qputs_alike : ∀ (l : List Qn) (y y' : Pk), UG y y.x.b.length → UG y' y'.x.b.length → y.get = y'.get → y.x.b.length = y'.x.b.length → (∀ q ∈ l, qcheck q.1 q.2.1 q.2.2 = 0) → y.x.b.length + qsum l + 2000 ≤ 65535 → Alike y y' (qputsB y l) (qputsB y' l)
  | [], y, y', _, _, hg, _, _, _ => Alike.refl hg
  | (n, t, cl) :: l, y, y', h, h', hg, hl, hq, hB => by
    have hc : qcheck n t cl = 0 := hq (n, t, cl) (by simp)
    obtain ⟨hn, _⟩ := qcheck_ok hc
    have hs : qsum ((n, t, cl) :: l) = n.size + 5 + qsum l := rfl
    rw [hs] at hB
    obtain ⟨u1, hb, hle⟩ := headB_good h t cl hn (by omega)
    obtain ⟨u1', _, _⟩ := headB_good h' t cl hn (by omega)
    have hl2 : (headB y n t cl).x.b.length = (y.nameB false n).x.b.length + 4 := by rw [hb]; simp [octs_length]
    have s1 := headB_alike h (by rw [hl]; exact h') hg hl t cl hn (by omega)
    exact s1.trans (qputs_alike l _ _ u1.exact u1'.exact s1.get (s1.len hl) (fun x hx => hq x (by simp [hx])) (by omega))
theorem rputs_alike : ∀ (l : List Rcd) (y y' : Pk), UG y y.x.b.length → UG y' y'.x.b.length → y.get = y'.get → y.x.b.length = y'.x.b.length → (∀ r ∈ l, r.ok ∧ r.check = 0) → y.x.b.length + rsum l + 2000 ≤ 65535 → Alike y y' (rputsB y l) (rputsB y' l)
  | [], y, y', _, _, hg, _, _, _ => Alike.refl hg
  | r :: l, y, y', h, h', hg, hl, hq, hB => by
    obtain ⟨hr, hc⟩ := hq r (by simp)
    have hs : rsum (r :: l) = r.name.size + 11 + r.d.size (whatN r.t) + rsum l := rfl
    rw [hs] at hB
    have hB1 : y.x.b.length + 1000 + r.d.size (whatN r.t) ≤ 65535 := by omega
    obtain ⟨_, u1, _, _, _, _, hle, _⟩ := rput_facts h hr hc hB1
    obtain ⟨_, u1', _, _, _, _, _, _⟩ := rput_facts h' hr hc (by rw [← hl]; exact hB1)
    have s1 := rputB_alike h (by rw [hl]; exact h') hg hl hr hc hB1
    exact s1.trans (rputs_alike l _ _ u1.exact u1'.exact s1.get (s1.len hl) (fun x hx => hq x (by simp [hx])) (by omega))
/-- A message's octets behind the header hang on the header in no way. -/
theorem mput_alike {m : Ms} (hm : m.fine) (hs : m.size + 2000 ≤ 65535) (h' : Hd) : Alike (mhead m) (mhead ⟨h', m.qs, m.an, m.au, m.mo⟩) (mputB m) (mputB ⟨h', m.qs, m.an, m.au, m.mo⟩) := by
  obtain ⟨h1, h2, _, h4, h5, h6, h7⟩ := hm
  have st := stages ⟨h1, h2, by assumption, h4, h5, h6, h7⟩ hs
  have u0' : UG (mhead ⟨h', m.qs, m.an, m.au, m.mo⟩) (mhead ⟨h', m.qs, m.an, m.au, m.mo⟩).x.b.length := ⟨rfl, rfl, (fun _ _ h => by cases h), Nat.le_refl _⟩
  have l0 : (mhead m).x.b.length = 12 := m.h.upto_length 4
  have l0' : (mhead ⟨h', m.qs, m.an, m.au, m.mo⟩).x.b.length = 12 := h'.upto_length 4
  have s1 := qputs_alike m.qs _ _ st.u0 u0' rfl (by omega) h4 st.b0
  obtain ⟨v1, _, n1, _⟩ := qputs_reads m.qs _ u0' h4 (by have := st.b0; omega)
  have e1 := s1.len (by omega : (mhead m).x.b.length = (mhead ⟨h', m.qs, m.an, m.au, m.mo⟩).x.b.length)
  have s2 := rputs_alike m.an _ _ st.u1 v1 s1.get e1 h5 st.b1
  obtain ⟨v2, _, _, _⟩ := rputs_reads m.an _ v1 h5 (by have := st.b1; omega)
  have e2 := s2.len e1
  have s3 := rputs_alike m.au _ _ st.u2 v2 s2.get e2 h6 st.b2
  obtain ⟨v3, _, _, _⟩ := rputs_reads m.au _ v2 h6 (by have := st.b2; omega)
  have e3 := s3.len e2
  have s4 := rputs_alike m.mo _ _ st.u3 v3 s3.get e3 h7 st.b3
  exact ((s1.trans s2).trans s3).trans s4
theorem mput_len {m : Ms} (hm : m.fine) (hs : m.size + 2000 ≤ 65535) (h' : Hd) : (mputB ⟨h', m.qs, m.an, m.au, m.mo⟩).x.b.length = (mputB m).x.b.length :=
  ((mput_alike hm hs h').len (by rw [show (mhead m).x.b.length = 12 from m.h.upto_length 4]; exact (h'.upto_length 4).symm)).symm
theorem cutFind_spec (M : Int) (f : Nat → Ms) : ∀ N, (∃ k, k ≤ N ∧ (mputB (f k)).x.b.length ≤ roomN M ∧ (∀ j, k < j → j ≤ N → roomN M < (mputB (f j)).x.b.length) ∧ cutFind M f N = ((mputB (f k)).x.b, 0)) ∨ ((∀ j, j ≤ N → roomN M < (mputB (f j)).x.b.length) ∧ cutFind M f N = ([], 3))
  | 0 => by
    by_cases h : (mputB (f 0)).x.b.length ≤ roomN M
    · exact .inl ⟨0, Nat.le_refl _, h, fun j h1 h2 => by omega, cutFind_hit h⟩
    · exact .inr ⟨fun j hj => by rw [show j = 0 by omega]; omega, cutFind_none (by omega)⟩
  | N + 1 => by
    by_cases h : (mputB (f (N + 1))).x.b.length ≤ roomN M
    · exact .inl ⟨N + 1, Nat.le_refl _, h, fun j h1 h2 => by omega, cutFind_hit h⟩
    · have hm := cutFind_miss (M := M) (f := f) (k := N) (by omega)
      rcases cutFind_spec M f N with ⟨k, h1, h2, h3, h4⟩ | ⟨h1, h2⟩
      · refine .inl ⟨k, by omega, h2, fun j hj hj' => ?_, hm.trans h4⟩
        by_cases e : j = N + 1
        · subst e; omega
        · exact h3 j hj (by omega)
      · refine .inr ⟨fun j hj => ?_, hm.trans h2⟩
        by_cases e : j = N + 1
        · subst e; omega
        · exact h1 j (by omega)
end Go.Proofs.YtmbgejiahmhffaaGreat
