/-
  LAYER 11, PLAIN: records, questions, a message in any room. No program.
-/
import Derived.Test.YtmbgejiahmhffaaGreatCMsq
namespace Go.Proofs.YtmbgejiahmhffaaGreat
open Go.RowKit

/-- A record up to where its data's length is begun. -/
def rc2P (y : Pk) (r : Rcd) : Pk := (headP y r.name r.t r.cl).numP (r.ttl : Nat) 4
/-- A record, as the program puts it. -/
def rputP (y : Pk) (r : Rcd) : Pk :=
  if (rc0P y r).x.e ≠ 0 then rc0P y r
  else ⟨((rc0P y r).x.patch ((rc2P y r).x.b.length : Nat) (((rc0P y r).x.b.length - (rc2P y r).x.b.length - 2 : Nat) : Int) 2).1, (rc0P y r).get⟩
theorem Rm.rput {M B : Nat} {y z : Pk} (h : Rm M y z) (hu : UG z B) {r : Rcd} (hr : r.ok) (hc : r.check = 0) (hB : B + 1000 + r.d.size (whatN r.t) ≤ 65535) : Rm M (rputP y r) (rputB z r) := by
  obtain ⟨hq, hd⟩ := Rcd.check_ok hc
  obtain ⟨hn, ht, hcl⟩ := qcheck_ok hq
  obtain ⟨a1, _, _⟩ := headB_good hu r.t r.cl hn (by omega)
  have f4 : fitsB ((r.ttl : Nat) : Int) 4 = true := by
    simp only [fitsB, decide_eq_true_eq]
    refine ⟨by decide, by decide, ?_⟩
    show ((r.ttl : Nat) : Int) < 256 ^ 4
    have := hr.1
    omega
  have s2 : Rm M (rc2P y r) (rc2 z r) := (h.head hu hq (by omega)).num a1.e f4
  obtain ⟨_, _, ⟨T, t1, t2, t3⟩, _⟩ := rput_facts hu hr hc hB
  rcases h.ended hu hr hc hB with ⟨k1, k2⟩ | ⟨k1, k2, k3, k4, k5, k6⟩
  · right
    unfold rputP
    rw [if_pos (by rw [k2]; decide)]
    exact ⟨k1, k2⟩
  · left
    refine ⟨k1, ?_⟩
    have hl2 : (rc2P y r).x.b.length = (rc2 z r).x.b.length := by
      rcases s2 with ⟨_, e⟩ | ⟨e, _⟩
      · rw [e]
      · have : (rc0 z r).x.b.length = (rc2 z r).x.b.length + (2 + T.length) := by rw [t1, List.length_append, List.length_append]; rfl
        omega
    unfold rputP
    rw [if_neg (by rw [k2]; decide), hl2, k3, k5, k6]
def rputsP (y : Pk) : List Rcd → Pk
  | [] => y
  | r :: l => if (rputP y r).x.e ≠ 0 then rputP y r else rputsP (rputP y r) l
theorem rputs_len : ∀ (l : List Rcd) (z : Pk), UG z z.x.b.length → (∀ r ∈ l, r.ok ∧ r.check = 0) → z.x.b.length + rsum l + 2000 ≤ 65535 → z.x.b.length ≤ (rputsB z l).x.b.length := fun l z h hl hB => by
  obtain ⟨_, ⟨T, hT⟩, _⟩ := rputs_reads l z h hl hB
  rw [hT, List.length_append]
  omega
theorem Rm.rputs {M : Nat} : ∀ (l : List Rcd) {y z : Pk}, Rm M y z → UG z z.x.b.length → (∀ r ∈ l, r.ok ∧ r.check = 0) → z.x.b.length + rsum l + 2000 ≤ 65535 → Rm M (rputsP y l) (rputsB z l)
  | [], _, _, h, _, _, _ => h
  | r :: l, y, z, h, hu, hl, hB => by
    obtain ⟨hr, hc⟩ := hl r (by simp)
    have hs : rsum (r :: l) = r.name.size + 11 + r.d.size (whatN r.t) + rsum l := rfl
    rw [hs] at hB
    have hB1 : z.x.b.length + 1000 + r.d.size (whatN r.t) ≤ 65535 := by omega
    obtain ⟨_, u1, _, _, _, _, hle, _⟩ := rput_facts hu hr hc hB1
    have h1 := h.rput hu hr hc hB1
    have hl' : ∀ x ∈ l, x.ok ∧ x.check = 0 := fun x hx => hl x (by simp [hx])
    have hln := rputs_len l (rputB z r) u1.exact hl' (by omega)
    show Rm M (if (rputP y r).x.e ≠ 0 then rputP y r else rputsP (rputP y r) l) (rputsB (rputB z r) l)
    rcases h1 with ⟨k1, k2⟩ | ⟨k1, k2⟩
    · have he : (rputP y r).x.e = 0 := by rw [k2]; exact u1.e
      rw [if_neg (by rw [he]; decide)]
      exact Rm.rputs l (.inl ⟨k1, k2⟩) u1.exact hl' (by omega)
    · rw [if_pos (by rw [k2]; decide)]
      exact .inr ⟨by omega, k2⟩
def qputsP (y : Pk) : List Qn → Pk
  | [] => y
  | q :: l => qputsP (headP y q.1 q.2.1 q.2.2) l
theorem Rm.qputs {M : Nat} : ∀ (l : List Qn) {y z : Pk}, Rm M y z → UG z z.x.b.length → (∀ q ∈ l, qcheck q.1 q.2.1 q.2.2 = 0) → z.x.b.length + qsum l + 2000 ≤ 65535 → Rm M (qputsP y l) (qputsB z l)
  | [], _, _, h, _, _, _ => h
  | (n, t, cl) :: l, y, z, h, hu, hl, hB => by
    have hc : qcheck n t cl = 0 := hl (n, t, cl) (by simp)
    have hs : qsum ((n, t, cl) :: l) = n.size + 5 + qsum l := rfl
    rw [hs] at hB
    obtain ⟨hn, _⟩ := qcheck_ok hc
    obtain ⟨u1, hb, hle⟩ := headB_good hu t cl hn (by omega)
    have hl2 : (headB z n t cl).x.b.length = (z.nameB false n).x.b.length + 4 := by rw [hb]; simp [octs_length]
    exact Rm.qputs l (h.head hu hc (by omega)) u1.exact (fun x hx => hl x (by simp [hx])) (by rw [hl2]; omega)
/-- A message, as the program puts it: the rows behind an error are not begun. -/
def rowsP (y : Pk) : List (List Rcd) → Pk
  | [] => y
  | l :: k => if (rputsP y l).x.e ≠ 0 then rputsP y l else rowsP (rputsP y l) k
def mputP (M : Nat) (m : Ms) : Pk := rowsP (qputsP (Pk.putP ⟨⟨[], (M : Int), 0⟩, fun _ => none⟩ (m.h.upto 4)) m.qs) [m.an, m.au, m.mo]
/-- It fits just where there is room for as many octets as it has. -/
theorem mput_room {M : Nat} {m : Ms} (hm : m.fine) (hs : m.size + 2000 ≤ 65535) : Rm M (mputP M m) (mputB m) := by
  obtain ⟨h1, h2, _, h4, h5, h6, h7⟩ := hm
  unfold Ms.size at hs
  have u0 : UG (mhead m) (mhead m).x.b.length := ⟨rfl, rfl, (fun _ _ h => by cases h), Nat.le_refl _⟩
  have l0 : (mhead m).x.b.length = 12 := m.h.upto_length 4
  have s0 : Rm M (Pk.putP ⟨⟨[], (M : Int), 0⟩, fun _ => none⟩ (m.h.upto 4)) (mhead m) := by
    have h0 : Rm M ⟨⟨[], (M : Int), 0⟩, fun _ => none⟩ ⟨⟨[], 65535, 0⟩, fun _ => none⟩ := .inl ⟨Nat.zero_le _, rfl⟩
    exact h0.put rfl (m.h.upto 4)
  have s1 := s0.qputs m.qs u0 h4 (by omega)
  obtain ⟨u1, _, l1, _⟩ := qputs_reads m.qs (mhead m) u0 h4 (by omega)
  obtain ⟨u2, _, l2, _⟩ := rputs_reads m.an _ u1 h5 (by omega)
  obtain ⟨u3, _, l3, _⟩ := rputs_reads m.au _ u2 h6 (by omega)
  obtain ⟨u4, _, l4, _⟩ := rputs_reads m.mo _ u3 h7 (by omega)
  have n2 := rputs_len m.an _ u1 h5 (by omega)
  have n3 := rputs_len m.au _ u2 h6 (by omega)
  have n4 := rputs_len m.mo _ u3 h7 (by omega)
  have s2 := s1.rputs m.an u1 h5 (by omega)
  unfold mputP mputB
  generalize qputsP (Pk.putP ⟨⟨[], (M : Int), 0⟩, fun _ => none⟩ (m.h.upto 4)) m.qs = y1 at *
  generalize qputsB (mhead m) m.qs = z1 at *
  unfold rowsP
  rcases s2 with ⟨k1, k2⟩ | ⟨k1, k2⟩
  · rw [if_neg (by rw [k2]; simp [u2.e])]
    have s3 := Rm.rputs m.au (.inl ⟨k1, k2⟩) u2 h6 (by omega)
    unfold rowsP
    rcases s3 with ⟨j1, j2⟩ | ⟨j1, j2⟩
    · rw [if_neg (by rw [j2]; simp [u3.e])]
      have s4 := Rm.rputs m.mo (.inl ⟨j1, j2⟩) u3 h7 (by omega)
      unfold rowsP
      rcases s4 with ⟨i1, i2⟩ | ⟨i1, i2⟩
      · rw [if_neg (by rw [i2]; simp [u4.e])]
        exact .inl ⟨i1, by unfold rowsP; exact i2⟩
      · rw [if_pos (by rw [i2]; decide)]
        exact .inr ⟨i1, i2⟩
    · rw [if_pos (by rw [j2]; decide)]
      exact .inr ⟨by omega, j2⟩
  · rw [if_pos (by rw [k2]; decide)]
    exact .inr ⟨by omega, k2⟩
end Go.Proofs.YtmbgejiahmhffaaGreat
