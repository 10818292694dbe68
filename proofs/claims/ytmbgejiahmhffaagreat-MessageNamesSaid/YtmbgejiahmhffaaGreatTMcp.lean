/-
  LAYER 11, PLAIN: a message that is cut. No program.
-/
import Derived.Test.YtmbgejiahmhffaaGreatTMpt
namespace Go.Proofs.YtmbgejiahmhffaaGreat
open Go.RowKit
set_option linter.unusedVariables false
set_option linter.unusedSimpArgs false

def hcut (h : Hd) (q a b c : Nat) : Hd := ⟨h.id, h.resp, h.op, h.aa, true, h.rd, h.ra, h.ad, h.cd, h.rc, q, a, b, c⟩
/-- The message that has the first k records alone, and TC. -/
def cutMs (h : Hd) (lq : List Qn) (la lb lc : RLm) (k : Nat) : Ms :=
  msOf (hcut h lq.length (min k la.length) (min (k - la.length) lb.length) (min (k - la.length - lb.length) lc.length)) lq (la.take k) (lb.take (k - la.length)) (lc.take (k - la.length - lb.length))
/-- What is put of the most records, k at most, that fit. -/
def cutFind (M : Int) (f : Nat → Ms) : Nat → List UInt8 × Int
  | 0 => if (mputB (f 0)).x.b.length ≤ roomN M then ((mputB (f 0)).x.b, 0) else ([], 3)
  | k + 1 => if (mputB (f (k + 1))).x.b.length ≤ roomN M then ((mputB (f (k + 1))).x.b, 0) else cutFind M f k
theorem cutFind_hit {M : Int} {f : Nat → Ms} {k : Nat} (h : (mputB (f k)).x.b.length ≤ roomN M) : cutFind M f k = ((mputB (f k)).x.b, 0) := by
  cases k <;> exact if_pos h
theorem cutFind_miss {M : Int} {f : Nat → Ms} {k : Nat} (h : roomN M < (mputB (f (k + 1))).x.b.length) : cutFind M f (k + 1) = cutFind M f k := if_neg (by omega)
theorem cutFind_none {M : Int} {f : Nat → Ms} (h : roomN M < (mputB (f 0)).x.b.length) : cutFind M f 0 = ([], 3) := if_neg (by omega)
theorem rsum_take_le (l : List Rcd) (k : Nat) : rsum (l.take k) ≤ rsum l := by
  have e2 := congrArg rsum (List.take_append_drop k l)
  rw [rsum_ap] at e2
  omega
theorem cut_size (h : Hd) (lq : List Qn) (la lb lc : RLm) (k : Nat) : (cutMs h lq la lb lc k).size ≤ (msOf h lq la lb lc).size := by
  have h1 := rsum_take_le (la.map Prod.fst) k
  have h2 := rsum_take_le (lb.map Prod.fst) (k - la.length)
  have h3 := rsum_take_le (lc.map Prod.fst) (k - la.length - lb.length)
  rw [← List.map_take] at h1 h2 h3
  show 12 + qsum lq + rsum ((la.take k).map Prod.fst) + rsum ((lb.take (k - la.length)).map Prod.fst) + rsum ((lc.take (k - la.length - lb.length)).map Prod.fst) ≤ 12 + qsum lq + rsum (la.map Prod.fst) + rsum (lb.map Prod.fst) + rsum (lc.map Prod.fst)
  omega
theorem cut_fine {h : Hd} {lq : List Qn} {la lb lc : RLm} (hf : (msOf h lq la lb lc).fine) (k : Nat) : (cutMs h lq la lb lc k).fine := by
  obtain ⟨h1, h2, ⟨c0, c1, c2, c3⟩, h4, h5, h6, h7⟩ := hf
  have c0' : h.c0 = (lq.length : Nat) := c0
  have c1' : h.c1 = ((la.map Prod.fst).length : Nat) := c1
  have c2' : h.c2 = ((lb.map Prod.fst).length : Nat) := c2
  have c3' : h.c3 = ((lc.map Prod.fst).length : Nat) := c3
  rw [List.length_map] at c1' c2' c3'
  have h1' : h.ok := h1
  have h2' : h.may = true := h2
  obtain ⟨o1, o2, o3, _⟩ := h1'
  simp only [Hd.may, Bool.and_eq_true, four, sixteen, decide_eq_true_eq] at h2'
  obtain ⟨⟨⟨⟨⟨m1, m2⟩, m3⟩, m4⟩, m5⟩, m6⟩ := h2'
  have tk : ∀ (l : RLm) (n : Nat), (∀ r ∈ l.map Prod.fst, r.ok ∧ r.check = 0) → ∀ r ∈ (l.take n).map Prod.fst, r.ok ∧ r.check = 0 := fun l n hl r hr => by
    rw [List.map_take] at hr
    exact hl r (List.mem_of_mem_take hr)
  refine ⟨⟨o1, o2, o3, ?_, ?_, ?_, ?_⟩, ?_, ⟨rfl, ?_, ?_, ?_⟩, h4, tk la _ h5, tk lb _ h6, tk lc _ h7⟩
  · show -9223372036854775808 ≤ ((lq.length : Nat) : Int) ∧ ((lq.length : Nat) : Int) ≤ 9223372036854775807
    omega
  · show -9223372036854775808 ≤ ((min k la.length : Nat) : Int) ∧ ((min k la.length : Nat) : Int) ≤ 9223372036854775807
    omega
  · show -9223372036854775808 ≤ ((min (k - la.length) lb.length : Nat) : Int) ∧ ((min (k - la.length) lb.length : Nat) : Int) ≤ 9223372036854775807
    omega
  · show -9223372036854775808 ≤ ((min (k - la.length - lb.length) lc.length : Nat) : Int) ∧ ((min (k - la.length - lb.length) lc.length : Nat) : Int) ≤ 9223372036854775807
    omega
  · show (four h.op && four h.rc && sixteen ((lq.length : Nat) : Int) && sixteen ((min k la.length : Nat) : Int) && sixteen ((min (k - la.length) lb.length : Nat) : Int) && sixteen ((min (k - la.length - lb.length) lc.length : Nat) : Int)) = true
    simp only [Bool.and_eq_true, four, sixteen, decide_eq_true_eq]
    exact ⟨⟨⟨⟨⟨m1, m2⟩, by omega⟩, by omega⟩, by omega⟩, by omega⟩
  · show ((min k la.length : Nat) : Int) = (((la.take k).map Prod.fst).length : Nat)
    rw [List.length_map, List.length_take]
  · show ((min (k - la.length) lb.length : Nat) : Int) = (((lb.take (k - la.length)).map Prod.fst).length : Nat)
    rw [List.length_map, List.length_take]
  · show ((min (k - la.length - lb.length) lc.length : Nat) : Int) = (((lc.take (k - la.length - lb.length)).map Prod.fst).length : Nat)
    rw [List.length_map, List.length_take]
theorem rowIn_take {w : World} {A : Option Addr} {l : RLm} (h : RowIn w A (l.flatMap rcl)) (k : Nat) : RowIn w A ((l.take k).flatMap rcl) := by
  intro h0
  have e : l.flatMap rcl = (l.take k).flatMap rcl ++ (l.drop k).flatMap rcl := by rw [← List.flatMap_append, List.take_append_drop]
  obtain ⟨b, off, h1, h2, h3⟩ := h (by rw [e, List.length_append]; omega)
  refine ⟨b, off, h1, h2, fun i x hx => h3 i x ?_⟩
  rw [e, List.getElem?_append_left (List.getElem?_eq_some_iff.1 hx).1]
  exact hx
theorem SlOk.take {A : Option Addr} {n c m : Nat} (h : SlOk A n c) (hm : m ≤ n) : SlOk A m c := ⟨by have := h.1; omega, fun e => by have := h.2.1 e; omega, h.2.2.1, by have := h.2.2.2.1; omega, h.2.2.2.2⟩
theorem MsIn.cut {w : World} {h h' : Hd} {Aq : Option Addr} {lq : List Qn} {cq : Nat} {Aa : Option Addr} {la : RLm} {ca : Nat} {Ab : Option Addr} {lb : RLm} {cb : Nat} {Ac : Option Addr} {lc : RLm} {cc : Nat} (hm : MsIn w h Aq lq cq Aa la ca Ab lb cb Ac lc cc) (hh : h'.ok) (i j n : Nat) : MsIn w h' Aq lq cq Aa (la.take i) ca Ab (lb.take j) cb Ac (lc.take n) cc :=
  ⟨hh, hm.q, hm.qk, hm.qz, rowIn_take hm.a i, fun x hx => hm.ak x (List.mem_of_mem_take hx), hm.az.take (by rw [List.length_take]; omega), rowIn_take hm.b j, fun x hx => hm.bk x (List.mem_of_mem_take hx), hm.bz.take (by rw [List.length_take]; omega), rowIn_take hm.c n, fun x hx => hm.ck x (List.mem_of_mem_take hx), hm.cz.take (by rw [List.length_take]; omega)⟩
/-- All records, and TC. -/
theorem cut_all {h : Hd} {lq : List Qn} {la lb lc : RLm} (hf : (msOf h lq la lb lc).fine) : h.c0 = (lq.length : Nat) ∧ h.c1 = (la.length : Nat) ∧ h.c2 = (lb.length : Nat) ∧ h.c3 = (lc.length : Nat) := by
  obtain ⟨h1, h2, ⟨c0, c1, c2, c3⟩, _⟩ := hf
  have c1' : h.c1 = ((la.map Prod.fst).length : Nat) := c1
  have c2' : h.c2 = ((lb.map Prod.fst).length : Nat) := c2
  have c3' : h.c3 = ((lc.map Prod.fst).length : Nat) := c3
  rw [List.length_map] at c1' c2' c3'
  exact ⟨c0, c1', c2', c3'⟩
end Go.Proofs.YtmbgejiahmhffaaGreat
