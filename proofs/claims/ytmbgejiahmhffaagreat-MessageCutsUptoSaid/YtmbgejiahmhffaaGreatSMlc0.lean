/-
  LAYER 11: MessageCuts: what its walks share.
-/
import Derived.Test.YtmbgejiahmhffaaGreatSMcv
import Derived.Test.YtmbgejiahmhffaaGreatSunS
namespace Go.Proofs.YtmbgejiahmhffaaGreat
open Go.RowKit
set_option linter.unusedVariables false
set_option linter.unusedSimpArgs false

theorem rrsame_x (x y : Rcd × Option Addr × Nat) (w : World) (hx : RcIn w x.2.1 x.1) (hy : RcIn w y.2.1 y.1) (e : x.1 = y.1) : Calls Tryz.prog 17 #[.agg (rcl x).toArray, .agg (rcl y).toArray] w (EqPost w true) := by
  obtain ⟨r, A, c⟩ := x
  obtain ⟨r', B, d⟩ := y
  have e' : r = r' := e
  subst e'
  exact rrsame_eq r A B c d w hx hy
theorem take_cat (la lb lc : RLm) (k : Nat) : (la ++ lb ++ lc).take k = la.take k ++ lb.take (k - la.length) ++ lc.take (k - la.length - lb.length) := by
  rw [List.take_append, List.take_append, List.length_append, Nat.sub_sub]
theorem nth_cat {l2a l2b l2c la lb lc : RLm} {k : Nat} (e1 : l2a.map Prod.fst = (la.take k).map Prod.fst) (e2 : l2b.map Prod.fst = (lb.take (k - la.length)).map Prod.fst) (e3 : l2c.map Prod.fst = (lc.take (k - la.length - lb.length)).map Prod.fst) :
    (l2a ++ l2b ++ l2c).map Prod.fst = ((la ++ lb ++ lc).take k).map Prod.fst := by
  rw [take_cat, List.map_append, List.map_append, List.map_append, List.map_append, e1, e2, e3]
theorem ms_in_all {w : World} (h : Hd) (Aq : Option Addr) (lq : List Qn) (cq : Nat) (Aa : Option Addr) (la : RLm) (ca : Nat) (Ab : Option Addr) (lb : RLm) (cb : Nat) (Ac : Option Addr) (lc : RLm) (cc : Nat) (hm : MsIn w h Aq lq cq Aa la ca Ab lb cb Ac lc cc) : ∀ x ∈ la ++ lb ++ lc, RcIn w x.2.1 x.1 := fun x hx => by
  rcases List.mem_append.1 hx with hx | hx
  · rcases List.mem_append.1 hx with hx | hx
    · exact (hm.ak x hx).1
    · exact (hm.bk x hx).1
  · exact (hm.ck x hx).1
/-- What Cut leaves: the first k records. -/
structure CutGood (w : World) (h : Hd) (Aq : Option Addr) (lq : List Qn) (cq : Nat) (Aa : Option Addr) (la : RLm) (ca : Nat) (Ab : Option Addr) (lb : RLm) (cb : Nat) (Ac : Option Addr) (lc : RLm) (cc : Nat) (M : Int) (k : Nat) (g : Hd) (S : ByteArray) : Prop where
  hk : k ≤ la.length + lb.length + lc.length
  s : S.size ≤ 65535
  sm : (S.size : Int) ≤ M
  mr : MReads S.data.toList (msOf g lq (la.take k) (lb.take (k - la.length)) (lc.take (k - la.length - lb.length)))
  cnt : (msOf g lq (la.take k) (lb.take (k - la.length)) (lc.take (k - la.length - lb.length))).cnt
  ok : g.ok
  full : k = la.length + lb.length + lc.length → (⟨g.id, g.resp, g.op, g.aa, h.tc, g.rd, g.ra, g.ad, g.cd, g.rc, g.c0, g.c1, g.c2, g.c3⟩ : Hd) = h
  more : k < la.length + lb.length + lc.length → g.tc = true ∧ ∀ (nA nB nC : Nat), nA = min (k + 1) la.length → nB = min (k + 1 - la.length) lb.length → nC = min (k + 1 - la.length - lb.length) lc.length → ∀ W, Fr (fun _ => False) w W → Calls Tryz.prog 12 #[.agg #[.int .u16 h.id, .bool h.resp, .int .i64 h.op, .bool h.aa, .bool h.tc, .bool h.rd, .bool h.ra, .bool h.ad, .bool h.cd, .int .i64 h.rc, .int .i64 (lq.length : Nat), .int .i64 (nA : Nat), .int .i64 (nB : Nat), .int .i64 (nC : Nat), .slice Aq lq.length cq, .slice Aa nA ca, .slice Ab nB cb, .slice Ac nC cc], .int .i64 M] W fun e w' => e = .returned (.tuple #[.string ⟨#[]⟩, .int .i64 3]) ∧ Fr (fun _ => False) W w'
  call : ∀ W, Fr (fun _ => False) w W → Calls Tryz.prog 15 #[.agg #[.int .u16 h.id, .bool h.resp, .int .i64 h.op, .bool h.aa, .bool h.tc, .bool h.rd, .bool h.ra, .bool h.ad, .bool h.cd, .int .i64 h.rc, .int .i64 h.c0, .int .i64 h.c1, .int .i64 h.c2, .int .i64 h.c3, .slice Aq lq.length cq, .slice Aa la.length ca, .slice Ab lb.length cb, .slice Ac lc.length cc], .int .i64 M] W fun e w' => e = .returned (.tuple #[.string S, .int .i64 0]) ∧ Fr (fun _ => False) W w'
end Go.Proofs.YtmbgejiahmhffaaGreat
