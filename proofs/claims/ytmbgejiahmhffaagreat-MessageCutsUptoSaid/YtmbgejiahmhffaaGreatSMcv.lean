/-
  LAYER 11: what Cut leaves, of any message that may be.
-/
import Derived.Test.YtmbgejiahmhffaaGreatSMcs
namespace Go.Proofs.YtmbgejiahmhffaaGreat
open Go.RowKit
set_option linter.unusedVariables false
set_option linter.unusedSimpArgs false

theorem mput_12 {m : Ms} (hf : m.fine) (hs : m.size + 2000 ≤ 65535) : 12 ≤ (mputB m).x.b.length := by
  have st := stages hf hs
  have l0 : (mhead m).x.b.length = 12 := m.h.upto_length 4
  obtain ⟨_, ⟨T1, t1⟩, _⟩ := qputs_reads m.qs _ st.u0 hf.2.2.2.1 st.b0
  have hln := rputs_len m.an _ st.u1 hf.2.2.2.2.1 st.b1
  have := st.l1
  rw [t1, List.length_append] at hln
  omega
def hset (h : Hd) (t : Bool) (q a b c : Nat) : Hd := ⟨h.id, h.resp, h.op, h.aa, t, h.rd, h.ra, h.ad, h.cd, h.rc, q, a, b, c⟩
theorem keep_long {h : Hd} {Aq : Option Addr} {lq : List Qn} {cq : Nat} {Aa : Option Addr} {la : RLm} {ca : Nat} {Ab : Option Addr} {lb : RLm} {cb : Nat} {Ac : Option Addr} {lc : RLm} {cc : Nat} {M : Int} {w : World} (hm : MsIn w h Aq lq cq Aa la ca Ab lb cb Ac lc cc) (hs : (msOf h lq la lb lc).size + 2000 ≤ 65535) (hf : (msOf h lq la lb lc).fine) (t : Bool) (k : Nat) (hl : roomN M < (mputB (cutMs h lq la lb lc k)).x.b.length)
    (nA nB nC : Nat) (e1 : nA = min k la.length) (e2 : nB = min (k - la.length) lb.length) (e3 : nC = min (k - la.length - lb.length) lc.length) (W : World) (hW : Fr (fun _ => False) w W) :
    Calls Tryz.prog 12 #[.agg #[.int .u16 h.id, .bool h.resp, .int .i64 h.op, .bool h.aa, .bool t, .bool h.rd, .bool h.ra, .bool h.ad, .bool h.cd, .int .i64 h.rc, .int .i64 (lq.length : Nat), .int .i64 (nA : Nat), .int .i64 (nB : Nat), .int .i64 (nC : Nat), .slice Aq lq.length cq, .slice Aa nA ca, .slice Ab nB cb, .slice Ac nC cc], .int .i64 M] W fun e w' => e = .returned (.tuple #[.string ⟨#[]⟩, .int .i64 3]) ∧ Fr (fun _ => False) W w' := by
  have hfk := cut_fine hf k
  have hsk := cut_size h lq la lb lc k
  have hfk' : (msOf (hset h t lq.length (min k la.length) (min (k - la.length) lb.length) (min (k - la.length - lb.length) lc.length)) lq (la.take k) (lb.take (k - la.length)) (lc.take (k - la.length - lb.length))).fine := ⟨hfk.1, hfk.2.1, hfk.2.2⟩
  have hlen := mput_len hfk (by omega) (hset h t lq.length (min k la.length) (min (k - la.length) lb.length) (min (k - la.length - lb.length) lc.length))
  have := mput_any (hset h t lq.length (min k la.length) (min (k - la.length) lb.length) (min (k - la.length - lb.length) lc.length)) Aq lq cq Aa (la.take k) ca Ab (lb.take (k - la.length)) cb Ac (lc.take (k - la.length - lb.length)) cc M W ((hm.cut hfk'.1 _ _ _).fr0 hW) (by show (cutMs h lq la lb lc k).size + 2000 ≤ 65535; omega)
  rw [mputR_long ((mcheck_fine ⟨hfk'.1, fun r hr => (hfk'.2.2.2.2.1 r hr).1, fun r hr => (hfk'.2.2.2.2.2.1 r hr).1, fun r hr => (hfk'.2.2.2.2.2.2 r hr).1⟩).2 hfk') (by rw [← hlen] at hl; exact hl)] at this
  rw [List.length_take, List.length_take, List.length_take] at this
  subst e1 e2 e3
  exact this
def hcut' (h : Hd) (lq : List Qn) : Hd := hcut h lq.length 0 0 0
theorem cut_cases (h : Hd) (Aq : Option Addr) (lq : List Qn) (cq : Nat) (Aa : Option Addr) (la : RLm) (ca : Nat) (Ab : Option Addr) (lb : RLm) (cb : Nat) (Ac : Option Addr) (lc : RLm) (cc : Nat) (M : Int) (w : World) (hm : MsIn w h Aq lq cq Aa la ca Ab lb cb Ac lc cc) (hs : (msOf h lq la lb lc).size + 2000 ≤ 65535) (hc : mcheckB (msOf h lq la lb lc) = 0) :
    (∃ (k : Nat) (g : Hd) (S : ByteArray), k ≤ la.length + lb.length + lc.length ∧ S.size ≤ 65535 ∧ (S.size : Int) ≤ M ∧ MReads S.data.toList (msOf g lq (la.take k) (lb.take (k - la.length)) (lc.take (k - la.length - lb.length))) ∧ (msOf g lq (la.take k) (lb.take (k - la.length)) (lc.take (k - la.length - lb.length))).cnt ∧ g.ok ∧
      (k = la.length + lb.length + lc.length → (⟨g.id, g.resp, g.op, g.aa, h.tc, g.rd, g.ra, g.ad, g.cd, g.rc, g.c0, g.c1, g.c2, g.c3⟩ : Hd) = h) ∧
      (k < la.length + lb.length + lc.length → g.tc = true ∧ ∀ (nA nB nC : Nat), nA = min (k + 1) la.length → nB = min (k + 1 - la.length) lb.length → nC = min (k + 1 - la.length - lb.length) lc.length → ∀ W, Fr (fun _ => False) w W → Calls Tryz.prog 12 #[.agg #[.int .u16 h.id, .bool h.resp, .int .i64 h.op, .bool h.aa, .bool h.tc, .bool h.rd, .bool h.ra, .bool h.ad, .bool h.cd, .int .i64 h.rc, .int .i64 (lq.length : Nat), .int .i64 (nA : Nat), .int .i64 (nB : Nat), .int .i64 (nC : Nat), .slice Aq lq.length cq, .slice Aa nA ca, .slice Ab nB cb, .slice Ac nC cc], .int .i64 M] W fun e w' => e = .returned (.tuple #[.string ⟨#[]⟩, .int .i64 3]) ∧ Fr (fun _ => False) W w') ∧
      (∀ W, Fr (fun _ => False) w W → Calls Tryz.prog 15 #[.agg #[.int .u16 h.id, .bool h.resp, .int .i64 h.op, .bool h.aa, .bool h.tc, .bool h.rd, .bool h.ra, .bool h.ad, .bool h.cd, .int .i64 h.rc, .int .i64 h.c0, .int .i64 h.c1, .int .i64 h.c2, .int .i64 h.c3, .slice Aq lq.length cq, .slice Aa la.length ca, .slice Ab lb.length cb, .slice Ac lc.length cc], .int .i64 M] W fun e w' => e = .returned (.tuple #[.string S, .int .i64 0]) ∧ Fr (fun _ => False) W w')) ∨
    ((∀ W, Fr (fun _ => False) w W → Calls Tryz.prog 12 #[.agg #[.int .u16 h.id, .bool h.resp, .int .i64 h.op, .bool h.aa, .bool h.tc, .bool h.rd, .bool h.ra, .bool h.ad, .bool h.cd, .int .i64 h.rc, .int .i64 (lq.length : Nat), .int .i64 0, .int .i64 0, .int .i64 0, .slice Aq lq.length cq, .slice none 0 0, .slice none 0 0, .slice none 0 0], .int .i64 M] W fun e w' => e = .returned (.tuple #[.string ⟨#[]⟩, .int .i64 3]) ∧ Fr (fun _ => False) W w') ∧
      ∀ W, Fr (fun _ => False) w W → Calls Tryz.prog 15 #[.agg #[.int .u16 h.id, .bool h.resp, .int .i64 h.op, .bool h.aa, .bool h.tc, .bool h.rd, .bool h.ra, .bool h.ad, .bool h.cd, .int .i64 h.rc, .int .i64 h.c0, .int .i64 h.c1, .int .i64 h.c2, .int .i64 h.c3, .slice Aq lq.length cq, .slice Aa la.length ca, .slice Ab lb.length cb, .slice Ac lc.length cc], .int .i64 M] W fun e w' => e = .returned (.tuple #[.string ⟨#[]⟩, .int .i64 3]) ∧ Fr (fun _ => False) W w') := by
  have hf := (mcheck_fine hm.light).1 hc
  obtain ⟨k0, k1, k2, k3⟩ := cut_all hf
  by_cases hfit : (mputB (msOf h lq la lb lc)).x.b.length ≤ roomN M
  · left
    obtain ⟨h1, h2, _⟩ := mput_reads hf hs
    have h12 := mput_12 hf hs
    have hsz : (⟨(mputB (msOf h lq la lb lc)).x.b.toArray⟩ : ByteArray).size = (mputB (msOf h lq la lb lc)).x.b.length := List.size_toArray
    have t1 : la.take (la.length + lb.length + lc.length) = la := List.take_of_length_le (by omega)
    have t2 : lb.take (la.length + lb.length + lc.length - la.length) = lb := List.take_of_length_le (by omega)
    have t3 : lc.take (la.length + lb.length + lc.length - la.length - lb.length) = lc := List.take_of_length_le (by omega)
    refine ⟨la.length + lb.length + lc.length, h, ⟨(mputB (msOf h lq la lb lc)).x.b.toArray⟩, Nat.le_refl _, by omega, by unfold roomN at hfit; omega, ?_, ?_, hm.h, fun _ => rfl, fun hlt => absurd hlt (Nat.lt_irrefl _), fun W hW => ?_⟩
    · rw [t1, t2, t3]
      simpa using h1
    · rw [t1, t2, t3]
      exact hf.2.2.1
    · refine cut_fits h Aq lq cq Aa la ca Ab lb cb Ac lc cc M _ W fun W' hW' => ?_
      have := mput_any h Aq lq cq Aa la ca Ab lb cb Ac lc cc M W' (hm.fr0 (hW.then hW')) hs
      rw [mputR_fits hc hfit] at this
      exact this
  · have hl : roomN M < (mputB (msOf h lq la lb lc)).x.b.length := by omega
    have hcut : ∀ W, Fr (fun _ => False) w W → Calls Tryz.prog 15 #[.agg #[.int .u16 h.id, .bool h.resp, .int .i64 h.op, .bool h.aa, .bool h.tc, .bool h.rd, .bool h.ra, .bool h.ad, .bool h.cd, .int .i64 h.rc, .int .i64 h.c0, .int .i64 h.c1, .int .i64 h.c2, .int .i64 h.c3, .slice Aq lq.length cq, .slice Aa la.length ca, .slice Ab lb.length cb, .slice Ac lc.length cc], .int .i64 M] W (PutPost W (cutFind M (cutMs h lq la lb lc) (la.length + lb.length + lc.length))) := fun W hW => cut_long h Aq lq cq Aa la ca Ab lb cb Ac lc cc M W (hm.fr0 hW) hs hc hl
    rcases cutFind_spec M (cutMs h lq la lb lc) (la.length + lb.length + lc.length) with ⟨k, hk, hft, hmore, he⟩ | ⟨hno, he⟩
    · left
      rw [he] at hcut
      have hfk := cut_fine hf k
      have hsk := cut_size h lq la lb lc k
      obtain ⟨h1, h2, _⟩ := mput_reads hfk (by omega)
      have h12 := mput_12 hfk (by omega)
      have hsz : (⟨(mputB (cutMs h lq la lb lc k)).x.b.toArray⟩ : ByteArray).size = (mputB (cutMs h lq la lb lc k)).x.b.length := List.size_toArray
      refine ⟨k, _, ⟨(mputB (cutMs h lq la lb lc k)).x.b.toArray⟩, hk, by omega, by unfold roomN at hft; omega, ?_, hfk.2.2.1, hfk.1, fun e => ?_, fun hlt => ⟨rfl, fun nA nB nC e1 e2 e3 W hW => keep_long hm hs hf h.tc (k + 1) (hmore (k + 1) (by omega) hlt) nA nB nC e1 e2 e3 W hW⟩, hcut⟩
      · have : MReads (⟨(mputB (cutMs h lq la lb lc k)).x.b.toArray⟩ : ByteArray).data.toList (cutMs h lq la lb lc k) := by simpa using h1
        exact this
      · subst e
        show (⟨h.id, h.resp, h.op, h.aa, h.tc, h.rd, h.ra, h.ad, h.cd, h.rc, ((lq.length : Nat) : Int), ((min (la.length + lb.length + lc.length) la.length : Nat) : Int), ((min (la.length + lb.length + lc.length - la.length) lb.length : Nat) : Int), ((min (la.length + lb.length + lc.length - la.length - lb.length) lc.length : Nat) : Int)⟩ : Hd) = h
        rw [show min (la.length + lb.length + lc.length) la.length = la.length by omega, show min (la.length + lb.length + lc.length - la.length) lb.length = lb.length by omega, show min (la.length + lb.length + lc.length - la.length - lb.length) lc.length = lc.length by omega, ← k0, ← k1, ← k2, ← k3]
    · right
      rw [he] at hcut
      refine ⟨fun W hW => ?_, hcut⟩
      have hz := hno 0 (Nat.zero_le _)
      have hfk := cut_fine hf 0
      have hsk := cut_size h lq la lb lc 0
      have hfk' : (msOf (hset h h.tc lq.length 0 0 0) lq [] [] []).fine := by
        have := hfk
        unfold cutMs at this
        rw [List.take_zero, Nat.zero_sub, Nat.zero_sub, List.take_zero, List.take_zero, Nat.zero_min, Nat.zero_min, Nat.zero_min] at this
        exact ⟨this.1, this.2.1, this.2.2⟩
      have hcz : cutMs h lq la lb lc 0 = msOf (hcut' h lq) lq [] [] [] := by
        unfold cutMs hcut'
        rw [List.take_zero, Nat.zero_sub, Nat.zero_sub, List.take_zero, List.take_zero, Nat.zero_min, Nat.zero_min, Nat.zero_min]
      have hlen := mput_len hfk (by omega) (hset h h.tc lq.length 0 0 0)
      rw [hcz] at hlen hz hsk
      have := mput_any (hset h h.tc lq.length 0 0 0) Aq lq cq none [] 0 none [] 0 none [] 0 M W ((MsIn.mk hfk'.1 hm.q hm.qk hm.qz (fun h => by simp at h) (fun x hx => by simp at hx) ⟨by decide, (fun _ => rfl), (fun _ => rfl), Nat.le_refl _, by decide⟩ (fun h => by simp at h) (fun x hx => by simp at hx) ⟨by decide, (fun _ => rfl), (fun _ => rfl), Nat.le_refl _, by decide⟩ (fun h => by simp at h) (fun x hx => by simp at hx) ⟨by decide, (fun _ => rfl), (fun _ => rfl), Nat.le_refl _, by decide⟩ : MsIn w (hset h h.tc lq.length 0 0 0) Aq lq cq none [] 0 none [] 0 none [] 0).fr0 hW) (by have : (msOf (hset h h.tc lq.length 0 0 0) lq [] [] []).size = (msOf (hcut' h lq) lq [] [] []).size := rfl; omega)
      rw [mputR_long ((mcheck_fine ⟨hfk'.1, fun r hr => (hfk'.2.2.2.2.1 r hr).1, fun r hr => (hfk'.2.2.2.2.2.1 r hr).1, fun r hr => (hfk'.2.2.2.2.2.2 r hr).1⟩).2 hfk') (by rw [← hlen] at hz; exact hz)] at this
      exact this
end Go.Proofs.YtmbgejiahmhffaaGreat
