/-
  LAYER 11: MessageBack, the walk.
-/
import Derived.Test.YtmbgejiahmhffaaGreatSMse
import Derived.Test.YtmbgejiahmhffaaGreatSMpt
import Derived.Test.YtmbgejiahmhffaaGreatSunI
import Derived.WalkMore
import Derived.Test.YtmbgejiahmhffaaGreatSMns
namespace Go.Proofs.YtmbgejiahmhffaaGreat
open Go.RowKit
set_option linter.unusedVariables false
set_option linter.unusedSimpArgs false

theorem own_slok {w : World} {e : TypeId} {size n cap : Nat} {A : Option Addr} {xs : List Value} (h : w.ownsRow 0 e size (.slice A n cap) n xs) (hn : n ≤ 1048576) : SlOk A n cap := by
  rcases h.2 with ⟨h2, h0⟩ | ⟨g, cp, cur, hv, _, hg, h3, h4, h5, h6⟩
  · injection h2 with e1 e2 e3
    subst e1 e2 e3
    exact ⟨hn, fun _ => rfl, fun _ => rfl, Nat.le_refl _, by omega⟩
  · injection hv with e1 e2 e3
    subst e1 e3
    exact ⟨hn, (fun h => by cases h), (fun h => by cases h), by assumption, by simp only [maxLen] at *; omega⟩
theorem rd_in {w W : World} (h : Hd) (Aq : Option Addr) (lq : List Qn) (cq : Nat) (Aa : Option Addr) (la : RLm) (ca : Nat) (Ab : Option Addr) (lb : RLm) (cb : Nat) (Ac : Option Addr) (lc : RLm) (cc : Nat) (h2 : Hd) (A2q : Option Addr) (l2q : List Qn) (c2q : Nat) (A2a : Option Addr) (l2a : RLm) (c2a : Nat) (A2b : Option Addr) (l2b : RLm) (c2b : Nat) (A2c : Option Addr) (l2c : RLm) (c2c : Nat) (hm : MsIn w h Aq lq cq Aa la ca Ab lb cb Ac lc cc) (hr : RdMem W h2 A2q l2q c2q A2a l2a c2a A2b l2b c2b A2c l2c c2c) (he : msOf h2 l2q l2a l2b l2c = msOf h lq la lb lc) : MsIn W h2 A2q l2q c2q A2a l2a c2a A2b l2b c2b A2c l2c c2c := by
  obtain ⟨e0, e1, e2, e3, e4⟩ := (ms_eq _ _ _ _ _ _ _ _ _ _).1 he
  have key : ∀ (l l2 : RLm), l2.map Prod.fst = l.map Prod.fst → (∀ x ∈ l, RcIn w x.2.1 x.1 ∧ x.1.name.size + x.1.d.light ≤ 1048576) → (∀ x ∈ l2, Strs W x.2.1 x.1.d.texts) → ∀ x ∈ l2, RcIn W x.2.1 x.1 ∧ x.1.name.size + x.1.d.light ≤ 1048576 := fun l l2 e hl ht x hx => by
    have : x.1 ∈ l.map Prod.fst := by rw [← e]; exact List.mem_map.2 ⟨x, hx, rfl⟩
    obtain ⟨y, hy, hyx⟩ := List.mem_map.1 this
    have := hl y hy
    rw [hyx] at this
    exact ⟨⟨⟨this.1.d.hi, this.1.d.lo, this.1.d.num, ht x hx, this.1.d.len, this.1.d.raw⟩, this.1.t, this.1.cl, this.1.ttl⟩, this.2⟩
  have n1 : l2a.length = la.length := by simpa using congrArg List.length e2
  have n2 : l2b.length = lb.length := by simpa using congrArg List.length e3
  have n3 : l2c.length = lc.length := by simpa using congrArg List.length e4
  exact ⟨by rw [e0]; exact hm.h, own_rowIn hr.oq, by rw [e1]; exact hm.qk, own_slok hr.oq (by rw [e1]; exact hm.qz.1), own_rowIn hr.oa, key la l2a e2 hm.ak (fun x hx => hr.tx x (.inl hx)), own_slok hr.oa (by rw [n1]; exact hm.az.1), own_rowIn hr.ob, key lb l2b e3 hm.bk (fun x hx => hr.tx x (.inr (.inl hx))), own_slok hr.ob (by rw [n2]; exact hm.bz.1), own_rowIn hr.oc, key lc l2c e4 hm.ck (fun x hx => hr.tx x (.inr (.inr hx))), own_slok hr.oc (by rw [n3]; exact hm.cz.1)⟩
set_option maxRecDepth 100000 in
set_option maxHeartbeats 4000000 in
theorem cut_fits (h : Hd) (Aq : Option Addr) (lq : List Qn) (cq : Nat) (Aa : Option Addr) (la : RLm) (ca : Nat) (Ab : Option Addr) (lb : RLm) (cb : Nat) (Ac : Option Addr) (lc : RLm) (cc : Nat) (M : Int) (S : ByteArray) (w : World) (hp : ∀ W, Fr (fun _ => False) w W → Calls Tryz.prog 12 #[.agg #[.int .u16 h.id, .bool h.resp, .int .i64 h.op, .bool h.aa, .bool h.tc, .bool h.rd, .bool h.ra, .bool h.ad, .bool h.cd, .int .i64 h.rc, .int .i64 h.c0, .int .i64 h.c1, .int .i64 h.c2, .int .i64 h.c3, .slice Aq lq.length cq, .slice Aa la.length ca, .slice Ab lb.length cb, .slice Ac lc.length cc], .int .i64 M] W fun e w' => e = .returned (.tuple #[.string S, .int .i64 0]) ∧ Fr (fun _ => False) W w') :
    Calls Tryz.prog 15 #[.agg #[.int .u16 h.id, .bool h.resp, .int .i64 h.op, .bool h.aa, .bool h.tc, .bool h.rd, .bool h.ra, .bool h.ad, .bool h.cd, .int .i64 h.rc, .int .i64 h.c0, .int .i64 h.c1, .int .i64 h.c2, .int .i64 h.c3, .slice Aq lq.length cq, .slice Aa la.length ca, .slice Ab lb.length cb, .slice Ac lc.length cc], .int .i64 M] w fun e w' => e = .returned (.tuple #[.string S, .int .i64 0]) ∧ Fr (fun _ => False) w w' := by
  obtain ⟨W, hW⟩ : ∃ W, W = w.alloc (.cells #[.int .u16 h.id, .bool h.resp, .int .i64 h.op, .bool h.aa, .bool h.tc, .bool h.rd, .bool h.ra, .bool h.ad, .bool h.cd, .int .i64 h.rc, .int .i64 h.c0, .int .i64 h.c1, .int .i64 h.c2, .int .i64 h.c3, .slice Aq lq.length cq, .slice Aa la.length ca, .slice Ab lb.length cb, .slice Ac lc.length cc] 29) := ⟨_, rfl⟩
  have b1 : Blk W w.heap.size 29 #[.int .u16 h.id, .bool h.resp, .int .i64 h.op, .bool h.aa, .bool h.tc, .bool h.rd, .bool h.ra, .bool h.ad, .bool h.cd, .int .i64 h.rc, .int .i64 h.c0, .int .i64 h.c1, .int .i64 h.c2, .int .i64 h.c3, .slice Aq lq.length cq, .slice Aa la.length ca, .slice Ab lb.length cb, .slice Ac lc.length cc] := by rw [hW]; exact Blk.new _ _ _
  have hf : Fr (fun _ => False) w W := by rw [hW]; exact (Fr.refl _ _).alloc _
  have HW := Lib.hid hW
  have HB := Lib.hid (And.intro b1 hf)
  have HP := Lib.hid (hp W hf)
  clear b1 hf hW hp
  go_enter Tryz.func15, Tryz.ntmps15
  go_upto_region 1 with fail
  rw [← HW.out]
  clear HW
  go_wp2_with (first
    | (refine wpList_load_blk rfl 29 _ rfl w.heap.size (by rfl) 29 _ _ HB.out.1 Tryz.underlying29 rfl (by kernel_rfl) ?_)
    | (go_at_call 12
       (with_reducible refine HP.out.mono ?_)
       rintro e w1 ⟨rfl, f1⟩
       have H1 := Lib.hid (HB.out.2.then f1)
       clear f1)
    | fail "no arm")
  first | go_ret2 | (rw [Exit.noGoto_ret]; go_ret2)
  exact ⟨rfl, H1.out⟩
end Go.Proofs.YtmbgejiahmhffaaGreat
