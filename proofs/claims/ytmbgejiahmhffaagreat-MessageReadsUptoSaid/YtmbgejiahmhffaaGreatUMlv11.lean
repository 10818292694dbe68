/-
  LAYER 11: message.Query, the example, Put and Read of it.
-/
import Derived.Test.YtmbgejiahmhffaaGreatUMrx
import Derived.Test.YtmbgejiahmhffaaGreatUMlm
import Derived.WalkMore
namespace Go.Proofs.YtmbgejiahmhffaaGreat
open Go.RowKit
set_option linter.unusedVariables false
set_option linter.unusedSimpArgs false

def QryPost (w : World) (id : Int) (q : Qn) (rd : Bool) (e : Ending) (w' : World) : Prop :=
  ∃ g, e = .returned (.agg #[.int .u16 id, .bool false, .int .i64 0, .bool false, .bool false, .bool rd, .bool false, .bool false, .bool false, .int .i64 0, .int .i64 1, .int .i64 0, .int .i64 0, .int .i64 0, .slice (some ⟨g, 0, none⟩) 1 1, .slice none 0 0, .slice none 0 0, .slice none 0 0]) ∧ RowIn w' (some ⟨g, 0, none⟩) ([q].flatMap qcl) ∧ Fr (fun _ => False) w w'
set_option maxRecDepth 100000 in
set_option maxHeartbeats 4000000 in
theorem query_any (id : Int) (q : Qn) (rd : Bool) (w : World) :
    Calls Tryz.prog 58 #[.int .u16 id, .agg #[.string q.1, .int .i64 q.2.1, .int .i64 q.2.2], .bool rd] w (QryPost w id q rd) := by
  obtain ⟨W, hW⟩ : ∃ W, W = (w.alloc (.cells #[.string q.1, .int .i64 q.2.1, .int .i64 q.2.2] 40)).alloc (.cells #[.int .u16 0, .bool false, .int .i64 0, .bool false, .bool false, .bool false, .bool false, .bool false, .bool false, .int .i64 0, .int .i64 0, .int .i64 0, .int .i64 0, .int .i64 0, .slice none 0 0, .slice none 0 0, .slice none 0 0, .slice none 0 0] 29) := ⟨_, rfl⟩
  have b1 : Blk W w.heap.size 40 #[.string q.1, .int .i64 q.2.1, .int .i64 q.2.2] := by rw [hW]; exact (Blk.new w 40 _).alloc _
  have b2 : Blk W (w.heap.size + 1) 29 #[.int .u16 0, .bool false, .int .i64 0, .bool false, .bool false, .bool false, .bool false, .bool false, .bool false, .int .i64 0, .int .i64 0, .int .i64 0, .int .i64 0, .int .i64 0, .slice none 0 0, .slice none 0 0, .slice none 0 0, .slice none 0 0] := by
    rw [hW]
    have := Blk.new (w.alloc (.cells #[.string q.1, .int .i64 q.2.1, .int .i64 q.2.2] 40)) 29 #[.int .u16 0, .bool false, .int .i64 0, .bool false, .bool false, .bool false, .bool false, .bool false, .bool false, .int .i64 0, .int .i64 0, .int .i64 0, .int .i64 0, .int .i64 0, .slice none 0 0, .slice none 0 0, .slice none 0 0, .slice none 0 0]
    rwa [World.size_alloc] at this
  have hf : Fr (fun _ => False) w W := by rw [hW]; exact ((Fr.refl _ _).alloc _).alloc _
  have hl2 := b2.lt
  have HW := Lib.hid hW
  have HB := Lib.hid (And.intro b1 (And.intro b2 hf))
  clear b1 b2 hf hW
  go_enter Tryz.func58, Tryz.ntmps58
  go_upto_region 1 with fail
  rw [← HW.out]
  clear HW
  go_wp2_with (first
    | (refine wpList_load_blk rfl 40 _ rfl w.heap.size (by rfl) 40 _ _ HB.out.1 Tryz.underlying40 rfl (by kernel_rfl) ?_)
    | (refine wpList_store_part rfl 29 _ _ rfl (w.heap.size + 1) 0 (by rfl) _ (by rfl) 29 _ (HB.out.2.1.alloc _) (by kernel_rfl) (by simp [Value.oneCell']) (by simp) #[.int .u16 id, .bool false, .int .i64 0, .bool false, .bool false, .bool rd, .bool false, .bool false, .bool false, .int .i64 0, .int .i64 1, .int .i64 0, .int .i64 0, .int .i64 0, .slice (some ⟨W.heap.size, 0, none⟩) 1 1, .slice none 0 0, .slice none 0 0, .slice none 0 0] (by rfl) ?_
       intro w2 b2 f2
       have H2 := Lib.hid (And.intro b2 f2)
       clear b2 f2)
    | fail "no arm")
  have hu : Tryz.prog.underlying 29 = _ := Tryz.underlying29
  refine bodyPost_ret (results_cell_blk Tryz.results58 H2.out.1 rfl hu rfl (by kernel_rfl)) rfl ?_
  have bq := (Blk.new W 40 #[.string q.1, .int .i64 q.2.1, .int .i64 q.2.2]).fr H2.out.2 (by omega)
  refine ⟨W.heap.size, rfl, fun _ => ⟨W.heap.size, 0, rfl, bq.lt, fun i x hx => ?_⟩, ((HB.out.2.2.alloc _).step H2.out.2 fun k h => .inr (by omega))⟩
  rw [Nat.zero_add, bq.cell i]
  simpa [qcl] using hx
def exq : Qn := (⟨#[1, 97]⟩, 1, 1)
def exh : Hd := ⟨1, false, 0, false, false, true, false, false, false, 0, 1, 0, 0, 0⟩
def exB : ByteArray := ⟨#[0, 1, 1, 0, 0, 1, 0, 0, 0, 0, 0, 0, 1, 97, 0, 0, 1, 0, 1]⟩
theorem ex_put : mputR 99 (msOf exh [exq] [] [] []) = (exB.data.toList, 0) := by kernel_rfl
theorem ex_reads : mreadE exB = 0 := by kernel_rfl
theorem ex_read : (mreadM exB).qs.length = 1 := by kernel_rfl
theorem query_ex (w : World) : Calls Tryz.prog 58 #[.int .u16 1, .agg #[.string ⟨#[1, 97]⟩, .int .i64 1, .int .i64 1], .bool true] w (QryPost w 1 exq true) := query_any 1 exq true w
def ExPost (w : World) (e : Ending) (w' : World) : Prop :=
  ∃ g, e = .returned (.agg #[.int .u16 1, .bool false, .int .i64 0, .bool false, .bool false, .bool true, .bool false, .bool false, .bool false, .int .i64 0, .int .i64 1, .int .i64 0, .int .i64 0, .int .i64 0, .slice (some ⟨g, 0, none⟩) 1 1, .slice none 0 0, .slice none 0 0, .slice none 0 0]) ∧ RowIn w' (some ⟨g, 0, none⟩) ([exq].flatMap qcl) ∧ Fr (fun _ => False) w w'
set_option maxRecDepth 100000 in
set_option maxHeartbeats 4000000 in
theorem example_any (w : World) : Calls Tryz.prog 26 #[] w (ExPost w) := by
  obtain ⟨W, hW⟩ : ∃ W, W = w.alloc (.cells #[.int .u16 0, .bool false, .int .i64 0, .bool false, .bool false, .bool false, .bool false, .bool false, .bool false, .int .i64 0, .int .i64 0, .int .i64 0, .int .i64 0, .int .i64 0, .slice none 0 0, .slice none 0 0, .slice none 0 0, .slice none 0 0] 29) := ⟨_, rfl⟩
  have b1 : Blk W w.heap.size 29 #[.int .u16 0, .bool false, .int .i64 0, .bool false, .bool false, .bool false, .bool false, .bool false, .bool false, .int .i64 0, .int .i64 0, .int .i64 0, .int .i64 0, .int .i64 0, .slice none 0 0, .slice none 0 0, .slice none 0 0, .slice none 0 0] := by rw [hW]; exact Blk.new _ _ _
  have hf : Fr (fun _ => False) w W := by rw [hW]; exact (Fr.refl _ _).alloc _
  have hl := b1.lt
  have HW := Lib.hid hW
  have HB := Lib.hid (And.intro b1 hf)
  clear b1 hf hW
  go_enter Tryz.func26, Tryz.ntmps26
  go_upto_region 1 with fail
  rw [← HW.out]
  clear HW
  go_wp2_with (first
    | (go_at_call 58
       (with_reducible refine (query_ex W).mono ?_)
       rintro e w1 ⟨g, rfl, r1, f1⟩
       have H1 := Lib.hid (And.intro (HB.out.1.fr f1 id) (And.intro r1 (HB.out.2.then f1)))
       clear r1 f1)
    | (refine wpList_store_part rfl 29 _ _ rfl w.heap.size 0 (by rfl) _ (by rfl) 29 _ H1.out.1 (by kernel_rfl) (by simp [Value.oneCell']) (by simp) #[.int .u16 1, .bool false, .int .i64 0, .bool false, .bool false, .bool true, .bool false, .bool false, .bool false, .int .i64 0, .int .i64 1, .int .i64 0, .int .i64 0, .int .i64 0, .slice (some ⟨g, 0, none⟩) 1 1, .slice none 0 0, .slice none 0 0, .slice none 0 0] (by rfl) ?_
       intro w2 b2 f2
       have H2 := Lib.hid (And.intro b2 f2)
       clear b2 f2)
    | fail "no arm")
  have hu : Tryz.prog.underlying 29 = _ := Tryz.underlying29
  refine bodyPost_ret (results_cell_blk Tryz.results26 H2.out.1 rfl hu rfl (by kernel_rfl)) rfl ?_
  have hg : g ≠ w.heap.size := by
    intro h
    obtain ⟨b, off, e, hb, hc⟩ := H1.out.2.1 (by decide)
    injection e with e
    injection e with e1 e2
    subst e1 e2
    have c0 := hc 0 _ rfl
    have c1 := H1.out.1.cell 0
    rw [h, Nat.zero_add] at c0
    rw [c0] at c1
    cases c1
  refine ⟨g, rfl, fun h0 => ?_, (H1.out.2.2).step H2.out.2 fun k h => .inr (by omega)⟩
  obtain ⟨b, off, e, hb, hc⟩ := H1.out.2.1 h0
  injection e with e
  injection e with e1 e2
  subst e1 e2
  exact ⟨g, 0, rfl, Nat.lt_of_lt_of_le hb H2.out.2.size, fun i x hx => by rw [H2.out.2.cell hb hg]; exact hc i x hx⟩
theorem put_ex (g : Nat) (w : World) (hr : RowIn w (some ⟨g, 0, none⟩) ([exq].flatMap qcl)) : Calls Tryz.prog 12 #[.agg #[.int .u16 1, .bool false, .int .i64 0, .bool false, .bool false, .bool true, .bool false, .bool false, .bool false, .int .i64 0, .int .i64 1, .int .i64 0, .int .i64 0, .int .i64 0, .slice (some ⟨g, 0, none⟩) 1 1, .slice none 0 0, .slice none 0 0, .slice none 0 0], .int .i64 99] w (PutPost w (exB.data.toList, 0)) := by
  have := mput_any exh (some ⟨g, 0, none⟩) [exq] 1 none [] 0 none [] 0 none [] 0 99 w ⟨by simp [Hd.ok, exh], hr, fun x hx => by simp at hx; subst hx; exact ⟨by decide, by unfold i64k; decide, by unfold i64k; decide⟩, ⟨by decide, (fun h => by cases h), (fun h => by cases h), Nat.le_refl _, by decide⟩, (fun h => by simp at h), (fun x hx => by simp at hx), ⟨by decide, fun _ => rfl, fun _ => rfl, Nat.le_refl _, by decide⟩, (fun h => by simp at h), (fun x hx => by simp at hx), ⟨by decide, fun _ => rfl, fun _ => rfl, Nat.le_refl _, by decide⟩, (fun h => by simp at h), (fun x hx => by simp at hx), ⟨by decide, fun _ => rfl, fun _ => rfl, Nat.le_refl _, by decide⟩⟩ (by decide)
  rw [ex_put] at this
  exact this
def ReadExPost (w : World) (e : Ending) (w' : World) : Prop :=
  Fr (fun _ => False) w w' ∧ ∃ (h : Hd) (Aq : Option Addr) (cq : Nat) (Aa : Option Addr) (la : RLm) (ca : Nat) (Ab : Option Addr) (lb : RLm) (cb : Nat) (Ac : Option Addr) (lc : RLm) (cc : Nat), e = .returned (.tuple #[.agg #[.int .u16 h.id, .bool h.resp, .int .i64 h.op, .bool h.aa, .bool h.tc, .bool h.rd, .bool h.ra, .bool h.ad, .bool h.cd, .int .i64 h.rc, .int .i64 h.c0, .int .i64 h.c1, .int .i64 h.c2, .int .i64 h.c3, .slice Aq 1 cq, .slice Aa la.length ca, .slice Ab lb.length cb, .slice Ac lc.length cc], .int .i64 0])
theorem read_ex (w : World) : Calls Tryz.prog 16 #[.string ⟨#[0, 1, 1, 0, 0, 1, 0, 0, 0, 0, 0, 0, 1, 97, 0, 0, 1, 0, 1]⟩] w (ReadExPost w) := by
  refine (mread_any exB w (by decide)).mono ?_
  rintro e w' ⟨f, ⟨hne, _⟩ | ⟨h0, h, Aq, lq, cq, Aa, la, ca, Ab, lb, cb, Ac, lc, cc, rfl, _, hms⟩⟩
  · exact absurd ex_reads hne
  · have hq : lq.length = 1 := by
      have := congrArg (fun m : Ms => m.qs.length) hms
      exact this.trans ex_read
    rw [hq]
    exact ⟨f, h, Aq, cq, Aa, la, ca, Ab, lb, cb, Ac, lc, cc, rfl⟩
set_option maxRecDepth 100000 in
set_option maxHeartbeats 4000000 in
theorem lives11_any (w : World) : Calls Tryz.prog 9 #[] w (EqPost w true) := by
  go_enter Tryz.func9, Tryz.ntmps9
  go_wp2_with (first
    | (go_at_call 26
       (with_reducible refine (example_any w).mono ?_)
       rintro e w1 ⟨g, rfl, r1, f1⟩
       have H1 := Lib.hid (And.intro r1 f1)
       clear r1 f1)
    | (go_at_call 12
       (with_reducible refine (put_ex g w1 H1.out.1).mono ?_)
       rintro e w2 ⟨rfl, f2⟩
       have H2 := Lib.hid (H1.out.2.then f2)
       simp only [exB, Array.toArray_toList]
       clear f2)
    | (go_at_call 16
       (with_reducible refine (read_ex w2).mono ?_)
       rintro e w3 ⟨f3, h, Aq, cq, Aa, la, ca, Ab, lb, cb, Ac, lc, cc, rfl⟩
       have H3 := Lib.hid (H2.out.then f3)
       clear f3)
    | (refine wpList_store_part rfl 29 _ _ rfl w3.heap.size 0 (by rfl) _ (by rfl) 29 _ (Blk.new w3 29 _) (by kernel_rfl) (by simp [Value.oneCell']) (by simp) #[.int .u16 h.id, .bool h.resp, .int .i64 h.op, .bool h.aa, .bool h.tc, .bool h.rd, .bool h.ra, .bool h.ad, .bool h.cd, .int .i64 h.rc, .int .i64 h.c0, .int .i64 h.c1, .int .i64 h.c2, .int .i64 h.c3, .slice Aq 1 cq, .slice Aa la.length ca, .slice Ab lb.length cb, .slice Ac lc.length cc] (by rfl) ?_
       intro w4 b4 f4
       have d14 : w4.cell? ⟨w3.heap.size, 14, none⟩ = some (.slice Aq 1 cq) := b4.cell 14
       have H4 := Lib.hid (H3.out.then (((Fr.refl (fun _ => False) w3).alloc _).step f4 (fun k hk => .inr (by subst hk; exact Nat.le_refl _))))
       clear b4 f4)
    | fail "no arm")
  go_ret
  exact ⟨rfl, H4.out⟩
end Go.Proofs.YtmbgejiahmhffaaGreat
