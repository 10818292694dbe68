/-
  TEXTS OF THIS CLAIM, TOGETHER: Rsq.
-/
import Derived.Test.YtmbgejiahmhffaaGreatSunD
import Derived.Test.YtmbgejiahmhffaaGreatSunG
import Derived.Test.YtmbgejiahmhffaaGreatSunI
import Derived.Test.YtmbgejiahmhffaaGreatSunM
/-
  LAYERS 9, 10, REFERENCE: records that are equal are the same.
-/
namespace Go.Proofs.YtmbgejiahmhffaaGreat
open Go.RowKit
set_option linter.unusedVariables false
set_option linter.unusedSimpArgs false

theorem nums_neq0 (d : Dt) (hd : ∀ i, d.num i < 4294967296) (w : World) :
    (Go.binOp .neq 50 (.agg #[.int .u32 d.n0, .int .u32 d.n1, .int .u32 d.n2, .int .u32 d.n3, .int .u32 d.n4]) (.agg #[.int .u32 d.n0, .int .u32 d.n1, .int .u32 d.n2, .int .u32 d.n3, .int .u32 d.n4])).run Tryz.prog w = .ok (.bool false) w := by
  obtain ⟨r, hr, hiff⟩ := run_equalIn_deep (P := Tryz.prog) 9997 3 50 (by kernel_rfl) w 3 3 (numsV d) (numsV d) _ _ (nums_formed _) (nums_formed _) (nums_keyLits d hd) (nums_keyLits d hd)
  have e' : r = true := hiff.2 rfl
  subst e'
  unfold numsV at hr
  rw [run_neq_struct, hr]
  rfl
theorem adr_neq0 (s : Bool) (h l : Nat) (a1 : h < 18446744073709551616) (a2 : l < 18446744073709551616) (w : World) :
    (Go.binOp .neq 49 (.agg #[.bool s, .int .u64 h, .int .u64 l]) (.agg #[.bool s, .int .u64 h, .int .u64 l])).run Tryz.prog w = .ok (.bool false) w := by
  rw [adr_neq s s h h l l a1 a2 a1 a2 w]
  simp
set_option maxRecDepth 100000 in
set_option maxHeartbeats 4000000 in
theorem rdsame_eq (d : Dt) (A B : Option Addr) (c1 c2 : Nat) (w : World) (ha : DtIn w A d) (hb : DtIn w B d) :
    Calls Tryz.prog 44 #[.agg #[.bool d.six, .int .u64 d.hi, .int .u64 d.lo, .string d.name, .string d.mail, .int .u32 d.n0, .int .u32 d.n1, .int .u32 d.n2, .int .u32 d.n3, .int .u32 d.n4, .slice A d.texts.length c1, .string d.raw], .agg #[.bool d.six, .int .u64 d.hi, .int .u64 d.lo, .string d.name, .string d.mail, .int .u32 d.n0, .int .u32 d.n1, .int .u32 d.n2, .int .u32 d.n3, .int .u32 d.n4, .slice B d.texts.length c2, .string d.raw]] w (EqPost w true) := by
  obtain ⟨W, hW⟩ : ∃ W, W = (w.alloc (.cells #[.bool d.six, .int .u64 d.hi, .int .u64 d.lo, .string d.name, .string d.mail, .int .u32 d.n0, .int .u32 d.n1, .int .u32 d.n2, .int .u32 d.n3, .int .u32 d.n4, .slice A d.texts.length c1, .string d.raw] 53)).alloc (.cells #[.bool d.six, .int .u64 d.hi, .int .u64 d.lo, .string d.name, .string d.mail, .int .u32 d.n0, .int .u32 d.n1, .int .u32 d.n2, .int .u32 d.n3, .int .u32 d.n4, .slice B d.texts.length c2, .string d.raw] 53) := ⟨_, rfl⟩
  have b1 : Blk W w.heap.size 53 #[.bool d.six, .int .u64 d.hi, .int .u64 d.lo, .string d.name, .string d.mail, .int .u32 d.n0, .int .u32 d.n1, .int .u32 d.n2, .int .u32 d.n3, .int .u32 d.n4, .slice A d.texts.length c1, .string d.raw] := by rw [hW]; exact (Blk.new w 53 _).alloc _
  have b2 : Blk W (w.heap.size + 1) 53 #[.bool d.six, .int .u64 d.hi, .int .u64 d.lo, .string d.name, .string d.mail, .int .u32 d.n0, .int .u32 d.n1, .int .u32 d.n2, .int .u32 d.n3, .int .u32 d.n4, .slice B d.texts.length c2, .string d.raw] := by
    rw [hW]
    have := Blk.new (w.alloc (.cells #[.bool d.six, .int .u64 d.hi, .int .u64 d.lo, .string d.name, .string d.mail, .int .u32 d.n0, .int .u32 d.n1, .int .u32 d.n2, .int .u32 d.n3, .int .u32 d.n4, .slice A d.texts.length c1, .string d.raw] 53)) 53 #[.bool d.six, .int .u64 d.hi, .int .u64 d.lo, .string d.name, .string d.mail, .int .u32 d.n0, .int .u32 d.n1, .int .u32 d.n2, .int .u32 d.n3, .int .u32 d.n4, .slice B d.texts.length c2, .string d.raw]
    rwa [World.size_alloc] at this
  have hf : Fr (fun _ => False) w W := by rw [hW]; exact ((Fr.refl _ _).alloc _).alloc _
  have n1 : ∀ w, (Go.binOp .neq 50 (.agg #[.int .u32 d.n0, .int .u32 d.n1, .int .u32 d.n2, .int .u32 d.n3, .int .u32 d.n4]) (.agg #[.int .u32 d.n0, .int .u32 d.n1, .int .u32 d.n2, .int .u32 d.n3, .int .u32 d.n4])).run Tryz.prog w = .ok (.bool false) w := fun w => nums_neq0 d ha.num w
  have n2 : ∀ w, (Go.binOp .neq 49 (.agg #[.bool d.six, .int .u64 d.hi, .int .u64 d.lo]) (.agg #[.bool d.six, .int .u64 d.hi, .int .u64 d.lo])).run Tryz.prog w = .ok (.bool false) w := fun w => adr_neq0 _ _ _ ha.hi ha.lo w
  have e3 := b1.cell 3
  have e4 := b1.cell 4
  have e10 := b1.cell 10
  have e11 := b1.cell 11
  have f3 := b2.cell 3
  have f4 := b2.cell 4
  have f10 := b2.cell 10
  have f11 := b2.cell 11
  have H := Lib.hid (And.intro b1 (And.intro b2 (And.intro hf (And.intro (ha.txt.fr0 hf) (hb.txt.fr0 hf)))))
  have hl : d.texts.length ≤ 1000000000 := ha.len
  have HW := Lib.hid hW
  clear b1 b2 hf hW ha hb
  go_enter Tryz.func44, Tryz.ntmps44
  go_upto_region 1 with fail
  rw [← HW.out]
  clear HW
  go_upto_region 4 with (first
    | (refine wpList_load_partg (by first | rfl | (simp [Region.wanted, yielded]; done)) 49 _ rfl w.heap.size 0 (by rfl) 53 _ 3 _ H.out.1 Tryz.underlying49 rfl (by kernel_rfl) (by simp) #[.bool d.six, .int .u64 d.hi, .int .u64 d.lo] (by rfl) ?_)
    | (refine wpList_load_partg (by first | rfl | (simp [Region.wanted, yielded]; done)) 49 _ rfl (w.heap.size + 1) 0 (by rfl) 53 _ 3 _ H.out.2.1 Tryz.underlying49 rfl (by kernel_rfl) (by simp) #[.bool d.six, .int .u64 d.hi, .int .u64 d.lo] (by rfl) ?_)
    | (refine wpList_load_partg (by first | rfl | (simp [Region.wanted, yielded]; done)) 50 _ rfl w.heap.size 5 (by rfl) 53 _ 5 _ H.out.1 Tryz.underlying50 rfl (by kernel_rfl) (by simp) #[.int .u32 d.n0, .int .u32 d.n1, .int .u32 d.n2, .int .u32 d.n3, .int .u32 d.n4] (by rfl) ?_)
    | (refine wpList_load_partg (by first | rfl | (simp [Region.wanted, yielded]; done)) 50 _ rfl (w.heap.size + 1) 5 (by rfl) 53 _ 5 _ H.out.2.1 Tryz.underlying50 rfl (by kernel_rfl) (by simp) #[.int .u32 d.n0, .int .u32 d.n1, .int .u32 d.n2, .int .u32 d.n3, .int .u32 d.n4] (by rfl) ?_)
    | fail "no arm")
  clear e3 e4 e10 e11 f3 f4 f10 f11 n1 n2
  go_loopw [5] (fun i wr => ∃ k : Nat, k ≤ d.texts.length ∧ i = .int .i64 (k : Nat) ∧ Fr (fun _ => False) W wr) (fun i _ => d.texts.length - (intOf i).toNat)
  case atStart => exact ⟨0, Nat.zero_le _, rfl, Fr.refl _ _⟩
  case round =>
    obtain ⟨k, hk, rfl, hfr⟩ := hrel
    have e10 : wr.cell? ⟨w.heap.size, 10, none⟩ = some (.slice A d.texts.length c1) := (H.out.1.fr hfr id).cell 10
    have f10 : wr.cell? ⟨w.heap.size + 1, 10, none⟩ = some (.slice B d.texts.length c2) := (H.out.2.1.fr hfr id).cell 10
    by_cases hlt : k < d.texts.length
    · obtain ⟨x, hx⟩ : ∃ x, d.texts[k]? = some x := ⟨d.texts[k], List.getElem?_eq_getElem hlt⟩
      obtain ⟨b, off, rfl, hbl, hcs⟩ := (H.out.2.2.2.1.fr0 hfr).form.resolve_left (fun e => by rw [e] at hlt; simp at hlt)
      obtain ⟨b', off', rfl, hbl', hcs'⟩ := (H.out.2.2.2.2.fr0 hfr).form.resolve_left (fun e => by rw [e] at hlt; simp at hlt)
      have hc := hcs k x hx
      have hc' := hcs' k x hx
      have hk0 : (0 : Int) ≤ (k : Int) := by omega
      have hlti : (k : Int) < (d.texts.length : Int) := by omega
      have HF := Lib.hid hfr
      clear hcs hcs' hx hfr
      go_upto_region 6 with fail
      go_quiet (fail)
      go_wp2_with fail
      go_roundw
      case rel => exact ⟨k + 1, hlt, by go_num, HF.out.drewN _⟩
      case measure => simp [intOf]; omega
    · have hke : k = d.texts.length := by omega
      have HF := Lib.hid hfr
      clear hfr
      subst hke
      go_wp2_with fail
      go_ret
      exact ⟨rfl, H.out.2.2.1.then HF.out⟩
set_option maxRecDepth 100000 in
set_option maxHeartbeats 4000000 in
theorem rrsame_eq (r : Rcd) (A B : Option Addr) (c1 c2 : Nat) (w : World) (ha : RcIn w A r) (hb : RcIn w B r) :
    Calls Tryz.prog 17 #[.agg #[.string r.name, .int .i64 r.t, .int .i64 r.cl, .int .u32 r.ttl, .bool r.d.six, .int .u64 r.d.hi, .int .u64 r.d.lo, .string r.d.name, .string r.d.mail, .int .u32 r.d.n0, .int .u32 r.d.n1, .int .u32 r.d.n2, .int .u32 r.d.n3, .int .u32 r.d.n4, .slice A r.d.texts.length c1, .string r.d.raw], .agg #[.string r.name, .int .i64 r.t, .int .i64 r.cl, .int .u32 r.ttl, .bool r.d.six, .int .u64 r.d.hi, .int .u64 r.d.lo, .string r.d.name, .string r.d.mail, .int .u32 r.d.n0, .int .u32 r.d.n1, .int .u32 r.d.n2, .int .u32 r.d.n3, .int .u32 r.d.n4, .slice B r.d.texts.length c2, .string r.d.raw]] w (EqPost w true) := by
  obtain ⟨W, hW⟩ : ∃ W, W = (w.alloc (.cells #[.string r.name, .int .i64 r.t, .int .i64 r.cl, .int .u32 r.ttl, .bool r.d.six, .int .u64 r.d.hi, .int .u64 r.d.lo, .string r.d.name, .string r.d.mail, .int .u32 r.d.n0, .int .u32 r.d.n1, .int .u32 r.d.n2, .int .u32 r.d.n3, .int .u32 r.d.n4, .slice A r.d.texts.length c1, .string r.d.raw] 55)).alloc (.cells #[.string r.name, .int .i64 r.t, .int .i64 r.cl, .int .u32 r.ttl, .bool r.d.six, .int .u64 r.d.hi, .int .u64 r.d.lo, .string r.d.name, .string r.d.mail, .int .u32 r.d.n0, .int .u32 r.d.n1, .int .u32 r.d.n2, .int .u32 r.d.n3, .int .u32 r.d.n4, .slice B r.d.texts.length c2, .string r.d.raw] 55) := ⟨_, rfl⟩
  have b1 : Blk W w.heap.size 55 #[.string r.name, .int .i64 r.t, .int .i64 r.cl, .int .u32 r.ttl, .bool r.d.six, .int .u64 r.d.hi, .int .u64 r.d.lo, .string r.d.name, .string r.d.mail, .int .u32 r.d.n0, .int .u32 r.d.n1, .int .u32 r.d.n2, .int .u32 r.d.n3, .int .u32 r.d.n4, .slice A r.d.texts.length c1, .string r.d.raw] := by rw [hW]; exact (Blk.new w 55 _).alloc _
  have b2 : Blk W (w.heap.size + 1) 55 #[.string r.name, .int .i64 r.t, .int .i64 r.cl, .int .u32 r.ttl, .bool r.d.six, .int .u64 r.d.hi, .int .u64 r.d.lo, .string r.d.name, .string r.d.mail, .int .u32 r.d.n0, .int .u32 r.d.n1, .int .u32 r.d.n2, .int .u32 r.d.n3, .int .u32 r.d.n4, .slice B r.d.texts.length c2, .string r.d.raw] := by
    rw [hW]
    have := Blk.new (w.alloc (.cells #[.string r.name, .int .i64 r.t, .int .i64 r.cl, .int .u32 r.ttl, .bool r.d.six, .int .u64 r.d.hi, .int .u64 r.d.lo, .string r.d.name, .string r.d.mail, .int .u32 r.d.n0, .int .u32 r.d.n1, .int .u32 r.d.n2, .int .u32 r.d.n3, .int .u32 r.d.n4, .slice A r.d.texts.length c1, .string r.d.raw] 55)) 55 #[.string r.name, .int .i64 r.t, .int .i64 r.cl, .int .u32 r.ttl, .bool r.d.six, .int .u64 r.d.hi, .int .u64 r.d.lo, .string r.d.name, .string r.d.mail, .int .u32 r.d.n0, .int .u32 r.d.n1, .int .u32 r.d.n2, .int .u32 r.d.n3, .int .u32 r.d.n4, .slice B r.d.texts.length c2, .string r.d.raw]
    rwa [World.size_alloc] at this
  have hf : Fr (fun _ => False) w W := by rw [hW]; exact ((Fr.refl _ _).alloc _).alloc _
  have e0 := b1.cell 0
  have e1 := b1.cell 1
  have e2 := b1.cell 2
  have e3 := b1.cell 3
  have f0 := b2.cell 0
  have f1 := b2.cell 1
  have f2 := b2.cell 2
  have f3 := b2.cell 3
  have H := Lib.hid (And.intro b1 (And.intro b2 (And.intro hf (And.intro (ha.d.fr0 hf) (hb.d.fr0 hf)))))
  have HW := Lib.hid hW
  clear b1 b2 hf hW ha hb
  go_enter Tryz.func17, Tryz.ntmps17
  go_upto_region 1 with fail
  rw [← HW.out]
  clear HW
  go_wp2_with (first
    | (refine wpList_load_partg (by first | rfl | (simp [Region.wanted, yielded]; done)) 53 _ rfl w.heap.size 4 (by rfl) 55 _ 12 _ H.out.1 Tryz.underlying53 rfl (by kernel_rfl) (by simp) #[.bool r.d.six, .int .u64 r.d.hi, .int .u64 r.d.lo, .string r.d.name, .string r.d.mail, .int .u32 r.d.n0, .int .u32 r.d.n1, .int .u32 r.d.n2, .int .u32 r.d.n3, .int .u32 r.d.n4, .slice A r.d.texts.length c1, .string r.d.raw] (by rfl) ?_)
    | (refine wpList_load_partg (by first | rfl | (simp [Region.wanted, yielded]; done)) 53 _ rfl (w.heap.size + 1) 4 (by rfl) 55 _ 12 _ H.out.2.1 Tryz.underlying53 rfl (by kernel_rfl) (by simp) #[.bool r.d.six, .int .u64 r.d.hi, .int .u64 r.d.lo, .string r.d.name, .string r.d.mail, .int .u32 r.d.n0, .int .u32 r.d.n1, .int .u32 r.d.n2, .int .u32 r.d.n3, .int .u32 r.d.n4, .slice B r.d.texts.length c2, .string r.d.raw] (by rfl) ?_)
    | (go_at_call 44
       (with_reducible refine (rdsame_eq r.d A B c1 c2 _ H.out.2.2.2.1 H.out.2.2.2.2).mono ?_)
       rintro e w3 ⟨rfl, f⟩
       have H3 := Lib.hid (H.out.2.2.1.then f)
       clear f)
    | fail "no arm")
  go_ret
  exact ⟨rfl, H3.out⟩
end Go.Proofs.YtmbgejiahmhffaaGreat
