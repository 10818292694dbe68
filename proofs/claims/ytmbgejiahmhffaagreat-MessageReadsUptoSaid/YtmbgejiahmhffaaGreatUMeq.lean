/-
  LAYER 11: slices.EqualFunc at questions and at records, as message.Same calls it.
-/
import Derived.Test.YtmbgejiahmhffaaGreatUMpt
import Derived.Test.YtmbgejiahmhffaaGreatUunI
import Derived.WalkMore
namespace Go.Proofs.YtmbgejiahmhffaaGreat
open Go.RowKit
set_option linter.unusedVariables false
set_option linter.unusedSimpArgs false
set_option maxRecDepth 100000 in
set_option maxHeartbeats 4000000 in
theorem eqfq_any (p : Qn → Qn → Bool) (A B : Option Addr) (c1 c2 : Nat) (l m : List (Qn)) (w : World) (R : Bool) (hf : ∀ x ∈ l, ∀ y ∈ m, ∀ w', Fr (fun _ => False) w w' → Calls Tryz.prog 55 #[.agg (qcl x).toArray, .agg (qcl y).toArray] w' (EqPost w' (p x y))) (ha : RowIn w A (l.flatMap qcl)) (hb : RowIn w B (m.flatMap qcl)) (hn : l.length ≤ 1000000000) (hm : m.length ≤ 1000000000)
    (hR : R = true ↔ l.length = m.length ∧ ∀ (j : Nat) x y, l[j]? = some x → m[j]? = some y → p x y = true) :
    Calls Tryz.prog 54 #[.slice A l.length c1, .slice B m.length c2, .func (.func 55) #[] #[]] w (EqPost w R) := by
  have hsz : ∀ x, (Tryz.prog.info? 40).map (·.size) = some (qcl x).length := fun x => by rw [qcl_lenm]; kernel_rfl
  have HL := Lib.hid (And.intro hf (And.intro ha (And.intro hb (And.intro hsz hR))))
  clear ha hb hf hsz hR
  by_cases hlen : l.length = m.length
  · have hli : (l.length : Int) = (m.length : Int) := by omega
    have hln : ((l.length : Int) != (m.length : Int)) = false := by simp [hli]
    have HLN := Lib.hid hlen
    clear hlen hli
    go_enter Tryz.func54, Tryz.ntmps54
    go_upto_region 4 with fail
    go_loopw [17] (fun i wr => ∃ k : Nat, k ≤ l.length ∧ i = .int .i64 (k : Nat) ∧ (∀ (j : Nat) x y, j < k → l[j]? = some x → m[j]? = some y → p x y = true) ∧ Fr (fun _ => False) w wr) (fun i _ => l.length - (intOf i).toNat)
    case atStart => exact ⟨0, Nat.zero_le _, rfl, fun j x y h => by omega, Fr.refl _ _⟩
    case round =>
      obtain ⟨k, hk, rfl, hall, hfr⟩ := hrel
      have HF := Lib.hid (And.intro hall hfr)
      clear hall hfr
      by_cases hlt : k < l.length
      · obtain ⟨x, hx⟩ : ∃ x, l[k]? = some x := ⟨l[k], List.getElem?_eq_getElem hlt⟩
        have hlm : k < m.length := by have := HLN.out; omega
        obtain ⟨y, hy⟩ : ∃ y, m[k]? = some y := ⟨m[k], List.getElem?_eq_getElem hlm⟩
        obtain ⟨b, off, rfl, hbs, hrg⟩ := rowIn_mk qcl 3 qcl_lenm (rowIn_fr0 HL.out.2.1 HF.out.2) hx
        obtain ⟨b', off', rfl, hbs', hrg'⟩ := rowIn_mk qcl 3 qcl_lenm (rowIn_fr0 HL.out.2.2.1 HF.out.2) hy
        have HX := Lib.hid (And.intro hrg (HL.out.2.2.2.1 x))
        have HY := Lib.hid (And.intro hrg' (And.intro (HL.out.2.2.2.1 y) hbs'))
        have HXY := Lib.hid (And.intro hx (And.intro hy (HL.out.1 x (List.mem_of_getElem? hx) y (List.mem_of_getElem? hy))))
        clear hrg hrg' hx hy
        have hk0 : (0 : Int) ≤ (k : Int) := by omega
        obtain ⟨bb, hbb⟩ : ∃ bb, bb = p x y := ⟨_, rfl⟩
        have HBB := Lib.hid hbb
        clear hbb
        rcases bb with _ | _
        · go_wp2_with (first
            | (refine wpList_load_mid rfl 40 _ rfl b (off + k * 3) (by rfl) (qcl x) _ HX.out.1 Tryz.underlying40 rfl HX.out.2 ?_)
            | (refine wpList_store_part rfl 40 _ _ rfl wr.heap.size 0 (by rfl) (qcl x) (by rfl) 40 _ (Blk.new wr 40 _) HX.out.2 (qcl_onem x) (by simp [qcl_lenm]) (qcl x).toArray (by exact lay_all (by rw [qcl_lenm]; rfl)) ?_
               intro w2 b2 f2
               have H2 := Lib.hid (And.intro b2 (((Fr.refl (fun _ => False) wr).alloc _).step f2 (fun k hk => .inr (by subst hk; exact Nat.le_refl _))))
               clear b2 f2)
            | (refine wpList_load_mid rfl 40 _ rfl b' (off' + k * 3) (by rfl) (qcl y) _ (range_fr0 H2.out.2 HY.out.2.2 HY.out.1) Tryz.underlying40 rfl HY.out.2.1 ?_)
            | (refine wpList_store_part rfl 40 _ _ rfl w2.heap.size 0 (by rfl) (qcl y) (by rfl) 40 _ (Blk.new w2 40 _) HY.out.2.1 (qcl_onem y) (by simp [qcl_lenm]) (qcl y).toArray (by exact lay_all (by rw [qcl_lenm]; rfl)) ?_
               intro w3 b3 f3
               have H3 := Lib.hid (And.intro b3 (And.intro ((H2.out.1.alloc _).fr f3 (by have := H2.out.1.lt; omega)) (H2.out.2.then (((Fr.refl (fun _ => False) w2).alloc _).step f3 (fun k hk => .inr (by subst hk; exact Nat.le_refl _))))))
               clear b3 f3)
            | (refine wpList_load_blk rfl 40 _ rfl wr.heap.size (by rfl) 40 _ _ H3.out.2.1 Tryz.underlying40 rfl (by rw [List.size_toArray]; exact HX.out.2) ?_)
            | (refine wpList_load_blk rfl 40 _ rfl w2.heap.size (by rfl) 40 _ _ H3.out.1 Tryz.underlying40 rfl (by rw [List.size_toArray]; exact HY.out.2.1) ?_)
            | ((with_reducible refine (HXY.out.2.2 _ (HF.out.2.then H3.out.2.2)).mono ?_)
               rintro e w4 ⟨rfl, f4⟩
               rw [← HBB.out]
               have H4 := Lib.hid ((HF.out.2.then H3.out.2.2).then f4)
               clear f4)
            | fail "no arm")
          go_ret
          have hr : R = false := by
            rw [Bool.eq_false_iff]
            intro h
            have := (HL.out.2.2.2.2.1 h).2 k x y HXY.out.1 HXY.out.2.1
            rw [← HBB.out] at this
            cases this
          exact ⟨by subst hr; rfl, H4.out⟩
        · go_wp2_with (first
            | (refine wpList_load_mid rfl 40 _ rfl b (off + k * 3) (by rfl) (qcl x) _ HX.out.1 Tryz.underlying40 rfl HX.out.2 ?_)
            | (refine wpList_store_part rfl 40 _ _ rfl wr.heap.size 0 (by rfl) (qcl x) (by rfl) 40 _ (Blk.new wr 40 _) HX.out.2 (qcl_onem x) (by simp [qcl_lenm]) (qcl x).toArray (by exact lay_all (by rw [qcl_lenm]; rfl)) ?_
               intro w2 b2 f2
               have H2 := Lib.hid (And.intro b2 (((Fr.refl (fun _ => False) wr).alloc _).step f2 (fun k hk => .inr (by subst hk; exact Nat.le_refl _))))
               clear b2 f2)
            | (refine wpList_load_mid rfl 40 _ rfl b' (off' + k * 3) (by rfl) (qcl y) _ (range_fr0 H2.out.2 HY.out.2.2 HY.out.1) Tryz.underlying40 rfl HY.out.2.1 ?_)
            | (refine wpList_store_part rfl 40 _ _ rfl w2.heap.size 0 (by rfl) (qcl y) (by rfl) 40 _ (Blk.new w2 40 _) HY.out.2.1 (qcl_onem y) (by simp [qcl_lenm]) (qcl y).toArray (by exact lay_all (by rw [qcl_lenm]; rfl)) ?_
               intro w3 b3 f3
               have H3 := Lib.hid (And.intro b3 (And.intro ((H2.out.1.alloc _).fr f3 (by have := H2.out.1.lt; omega)) (H2.out.2.then (((Fr.refl (fun _ => False) w2).alloc _).step f3 (fun k hk => .inr (by subst hk; exact Nat.le_refl _))))))
               clear b3 f3)
            | (refine wpList_load_blk rfl 40 _ rfl wr.heap.size (by rfl) 40 _ _ H3.out.2.1 Tryz.underlying40 rfl (by rw [List.size_toArray]; exact HX.out.2) ?_)
            | (refine wpList_load_blk rfl 40 _ rfl w2.heap.size (by rfl) 40 _ _ H3.out.1 Tryz.underlying40 rfl (by rw [List.size_toArray]; exact HY.out.2.1) ?_)
            | ((with_reducible refine (HXY.out.2.2 _ (HF.out.2.then H3.out.2.2)).mono ?_)
               rintro e w4 ⟨rfl, f4⟩
               rw [← HBB.out]
               have H4 := Lib.hid ((HF.out.2.then H3.out.2.2).then f4)
               clear f4)
            | fail "no arm")
          go_roundw
          case rel => exact ⟨k + 1, hlt, by go_num, fun j x' y' hj hx' hy' => by
              by_cases e : j = k
              · subst e
                have e1 := HXY.out.1
                have e2 := HXY.out.2.1
                rw [hx'] at e1
                rw [hy'] at e2
                injection e1 with e1
                injection e2 with e2
                subst e1 e2
                exact HBB.out.symm
              · exact HF.out.1 j x' y' (by omega) hx' hy', H4.out⟩
          case measure => simp [intOf]; omega
      · have hke : k = l.length := by omega
        subst hke
        go_wp2_with fail
        go_ret
        have hr : R = true := HL.out.2.2.2.2.2 ⟨HLN.out, fun j x y hx hy => HF.out.1 j x y (List.getElem?_eq_some_iff.1 hx).1 hx hy⟩
        exact ⟨by subst hr; rfl, HF.out.2⟩
  · have hli : ¬ (l.length : Int) = (m.length : Int) := by omega
    have hln : ((l.length : Int) != (m.length : Int)) = true := by simp [hli]
    have HLN := Lib.hid hlen
    clear hlen
    go_enter Tryz.func54, Tryz.ntmps54
    go_wp2_with fail
    go_ret
    have hr : R = false := by
      rw [Bool.eq_false_iff]
      intro h
      exact HLN.out (HL.out.2.2.2.2.1 h).1
    exact ⟨by subst hr; rfl, Fr.refl _ _⟩
set_option maxRecDepth 100000 in
set_option maxHeartbeats 4000000 in
theorem eqfr_any (p : Rcd × Option Addr × Nat → Rcd × Option Addr × Nat → Bool) (A B : Option Addr) (c1 c2 : Nat) (l m : List (Rcd × Option Addr × Nat)) (w : World) (R : Bool) (hf : ∀ x ∈ l, ∀ y ∈ m, ∀ w', Fr (fun _ => False) w w' → Calls Tryz.prog 57 #[.agg (rcl x).toArray, .agg (rcl y).toArray] w' (EqPost w' (p x y))) (ha : RowIn w A (l.flatMap rcl)) (hb : RowIn w B (m.flatMap rcl)) (hn : l.length ≤ 1000000000) (hm : m.length ≤ 1000000000)
    (hR : R = true ↔ l.length = m.length ∧ ∀ (j : Nat) x y, l[j]? = some x → m[j]? = some y → p x y = true) :
    Calls Tryz.prog 56 #[.slice A l.length c1, .slice B m.length c2, .func (.func 57) #[] #[]] w (EqPost w R) := by
  have hsz : ∀ x, (Tryz.prog.info? 55).map (·.size) = some (rcl x).length := fun x => by rw [rcl_lenm]; kernel_rfl
  have HL := Lib.hid (And.intro hf (And.intro ha (And.intro hb (And.intro hsz hR))))
  clear ha hb hf hsz hR
  by_cases hlen : l.length = m.length
  · have hli : (l.length : Int) = (m.length : Int) := by omega
    have hln : ((l.length : Int) != (m.length : Int)) = false := by simp [hli]
    have HLN := Lib.hid hlen
    clear hlen hli
    go_enter Tryz.func56, Tryz.ntmps56
    go_upto_region 4 with fail
    go_loopw [17] (fun i wr => ∃ k : Nat, k ≤ l.length ∧ i = .int .i64 (k : Nat) ∧ (∀ (j : Nat) x y, j < k → l[j]? = some x → m[j]? = some y → p x y = true) ∧ Fr (fun _ => False) w wr) (fun i _ => l.length - (intOf i).toNat)
    case atStart => exact ⟨0, Nat.zero_le _, rfl, fun j x y h => by omega, Fr.refl _ _⟩
    case round =>
      obtain ⟨k, hk, rfl, hall, hfr⟩ := hrel
      have HF := Lib.hid (And.intro hall hfr)
      clear hall hfr
      by_cases hlt : k < l.length
      · obtain ⟨x, hx⟩ : ∃ x, l[k]? = some x := ⟨l[k], List.getElem?_eq_getElem hlt⟩
        have hlm : k < m.length := by have := HLN.out; omega
        obtain ⟨y, hy⟩ : ∃ y, m[k]? = some y := ⟨m[k], List.getElem?_eq_getElem hlm⟩
        obtain ⟨b, off, rfl, hbs, hrg⟩ := rowIn_mk rcl 16 rcl_lenm (rowIn_fr0 HL.out.2.1 HF.out.2) hx
        obtain ⟨b', off', rfl, hbs', hrg'⟩ := rowIn_mk rcl 16 rcl_lenm (rowIn_fr0 HL.out.2.2.1 HF.out.2) hy
        have HX := Lib.hid (And.intro hrg (HL.out.2.2.2.1 x))
        have HY := Lib.hid (And.intro hrg' (And.intro (HL.out.2.2.2.1 y) hbs'))
        have HXY := Lib.hid (And.intro hx (And.intro hy (HL.out.1 x (List.mem_of_getElem? hx) y (List.mem_of_getElem? hy))))
        clear hrg hrg' hx hy
        have hk0 : (0 : Int) ≤ (k : Int) := by omega
        obtain ⟨bb, hbb⟩ : ∃ bb, bb = p x y := ⟨_, rfl⟩
        have HBB := Lib.hid hbb
        clear hbb
        rcases bb with _ | _
        · go_wp2_with (first
            | (refine wpList_load_mid rfl 55 _ rfl b (off + k * 16) (by rfl) (rcl x) _ HX.out.1 Tryz.underlying55 rfl HX.out.2 ?_)
            | (refine wpList_store_part rfl 55 _ _ rfl wr.heap.size 0 (by rfl) (rcl x) (by rfl) 55 _ (Blk.new wr 55 _) HX.out.2 (rcl_onem x) (by simp [rcl_lenm]) (rcl x).toArray (by exact lay_all (by rw [rcl_lenm]; rfl)) ?_
               intro w2 b2 f2
               have H2 := Lib.hid (And.intro b2 (((Fr.refl (fun _ => False) wr).alloc _).step f2 (fun k hk => .inr (by subst hk; exact Nat.le_refl _))))
               clear b2 f2)
            | (refine wpList_load_mid rfl 55 _ rfl b' (off' + k * 16) (by rfl) (rcl y) _ (range_fr0 H2.out.2 HY.out.2.2 HY.out.1) Tryz.underlying55 rfl HY.out.2.1 ?_)
            | (refine wpList_store_part rfl 55 _ _ rfl w2.heap.size 0 (by rfl) (rcl y) (by rfl) 55 _ (Blk.new w2 55 _) HY.out.2.1 (rcl_onem y) (by simp [rcl_lenm]) (rcl y).toArray (by exact lay_all (by rw [rcl_lenm]; rfl)) ?_
               intro w3 b3 f3
               have H3 := Lib.hid (And.intro b3 (And.intro ((H2.out.1.alloc _).fr f3 (by have := H2.out.1.lt; omega)) (H2.out.2.then (((Fr.refl (fun _ => False) w2).alloc _).step f3 (fun k hk => .inr (by subst hk; exact Nat.le_refl _))))))
               clear b3 f3)
            | (refine wpList_load_blk rfl 55 _ rfl wr.heap.size (by rfl) 55 _ _ H3.out.2.1 Tryz.underlying55 rfl (by rw [List.size_toArray]; exact HX.out.2) ?_)
            | (refine wpList_load_blk rfl 55 _ rfl w2.heap.size (by rfl) 55 _ _ H3.out.1 Tryz.underlying55 rfl (by rw [List.size_toArray]; exact HY.out.2.1) ?_)
            | ((with_reducible refine (HXY.out.2.2 _ (HF.out.2.then H3.out.2.2)).mono ?_)
               rintro e w4 ⟨rfl, f4⟩
               rw [← HBB.out]
               have H4 := Lib.hid ((HF.out.2.then H3.out.2.2).then f4)
               clear f4)
            | fail "no arm")
          go_ret
          have hr : R = false := by
            rw [Bool.eq_false_iff]
            intro h
            have := (HL.out.2.2.2.2.1 h).2 k x y HXY.out.1 HXY.out.2.1
            rw [← HBB.out] at this
            cases this
          exact ⟨by subst hr; rfl, H4.out⟩
        · go_wp2_with (first
            | (refine wpList_load_mid rfl 55 _ rfl b (off + k * 16) (by rfl) (rcl x) _ HX.out.1 Tryz.underlying55 rfl HX.out.2 ?_)
            | (refine wpList_store_part rfl 55 _ _ rfl wr.heap.size 0 (by rfl) (rcl x) (by rfl) 55 _ (Blk.new wr 55 _) HX.out.2 (rcl_onem x) (by simp [rcl_lenm]) (rcl x).toArray (by exact lay_all (by rw [rcl_lenm]; rfl)) ?_
               intro w2 b2 f2
               have H2 := Lib.hid (And.intro b2 (((Fr.refl (fun _ => False) wr).alloc _).step f2 (fun k hk => .inr (by subst hk; exact Nat.le_refl _))))
               clear b2 f2)
            | (refine wpList_load_mid rfl 55 _ rfl b' (off' + k * 16) (by rfl) (rcl y) _ (range_fr0 H2.out.2 HY.out.2.2 HY.out.1) Tryz.underlying55 rfl HY.out.2.1 ?_)
            | (refine wpList_store_part rfl 55 _ _ rfl w2.heap.size 0 (by rfl) (rcl y) (by rfl) 55 _ (Blk.new w2 55 _) HY.out.2.1 (rcl_onem y) (by simp [rcl_lenm]) (rcl y).toArray (by exact lay_all (by rw [rcl_lenm]; rfl)) ?_
               intro w3 b3 f3
               have H3 := Lib.hid (And.intro b3 (And.intro ((H2.out.1.alloc _).fr f3 (by have := H2.out.1.lt; omega)) (H2.out.2.then (((Fr.refl (fun _ => False) w2).alloc _).step f3 (fun k hk => .inr (by subst hk; exact Nat.le_refl _))))))
               clear b3 f3)
            | (refine wpList_load_blk rfl 55 _ rfl wr.heap.size (by rfl) 55 _ _ H3.out.2.1 Tryz.underlying55 rfl (by rw [List.size_toArray]; exact HX.out.2) ?_)
            | (refine wpList_load_blk rfl 55 _ rfl w2.heap.size (by rfl) 55 _ _ H3.out.1 Tryz.underlying55 rfl (by rw [List.size_toArray]; exact HY.out.2.1) ?_)
            | ((with_reducible refine (HXY.out.2.2 _ (HF.out.2.then H3.out.2.2)).mono ?_)
               rintro e w4 ⟨rfl, f4⟩
               rw [← HBB.out]
               have H4 := Lib.hid ((HF.out.2.then H3.out.2.2).then f4)
               clear f4)
            | fail "no arm")
          go_roundw
          case rel => exact ⟨k + 1, hlt, by go_num, fun j x' y' hj hx' hy' => by
              by_cases e : j = k
              · subst e
                have e1 := HXY.out.1
                have e2 := HXY.out.2.1
                rw [hx'] at e1
                rw [hy'] at e2
                injection e1 with e1
                injection e2 with e2
                subst e1 e2
                exact HBB.out.symm
              · exact HF.out.1 j x' y' (by omega) hx' hy', H4.out⟩
          case measure => simp [intOf]; omega
      · have hke : k = l.length := by omega
        subst hke
        go_wp2_with fail
        go_ret
        have hr : R = true := HL.out.2.2.2.2.2 ⟨HLN.out, fun j x y hx hy => HF.out.1 j x y (List.getElem?_eq_some_iff.1 hx).1 hx hy⟩
        exact ⟨by subst hr; rfl, HF.out.2⟩
  · have hli : ¬ (l.length : Int) = (m.length : Int) := by omega
    have hln : ((l.length : Int) != (m.length : Int)) = true := by simp [hli]
    have HLN := Lib.hid hlen
    clear hlen
    go_enter Tryz.func56, Tryz.ntmps56
    go_wp2_with fail
    go_ret
    have hr : R = false := by
      rw [Bool.eq_false_iff]
      intro h
      exact HLN.out (HL.out.2.2.2.2.1 h).1
    exact ⟨by subst hr; rfl, Fr.refl _ _⟩
theorem qsame_x (x y : Qn) (hx : QOk x) (hy : QOk y) (w : World) : Calls Tryz.prog 55 #[.agg (qcl x).toArray, .agg (qcl y).toArray] w (EqPost w (qsameB x.1 y.1 x.2.1 y.2.1 x.2.2 y.2.2)) :=
  qsame_any x.1 y.1 x.2.1 y.2.1 x.2.2 y.2.2 (by have := hx.1; simp only [maxLen]; omega) (by have := hy.1; simp only [maxLen]; omega) hx.2.1 hy.2.1 hx.2.2 hy.2.2 w
theorem rsame_x (x y : Rcd × Option Addr × Nat) (w : World) (hx : RcIn w x.2.1 x.1) (hy : RcIn w y.2.1 y.1) : Calls Tryz.prog 57 #[.agg (rcl x).toArray, .agg (rcl y).toArray] w (EqPost w (rsameB x.1 y.1)) := rsame_any x.1 y.1 x.2.1 y.2.1 x.2.2 y.2.2 w hx hy
theorem qlist_iff (l m : List Qn) : l = m ↔ l.length = m.length ∧ ∀ (j : Nat) x y, l[j]? = some x → m[j]? = some y → qsameB x.1 y.1 x.2.1 y.2.1 x.2.2 y.2.2 = true := by
  constructor
  · rintro rfl
    refine ⟨rfl, fun j x y hx hy => ?_⟩
    rw [hx] at hy
    injection hy with hy
    subst hy
    exact qsameB_iff.2 ⟨rfl, rfl, rfl⟩
  · rintro ⟨h1, h2⟩
    refine List.ext_getElem h1 fun j h3 h4 => ?_
    obtain ⟨e1, e2, e3⟩ := qsameB_iff.1 (h2 j l[j] m[j] (List.getElem?_eq_getElem h3) (List.getElem?_eq_getElem h4))
    exact Prod.ext e1 (Prod.ext e2 e3)
theorem rlist_iff (l m : RLm) : l.map Prod.fst = m.map Prod.fst ↔ l.length = m.length ∧ ∀ (j : Nat) x y, l[j]? = some x → m[j]? = some y → rsameB x.1 y.1 = true := by
  constructor
  · intro h
    refine ⟨by simpa using congrArg List.length h, fun j x y hx hy => ?_⟩
    rw [rsameB_iff]
    have := congrArg (fun k : List Rcd => k[j]?) h
    simp only [List.getElem?_map, hx, hy, Option.map_some] at this
    injection this
  · rintro ⟨h1, h2⟩
    refine List.ext_getElem (by simpa using h1) fun j h3 h4 => ?_
    rw [List.length_map] at h3 h4
    rw [List.getElem_map, List.getElem_map]
    exact (rsameB_iff _ _).1 (h2 j l[j] m[j] (List.getElem?_eq_getElem h3) (List.getElem?_eq_getElem h4))
end Go.Proofs.YtmbgejiahmhffaaGreat
