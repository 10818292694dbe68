/-
  LAYER 25: MatchTold, walked.
-/
import Derived.Test.YtncfdfgcnblicaaBunS
import Derived.Test.YtncfdfgcnblicaaBunQ
namespace Go.Proofs.Ytncfdfgcnblicaa
open Go.RowKit
set_option linter.unusedVariables false
set_option linter.unusedSimpArgs false

theorem rrsame_x (x : Rcd × Option Addr × Nat) (w : World) (h : RcIn w x.2.1 x.1) : Calls Try.prog 17 #[.agg (rcl x).toArray, .agg (rcl x).toArray] w (EqPost w true) :=
  rrsame_eq x.1 x.2.1 x.2.1 x.2.2 x.2.2 w h h
theorem filter_at {α : Type} {p : α → Bool} : ∀ {l : List α} {i : Nat} {x : α}, l[i]? = some x → p x = true → (l.filter p)[((l.take i).filter p).length]? = some x
  | [], i, x, h, _ => by simp at h
  | y :: l, 0, x, h, hp => by
    obtain rfl : y = x := by simpa using h
    rw [List.filter_cons_of_pos hp]
    rfl
  | y :: l, i + 1, x, h, hp => by
    have ih := filter_at (l := l) (i := i) (x := x) (by simpa using h) hp
    rw [List.take_succ_cons]
    rcases hy : p y with _ | _
    · rw [List.filter_cons_of_neg (by simp [hy]), List.filter_cons_of_neg (by simp [hy])]
      exact ih
    · rw [List.filter_cons_of_pos hy, List.filter_cons_of_pos hy]
      exact ih
def kepN (la : RL) (i : Nat) : Nat := ((la.take i).filter (fun x => !told1 x)).length
theorem kepN_yes {la : RL} {i : Nat} {x : Rcd × Option Addr × Nat} (h : la[i]? = some x) (hx : told1 x = false) : kepN la (i + 1) = kepN la i + 1 ∧ (toldA la)[kepN la i]? = some x := by
  refine ⟨?_, filter_at h (by rw [hx]; rfl)⟩
  unfold kepN
  rw [take_succ_of0 h, List.filter_append, List.length_append]
  simp [hx]
theorem kepN_no {la : RL} {i : Nat} {x : Rcd × Option Addr × Nat} (h : la[i]? = some x) (hx : told1 x = true) : kepN la (i + 1) = kepN la i := by
  unfold kepN
  rw [take_succ_of0 h, List.filter_append, List.length_append]
  simp [hx]
theorem kepN_all (la : RL) : kepN la la.length = (toldA la).length := by unfold kepN toldA; rw [List.take_length]
theorem kepN_le (la : RL) (i : Nat) : kepN la i ≤ i := Nat.le_trans (List.length_filter_le _ _) (List.length_take_le _ _)
def soaN (la lb : RL) (i : Nat) : Bool := (toldA la).isEmpty && (lb.take i).any told2
theorem soaN_succ {la lb : RL} {i : Nat} {x : Rcd × Option Addr × Nat} (h : lb[i]? = some x) : soaN la lb (i + 1) = (soaN la lb i || ((toldA la).isEmpty && told2 x)) := by
  unfold soaN
  rw [take_succ_of0 h, List.any_append]
  cases (toldA la).isEmpty <;> simp
theorem soaN_hit {la lb : RL} {i : Nat} {x : Rcd × Option Addr × Nat} (h : lb[i]? = some x) (h1 : soaN la lb i = false) (h2 : toldA la = []) (hx : told2 x = true) : toldB la lb = [x] := by
  unfold soaN at h1
  rw [h2] at h1
  unfold toldB
  rw [if_pos h2]
  refine filter_idx h hx (fun y hy => ?_)
  have := (List.any_eq_false.1 (by simpa using h1)) y hy
  simpa using this
theorem toldB_len (la lb : RL) : (toldB la lb).length ≤ 1 ∧ (toldA la ≠ [] → (toldB la lb) = []) ∧ ((toldB la lb).length == 1) = soaN la lb lb.length := by
  unfold toldB soaN
  rw [List.take_length]
  by_cases h : toldA la = []
  · rw [if_pos h, h]
    refine ⟨by simp; omega, fun h => absurd rfl h, ?_⟩
    rcases hf : lb.filter told2 with _ | ⟨y, r⟩
    · have := List.filter_eq_nil_iff.1 hf
      have ha : lb.any told2 = false := by rw [List.any_eq_false]; exact this
      rw [ha]; rfl
    · have hy : y ∈ lb.filter told2 := by rw [hf]; simp
      have ha : lb.any told2 = true := by rw [List.any_eq_true]; exact ⟨y, (List.mem_filter.1 hy).1, (List.mem_filter.1 hy).2⟩
      rw [ha]; rfl
  · rw [if_neg h]
    refine ⟨by simp, fun _ => rfl, ?_⟩
    rcases ht : toldA la with _ | ⟨y, r⟩
    · exact absurd ht h
    · rfl
set_option maxRecDepth 100000 in
set_option maxHeartbeats 8000000 in
theorem told_law (h : Hd) (Aq : Option Addr) (lq : List Qn) (cq : Nat) (Aa : Option Addr) (la : RL) (ca : Nat) (Ab : Option Addr) (lb : RL) (cb : Nat) (Ac : Option Addr) (lc : RL) (cc : Nat) (w : World) (hm : MsIn w h Aq lq cq Aa la ca Ab lb cb Ac lc cc) :
    Calls Try.prog 4 #[.agg #[.int .u16 h.id, .bool h.resp, .int .i64 h.op, .bool h.aa, .bool h.tc, .bool h.rd, .bool h.ra, .bool h.ad, .bool h.cd, .int .i64 h.rc, .int .i64 h.c0, .int .i64 h.c1, .int .i64 h.c2, .int .i64 h.c3, .slice Aq lq.length cq, .slice Aa la.length ca, .slice Ab lb.length cb, .slice Ac lc.length cc]] w (EqPost w true) := by
  have hszr : ∀ x : Rcd × Option Addr × Nat, (Try.prog.info? 63).map (·.size) = some (rcl x).length := fun x => by rw [rcl_len]; kernel_rfl
  obtain ⟨W, hW⟩ : ∃ W, W = w.alloc (.cells #[.int .u16 h.id, .bool h.resp, .int .i64 h.op, .bool h.aa, .bool h.tc, .bool h.rd, .bool h.ra, .bool h.ad, .bool h.cd, .int .i64 h.rc, .int .i64 h.c0, .int .i64 h.c1, .int .i64 h.c2, .int .i64 h.c3, .slice Aq lq.length cq, .slice Aa la.length ca, .slice Ab lb.length cb, .slice Ac lc.length cc] 37) := ⟨_, rfl⟩
  have hb : Blk W w.heap.size 37 #[.int .u16 h.id, .bool h.resp, .int .i64 h.op, .bool h.aa, .bool h.tc, .bool h.rd, .bool h.ra, .bool h.ad, .bool h.cd, .int .i64 h.rc, .int .i64 h.c0, .int .i64 h.c1, .int .i64 h.c2, .int .i64 h.c3, .slice Aq lq.length cq, .slice Aa la.length ca, .slice Ab lb.length cb, .slice Ac lc.length cc] := by rw [hW]; exact Blk.new _ _ _
  have hf : Fr (fun _ => False) w W := by rw [hW]; exact (Fr.refl _ _).alloc _
  have HM := Lib.hid hm
  have HB := Lib.hid (And.intro hb (And.intro hf hszr))
  have HRL := Lib.hid (And.intro (show RlIn w la from hm.ak) (And.intro (show RlIn w lb from hm.bk) (And.intro hm.qz.1 (And.intro (show Aa = none → la = [] from fun e => List.eq_nil_of_length_eq_zero (hm.az.2.1 e)) (And.intro hm.az.2.2.1 (And.intro hm.bz.2.2.2.1 hm.bz.2.2.2.2))))))
  have na : la.length ≤ 1048576 := hm.az.1
  have nb : lb.length ≤ 1048576 := hm.bz.1
  have HW := Lib.hid hW
  clear hb hf hm hW hszr
  go_enter Try.func4, Try.ntmps4
  go_upto_region 1 with fail
  rw [← HW.out]
  clear HW
  go_upto_if 17 with (first
    | (go_at_call 6
       (with_reducible refine (lives25_any W).mono ?_)
       rintro e w1 ⟨rfl, f1⟩
       have H1 := Lib.hid (And.intro (HB.out.1.fr f1 id) (HB.out.2.1.then f1))
       clear f1)
    | (refine wpList_load_blk rfl 37 _ rfl w.heap.size (by rfl) 37 _ _ H1.out.1 Try.underlying37 rfl (by kernel_rfl) ?_)
    | (go_at_call 7
       (with_reducible refine (light25m_any h Aq Aa Ab Ac cq ca cb lc.length cc lq la lb w1 (rowIn_fr0 HM.out.q H1.out.2) HM.out.qk (rowIn_fr0 HM.out.a H1.out.2) (rowIn_fr0 HM.out.b H1.out.2) (RlIn.fr0 HRL.out.1 H1.out.2) (RlIn.fr0 HRL.out.2.1 H1.out.2) HRL.out.2.2.1 na nb).mono ?_)
       rintro e w2 ⟨bl, rfl, f2⟩
       have H2 := Lib.hid (And.intro (H1.out.1.fr f2 id) (H1.out.2.then f2))
       clear f2)
    | fail "no arm")
  rcases bl with _ | _
  · go_wp2_with fail
    go_ret
    exact ⟨rfl, H2.out.2⟩
  go_upto_region 8 with (first
    | (refine wpList_load_blk rfl 37 _ rfl w.heap.size (by rfl) 37 _ _ H2.out.1 Try.underlying37 rfl (by kernel_rfl) ?_)
    | (go_at_call 16
       (with_reducible refine (told_any h Aq Aa Ab Ac lq.length cq ca cb lc.length cc la lb w2 (rowIn_fr0 HM.out.a H2.out.2) (rowIn_fr0 HM.out.b H2.out.2) na nb HRL.out.2.2.2.1 HRL.out.2.2.2.2.1 HRL.out.2.2.2.2.2.1 HRL.out.2.2.2.2.2.2).mono ?_)
       rintro e w3 ⟨r1, A1, c1, r2, A2, c2, rfl, hr1, hr2, o1, o2, f3⟩
       have H3 := Lib.hid (And.intro (H2.out.1.fr f3 id) (And.intro (H2.out.2.then f3) (And.intro hr1 (And.intro hr2 (And.intro o1 o2)))))
       clear f3 hr1 hr2 o1 o2)
    | fail "no arm")
  have hrl : r1.length ≤ la.length := by rw [H3.out.2.2.1]; exact List.length_filter_le _ _
  go_loopg [6, 7] la.length (fun gh k i wr => ∃ ii : Nat, gh = la.length - ii ∧ ii ≤ la.length ∧ k = .int .i64 (kepN la ii : Nat) ∧ i = .int .i64 (ii : Nat) ∧ Fr (fun _ => False) w3 wr)
  case atStart => exact ⟨0, rfl, Nat.zero_le _, rfl, rfl, Fr.refl _ _⟩
  case round =>
    obtain ⟨i, hgh, hi, rfl, rfl, hfr⟩ := hrel
    have HGH := Lib.hid hgh
    have HF := Lib.hid (And.intro hfr (H3.out.1.fr hfr id))
    clear hgh hfr
    obtain ⟨kn, hkn⟩ : ∃ n, n = kepN la i := ⟨_, rfl⟩
    have hkle := kepN_le la i
    rw [← hkn] at hkle ⊢
    have HKN := Lib.hid hkn
    clear hkn
    have m15 : wr.cell? ⟨w.heap.size, 15, none⟩ = some (.slice Aa la.length ca) := HF.out.2.cell 15
    by_cases hlt : i < la.length
    · obtain ⟨x, hx⟩ : ∃ x, la[i]? = some x := ⟨la[i], List.getElem?_eq_getElem hlt⟩
      obtain ⟨b, off, rfl, hbs, hrg⟩ := rowIn_mk rcl 16 rcl_len (rowIn_fr0 HM.out.a (H3.out.2.1.then HF.out.1)) hx
      have HX := Lib.hid (And.intro hrg (And.intro ((RlIn.fr0 HRL.out.1 (H3.out.2.1.then HF.out.1)) x (List.mem_of_getElem? hx)).1 (HB.out.2.2 x)))
      have HXX := Lib.hid hx
      clear hrg hx
      have hi0 : (0 : Int) ≤ (i : Int) := by omega
      have hlti : (i : Int) < (la.length : Int) := by omega
      obtain ⟨tt, htt⟩ : ∃ t, t = told1 x := ⟨_, rfl⟩
      have HT := Lib.hid htt
      unfold told1 at htt
      go_upto_region 11 with (first
      | (refine wpList_load_mid rfl 63 _ rfl b (off + i * 16) (by rfl) (rcl x) _ HX.out.1 Try.underlying63 rfl HX.out.2.2 ?_)
      | (refine wpList_store_part rfl 63 _ _ rfl wr.heap.size 0 (by rfl) (rcl x) (by rfl) 63 _ (Blk.new wr 63 _) HX.out.2.2 (rcl_one x) (by simp [rcl_len]) (rcl x).toArray (by exact lay_all (by rw [rcl_len]; rfl)) ?_
         intro w2 b2 f2
         have H2 := Lib.hid (And.intro b2 (((Fr.refl (fun _ => False) wr).alloc _).step f2 (fun k hk => .inr (by subst hk; exact Nat.le_refl _))))
         have g1 : w2.cell? ⟨wr.heap.size, 1, none⟩ = some (.int .i64 x.1.t) := b2.cell 1
         have g2 : w2.cell? ⟨wr.heap.size, 2, none⟩ = some (.int .i64 x.1.cl) := b2.cell 2
         clear b2 f2)
      | fail "no arm")
      clear m15
      by_cases h1 : x.1.cl = 1
      · have e1 : (x.1.cl != 1) = false := by simp [h1]
        have E1 := Lib.hid h1
        clear h1
        by_cases h2 : x.1.t = 41
        · have e2 : (x.1.t == 41) = true := by simp [h2]
          have htr : tt = true := by rw [htt, e1, e2]; rfl
          have HTR := Lib.hid htr
          clear htt htr h2
          go_wp2_with fail
          go_roundg (la.length - (i + 1))
          case measure => have := HGH.out; omega
          case rel => exact ⟨i + 1, rfl, hlt, vint (by rw [kepN_no HXX.out (HT.out.symm.trans HTR.out), ← HKN.out]), by go_num, HF.out.1.then H2.out.2⟩
        · have e2 : (x.1.t == 41) = false := by simp [h2]
          have htr : tt = false := by rw [htt, e1, e2]; rfl
          have HTR := Lib.hid (kepN_yes HXX.out (HT.out.symm.trans htr))
          clear htt htr h2
          have hr1 := HTR.out.2
          rw [← HKN.out, ← H3.out.2.2.1] at hr1
          obtain ⟨b1, o1, rfl, hbs1, hrg1⟩ := rowIn_mk rcl 16 rcl_len (rowIn_fr0 H3.out.2.2.2.2.1 (HF.out.1.then H2.out.2)) hr1
          have hklt : kn < r1.length := (List.getElem?_eq_some_iff.1 hr1).1
          have hd1 : decide ((r1.length : Int) ≤ (kn : Int)) = false := decide_eq_false (by omega)
          have hd2 : decide (r1.length ≤ kn) = false := decide_eq_false (by omega)
          have hk0 : (0 : Int) ≤ (kn : Int) := by omega
          have hkl : (kn : Int) < (r1.length : Int) := by omega
          have HR := Lib.hid (And.intro hrg1 (And.intro (blk_rg (L := rcl x) H2.out.1) (HX.out.2.1.fr0 H2.out.2)))
          clear hr1 hrg1
          go_upto_region 12 with fail
          refine wp_region_held_drew (S := fun w' => w'.rangeAt b1 (o1 + kn * 16) (rcl x) ∧ w'.rangeAt wr.heap.size 0 (rcl x)) (by kernel_rfl) ⟨range_fr0 ((Fr.refl _ _).drew) hbs1 HR.out.1, range_fr0 ((Fr.refl _ _).drew) H2.out.1.lt HR.out.2.1⟩ (fun hHeld => ?_)
          refine wpAnyH_take (i := 0) (v := ?_) rfl (by kernel_rfl) (by kernel_rfl) (by kernel_rfl) (fun _ _ _ h => h) (Or.inl ⟨by rfl, ?_⟩) (by assumption) ?_
          rotate_left
          · intro w hSw
            go_simp
            try with_reducible rfl
          try simp only [Act.put, List.setIfInBounds_toArray, List.set_cons_zero, List.set_cons_succ, List.getElem_toArray, List.getElem_cons_zero, List.getElem_cons_succ]
          refine wpAnyH_take (i := 1) (v := ?_) rfl (by kernel_rfl) (by kernel_rfl) (by kernel_rfl) (fun _ _ _ h => h) (Or.inl ⟨by rfl, ?_⟩) (by assumption) ?_
          rotate_left
          · intro w hSw
            go_simp
            try with_reducible rfl
          try simp only [Act.put, List.setIfInBounds_toArray, List.set_cons_zero, List.set_cons_succ, List.getElem_toArray, List.getElem_cons_zero, List.getElem_cons_succ]
          refine wpAnyH_take (i := 2) (v := ?_) rfl (by kernel_rfl) (by kernel_rfl) (by kernel_rfl) (fun _ _ _ h => h) (Or.inl ⟨by rfl, ?_⟩) (by assumption) ?_
          rotate_left
          · intro w hSw
            go_simp
            try with_reducible rfl
          try simp only [Act.put, List.setIfInBounds_toArray, List.set_cons_zero, List.set_cons_succ, List.getElem_toArray, List.getElem_cons_zero, List.getElem_cons_succ]
          refine wpAnyH_take (i := 3) (v := ?_) rfl (by kernel_rfl) (by kernel_rfl) (by kernel_rfl) (fun _ _ _ h => h) (Or.inl ⟨by rfl, ?_⟩) (by assumption) ?_
          rotate_left
          · intro w hSw
            go_simp
            try with_reducible rfl
          try simp only [Act.put, List.setIfInBounds_toArray, List.set_cons_zero, List.set_cons_succ, List.getElem_toArray, List.getElem_cons_zero, List.getElem_cons_succ]
          refine wpAnyH_take (i := 4) (v := ?_) rfl (by kernel_rfl) (by kernel_rfl) (by kernel_rfl) (fun _ _ _ h => h) (Or.inl ⟨by rfl, ?_⟩) (by assumption) ?_
          rotate_left
          · intro w hSw
            go_simp
            try with_reducible rfl
          try simp only [Act.put, List.setIfInBounds_toArray, List.set_cons_zero, List.set_cons_succ, List.getElem_toArray, List.getElem_cons_zero, List.getElem_cons_succ]
          refine wpAnyH_take (i := 5) (v := ?_) rfl (by kernel_rfl) (by kernel_rfl) (by kernel_rfl) (fun _ _ _ h => h) (Or.inl ⟨by rfl, ?_⟩) (by assumption) ?_
          rotate_left
          · intro w hSw
            go_simp
            try with_reducible rfl
          try simp only [Act.put, List.setIfInBounds_toArray, List.set_cons_zero, List.set_cons_succ, List.getElem_toArray, List.getElem_cons_zero, List.getElem_cons_succ]
          refine wpAnyH_take (i := 6) (v := ?_) rfl (by kernel_rfl) (by kernel_rfl) (by kernel_rfl) (fun _ _ _ h => h) (Or.inl ⟨by rfl, ?_⟩) (by assumption) ?_
          rotate_left
          · intro w hSw
            go_simp
            try with_reducible rfl
          try simp only [Act.put, List.setIfInBounds_toArray, List.set_cons_zero, List.set_cons_succ, List.getElem_toArray, List.getElem_cons_zero, List.getElem_cons_succ]
          refine wpAnyH_take (i := 7) (v := ?_) rfl (by kernel_rfl) (by kernel_rfl) (by kernel_rfl) (fun _ _ _ h => h) (Or.inl ⟨by rfl, ?_⟩) (by assumption) ?_
          rotate_left
          · intro w hSw
            go_simp
            try with_reducible rfl
          try simp only [Act.put, List.setIfInBounds_toArray, List.set_cons_zero, List.set_cons_succ, List.getElem_toArray, List.getElem_cons_zero, List.getElem_cons_succ]
          refine wpAnyH_take (i := 8) rfl (by kernel_rfl) (by kernel_rfl) (by kernel_rfl) (fun _ _ _ h => h) (yieldsIf_load_mid (by rfl) _ _ rfl b1 (o1 + kn * 16) (by rfl) (rcl x) _ (fun w' h => h.1) Try.underlying63 rfl HX.out.2.2) (by assumption) ?_
          try simp only [Act.put, List.setIfInBounds_toArray, List.set_cons_zero, List.set_cons_succ, List.getElem_toArray, List.getElem_cons_zero, List.getElem_cons_succ]
          refine wpAnyH_take (i := 9) rfl (by kernel_rfl) (by kernel_rfl) (by kernel_rfl) (fun _ _ _ h => h) (yieldsIf_load_mid (by rfl) _ _ rfl wr.heap.size (0) (by rfl) (rcl x) _ (fun w' h => h.2) Try.underlying63 rfl HX.out.2.2) (by assumption) ?_
          try simp only [Act.put, List.setIfInBounds_toArray, List.set_cons_zero, List.set_cons_succ, List.getElem_toArray, List.getElem_cons_zero, List.getElem_cons_succ]
          refine wpAnyH_ready (rs := [10]) (by kernel_rfl) (by simp) ?_
          refine AllReadyH.cons rfl (fun K hK => ?_) AllReadyH.nil
          go_simp
          (with_reducible refine (rrsame_x x _ (HR.out.2.2.fr0 ((Fr.refl _ _).drew))).mono ?_)
          rintro e w4 ⟨rfl, f4⟩
          have hS4 : w4.rangeAt b1 (o1 + kn * 16) (rcl x) ∧ w4.rangeAt wr.heap.size 0 (rcl x) := ⟨range_fr0 f4.fromD hbs1 HR.out.1, range_fr0 f4.fromD H2.out.1.lt HR.out.2.1⟩
          have H4 := Lib.hid (H2.out.2.then f4.fromD)
          clear f4
          refine hK.out _ _ hS4 (fun hHeld => ?_)
          clear hK K
          try simp only [Act.put, List.setIfInBounds_toArray, List.set_cons_zero, List.set_cons_succ, List.getElem_toArray, List.getElem_cons_zero, List.getElem_cons_succ]
          refine wpAnyH_take (i := 11) (v := ?_) rfl (by kernel_rfl) (by kernel_rfl) (by kernel_rfl) (fun _ _ _ h => h) (Or.inl ⟨by rfl, ?_⟩) (by assumption) ?_
          rotate_left
          · intro w hSw
            go_simp
            try with_reducible rfl
          try simp only [Act.put, List.setIfInBounds_toArray, List.set_cons_zero, List.set_cons_succ, List.getElem_toArray, List.getElem_cons_zero, List.getElem_cons_succ]
          refine wpAnyH_take (i := 12) (v := ?_) rfl (by kernel_rfl) (by kernel_rfl) (by kernel_rfl) (fun _ _ _ h => h) (Or.inl ⟨by rfl, ?_⟩) (by assumption) ?_
          rotate_left
          · intro w hSw
            go_simp
            try with_reducible rfl
          try simp only [Act.put, List.setIfInBounds_toArray, List.set_cons_zero, List.set_cons_succ, List.getElem_toArray, List.getElem_cons_zero, List.getElem_cons_succ]
          refine wpAnyH_done (by kernel_rfl) ?_ _
          clear hHeld
          go_wp2_with fail
          go_roundg (la.length - (i + 1))
          case measure => have := HGH.out; omega
          case rel => exact ⟨i + 1, rfl, hlt, vint (by rw [HTR.out.1, ← HKN.out]; push_cast; rfl), by go_num, HF.out.1.then H4.out⟩
      · have e1 : (x.1.cl != 1) = true := by simp [h1]
        have htr : tt = true := by rw [htt, e1]; rfl
        have HTR := Lib.hid htr
        clear htt htr h1
        go_wp2_with fail
        go_roundg (la.length - (i + 1))
        case measure => have := HGH.out; omega
        case rel => exact ⟨i + 1, rfl, hlt, vint (by rw [kepN_no HXX.out (HT.out.symm.trans HTR.out), ← HKN.out]), by go_num, HF.out.1.then H2.out.2⟩
    · have hie : i = la.length := by omega
      have hkr : kn = r1.length := by rw [HKN.out, hie, kepN_all, H3.out.2.2.1]
      have hB := toldB_len la lb
      rw [← H3.out.2.2.1, ← H3.out.2.2.2.1] at hB
      have HBL := Lib.hid hB
      clear hB hie HGH HKN hkle
      subst hkr
      have m9 : wr.cell? ⟨w.heap.size, 9, none⟩ = some (.int .i64 h.rc) := HF.out.2.cell 9
      rcases r1 with _ | ⟨y1, r1⟩
      · have hr2 : ¬ (1 < (r2.length : Int)) := by have := HBL.out.1; omega
        rename World => w4
        go_upto_region 19 with fail
        clear m9 m15 hlt
        have hsl : (toldA la).isEmpty = true := by rw [← H3.out.2.2.1]; rfl
        have HSL := Lib.hid hsl
        clear hsl
        go_loopg [9, 10] lb.length (fun gh so i wr => ∃ ii : Nat, gh = lb.length - ii ∧ ii ≤ lb.length ∧ so = .bool (soaN la lb ii) ∧ i = .int .i64 (ii : Nat) ∧ Fr (fun _ => False) w4 wr)
        case atStart => exact ⟨0, rfl, Nat.zero_le _, (by unfold soaN; simp), rfl, Fr.refl _ _⟩
        case round =>
          clear hi
          obtain ⟨i, hgh, hi, hso, rfl, hfr⟩ := hrel
          obtain ⟨sb, hsb⟩ : ∃ b, b = soaN la lb i := ⟨_, rfl⟩
          rw [← hsb] at hso
          subst hso
          have HSB := Lib.hid hsb
          clear hsb
          have HGH := Lib.hid hgh
          have HG := Lib.hid (And.intro (HF.out.1.then hfr) (HF.out.2.fr hfr id))
          have hfr0 := hfr
          clear hgh hfr
          have m16 : wr.cell? ⟨w.heap.size, 16, none⟩ = some (.slice Ab lb.length cb) := HG.out.2.cell 16
          by_cases hlt : i < lb.length
          · obtain ⟨x, hx⟩ : ∃ x, lb[i]? = some x := ⟨lb[i], List.getElem?_eq_getElem hlt⟩
            obtain ⟨b, off, rfl, hbs, hrg⟩ := rowIn_mk rcl 16 rcl_len (rowIn_fr0 HM.out.b (H3.out.2.1.then HG.out.1)) hx
            have HX := Lib.hid (And.intro hrg (And.intro ((RlIn.fr0 HRL.out.2.1 (H3.out.2.1.then HG.out.1)) x (List.mem_of_getElem? hx)).1 (HB.out.2.2 x)))
            have HXX := Lib.hid hx
            clear hrg hx
            have hi0 : (0 : Int) ≤ (i : Int) := by omega
            have hlti : (i : Int) < (lb.length : Int) := by omega
            go_upto_region 22 with (first
              | (refine wpList_load_mid rfl 63 _ rfl b (off + i * 16) (by rfl) (rcl x) _ HX.out.1 Try.underlying63 rfl HX.out.2.2 ?_)
              | (refine wpList_store_part rfl 63 _ _ rfl wr.heap.size 0 (by rfl) (rcl x) (by rfl) 63 _ (Blk.new wr 63 _) HX.out.2.2 (rcl_one x) (by simp [rcl_len]) (rcl x).toArray (by exact lay_all (by rw [rcl_len]; rfl)) ?_
                 intro w2 b2 f2
                 have H2 := Lib.hid (And.intro b2 (((Fr.refl (fun _ => False) wr).alloc _).step f2 (fun k hk => .inr (by subst hk; exact Nat.le_refl _))))
                 have g1 : w2.cell? ⟨wr.heap.size, 1, none⟩ = some (.int .i64 x.1.t) := b2.cell 1
                 have g2 : w2.cell? ⟨wr.heap.size, 2, none⟩ = some (.int .i64 x.1.cl) := b2.cell 2
                 clear b2 f2)
              | fail "no arm")
            clear m16
            have HFR := Lib.hid hfr0
            clear hfr0
            by_cases h1 : x.1.cl = 1
            · have e1 : (x.1.cl == 1) = true := by simp [h1]
              have E1 := Lib.hid e1
              clear h1 e1
              have e1 := E1.out
              by_cases h2 : x.1.t = 6
              · have e2 : (x.1.t == 6) = true := by simp [h2]
                have E2 := Lib.hid e2
                clear h2 e2
                have e2 := E2.out
                rcases sb with _ | _
                · have hr2 : r2 = [x] := H3.out.2.2.2.1.trans (soaN_hit HXX.out HSB.out.symm H3.out.2.2.1.symm (by unfold told2; rw [E1.out, E2.out]; rfl))
                  subst hr2
                  obtain ⟨b2, o2, rfl, hbs2, hrg2⟩ := rowIn_mk (i := 0) (x := x) rcl 16 rcl_len (rowIn_fr0 H3.out.2.2.2.2.2 (HG.out.1.then H2.out.2)) rfl
                  have HR := Lib.hid (And.intro (show w2.rangeAt b2 o2 (rcl x) from hrg2) (And.intro (blk_rg (L := rcl x) H2.out.1) (HX.out.2.1.fr0 H2.out.2)))
                  clear hrg2
                  go_upto_region 24 with fail
                  refine wp_region_held_drew (S := fun w' => w'.rangeAt b2 o2 (rcl x) ∧ w'.rangeAt wr.heap.size 0 (rcl x)) (by kernel_rfl) ⟨range_fr0 ((Fr.refl _ _).drew) hbs2 HR.out.1, range_fr0 ((Fr.refl _ _).drew) H2.out.1.lt HR.out.2.1⟩ (fun hHeld => ?_)
                  refine wpAnyH_take (i := 0) (v := ?_) rfl (by kernel_rfl) (by kernel_rfl) (by kernel_rfl) (fun _ _ _ h => h) (Or.inl ⟨by rfl, ?_⟩) (by assumption) ?_
                  rotate_left
                  · intro w hSw
                    go_simp
                    try with_reducible rfl
                  try simp only [Act.put, List.setIfInBounds_toArray, List.set_cons_zero, List.set_cons_succ, List.getElem_toArray, List.getElem_cons_zero, List.getElem_cons_succ]
                  refine wpAnyH_take (i := 1) (v := ?_) rfl (by kernel_rfl) (by kernel_rfl) (by kernel_rfl) (fun _ _ _ h => h) (Or.inl ⟨by rfl, ?_⟩) (by assumption) ?_
                  rotate_left
                  · intro w hSw
                    go_simp
                    try with_reducible rfl
                  try simp only [Act.put, List.setIfInBounds_toArray, List.set_cons_zero, List.set_cons_succ, List.getElem_toArray, List.getElem_cons_zero, List.getElem_cons_succ]
                  refine wpAnyH_take (i := 2) (v := ?_) rfl (by kernel_rfl) (by kernel_rfl) (by kernel_rfl) (fun _ _ _ h => h) (Or.inl ⟨by rfl, ?_⟩) (by assumption) ?_
                  rotate_left
                  · intro w hSw
                    go_simp
                    try with_reducible rfl
                  try simp only [Act.put, List.setIfInBounds_toArray, List.set_cons_zero, List.set_cons_succ, List.getElem_toArray, List.getElem_cons_zero, List.getElem_cons_succ]
                  refine wpAnyH_take (i := 3) (v := ?_) rfl (by kernel_rfl) (by kernel_rfl) (by kernel_rfl) (fun _ _ _ h => h) (Or.inl ⟨by rfl, ?_⟩) (by assumption) ?_
                  rotate_left
                  · intro w hSw
                    go_simp
                    try with_reducible rfl
                  try simp only [Act.put, List.setIfInBounds_toArray, List.set_cons_zero, List.set_cons_succ, List.getElem_toArray, List.getElem_cons_zero, List.getElem_cons_succ]
                  refine wpAnyH_take (i := 4) (v := ?_) rfl (by kernel_rfl) (by kernel_rfl) (by kernel_rfl) (fun _ _ _ h => h) (Or.inl ⟨by rfl, ?_⟩) (by assumption) ?_
                  rotate_left
                  · intro w hSw
                    go_simp
                    try with_reducible rfl
                  try simp only [Act.put, List.setIfInBounds_toArray, List.set_cons_zero, List.set_cons_succ, List.getElem_toArray, List.getElem_cons_zero, List.getElem_cons_succ]
                  refine wpAnyH_take (i := 5) (v := ?_) rfl (by kernel_rfl) (by kernel_rfl) (by kernel_rfl) (fun _ _ _ h => h) (Or.inl ⟨by rfl, ?_⟩) (by assumption) ?_
                  rotate_left
                  · intro w hSw
                    go_simp
                    try with_reducible rfl
                  try simp only [Act.put, List.setIfInBounds_toArray, List.set_cons_zero, List.set_cons_succ, List.getElem_toArray, List.getElem_cons_zero, List.getElem_cons_succ]
                  refine wpAnyH_take (i := 6) rfl (by kernel_rfl) (by kernel_rfl) (by kernel_rfl) (fun _ _ _ h => h) (yieldsIf_load_mid (by rfl) _ _ rfl b2 (o2) (by rfl) (rcl x) _ (fun w' h => h.1) Try.underlying63 rfl HX.out.2.2) (by assumption) ?_
                  try simp only [Act.put, List.setIfInBounds_toArray, List.set_cons_zero, List.set_cons_succ, List.getElem_toArray, List.getElem_cons_zero, List.getElem_cons_succ]
                  refine wpAnyH_take (i := 7) rfl (by kernel_rfl) (by kernel_rfl) (by kernel_rfl) (fun _ _ _ h => h) (yieldsIf_load_mid (by rfl) _ _ rfl wr.heap.size (0) (by rfl) (rcl x) _ (fun w' h => h.2) Try.underlying63 rfl HX.out.2.2) (by assumption) ?_
                  try simp only [Act.put, List.setIfInBounds_toArray, List.set_cons_zero, List.set_cons_succ, List.getElem_toArray, List.getElem_cons_zero, List.getElem_cons_succ]
                  refine wpAnyH_ready (rs := [8]) (by kernel_rfl) (by simp) ?_
                  refine AllReadyH.cons rfl (fun K hK => ?_) AllReadyH.nil
                  go_simp
                  (with_reducible refine (rrsame_x x _ (HR.out.2.2.fr0 ((Fr.refl _ _).drew))).mono ?_)
                  rintro e w4' ⟨rfl, f4⟩
                  have hS4 : w4'.rangeAt b2 o2 (rcl x) ∧ w4'.rangeAt wr.heap.size 0 (rcl x) := ⟨range_fr0 f4.fromD hbs2 HR.out.1, range_fr0 f4.fromD H2.out.1.lt HR.out.2.1⟩
                  have H4 := Lib.hid (H2.out.2.then f4.fromD)
                  clear f4
                  refine hK.out _ _ hS4 (fun hHeld => ?_)
                  clear hK K
                  try simp only [Act.put, List.setIfInBounds_toArray, List.set_cons_zero, List.set_cons_succ, List.getElem_toArray, List.getElem_cons_zero, List.getElem_cons_succ]
                  refine wpAnyH_take (i := 9) (v := ?_) rfl (by kernel_rfl) (by kernel_rfl) (by kernel_rfl) (fun _ _ _ h => h) (Or.inl ⟨by rfl, ?_⟩) (by assumption) ?_
                  rotate_left
                  · intro w hSw
                    go_simp
                    try with_reducible rfl
                  try simp only [Act.put, List.setIfInBounds_toArray, List.set_cons_zero, List.set_cons_succ, List.getElem_toArray, List.getElem_cons_zero, List.getElem_cons_succ]
                  refine wpAnyH_take (i := 10) (v := ?_) rfl (by kernel_rfl) (by kernel_rfl) (by kernel_rfl) (fun _ _ _ h => h) (Or.inl ⟨by rfl, ?_⟩) (by assumption) ?_
                  rotate_left
                  · intro w hSw
                    go_simp
                    try with_reducible rfl
                  try simp only [Act.put, List.setIfInBounds_toArray, List.set_cons_zero, List.set_cons_succ, List.getElem_toArray, List.getElem_cons_zero, List.getElem_cons_succ]
                  refine wpAnyH_done (by kernel_rfl) ?_ _
                  clear hHeld
                  go_wp2_with fail
                  go_roundg (lb.length - (i + 1))
                  case measure => have := HGH.out; omega
                  case rel => exact ⟨i + 1, rfl, hlt, (by rw [soaN_succ HXX.out, HSL.out, ← HSB.out]; unfold told2; rw [E1.out, E2.out]; simp), by go_num, HFR.out.then H4.out⟩
                · go_wp2_with fail
                  go_roundg (lb.length - (i + 1))
                  case measure => have := HGH.out; omega
                  case rel => exact ⟨i + 1, rfl, hlt, (by rw [soaN_succ HXX.out, HSL.out, ← HSB.out]; unfold told2; rw [E1.out, E2.out]; simp), by go_num, HFR.out.then H2.out.2⟩
              · have e2 : (x.1.t == 6) = false := by simp [h2]
                have E2 := Lib.hid e2
                clear h2 e2
                have e2 := E2.out
                go_wp2_with fail
                go_roundg (lb.length - (i + 1))
                case measure => have := HGH.out; omega
                case rel => exact ⟨i + 1, rfl, hlt, (by rw [soaN_succ HXX.out, HSL.out, ← HSB.out]; unfold told2; rw [E1.out, E2.out]; simp), by go_num, HFR.out.then H2.out.2⟩
            · have e1 : (x.1.cl == 1) = false := by simp [h1]
              have E1 := Lib.hid e1
              clear h1 e1
              have e1 := E1.out
              go_wp2_with fail
              go_roundg (lb.length - (i + 1))
              case measure => have := HGH.out; omega
              case rel => exact ⟨i + 1, rfl, hlt, (by rw [soaN_succ HXX.out, HSL.out, ← HSB.out]; unfold told2; rw [E1.out]; simp), by go_num, HFR.out.then H2.out.2⟩
          · have hie : i = lb.length := by omega
            have hs2 := HBL.out.2.2
            rw [← hie, ← HSB.out] at hs2
            rcases r2 with _ | ⟨y2, _ | ⟨y3, r2⟩⟩
            · obtain rfl : sb = false := hs2.symm
              clear hs2 hie
              go_wp2_with fail
              go_ret
              exact ⟨rfl, H3.out.2.1.then HG.out.1⟩
            · obtain rfl : sb = true := hs2.symm
              clear hs2 hie
              go_wp2_with fail
              go_ret
              exact ⟨rfl, H3.out.2.1.then HG.out.1⟩
            · have := HBL.out.1
              simp at this
      · obtain rfl : r2 = [] := HBL.out.2.1 (List.cons_ne_nil _ _)
        rename World => w4
        go_upto_region 19 with fail
        clear m9 m15 hlt
        have hsl : (toldA la).isEmpty = false := by rw [← H3.out.2.2.1]; rfl
        have HSL := Lib.hid hsl
        clear hsl
        go_loopg [9, 10] lb.length (fun gh so i wr => ∃ ii : Nat, gh = lb.length - ii ∧ ii ≤ lb.length ∧ so = .bool false ∧ i = .int .i64 (ii : Nat) ∧ Fr (fun _ => False) w4 wr)
        case atStart => exact ⟨0, rfl, Nat.zero_le _, rfl, rfl, Fr.refl _ _⟩
        case round =>
          clear hi
          obtain ⟨i, hgh, hi, rfl, rfl, hfr⟩ := hrel
          have HGH := Lib.hid hgh
          have HG := Lib.hid (And.intro (HF.out.1.then hfr) (HF.out.2.fr hfr id))
          have hfr0 := hfr
          clear hgh hfr
          have m16 : wr.cell? ⟨w.heap.size, 16, none⟩ = some (.slice Ab lb.length cb) := HG.out.2.cell 16
          by_cases hlt : i < lb.length
          · obtain ⟨x, hx⟩ : ∃ x, lb[i]? = some x := ⟨lb[i], List.getElem?_eq_getElem hlt⟩
            obtain ⟨b, off, rfl, hbs, hrg⟩ := rowIn_mk rcl 16 rcl_len (rowIn_fr0 HM.out.b (H3.out.2.1.then HG.out.1)) hx
            have HX := Lib.hid (And.intro hrg (And.intro ((RlIn.fr0 HRL.out.2.1 (H3.out.2.1.then HG.out.1)) x (List.mem_of_getElem? hx)).1 (HB.out.2.2 x)))
            have HXX := Lib.hid hx
            clear hrg hx
            have hi0 : (0 : Int) ≤ (i : Int) := by omega
            have hlti : (i : Int) < (lb.length : Int) := by omega
            go_upto_region 22 with (first
              | (refine wpList_load_mid rfl 63 _ rfl b (off + i * 16) (by rfl) (rcl x) _ HX.out.1 Try.underlying63 rfl HX.out.2.2 ?_)
              | (refine wpList_store_part rfl 63 _ _ rfl wr.heap.size 0 (by rfl) (rcl x) (by rfl) 63 _ (Blk.new wr 63 _) HX.out.2.2 (rcl_one x) (by simp [rcl_len]) (rcl x).toArray (by exact lay_all (by rw [rcl_len]; rfl)) ?_
                 intro w2 b2 f2
                 have H2 := Lib.hid (And.intro b2 (((Fr.refl (fun _ => False) wr).alloc _).step f2 (fun k hk => .inr (by subst hk; exact Nat.le_refl _))))
                 have g1 : w2.cell? ⟨wr.heap.size, 1, none⟩ = some (.int .i64 x.1.t) := b2.cell 1
                 have g2 : w2.cell? ⟨wr.heap.size, 2, none⟩ = some (.int .i64 x.1.cl) := b2.cell 2
                 clear b2 f2)
              | fail "no arm")
            clear m16
            have HFR := Lib.hid hfr0
            clear hfr0
            by_cases h1 : x.1.cl = 1
            · have e1 : (x.1.cl == 1) = true := by simp [h1]
              have E1 := Lib.hid e1
              clear h1 e1
              have e1 := E1.out
              by_cases h2 : x.1.t = 6
              · have e2 : (x.1.t == 6) = true := by simp [h2]
                have E2 := Lib.hid e2
                clear h2 e2
                have e2 := E2.out
                go_wp2_with fail
                go_roundg (lb.length - (i + 1))
                case measure => have := HGH.out; omega
                case rel => exact ⟨i + 1, rfl, hlt, rfl, by go_num, HFR.out.then H2.out.2⟩
              · have e2 : (x.1.t == 6) = false := by simp [h2]
                have E2 := Lib.hid e2
                clear h2 e2
                have e2 := E2.out
                go_wp2_with fail
                go_roundg (lb.length - (i + 1))
                case measure => have := HGH.out; omega
                case rel => exact ⟨i + 1, rfl, hlt, rfl, by go_num, HFR.out.then H2.out.2⟩
            · have e1 : (x.1.cl == 1) = false := by simp [h1]
              have E1 := Lib.hid e1
              clear h1 e1
              have e1 := E1.out
              go_wp2_with fail
              go_roundg (lb.length - (i + 1))
              case measure => have := HGH.out; omega
              case rel => exact ⟨i + 1, rfl, hlt, rfl, by go_num, HFR.out.then H2.out.2⟩
          · have hie : i = lb.length := by omega
            clear hie
            go_wp2_with fail
            go_ret
            exact ⟨rfl, H3.out.2.1.then HG.out.1⟩
end Go.Proofs.Ytncfdfgcnblicaa
