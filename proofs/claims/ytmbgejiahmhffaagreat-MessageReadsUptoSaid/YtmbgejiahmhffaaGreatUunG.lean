/-
  TEXTS OF THIS CLAIM, TOGETHER: Drb, Drd, Deq, Dsm.
-/
import Derived.Test.YtmbgejiahmhffaaGreatUDdc
import Derived.Test.YtmbgejiahmhffaaGreatUunD
/-
  LAYER 9: what data that was read can hold, of no program.
-/
namespace Go.Proofs.YtmbgejiahmhffaaGreat
set_option linter.unusedVariables false
set_option linter.unusedSimpArgs false
open Go.RowKit

theorem getD_lt {l : List Nat} {B : Nat} (h : ∀ v ∈ l, v < B) (hB : 0 < B) (i : Nat) : l.getD i 0 < B := by
  rw [List.getD_eq_getElem?_getD]
  cases hv : l[i]? with
  | none => exact hB
  | some v => exact h v (List.mem_of_getElem? hv)
theorem cu_take_len (S : List UInt8) (en : Nat) (c : Cu) (n : Nat) : (c.take S en n).1.length ≤ n := by
  unfold Cu.take
  split
  · exact Nat.zero_le _
  · split
    · exact Nat.zero_le _
    · simp only [List.length_take]; omega
theorem cu_nums_lt (S : List UInt8) (en wide : Nat) (hw : wide ≤ 4) : ∀ (k : Nat) (c : Cu), ∀ v ∈ (Cu.nums S en wide k c).1, v < 4294967296
  | 0, _ => fun v hv => by simp [Cu.nums] at hv
  | k + 1, c => fun v hv => by
    unfold Cu.nums at hv
    rcases List.mem_cons.1 hv with rfl | hv
    · show numOf (c.take S en wide).1 < _
      refine Nat.lt_of_lt_of_le (numOf_lt _) ?_
      have h1 := cu_take_len S en c wide
      exact Nat.le_trans (Nat.pow_le_pow_right (by decide) (Nat.le_trans h1 hw)) (by decide)
    · exact cu_nums_lt S en wide hw k _ v hv
theorem cu_texts_len (S : List UInt8) (en : Nat) : ∀ (f : Nat) (c : Cu), (Cu.texts S en f c).1.length ≤ f
  | 0, _ => Nat.le_refl _
  | f + 1, c => by
    unfold Cu.texts
    dsimp only
    split
    · exact Nat.zero_le _
    · split
      · simp only [List.length_cons]
        exact Nat.succ_le_succ (cu_texts_len S en f _)
      · simp
theorem addrOf_lt (l : List UInt8) : (addrOf l).2.1 < 18446744073709551616 ∧ (addrOf l).2.2 < 18446744073709551616 := by
  unfold addrOf
  split
  · rename_i h
    have := numOf_lt l
    rw [h] at this
    refine ⟨by show 0 < _; decide, ?_⟩
    show numOf l < _
    exact Nat.lt_of_lt_of_le this (by decide)
  · split
    · rename_i h
      have h1 := numOf_lt (l.take 8)
      have h2 := numOf_lt (l.drop 8)
      rw [List.length_take, h] at h1
      rw [List.length_drop, h] at h2
      exact ⟨h1, h2⟩
    · exact ⟨by show 0 < _; decide, by show 0 < _; decide⟩
theorem dreadB_in (S : List UInt8) (en at_ : Nat) (t : Int) (d : Dt) (hd : d = (dreadB S en (whatN t) at_).1) :
    d.hi < 18446744073709551616 ∧ d.lo < 18446744073709551616 ∧ (∀ i, d.num i < 4294967296) ∧ d.texts.length ≤ en + 1 ∧ d.raw.size ≤ en := by
  have hw : (whatN t).wide ≤ 4 := by rcases whatN_cases t with h | h | h | h | h | h | h | h <;> rw [h] <;> decide
  generalize whatN t = w at *
  subst hd
  unfold dreadB
  dsimp only
  generalize (if 0 < w.addr then Cu.take S en ⟨at_, 0⟩ w.addr else ([], ⟨at_, 0⟩)) = a
  have had : ∀ ad, ad = (if 0 < w.addr then addrOf a.1 else (false, 0, 0)) → ad.2.1 < 18446744073709551616 ∧ ad.2.2 < 18446744073709551616 := by
    rintro ad rfl
    split
    · exact addrOf_lt _
    · exact ⟨by show 0 < _; decide, by show 0 < _; decide⟩
  have hp : ∀ p : List Nat × Cu, p = (if w.first = true then Cu.nums S en w.wide w.nums a.2 else ([], a.2)) → ∀ v ∈ p.1, v < 4294967296 := by
    rintro p rfl
    split
    · exact cu_nums_lt _ _ _ hw _ _
    · simp
  generalize (if 0 < w.addr then addrOf a.1 else (false, 0, 0)) = ad at *
  generalize (if w.first = true then Cu.nums S en w.wide w.nums a.2 else ([], a.2)) = p at *
  generalize (if 1 ≤ w.names then Cu.name S en w.plain p.2 else ([], p.2)) = m
  generalize (if 2 ≤ w.names then Cu.name S en w.plain m.2 else ([], m.2)) = q
  have hr : ∀ r : List Nat × Cu, r = (if w.first = true then ([], q.2) else Cu.nums S en w.wide w.nums q.2) → ∀ v ∈ r.1, v < 4294967296 := by
    rintro p rfl
    split
    · simp
    · exact cu_nums_lt _ _ _ hw _ _
  generalize (if w.first = true then ([], q.2) else Cu.nums S en w.wide w.nums q.2) = r at *
  have hvs : ∀ l, l = (if w.first = true then p.1 else r.1) → ∀ v ∈ l, v < 4294967296 := by
    rintro l rfl
    split
    · exact hp _ rfl
    · exact hr _ rfl
  generalize (if w.first = true then p.1 else r.1) = vs at *
  have ht : ∀ y : List (List UInt8) × Cu, y = (if w.texts = true then Cu.texts S en (en + 1) r.2 else ([], r.2)) → y.1.length ≤ en + 1 := by
    rintro p rfl
    split
    · exact cu_texts_len _ _ _ _
    · simp
  generalize (if w.texts = true then Cu.texts S en (en + 1) r.2 else ([], r.2)) = y at *
  have hz : ∀ z : List UInt8 × Cu, z = (if w.raw = true then Cu.take S en y.2 (en - y.2.at_) else ([], y.2)) → z.1.length ≤ en := by
    rintro p rfl
    split
    · exact Nat.le_trans (cu_take_len _ _ _ _) (Nat.sub_le _ _)
    · simp
  generalize (if w.raw = true then Cu.take S en y.2 (en - y.2.at_) else ([], y.2)) = z at *
  refine ⟨(had _ rfl).1, (had _ rfl).2, fun i => ?_, ?_, ?_⟩
  · have h := getD_lt (hvs _ rfl) (by decide)
    match i with
    | 0 => exact h 0
    | 1 => exact h 1
    | 2 => exact h 2
    | 3 => exact h 3
    | n + 4 => exact h 4
  · simpa using ht _ rfl
  · simpa [ByteArray.size] using hz _ rfl
end Go.Proofs.YtmbgejiahmhffaaGreat

/-
  LAYER 9: rdata.Read: the walk.
-/
namespace Go.Proofs.YtmbgejiahmhffaaGreat
set_option linter.unusedVariables false
set_option linter.unusedSimpArgs false
open Go.RowKit

/-- What Read answers: the data, and the error. -/
def dreadC (s : ByteArray) (at_ en t : Int) : Dt × Int :=
  if at_ < 0 ∨ en < at_ ∨ (s.size : Int) < en ∨ ¬ (0 ≤ t ∧ t ≤ 65535) then (Dt.zero, 2)
  else
    if (ddAll s.data.toList en.toNat (whatN t) ⟨at_.toNat, 0⟩).2.e ≠ 0 then (Dt.zero, (ddAll s.data.toList en.toNat (whatN t) ⟨at_.toNat, 0⟩).2.e)
    else if (ddAll s.data.toList en.toNat (whatN t) ⟨at_.toNat, 0⟩).2.at_ < en.toNat ∨ dcheckB t (ddAll s.data.toList en.toNat (whatN t) ⟨at_.toNat, 0⟩).1 ≠ 0 then (Dt.zero, 4)
    else ((ddAll s.data.toList en.toNat (whatN t) ⟨at_.toNat, 0⟩).1, 0)
theorem dreadC_eq (s : ByteArray) (at_ en t : Int) : dreadC s at_ en t = dreadN s.data.toList at_ en t := by
  unfold dreadC dreadN
  rw [ddAll_eq _ _ _ _ ⟨t, rfl⟩]
  have hs : s.data.toList.length = s.size := rfl
  rw [hs]
  dsimp only
  rw [dcheckB_eq]
theorem blk_set12 {w : World} {q : Nat} {t : TypeId} {a0 a1 a2 a3 a4 a5 a6 a7 a8 a9 a10 a11 u0 u1 u2 u3 u4 u5 u6 u7 u8 u9 u10 u11 : Value} (h : Blk w q t #[a0, a1, a2, a3, a4, a5, a6, a7, a8, a9, a10, a11]) : Blk ((((((((((((w.setCell ⟨q, 0, none⟩ u0).setCell ⟨q, 1, none⟩ u1).setCell ⟨q, 2, none⟩ u2).setCell ⟨q, 3, none⟩ u3).setCell ⟨q, 4, none⟩ u4).setCell ⟨q, 5, none⟩ u5).setCell ⟨q, 6, none⟩ u6).setCell ⟨q, 7, none⟩ u7).setCell ⟨q, 8, none⟩ u8).setCell ⟨q, 9, none⟩ u9).setCell ⟨q, 10, none⟩ u10).setCell ⟨q, 11, none⟩ u11) q t #[u0, u1, u2, u3, u4, u5, u6, u7, u8, u9, u10, u11] := by
  have h0 : Blk _ q t #[u0, a1, a2, a3, a4, a5, a6, a7, a8, a9, a10, a11] := h.set_ 0 u0
  have h1 : Blk _ q t #[u0, u1, a2, a3, a4, a5, a6, a7, a8, a9, a10, a11] := h0.set_ 1 u1
  have h2 : Blk _ q t #[u0, u1, u2, a3, a4, a5, a6, a7, a8, a9, a10, a11] := h1.set_ 2 u2
  have h3 : Blk _ q t #[u0, u1, u2, u3, a4, a5, a6, a7, a8, a9, a10, a11] := h2.set_ 3 u3
  have h4 : Blk _ q t #[u0, u1, u2, u3, u4, a5, a6, a7, a8, a9, a10, a11] := h3.set_ 4 u4
  have h5 : Blk _ q t #[u0, u1, u2, u3, u4, u5, a6, a7, a8, a9, a10, a11] := h4.set_ 5 u5
  have h6 : Blk _ q t #[u0, u1, u2, u3, u4, u5, u6, a7, a8, a9, a10, a11] := h5.set_ 6 u6
  have h7 : Blk _ q t #[u0, u1, u2, u3, u4, u5, u6, u7, a8, a9, a10, a11] := h6.set_ 7 u7
  have h8 : Blk _ q t #[u0, u1, u2, u3, u4, u5, u6, u7, u8, a9, a10, a11] := h7.set_ 8 u8
  have h9 : Blk _ q t #[u0, u1, u2, u3, u4, u5, u6, u7, u8, u9, a10, a11] := h8.set_ 9 u9
  have h10 : Blk _ q t #[u0, u1, u2, u3, u4, u5, u6, u7, u8, u9, u10, a11] := h9.set_ 10 u10
  have h11 : Blk _ q t #[u0, u1, u2, u3, u4, u5, u6, u7, u8, u9, u10, u11] := h10.set_ 11 u11
  exact h11
theorem fr_set12 {w : World} {q : Nat} {u0 u1 u2 u3 u4 u5 u6 u7 u8 u9 u10 u11 : Value} : Fr (· = q) w ((((((((((((w.setCell ⟨q, 0, none⟩ u0).setCell ⟨q, 1, none⟩ u1).setCell ⟨q, 2, none⟩ u2).setCell ⟨q, 3, none⟩ u3).setCell ⟨q, 4, none⟩ u4).setCell ⟨q, 5, none⟩ u5).setCell ⟨q, 6, none⟩ u6).setCell ⟨q, 7, none⟩ u7).setCell ⟨q, 8, none⟩ u8).setCell ⟨q, 9, none⟩ u9).setCell ⟨q, 10, none⟩ u10).setCell ⟨q, 11, none⟩ u11) := (((((((((((((Fr.refl (· = q) w).setCell (p := ⟨q, 0, none⟩) (fun _ => rfl) u0).setCell (p := ⟨q, 1, none⟩) (fun _ => rfl) u1).setCell (p := ⟨q, 2, none⟩) (fun _ => rfl) u2).setCell (p := ⟨q, 3, none⟩) (fun _ => rfl) u3).setCell (p := ⟨q, 4, none⟩) (fun _ => rfl) u4).setCell (p := ⟨q, 5, none⟩) (fun _ => rfl) u5).setCell (p := ⟨q, 6, none⟩) (fun _ => rfl) u6).setCell (p := ⟨q, 7, none⟩) (fun _ => rfl) u7).setCell (p := ⟨q, 8, none⟩) (fun _ => rfl) u8).setCell (p := ⟨q, 9, none⟩) (fun _ => rfl) u9).setCell (p := ⟨q, 10, none⟩) (fun _ => rfl) u10).setCell (p := ⟨q, 11, none⟩) (fun _ => rfl) u11)
theorem wpList_load_blkg {P : Program} {ops : Array Oper} {rest : List Oper} {o : Oper} {a : Act} {w : World} {Q : Exit → Act → World → Prop} (hgd : Region.wanted o (yielded ops a.tmps) = true) (ty : TypeId) (x : Operand) (ho : o.op = .load ty x)
    (g : Nat) (hx : a.eval x = .pointer (some ⟨g, 0, none⟩)) (t : TypeId) (cs : Array Value) (d : TypeDesc) (hg : Blk w g t cs)
    (hu : P.underlying ty = some d) (hd : (match d with | .struct _ | .array _ _ => true | _ => false) = true) (hi : (P.info? ty).map (·.size) = some cs.size)
    (h : wpList P ops Q rest (a.put o.dst (.agg cs)) w) : wpList P ops Q (o :: rest) a w :=
  wpList_step fun K hK => by
    rw [if_pos hgd]
    unfold Oper.wp execOp
    simp only [ho, hx, Instr.loadAt, Instr.sureAddr, Sem.run_bind, Sem.run_pure, Result.andThen_ok, run_loadVar_row (P := P) w g t ty cs (0, 0) d hg hu hd hi]
    exact hK _ _ h
def DreadPost (w0 : World) (D : Dt × Int) (e : Ending) (w' : World) : Prop :=
  ∃ A cap, e = .returned (.tuple #[.agg (D.1.cells (.slice A D.1.texts.length cap)), .int .i64 D.2]) ∧ Strs w' A D.1.texts ∧ Fr (fun _ => False) w0 w' ∧ ∀ k, rowOf A k → w0.heap.size ≤ k ∧ k < w'.heap.size
set_option maxRecDepth 100000 in
set_option maxHeartbeats 8000000 in
theorem read_any (s : ByteArray) (at_ en t : Int) (w : World) (hs : s.size ≤ 999999999) (ht : -9223372036854775808 ≤ t ∧ t ≤ 9223372036854775807) :
    Calls Tryz.prog 79 #[.string s, .int .i64 at_, .int .i64 en, .int .i64 t] w (DreadPost w (dreadC s at_ en t)) := by
  have hb : Blk (w.alloc (.cells #[.bool false, .int .u64 0, .int .u64 0, .string ⟨#[]⟩, .string ⟨#[]⟩, .int .u32 0, .int .u32 0, .int .u32 0, .int .u32 0, .int .u32 0, .slice none 0 0, .string ⟨#[]⟩] 53)) w.heap.size 53 #[.bool false, .int .u64 0, .int .u64 0, .string ⟨#[]⟩, .string ⟨#[]⟩, .int .u32 0, .int .u32 0, .int .u32 0, .int .u32 0, .int .u32 0, .slice none 0 0, .string ⟨#[]⟩] := Blk.new _ _ _
  have hf : Fr (fun _ => False) w (w.alloc (.cells #[.bool false, .int .u64 0, .int .u64 0, .string ⟨#[]⟩, .string ⟨#[]⟩, .int .u32 0, .int .u32 0, .int .u32 0, .int .u32 0, .int .u32 0, .slice none 0 0, .string ⟨#[]⟩] 53)) := (Fr.refl _ _).alloc _
  obtain ⟨W, hW⟩ : ∃ W, W = w.alloc (.cells #[.bool false, .int .u64 0, .int .u64 0, .string ⟨#[]⟩, .string ⟨#[]⟩, .int .u32 0, .int .u32 0, .int .u32 0, .int .u32 0, .int .u32 0, .slice none 0 0, .string ⟨#[]⟩] 53) := ⟨_, rfl⟩
  rw [← hW] at hb hf
  have H := Lib.hid (And.intro hb hf)
  have HW := Lib.hid hW
  obtain ⟨D, hD⟩ : ∃ D, D = dreadC s at_ en t := ⟨_, rfl⟩
  rw [← hD]
  have HD := Lib.hid hD
  clear hb hf hD
  have hu : Tryz.prog.underlying 53 = _ := Tryz.underlying53
  by_cases hbad : at_ < 0 ∨ en < at_ ∨ (s.size : Int) < en ∨ ¬ (0 ≤ t ∧ t ≤ 65535)
  · have HR : Hid (D = (Dt.zero, 2)) := by show _ = _; rw [HD.out]; unfold dreadC; rw [if_pos hbad]
    have hz : Dt.zero.cells (.slice none 0 0) = #[.bool false, .int .u64 0, .int .u64 0, .string ⟨#[]⟩, .string ⟨#[]⟩, .int .u32 0, .int .u32 0, .int .u32 0, .int .u32 0, .int .u32 0, .slice none 0 0, .string ⟨#[]⟩] := rfl
    have HZ := Lib.hid hz
    clear hz
    have hmay : ¬ (at_ < 0) → ¬ (en < at_) → ¬ ((s.size : Int) < en) → decide (0 ≤ t ∧ t ≤ 65535) = false := fun a b c => decide_eq_false (by omega)
    have HM := Lib.hid hmay
    clear hmay
    go_enter Tryz.func79, Tryz.ntmps79
    go_upto_region 1 with fail
    rw [← HW.out]
    clear hW
    have hq : at_ < 0 ∨ ¬ (at_ < 0) ∧ en < at_ ∨ ¬ (at_ < 0) ∧ ¬ (en < at_) ∧ (s.size : Int) < en ∨ ¬ (at_ < 0) ∧ ¬ (en < at_) ∧ ¬ ((s.size : Int) < en) := by omega
    clear hbad
    rcases hq with a | ⟨a, b⟩ | ⟨a, b, c⟩ | ⟨a, b, c⟩
    all_goals
      try have hk := HM.out a b c
      go_wp2_with (first
        | (go_at_call 108
           (with_reducible refine (may_any t _).mono ?_)
           rintro e w' ⟨rfl, rfl⟩
           rw [hk])
        | (refine wpList_store_part rfl 53 _ _ rfl w.heap.size 0 (by rfl) _ (by rfl) 53 _ (by first | exact H.out.1 | exact H.out.1.drew) (by kernel_rfl) (by simp [Value.oneCell']) (by simp) (Dt.zero.cells (.slice none 0 0)) (by rfl) ?_
           intro w2 b2 f2
           have HN := Lib.hid (And.intro b2 f2)
           clear b2 f2))
      refine bodyPost_ret (results_cell_tmp Tryz.results79 HN.out.1 rfl rfl hu rfl (by kernel_rfl)) rfl ?_
      rw [HR.out]
      refine ⟨none, 0, rfl, Strs.nil _ _, (by first | exact H.out.2.new HN.out.2 (fun i hi => by subst hi; exact Nat.le_refl _) | exact H.out.2.drew.new HN.out.2 (fun i hi => by subst hi; exact Nat.le_refl _)), fun k hk => ?_⟩
      obtain ⟨o, h1, _⟩ := hk
      cases h1
  · obtain ⟨a, rfl⟩ : ∃ a : Nat, at_ = a := ⟨at_.toNat, by omega⟩
    obtain ⟨n, rfl⟩ : ∃ n : Nat, en = n := ⟨en.toNat, by omega⟩
    obtain ⟨R, hR⟩ : ∃ R, R = ddAll s.data.toList n (whatN t) ⟨a, 0⟩ := ⟨_, rfl⟩
    have hD : D = if R.2.e ≠ 0 then (Dt.zero, R.2.e) else if R.2.at_ < n ∨ dcheckB t R.1 ≠ 0 then (Dt.zero, 4) else (R.1, 0) := by
      rw [HD.out]
      unfold dreadC
      rw [if_neg hbad, Int.toNat_natCast, Int.toNat_natCast, ← hR]
    have HR := Lib.hid (And.intro hR hD)
    clear hR hD
    have hin := dreadB_in s.data.toList n a t R.1 (by rw [HR.out.1, ddAll_eq _ _ _ _ ⟨t, rfl⟩])
    have HI := Lib.hid hin
    clear hin
    have han : a ≤ n ∧ n ≤ s.size ∧ 0 ≤ t ∧ t ≤ 65535 := by omega
    have c1 : ¬ ((a : Int) < 0) := by omega
    have c2 : ¬ ((n : Int) < a) := by omega
    have c3 : ¬ ((s.size : Int) < n) := by omega
    have hk : decide (0 ≤ t ∧ t ≤ 65535) = true := decide_eq_true han.2.2
    have HN := Lib.hid han
    clear hbad han
    have hsl : ∀ w : World, (Instr.slice 9 (.string s) none (some (.int .i64 (n : Int))) none).run Tryz.prog w = .ok (.string (s.extract 0 n)) w := fun w => by
      rw [run_slice_string_h (P := Tryz.prog) w 9 s Tryz.underlying9 .i64 _ (by omega) (by omega), Int.toNat_natCast]
    go_enter Tryz.func79, Tryz.ntmps79
    go_upto_region 1 with fail
    rw [← HW.out]
    clear hW
    go_upto_region 3 with (first
        | (go_at_call 108
           (with_reducible refine (may_any t _).mono ?_)
           rintro e w' ⟨rfl, rfl⟩
           rw [hk]))
    go_region_held3 (fun _ => True)
      (exact trivial)
      (first
        | (go_at_call 72
           (with_reducible refine (newReader_c (s.extract 0 n) (by rw [ext_size HN.out.2.1]; have := HN.out.2.1; omega) _).mono ?_)
           rintro e w1 ⟨r, rfl, h1, f1, z1⟩))
    have hr : r < w1.heap.size := World.block_lt_of_cell? w1 ⟨r, 0, none⟩ (h1.1.cell 0)
    obtain ⟨W3, hW3⟩ : ∃ W3, W3 = w1.alloc (.cells #[.pointer (some ⟨r, 0, none⟩), .string (s.extract 0 n), .int .i64 0, .string s] 167) := ⟨_, rfl⟩
    have hc : CuIn W3 w1.heap.size r s n ⟨0, 0⟩ := by
      rw [hW3]
      exact ⟨Blk.new _ _ _, h1.fr ((Fr.refl (fun _ => False) _).alloc _) id, by omega, HN.out.2.1, by omega⟩
    have hf3 : Fr (fun _ => False) W W3 := by rw [hW3]; exact f1.fromD.alloc _
    have hp0 : W.heap.size ≤ w1.heap.size ∧ W.heap.size ≤ r := ⟨f1.fromD.size, z1⟩
    rw [← hW3]
    generalize w1.heap.size = p at *
    have H3 := Lib.hid (And.intro hc (And.intro hf3 hp0))
    have k0 := hc.blk.cell 0
    simp only [List.getElem?_toArray, List.getElem?_cons_zero, List.getElem?_cons_succ] at k0
    clear hc hf3 hp0 hW3 h1 f1 z1 hr
    go_upto_region 5 with (first
      | (go_at_call 105
         (with_reducible refine (seek_any r ⟨s.extract 0 n, 0⟩ (a : Int) _ H3.out.1.rd).mono ?_)
         rintro e w4 ⟨rfl, h4, f4⟩
         have hsk : (Rst.mk (s.extract 0 n) 0).seek (a : Int) = (Rst.mk (s.extract 0 n) a, 0) := by
            unfold Rst.seek
            rw [if_neg]
            · rw [Int.toNat_natCast]
            · dsimp only
              rw [ext_size HN.out.2.1]
              have := HN.out.1
              omega
         rw [hsk] at h4 ⊢
         have H4 := Lib.hid (And.intro (show CuIn w4 p r s n ⟨a, 0⟩ from ⟨H3.out.1.blk.fr f4 H3.out.1.ne, h4, H3.out.1.ne, H3.out.1.en, H3.out.1.s⟩) (H3.out.2.1.step f4 (fun i hi => .inr (by subst hi; exact H3.out.2.2.2))))
         clear hsk h4 f4 k0))
    go_upto_region 6 with (first
      | (go_at_call 98
         (with_reducible refine (of_any t ht _).mono ?_)
         rintro e w5 ⟨rfl, f5⟩
         have H5 := Lib.hid (And.intro (H4.out.1.fr0 f5) (H4.out.2.then f5))
         clear f5)
      | (go_at_call 109
         (with_reducible refine (data_any p r s n ⟨a, 0⟩ (whatN t) (textN t) _ H5.out.1 ⟨t, rfl⟩ (by omega)).mono ?_)
         rintro e w6 ⟨A, cap, rfl, hc6, hs6, hf6, hr6⟩
         rw [← HR.out.1] at hc6 hs6 ⊢
         have H6 := Lib.hid (And.intro hc6 (And.intro hs6 (And.intro (H5.out.2.step hf6 (fun i hi => .inr (by rcases hi with rfl | rfl; exact H3.out.2.2.1; exact H3.out.2.2.2))) (And.intro (fun k hk => (⟨Nat.le_trans H5.out.2.size (hr6 k hk).1, (hr6 k hk).2⟩ : W.heap.size ≤ k ∧ k < w6.heap.size)) (And.intro H3.out.2.2.1 H3.out.2.2.2)))))
         clear hc6 hs6 hf6 hr6
         unfold Dt.cells)
      | (refine wpList_store_part rfl 53 _ _ rfl w6.heap.size 0 (by rfl) _ (by rfl) 53 _ (Blk.new _ _ _) (by kernel_rfl) (by simp [Value.oneCell']) (by simp) (R.1.cells (.slice A R.1.texts.length cap)) (by rfl) ?_
         intro w7 b7 f7
         have H7 := Lib.hid (And.intro b7 (((Fr.refl (fun _ => False) w6).alloc _).new f7 (fun i hi => by subst hi; exact Nat.le_refl _)))
         clear b7 f7))
    have hc7 : CuIn w7 p r s n R.2 := H6.out.1.fr0 H7.out.2
    have hf7 : Fr (fun _ => False) w w7 := H.out.2.then (H6.out.2.2.1.then H7.out.2)
    have hb7 := H.out.1.fr (H6.out.2.2.1.then H7.out.2) id
    have hd7 : Blk w7 w6.heap.size 53 #[.bool R.1.six, .int .u64 R.1.hi, .int .u64 R.1.lo, .string R.1.name, .string R.1.mail, .int .u32 R.1.n0, .int .u32 R.1.n1, .int .u32 R.1.n2, .int .u32 R.1.n3, .int .u32 R.1.n4, .slice A R.1.texts.length cap, .string R.1.raw] := H7.out.1
    have e0 := hc7.blk.cell 0
    have e2 := hc7.blk.cell 2
    simp only [List.getElem?_toArray, List.getElem?_cons_zero, List.getElem?_cons_succ] at e0 e2
    have hst : Strs w7 A R.1.texts := H6.out.2.1.fr0 H7.out.2
    have hrow : ∀ k, rowOf A k → W.heap.size ≤ k ∧ k < w7.heap.size := fun k hk => ⟨(H6.out.2.2.2.1 k hk).1, Nat.lt_of_lt_of_le (H6.out.2.2.2.1 k hk).2 H7.out.2.size⟩
    have hW1 : w.heap.size < W.heap.size := by rw [HW.out]; show w.heap.size < (w.heap.push _).size; rw [Array.size_push]; exact Nat.lt_succ_self _
    have HC := Lib.hid (And.intro hc7 (And.intro hf7 (And.intro hb7 (And.intro hd7 (And.intro hst (And.intro hrow hW1))))))
    clear hc7 hf7 hb7 hd7 hst hrow hW1
    by_cases he : R.2.e = 0
    · have he' : (R.2.e != 0) = false := by simp [he]
      have hD0 : D = if R.2.at_ < n ∨ dcheckB t R.1 ≠ 0 then (Dt.zero, 4) else (R.1, 0) := by rw [HR.out.2, if_neg (by simp [he])]
      have HD0 := Lib.hid hD0
      have hxn : R.2.at_ ≤ n := HC.out.1.at_
      have HX := Lib.hid hxn
      have hll : R.1.texts.length ≤ 1000000000 ∧ R.1.raw.size ≤ 1000000000000 := by
        have h1 := HI.out.2.2.2
        have h2 := HN.out.2.1
        omega
      have HL := Lib.hid hll
      clear hD0 hxn hll
      by_cases hlt : R.2.at_ < n
      · have hD : D = (Dt.zero, 4) := HD0.out.trans (if_pos (.inl hlt))
        have hl0 : 0 < (n : Int) - (R.2.at_ : Int) := by omega
        go_wp2_with (first
          | (go_at_call 107
             (with_reducible refine (left_any r ⟨s.extract 0 n, R.2.at_⟩ _ HC.out.1.rd).mono ?_)
             rintro e w8 ⟨rfl, nq, rfl⟩
             dsimp only
             rw [ext_size HN.out.2.1])
          | (refine wpList_store_part rfl 53 _ _ rfl w.heap.size 0 (by rfl) _ (by rfl) 53 _ (HC.out.2.2.1.drewN _) (by kernel_rfl) (by simp [Value.oneCell']) (by simp) (Dt.zero.cells (.slice none 0 0)) (by rfl) ?_
             intro w9 b9 f9
             have H9 := Lib.hid (And.intro b9 f9)
             clear b9 f9))
        refine bodyPost_ret (results_cell_tmp Tryz.results79 H9.out.1 rfl rfl hu rfl (by kernel_rfl)) rfl ?_
        rw [hD]
        refine ⟨none, 0, rfl, Strs.nil _ _, (HC.out.2.1.drewN _).new H9.out.2 (fun i hi => by subst hi; exact Nat.le_refl _), fun k hk => ?_⟩
        obtain ⟨o, h1, _⟩ := hk
        cases h1
      · have hl0 : ¬ (0 < (n : Int) - (R.2.at_ : Int)) := by have := HX.out; omega
        obtain ⟨v, hv⟩ : ∃ v, v = dcheckB t R.1 := ⟨_, rfl⟩
        have HV := Lib.hid hv
        clear hv
        have hdt : ∀ k, DtIn (w7.drewN k) A R.1 := fun k => ⟨HI.out.1, HI.out.2.1, HI.out.2.2.1, HC.out.2.2.2.2.1.fr0 ((Fr.refl (fun _ => False) w7).drewN k), HL.out.1, HL.out.2⟩
        have HT := Lib.hid hdt
        clear hdt
        by_cases hv0 : v = 0
        · have hD : D = (R.1, 0) := HD0.out.trans (if_neg (by rw [← HV.out]; simp [hlt, hv0]))
          have hv1 : (v != 0) = false := by simp [hv0]
          go_wp2_with (first
            | (go_at_call 107
               (with_reducible refine (left_any r ⟨s.extract 0 n, R.2.at_⟩ _ HC.out.1.rd).mono ?_)
               rintro e w8 ⟨rfl, nq, rfl⟩
               dsimp only
               rw [ext_size HN.out.2.1])
            | (refine wpList_load_blkg (by rfl) 53 _ rfl w6.heap.size (by rfl) 53 _ _ (HC.out.2.2.2.1.drewN _) Tryz.underlying53 rfl (by kernel_rfl) ?_)
            | (refine wpList_load_blk rfl 53 _ rfl w6.heap.size (by rfl) 53 _ _ H8.out.2.2 Tryz.underlying53 rfl (by kernel_rfl) ?_)
            | (go_at_call 60
               (with_reducible refine (dCheck_any t R.1 A cap _ (HT.out _) ht).mono ?_)
               rintro e w8 ⟨rfl, f8⟩
               rw [← HV.out]
               have H8 := Lib.hid (And.intro f8.fromN (And.intro (HC.out.2.2.1.fr f8.fromN id) (HC.out.2.2.2.1.fr f8.fromN id)))
               clear f8)
            | (refine wpList_store_part rfl 53 _ _ rfl w.heap.size 0 (by rfl) _ (by rfl) 53 _ H8.out.2.1 (by kernel_rfl) (by simp [Value.oneCell']) (by simp) (R.1.cells (.slice A R.1.texts.length cap)) (by rfl) ?_
               intro w9 b9 f9
               have H9 := Lib.hid (And.intro b9 f9)
               clear b9 f9))
          refine bodyPost_ret (results_cell_tmp Tryz.results79 H9.out.1 rfl rfl hu rfl (by kernel_rfl)) rfl ?_
          try rw [hD]
          have hf8 : Fr (fun _ => False) w w8 := HC.out.2.1.then H8.out.1
          refine ⟨A, cap, rfl, (HC.out.2.2.2.2.1.fr0 H8.out.1).fr H9.out.2 (fun k hk e => ?_), hf8.new H9.out.2 (fun i hi => by subst hi; exact Nat.le_refl _), fun k hk => ⟨?_, ?_⟩⟩
          · have h1 := HC.out.2.2.2.2.2.1 k hk
            have h2 := HC.out.2.2.2.2.2.2
            omega
          · have h1 := HC.out.2.2.2.2.2.1 k hk
            have h2 := HC.out.2.2.2.2.2.2
            omega
          · exact Nat.lt_of_lt_of_le (HC.out.2.2.2.2.2.1 k hk).2 (Nat.le_trans H8.out.1.size H9.out.2.size)
        · have hD : D = (Dt.zero, 4) := HD0.out.trans (if_pos (.inr (by rw [← HV.out]; exact hv0)))
          have hv1 : (v != 0) = true := by simp [hv0]
          go_wp2_with (first
            | (go_at_call 107
               (with_reducible refine (left_any r ⟨s.extract 0 n, R.2.at_⟩ _ HC.out.1.rd).mono ?_)
               rintro e w8 ⟨rfl, nq, rfl⟩
               dsimp only
               rw [ext_size HN.out.2.1])
            | (refine wpList_load_blkg (by rfl) 53 _ rfl w6.heap.size (by rfl) 53 _ _ (HC.out.2.2.2.1.drewN _) Tryz.underlying53 rfl (by kernel_rfl) ?_)
            | (go_at_call 60
               (with_reducible refine (dCheck_any t R.1 A cap _ (HT.out _) ht).mono ?_)
               rintro e w8 ⟨rfl, f8⟩
               rw [← HV.out]
               have H8 := Lib.hid (And.intro f8.fromN (And.intro (HC.out.2.2.1.fr f8.fromN id) (HC.out.2.2.2.1.fr f8.fromN id)))
               clear f8)
            | (refine wpList_store_part rfl 53 _ _ rfl w.heap.size 0 (by rfl) _ (by rfl) 53 _ H8.out.2.1 (by kernel_rfl) (by simp [Value.oneCell']) (by simp) (Dt.zero.cells (.slice none 0 0)) (by rfl) ?_
               intro w9 b9 f9
               have H9 := Lib.hid (And.intro b9 f9)
               clear b9 f9))
          refine bodyPost_ret (results_cell_tmp Tryz.results79 H9.out.1 rfl rfl hu rfl (by kernel_rfl)) rfl ?_
          try rw [hD]
          refine ⟨none, 0, rfl, Strs.nil _ _, (HC.out.2.1.then H8.out.1).new H9.out.2 (fun i hi => by subst hi; exact Nat.le_refl _), fun k hk => ?_⟩
          obtain ⟨o, h1, _⟩ := hk
          cases h1
    · have hD : D = (Dt.zero, R.2.e) := HR.out.2.trans (if_pos he)
      have hne : (R.2.e != 0) = true := by simp [he]
      go_upto_region 7 with fail
      have HB := Lib.hid HC.out.2.2.1
      have c0 := HB.out.cell 0
      have f0 := HB.out.frozen 0
      have c1 := HB.out.cell 1
      have f1 := HB.out.frozen 1
      have c2 := HB.out.cell 2
      have f2 := HB.out.frozen 2
      have c3 := HB.out.cell 3
      have f3 := HB.out.frozen 3
      have c4 := HB.out.cell 4
      have f4 := HB.out.frozen 4
      have c5 := HB.out.cell 5
      have f5 := HB.out.frozen 5
      have c6 := HB.out.cell 6
      have f6 := HB.out.frozen 6
      have c7 := HB.out.cell 7
      have f7 := HB.out.frozen 7
      have c8 := HB.out.cell 8
      have f8 := HB.out.frozen 8
      have c9 := HB.out.cell 9
      have f9 := HB.out.frozen 9
      have c10 := HB.out.cell 10
      have f10 := HB.out.frozen 10
      have c11 := HB.out.cell 11
      have f11 := HB.out.frozen 11
      simp only [List.getElem?_toArray, List.getElem?_cons_zero, List.getElem?_cons_succ] at c0 c1 c2 c3 c4 c5 c6 c7 c8 c9 c10 c11
      have hpw : w.heap.size < p := Nat.lt_of_lt_of_le HC.out.2.2.2.2.2.2 H3.out.2.2.1
      have d2 : w7.cell? ⟨p, 2, none⟩ = some (.int .i64 R.2.e) := e2
      clear e0 e2
      go_region
      go_wp2_with fail
      refine bodyPost_ret (results_cell_tmp Tryz.results79 (Blk.drew (blk_set12 HB.out)) rfl rfl hu rfl (by kernel_rfl)) rfl ?_
      rw [hD]
      refine ⟨none, 0, rfl, Strs.nil _ _, HC.out.2.1.new (Fr.drew fr_set12) (fun i hi => by subst hi; exact Nat.le_refl _), fun k hk => ?_⟩
      obtain ⟨o, h1, _⟩ := hk
      cases h1
end Go.Proofs.YtmbgejiahmhffaaGreat

/-
  LAYER 9: slices.Equal of rows of strings; rdata.Same.
-/
namespace Go.Proofs.YtmbgejiahmhffaaGreat
set_option linter.unusedVariables false
set_option linter.unusedSimpArgs false
open Go.RowKit

theorem lists_eq {l m : List ByteArray} (h : l.length = m.length) (hk : ∀ k, k < l.length → l[k]? = m[k]?) : l = m := by
  apply List.ext_getElem?
  intro i
  by_cases hi : i < l.length
  · exact hk i hi
  · rw [List.getElem?_eq_none (by omega), List.getElem?_eq_none (by omega)]
def EqPost (w : World) (b : Bool) (e : Ending) (w' : World) : Prop := e = .returned (.bool b) ∧ Fr (fun _ => False) w w'
set_option maxRecDepth 100000 in
set_option maxHeartbeats 1600000 in
theorem equals_any (A B : Option Addr) (c1 c2 : Nat) (l m : List ByteArray) (w : World) (h : Strs w A l) (g : Strs w B m) (hl : l.length ≤ 1000000000) (hm : m.length ≤ 1000000000) :
    Calls Tryz.prog 117 #[.slice A l.length c1, .slice B m.length c2] w (EqPost w (decide (l = m))) := by
  by_cases hn : l.length = m.length
  · have hne : ((l.length : Int) != m.length) = false := by simp [hn]
    have HN := Lib.hid hn
    clear hn
    rcases h.form with rfl | ⟨b, off, rfl, hlt, hc⟩
    · have hm0 : m = [] := List.eq_nil_of_length_eq_zero HN.out.symm
      subst hm0
      have hd : decide (([] : List ByteArray) = []) = true := by simp
      rw [hd]
      go_enter Tryz.func117, Tryz.ntmps117
      go_wp2_with fail
      go_loopg [13] 0 (fun g i wr => g = 0 ∧ i = .int .i64 0 ∧ Fr (fun _ => False) w wr)
      case atStart => exact ⟨rfl, rfl, Fr.refl _ _⟩
      case round =>
        obtain ⟨rfl, rfl, hf⟩ := hrel
        go_wp2_with fail
        go_ret
        exact ⟨rfl, hf⟩
    · rcases g.form with rfl | ⟨b', off', rfl, hlt', hc'⟩
      · have hl0 : l = [] := List.eq_nil_of_length_eq_zero HN.out
        subst hl0
        have hd : decide (([] : List ByteArray) = []) = true := by simp
        rw [hd]
        clear h g hc
        go_enter Tryz.func117, Tryz.ntmps117
        go_wp2_with fail
        go_loopg [13] 0 (fun g i wr => g = 0 ∧ i = .int .i64 0 ∧ Fr (fun _ => False) w wr)
        case atStart => exact ⟨rfl, rfl, Fr.refl _ _⟩
        case round =>
          obtain ⟨rfl, rfl, hf⟩ := hrel
          go_wp2_with fail
          go_ret
          exact ⟨rfl, hf⟩
      · have HC := Lib.hid (And.intro hc (And.intro hc' (And.intro hlt hlt')))
        obtain ⟨D, hD⟩ : ∃ D, D = decide (l = m) := ⟨_, rfl⟩
        rw [← hD]
        have HD := Lib.hid hD
        clear h g hc hc' hlt hlt' hD
        go_enter Tryz.func117, Tryz.ntmps117
        go_wp2_with fail
        go_loopg [13] l.length (fun g i wr => ∃ j : Nat, j ≤ l.length ∧ g = l.length - j ∧ i = .int .i64 j ∧ Fr (fun _ => False) w wr ∧ ∀ k, k < j → l[k]? = m[k]?)
        case atStart => exact ⟨0, Nat.zero_le _, rfl, rfl, Fr.refl _ _, fun k hk => by omega⟩
        case round =>
          obtain ⟨j, hj, hg, rfl, hf, hk⟩ := hrel
          have HF := Lib.hid (And.intro hf (And.intro hg hk))
          clear hf hg hk
          by_cases hlt : j < l.length
          · obtain ⟨x, hx⟩ : ∃ x, l[j]? = some x := ⟨l[j], List.getElem?_eq_getElem hlt⟩
            obtain ⟨y, hy⟩ : ∃ y, m[j]? = some y := ⟨m[j]'(by have := HN.out; omega), List.getElem?_eq_getElem _⟩
            have hlm : j < m.length := by have := HN.out; omega
            have k1 : wr.cell? ⟨b, off + j, none⟩ = some (.string x) := (HF.out.1.cell (p := ⟨b, off + j, none⟩) HC.out.2.2.1 id).trans (HC.out.1 j x hx)
            have k2 : wr.cell? ⟨b', off' + j, none⟩ = some (.string y) := (HF.out.1.cell (p := ⟨b', off' + j, none⟩) HC.out.2.2.2 id).trans (HC.out.2.1 j y hy)
            have HX := Lib.hid (And.intro hx hy)
            clear hx hy
            by_cases he : x = y
            · subst he
              have he' : (x.toList == x.toList) = true := beq_self_eq_true _
              go_wp2_with fail
              go_quiet (fail)
              go_wp2_with fail
              go_roundg (l.length - (j + 1))
              case rel =>
                refine ⟨j + 1, by omega, rfl, by go_num, (by first | exact HF.out.1.drew | exact HF.out.1.drewN _), fun k hk => ?_⟩
                by_cases e : k = j
                · subst e
                  rw [HX.out.1, HX.out.2]
                · exact HF.out.2.2 k (by omega)
              case measure => have := HF.out.2.1; omega
            · have he' : (x.toList == y.toList) = false := by
                rw [beq_eq_false_iff_ne, ByteArray.toList_eq, ByteArray.toList_eq]
                exact fun e => he (ByteArray.ext (Array.ext' e))
              have hD : D = false := by
                rw [HD.out]
                refine decide_eq_false fun e => he ?_
                have h1 := HX.out.1
                rw [e, HX.out.2] at h1
                injection h1 with h1
                exact h1.symm
              go_wp2_with fail
              go_quiet (fail)
              go_wp2_with fail
              go_ret
              exact ⟨by first | rfl | (rw [hD]; rfl), (by first | exact HF.out.1.drew | exact HF.out.1.drewN _)⟩
          · have hD : D = true := by
              rw [HD.out]
              exact decide_eq_true (lists_eq HN.out fun k hk => HF.out.2.2 k (by omega))
            go_wp2_with fail
            go_ret
            exact ⟨by first | rfl | (rw [hD]; rfl), HF.out.1⟩
  · have hne : ((l.length : Int) != m.length) = true := by rw [bne_iff_ne]; omega
    have hd : decide (l = m) = false := decide_eq_false fun e => hn (by rw [e])
    rw [hd]
    clear h g hn
    go_enter Tryz.func117, Tryz.ntmps117
    go_wp2_with fail
    go_ret
    exact ⟨rfl, Fr.refl _ _⟩
end Go.Proofs.YtmbgejiahmhffaaGreat

/-
  LAYER 9: rdata.Same.
-/
namespace Go.Proofs.YtmbgejiahmhffaaGreat
set_option linter.unusedVariables false
set_option linter.unusedSimpArgs false
open Go.RowKit

theorem wpList_load_partg {P : Program} {w : World} {ops : Array Oper} {rest : List Oper} {o : Oper} {a : Act} {Q : Exit → Act → World → Prop} (hgd : Region.wanted o (yielded ops a.tmps) = true) (ty : TypeId) (x : Operand) (ho : o.op = .load ty x)
    (g off : Nat) (hx : a.eval x = .pointer (some ⟨g, off, none⟩)) (t : TypeId) (cs : Array Value) (n : Nat) (d : TypeDesc) (hg : Blk w g t cs)
    (hu : P.underlying ty = some d) (hd : (match d with | .struct _ | .array _ _ => true | _ => false) = true) (hi : (P.info? ty).map (·.size) = some n) (hn : off + n ≤ cs.size)
    (v : Array Value) (hv : cs.extract off (off + n) = v)
    (h : wpList P ops Q rest (a.put o.dst (.agg v)) w) : wpList P ops Q (o :: rest) a w :=
  wpList_step fun K hK => by
    rw [if_pos hgd]
    unfold Oper.wp execOp
    simp only [ho, hx, Instr.loadAt, Instr.sureAddr, Sem.run_bind, Sem.run_pure, Result.andThen_ok, run_loadVar_part n off hg hu hd hi hn, hv]
    exact hK _ _ h
def numsB (a b : Dt) : Bool := decide (a.n0 = b.n0 ∧ a.n1 = b.n1 ∧ a.n2 = b.n2 ∧ a.n3 = b.n3 ∧ a.n4 = b.n4)
def sameB (a b : Dt) : Bool := decide (a.six = b.six ∧ a.hi = b.hi ∧ a.lo = b.lo) && (a.name.toList == b.name.toList) && (a.mail.toList == b.mail.toList) && numsB a b && (a.raw.toList == b.raw.toList) && decide (a.texts = b.texts)
theorem toList_inj {x y : ByteArray} (h : (x.toList == y.toList) = true) : x = y := by
  rw [beq_iff_eq, ByteArray.toList_eq, ByteArray.toList_eq] at h
  exact ByteArray.ext (Array.ext' h)
theorem sameB_iff (a b : Dt) : sameB a b = true ↔ a = b := by
  constructor
  · intro h
    simp only [sameB, numsB, Bool.and_eq_true, decide_eq_true_eq] at h
    obtain ⟨⟨⟨⟨⟨⟨h1, h2, h3⟩, h4⟩, h5⟩, h6, h7, h8, h9, h10⟩, h11⟩, h12⟩ := h
    have h4 := toList_inj h4
    have h5 := toList_inj h5
    have h11 := toList_inj h11
    cases a
    cases b
    simp only at *
    subst h1 h2 h3 h4 h5 h6 h7 h8 h9 h10 h11 h12
    rfl
  · rintro rfl
    simp [sameB, numsB]
set_option maxRecDepth 100000 in
set_option maxHeartbeats 8000000 in
theorem dsame_any (a b : Dt) (A B : Option Addr) (c1 c2 : Nat) (w : World) (ha : DtIn w A a) (hb : DtIn w B b) :
    Calls Tryz.prog 91 #[.agg #[.bool a.six, .int .u64 a.hi, .int .u64 a.lo, .string a.name, .string a.mail, .int .u32 a.n0, .int .u32 a.n1, .int .u32 a.n2, .int .u32 a.n3, .int .u32 a.n4, .slice A a.texts.length c1, .string a.raw], .agg #[.bool b.six, .int .u64 b.hi, .int .u64 b.lo, .string b.name, .string b.mail, .int .u32 b.n0, .int .u32 b.n1, .int .u32 b.n2, .int .u32 b.n3, .int .u32 b.n4, .slice B b.texts.length c2, .string b.raw]] w (EqPost w (sameB a b)) := by
  have b1 := (Blk.new w 53 #[.bool a.six, .int .u64 a.hi, .int .u64 a.lo, .string a.name, .string a.mail, .int .u32 a.n0, .int .u32 a.n1, .int .u32 a.n2, .int .u32 a.n3, .int .u32 a.n4, .slice A a.texts.length c1, .string a.raw]).alloc (.cells #[.bool b.six, .int .u64 b.hi, .int .u64 b.lo, .string b.name, .string b.mail, .int .u32 b.n0, .int .u32 b.n1, .int .u32 b.n2, .int .u32 b.n3, .int .u32 b.n4, .slice B b.texts.length c2, .string b.raw] 53)
  have b2 := Blk.new (w.alloc (.cells #[.bool a.six, .int .u64 a.hi, .int .u64 a.lo, .string a.name, .string a.mail, .int .u32 a.n0, .int .u32 a.n1, .int .u32 a.n2, .int .u32 a.n3, .int .u32 a.n4, .slice A a.texts.length c1, .string a.raw] 53)) 53 #[.bool b.six, .int .u64 b.hi, .int .u64 b.lo, .string b.name, .string b.mail, .int .u32 b.n0, .int .u32 b.n1, .int .u32 b.n2, .int .u32 b.n3, .int .u32 b.n4, .slice B b.texts.length c2, .string b.raw]
  rw [World.size_alloc] at b2
  have hf : Fr (fun _ => False) w ((w.alloc (.cells #[.bool a.six, .int .u64 a.hi, .int .u64 a.lo, .string a.name, .string a.mail, .int .u32 a.n0, .int .u32 a.n1, .int .u32 a.n2, .int .u32 a.n3, .int .u32 a.n4, .slice A a.texts.length c1, .string a.raw] 53)).alloc (.cells #[.bool b.six, .int .u64 b.hi, .int .u64 b.lo, .string b.name, .string b.mail, .int .u32 b.n0, .int .u32 b.n1, .int .u32 b.n2, .int .u32 b.n3, .int .u32 b.n4, .slice B b.texts.length c2, .string b.raw] 53)) := ((Fr.refl _ _).alloc _).alloc _
  have q1 : ∀ w, (Go.binOp .eql 49 (.agg #[.bool a.six, .int .u64 a.hi, .int .u64 a.lo]) (.agg #[.bool b.six, .int .u64 b.hi, .int .u64 b.lo])).run Tryz.prog w = .ok (.bool (decide (a.six = b.six ∧ a.hi = b.hi ∧ a.lo = b.lo))) w := fun w => adr_eql _ _ _ _ _ _ ha.hi ha.lo hb.hi hb.lo w
  have q4 : ∀ w, (Go.binOp .eql 50 (.agg #[.int .u32 a.n0, .int .u32 a.n1, .int .u32 a.n2, .int .u32 a.n3, .int .u32 a.n4]) (.agg #[.int .u32 b.n0, .int .u32 b.n1, .int .u32 b.n2, .int .u32 b.n3, .int .u32 b.n4])).run Tryz.prog w = .ok (.bool (numsB a b)) w := fun w => nums_eql a b ha.num hb.num w
  obtain ⟨W, hW⟩ : ∃ W, W = ((w.alloc (.cells #[.bool a.six, .int .u64 a.hi, .int .u64 a.lo, .string a.name, .string a.mail, .int .u32 a.n0, .int .u32 a.n1, .int .u32 a.n2, .int .u32 a.n3, .int .u32 a.n4, .slice A a.texts.length c1, .string a.raw] 53)).alloc (.cells #[.bool b.six, .int .u64 b.hi, .int .u64 b.lo, .string b.name, .string b.mail, .int .u32 b.n0, .int .u32 b.n1, .int .u32 b.n2, .int .u32 b.n3, .int .u32 b.n4, .slice B b.texts.length c2, .string b.raw] 53)) := ⟨_, rfl⟩
  rw [← hW] at b1 b2 hf
  have H := Lib.hid (And.intro b1 (And.intro b2 hf))
  have HW := Lib.hid hW
  have HS := Lib.hid (And.intro (ha.txt.fr0 hf) (And.intro (hb.txt.fr0 hf) (And.intro ha.len hb.len)))
  clear b1 b2 hf ha hb
  generalize hR : sameB a b = R
  unfold sameB at hR
  generalize decide (a.six = b.six ∧ a.hi = b.hi ∧ a.lo = b.lo) = B1 at *
  generalize numsB a b = B4 at *
  generalize h2 : (a.name.toList == b.name.toList) = B2 at *
  generalize h3 : (a.mail.toList == b.mail.toList) = B3 at *
  generalize h5 : (a.raw.toList == b.raw.toList) = B5 at *
  have ca3 := H.out.1.cell 3
  have ca4 := H.out.1.cell 4
  have ca10 := H.out.1.cell 10
  have ca11 := H.out.1.cell 11
  have cb3 := H.out.2.1.cell 3
  have cb4 := H.out.2.1.cell 4
  have cb10 := H.out.2.1.cell 10
  have cb11 := H.out.2.1.cell 11
  simp only [List.getElem?_toArray, List.getElem?_cons_zero, List.getElem?_cons_succ] at ca3 ca4 ca10 ca11 cb3 cb4 cb10 cb11
  have hB : B1 = false ∨ B1 = true ∧ B2 = false ∨ B1 = true ∧ B2 = true ∧ B3 = false ∨ B1 = true ∧ B2 = true ∧ B3 = true ∧ B4 = false ∨ B1 = true ∧ B2 = true ∧ B3 = true ∧ B4 = true ∧ B5 = false ∨ B1 = true ∧ B2 = true ∧ B3 = true ∧ B4 = true ∧ B5 = true := by
    cases B1 <;> cases B2 <;> cases B3 <;> cases B4 <;> cases B5 <;> simp
  rcases hB with rfl | ⟨rfl, rfl⟩ | ⟨rfl, rfl, rfl⟩ | ⟨rfl, rfl, rfl, rfl⟩ | ⟨rfl, rfl, rfl, rfl, rfl⟩ | ⟨rfl, rfl, rfl, rfl, rfl⟩
  all_goals
    have HR := Lib.hid hR
    clear hR
    go_enter Tryz.func91, Tryz.ntmps91
    go_upto_region 1 with fail
    rw [← HW.out]
    clear hW
    go_wp2_with (first
      | (refine wpList_load_part rfl 49 _ rfl w.heap.size 0 (by rfl) 53 _ 3 _ H.out.1 Tryz.underlying49 rfl (by kernel_rfl) (by simp) #[.bool a.six, .int .u64 a.hi, .int .u64 a.lo] (by rfl) ?_)
      | (refine wpList_load_part rfl 49 _ rfl (w.heap.size + 1) 0 (by rfl) 53 _ 3 _ H.out.2.1 Tryz.underlying49 rfl (by kernel_rfl) (by simp) #[.bool b.six, .int .u64 b.hi, .int .u64 b.lo] (by rfl) ?_)
      | (refine wpList_load_partg (by rfl) 50 _ rfl w.heap.size 5 (by rfl) 53 _ 5 _ H.out.1 Tryz.underlying50 rfl (by kernel_rfl) (by simp) #[.int .u32 a.n0, .int .u32 a.n1, .int .u32 a.n2, .int .u32 a.n3, .int .u32 a.n4] (by rfl) ?_)
      | (refine wpList_load_partg (by rfl) 50 _ rfl (w.heap.size + 1) 5 (by rfl) 53 _ 5 _ H.out.2.1 Tryz.underlying50 rfl (by kernel_rfl) (by simp) #[.int .u32 b.n0, .int .u32 b.n1, .int .u32 b.n2, .int .u32 b.n3, .int .u32 b.n4] (by rfl) ?_)
      | (go_at_call 117
         (with_reducible refine (equals_any A B c1 c2 a.texts b.texts _ HS.out.1 HS.out.2.1 HS.out.2.2.1 HS.out.2.2.2).mono ?_)
         rintro e w2 ⟨rfl, f2⟩
         have H2 := Lib.hid f2
         clear f2))
    go_ret
    rw [← HR.out]
    first
      | exact ⟨rfl, H.out.2.2⟩
      | exact ⟨rfl, H.out.2.2.then H2.out⟩
end Go.Proofs.YtmbgejiahmhffaaGreat
