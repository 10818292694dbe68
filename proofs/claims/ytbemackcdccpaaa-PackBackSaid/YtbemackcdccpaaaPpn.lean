/-
  LAYER 7: THE PROGRAM's PACKER: names.
-/
import Derived.Test.YtbemackcdccpaaaPpk
import Derived.BigQuiet
namespace Go.Proofs.Ytbemackcdccpaaa
open Go.RowKit Go.Maps

set_option maxRecDepth 100000 in
set_option maxHeartbeats 4000000 in
theorem pplain_any (q : Nat) (F : Nat → Prop) (y : Pk) (bg : List Int) (n : ByteArray) (w : World) (h : PPk w q F y bg) (hb : y.x.b.length ≤ 999999000) :
    Calls Try.prog 60 #[.pointer (some ⟨q, 0, none⟩), .string n] w (PPkPost w q F bg (y.plain n)) := by
  have H := Lib.hid h
  clear h
  by_cases he : y.x.e = 0
  · by_cases hk : ckN n = 0
    · have hs : y.x.b.length + n.size + 4 ≤ 1000000000 := by have := (ckN_ok hk).1; omega
      have hr : y.plain n = (⟨(y.x.put (n ++ ⟨#[0]⟩).data.toList).1, y.get⟩, (y.x.put (n ++ ⟨#[0]⟩).data.toList).2) := by
        unfold Pk.plain
        rw [if_neg (by simp [he]), if_neg (by simp [hk])]
        simp [ByteArray.data_append]
      rw [hr]
      clear hr
      have ha : ∀ w, (Op.stringOp .add n ⟨#[0]⟩).run Try.prog w = .ok (.string (n ++ ⟨#[0]⟩)) w := fun w => run_string_add_sum w _ _ (by rw [show (⟨#[0]⟩ : ByteArray).size = 1 from rfl]; omega)
      have hsz : (n ++ ⟨#[0]⟩ : ByteArray).size = n.size + 1 := by rw [ByteArray.size_append]; rfl
      generalize n ++ ⟨#[0]⟩ = s at *
      obtain ⟨p, G, c0, hw, _, _, hup⟩ := H.out.writer
      have HW := Lib.hid hw
      have HU := Lib.hid hup
      clear hw hup
      go_enter Try.func60, Try.ntmps60
      go_wp2_with fail
      refine (ready_any q F y bg n _ H.out).mono ?_
      rintro e w' ⟨rfl, k, rfl⟩
      rw [if_pos he, hk]
      have c0' : (w.drewN k).cell? ⟨q, 0, none⟩ = some (.pointer (some ⟨p, 0, none⟩)) := c0
      go_wp2_with fail
      refine (put_any p G y.x s _ (HW.out.fr (S := fun _ => False) ((Fr.refl _ w).drewN k) (fun _ _ h => h)) (by omega)).mono ?_
      intro e w' hp
      obtain ⟨rfl, F', g1, g2, _, g4⟩ := HU.out _ _ w' (by
        obtain ⟨p1, F2, p2, p3, p4⟩ := hp
        exact ⟨p1, F2, p2, p3.fromN, p4⟩) (put_ge _ _)
      have HG := Lib.hid (And.intro g1 (And.intro g2 g4))
      clear hp g1 g2 g4
      go_wp2_with fail
      go_ret
      exact ⟨rfl, F', HG.out⟩
    · have hk' : (ckN n != 0) = true := by simp [hk]
      have hr : y.plain n = (y, ckN n) := by unfold Pk.plain; rw [if_neg (by simp [he]), if_pos hk]
      rw [hr]
      clear hr
      go_enter Try.func60, Try.ntmps60
      go_wp2_with fail
      refine (ready_any q F y bg n _ H.out).mono ?_
      rintro e w' ⟨rfl, k, rfl⟩
      rw [if_pos he]
      go_wp2_with fail
      go_ret
      exact ⟨rfl, F, H.out.drewN k, (Fr.refl _ _).drewN k, fun _ h => .inl h⟩
  · have he' : (y.x.e != 0) = true := by simp [he]
    have hr : y.plain n = (y, y.x.e) := by unfold Pk.plain; rw [if_pos he]
    rw [hr]
    clear hr
    go_enter Try.func60, Try.ntmps60
    go_wp2_with fail
    refine (ready_any q F y bg n _ H.out).mono ?_
    rintro e w' ⟨rfl, k, rfl⟩
    rw [if_neg he]
    go_wp2_with fail
    go_ret
    exact ⟨rfl, F, H.out.drewN k, (Fr.refl _ _).drewN k, fun _ h => .inl h⟩

set_option maxRecDepth 100000 in
set_option maxHeartbeats 4000000 in
theorem pname_any (q : Nat) (F : Nat → Prop) (y : Pk) (bg : List Int) (n : ByteArray) (w : World) (h : PPk w q F y bg) (hb : y.x.b.length ≤ 999999000) :
    Calls Try.prog 61 #[.pointer (some ⟨q, 0, none⟩), .string n] w (PPkPost w q F bg (y.name n)) := by
  have H := Lib.hid h
  clear h
  by_cases he : y.x.e = 0
  · by_cases hk : ckN n = 0
    · have hs : y.x.b.length + n.size + 4 ≤ 1000000000 := by have := (ckN_ok hk).1; omega
      have hr : y.name n = y.rest n.data.toList := by unfold Pk.name; rw [if_neg (by simp [he]), if_neg (by simp [hk])]
      rw [hr]
      clear hr
      generalize hz : y.rest n.data.toList = z
      have HZ := Lib.hid (And.intro hz (And.intro he (And.intro hs (ckN_ok hk))))
      clear hz hs
      go_enter Try.func61, Try.ntmps61
      go_wp2_with fail
      refine (ready_any q F y bg n _ H.out).mono ?_
      rintro e w' ⟨rfl, k0, rfl⟩
      rw [if_pos he, hk]
      have HD : Hid (PPk (w.drewN k0) q F y bg ∧ Fr F w (w.drewN k0)) := ⟨H.out.drewN k0, (Fr.refl _ _).drewN k0⟩
      generalize w.drewN k0 = w0 at *
      go_wp2_with fail
      go_loopg [1] n.size (fun g v wr => ∃ (m : ByteArray) (x : Pk) (G : Nat → Prop), g = m.size ∧ v = .string m ∧ PPk wr q G x bg ∧ x.x.e = 0 ∧ x.rest m.data.toList = z ∧ ckAt m.data.toList 0 = 0 ∧
        x.x.b.length + m.size + 4 ≤ 1000000000 ∧ Fr F w wr ∧ ∀ i, G i → F i ∨ w.heap.size ≤ i)
      case atStart => exact ⟨n, y, F, rfl, rfl, HD.out.1, HZ.out.2.1, HZ.out.1, HZ.out.2.2.2.2, HZ.out.2.2.1, HD.out.2, fun _ h => .inl h⟩
      case round =>
        obtain ⟨m, x, G, rfl, rfl, ⟨n0, hn0, r2⟩, r3, r4, r5, r6, r7, r8⟩ := hrel
        obtain ⟨p, P, c0, hw, hPG, hPq, up⟩ := r2.writer
        have HX := Lib.hid (And.intro hn0 (And.intro r2 (And.intro r3 (And.intro r7 r8))))
        have HU := Lib.hid up
        have HW := Lib.hid hw
        clear r2 r3 r7 r8 up hw
        by_cases hm : m = ⟨#[]⟩
        · subst hm
          have r4' : x.rest [] = z := r4
          rw [Pk.rest_nil] at r4'
          clear r4
          go_wp2_with fail
          refine (put_any p P x.x ⟨#[0]⟩ _ HW.out (by rw [show (⟨#[0]⟩ : ByteArray).size = 1 from rfl]; omega)).mono ?_
          intro e w' hp
          obtain ⟨rfl, F', g1, g2, _, g4⟩ := HU.out _ _ _ hp
          have HG := Lib.hid (And.intro g1 (And.intro g2 g4))
          clear hp g1 g2 g4
          go_wp2_with fail
          go_ret
          subst r4'
          exact PPkPost.of (w1 := wr) (F1 := G) ⟨rfl, F', ⟨n0, Nat.le_trans HX.out.1 (put_ge _ _), HG.out.1⟩, HG.out.2⟩ HX.out.2.2.2.1 HX.out.2.2.2.2
        · obtain ⟨hme, hml, hms⟩ := nonempty_facts hm
          have hrs := HX.out.2.1.rests m (by simp only [maxLen]; omega) (by simp only [maxLen]; omega)
          cases hg : x.get m.data.toList with
          | some a =>
            obtain ⟨b, c1, hlook, h14, _⟩ := hrs
            have ha := h14 _ _ hg
            rw [hg] at hlook
            simp only [Option.getD_some, Option.isSome_some] at hlook
            rw [Pk.rest_some hml hg] at r4
            have H4 := Lib.hid r4
            have q1 : IntKind.i64.wrap (49152 + (a : Int)) = 49152 + (a : Int) := IntWalk.i64_in _ (by omega)
            clear r4 hg r5 hm hml h14
            go_wp2_with fail
            refine (number_any p P x.x (49152 + (a : Int)) 2 _ HW.out (by omega) (by omega) (by omega)).mono ?_
            intro e w' hp
            obtain ⟨rfl, F', g1, g2, _, g4⟩ := HU.out _ _ _ hp
            have HG := Lib.hid (And.intro g1 (And.intro g2 g4))
            clear hp g1 g2 g4
            go_wp2_with fail
            go_ret
            rw [← H4.out]
            exact PPkPost.of (w1 := wr) (F1 := G) ⟨rfl, F', ⟨n0, Nat.le_trans HX.out.1 (number_ge _ _ _), HG.out.1⟩, HG.out.2⟩ HX.out.2.2.2.1 HX.out.2.2.2.2
          | none =>
            obtain ⟨b, c1, hlook, h14, _⟩ := hrs
            rw [hg] at hlook
            simp only [Option.getD_none, Option.isSome_none] at hlook
            obtain ⟨k1, k2, k3, k4⟩ := ckAt_first hml r5
            rw [size_l] at k3
            have hix := run_index_oc' m (0 : Int) 0 rfl (by omega)
            generalize hKO : oc m.data.toList 0 = K at *
            have q1 : IntKind.i64.wrap (1 + (K : Int)) = 1 + (K : Int) := IntWalk.i64_in _ (by omega)
            have q2 : (1 + (K : Int)).toNat = 1 + K := by omega
            have hsl : ∀ w, (Instr.slice 64 (.string m) none (some (.int .i64 (1 + (K : Int)))) none).run Try.prog w = .ok (.string (m.extract 0 (1 + K))) w := fun w => by
              rw [run_slice_string_h (P := Try.prog) w 64 m Try.underlying64 .i64 _ (by omega) (by omega), q2]
            have hsl2 : ∀ w, (Instr.slice 64 (.string m) (some (.int .i64 (1 + (K : Int)))) none none).run Try.prog w = .ok (.string (m.extract (1 + K) m.size)) w := fun w => by
              rw [run_slice_string_l (P := Try.prog) w 64 m Try.underlying64 .i64 _ (by omega) (by omega), q2]
            have HEX := Lib.hid (take_list m (1 + K))
            have HEX2 := Lib.hid (drop_list m (1 + K))
            go_wp2_with fail
            clear hlook c1
            go_quiet (first
              | (go_at_call 35; refine quiet_left (len_any p P x.x _ ?_); exact HW.out.fr (S := fun _ => False) ((Fr.refl _ wr).drewN _) (fun _ _ h => h)))
            go_wp2_with fail
            have FD : Hid (Fr (fun _ => False) wr (wr.drewN nq)) := (Fr.refl _ wr).drewN nq
            have d0 : (wr.drewN nq).cell? ⟨q, 0, none⟩ = some (.pointer (some ⟨p, 0, none⟩)) := c0
            clear hix c0
            generalize wr.drewN nq = W at *
            go_still_tail 7, (by kernel_rfl)
            change wpList _ _ _ _ _ W.drew
            replace FD := Lib.hid FD.out.drew
            clear d0
            generalize W.drew = W2 at *
            go_wp2_with fail
            refine (put_any p P x.x (m.extract 0 (1 + K)) _ (HW.out.fr FD.out (fun _ _ h => h)) (by simp only [ByteArray.size_extract]; omega)).mono ?_
            intro e w3 hp
            rw [HEX.out] at hp
            obtain ⟨rfl, F', g1, g2, _, g4⟩ := HU.out _ _ w3 (by
              obtain ⟨p1, F2, p2, p3, p4⟩ := hp
              exact ⟨p1, F2, p2, (FD.out.mono fun _ _ h => h.elim).then p3, fun k hk => (p4 k hk).imp id fun h => Nat.le_trans FD.out.size h⟩)
            have HG := Lib.hid (And.intro g1 (And.intro g2 g4))
            clear hp g1 g2 g4
            by_cases hpe : (x.x.put (m.data.toList.take (1 + K))).2 = 0
            · rw [Pk.rest_go hml hg (by rw [hKO]; exact hpe), hKO] at r4
              have hx' := rput_err x.x _ HX.out.2.2.1 hpe
              rw [hx'] at HG r4
              simp only [hpe]
              have H4 := Lib.hid r4
              have hx2 : (m.extract (1 + K) m.size).size = m.size - (1 + K) := by rw [ByteArray.size_extract, Nat.min_self]
              have hf1 := HX.out.2.2.2.1
              have hs1 := HX.out.2.2.2.2
              have hf2 : Fr F w w3 := hf1.trans HG.out.2.1 fun i hi h => (hs1 i h).resolve_right (by omega)
              have hs2 : ∀ i, F' i → F i ∨ w.heap.size ≤ i := fun i hi => (HG.out.2.2 i hi).elim (hs1 i) fun h => .inr (Nat.le_trans hf1.size h)
              have hln : (x.x.b ++ m.data.toList.take (1 + K)).length = x.x.b.length + (1 + K) := by rw [List.length_append, List.length_take, size_l]; omega
              have HF := Lib.hid (And.intro hf2 hs2)
              clear r4 hx' hf1 hs1 hf2 hs2
              by_cases hat : x.x.b.length < 16384
              · obtain ⟨b', e1, _, _, hup⟩ := HG.out.1.rests m (by simp only [maxLen]; omega) (by simp only [maxLen]; omega)
                obtain ⟨w5, hrun, n1, n2⟩ := hup x.x.b.length hat
                have HN := Lib.hid (And.intro n1 n2)
                clear n1 n2 hup
                go_wp2_with fail
                go_roundg (m.size - (1 + K))
                case rel =>
                  refine ⟨_, ⟨{ x.x with b := x.x.b ++ m.data.toList.take (1 + K) }, updAt x.get m.data.toList x.x.b.length⟩, F', hx2.symm, rfl, ⟨n0 + 1, by dsimp only; omega, HN.out.1⟩, HX.out.2.2.1, by rw [HEX2.out]; exact H4.out, by rw [HEX2.out]; exact k4, by rw [hx2]; dsimp only; omega, HF.out.1.trans HN.out.2 fun i hi h => (HF.out.2 i h).resolve_right (by omega), HF.out.2⟩
                case measure => omega
              · rw [updAt_far hat] at H4
                go_wp2_with fail
                go_roundg (m.size - (1 + K))
                case rel =>
                  refine ⟨_, ⟨{ x.x with b := x.x.b ++ m.data.toList.take (1 + K) }, x.get⟩, F', hx2.symm, rfl, ⟨n0, by dsimp only; omega, HG.out.1⟩, HX.out.2.2.1, by rw [HEX2.out]; exact H4.out, by rw [HEX2.out]; exact k4, by rw [hx2]; dsimp only; omega, HF.out.1, HF.out.2⟩
                case measure => omega
            · have hpe' : ((x.x.put (m.data.toList.take (1 + K))).2 != 0) = true := by simp [hpe]
              rw [Pk.rest_stop hml hg (by rw [hKO]; exact hpe), hKO] at r4
              have H4 := Lib.hid r4
              clear r4
              go_wp2_with fail
              go_ret
              rw [← H4.out]
              exact PPkPost.of (w1 := wr) (F1 := G) ⟨rfl, F', ⟨n0, Nat.le_trans HX.out.1 (put_ge _ _), HG.out.1⟩, HG.out.2⟩ HX.out.2.2.2.1 HX.out.2.2.2.2
    · have hk' : (ckN n != 0) = true := by simp [hk]
      have hr : y.name n = (y, ckN n) := by unfold Pk.name; rw [if_neg (by simp [he]), if_pos hk]
      rw [hr]
      clear hr
      go_enter Try.func61, Try.ntmps61
      go_wp2_with fail
      refine (ready_any q F y bg n _ H.out).mono ?_
      rintro e w' ⟨rfl, k, rfl⟩
      rw [if_pos he]
      go_wp2_with fail
      go_ret
      exact ⟨rfl, F, H.out.drewN k, (Fr.refl _ _).drewN k, fun _ h => .inl h⟩
  · have he' : (y.x.e != 0) = true := by simp [he]
    have hr : y.name n = (y, y.x.e) := by unfold Pk.name; rw [if_pos he]
    rw [hr]
    clear hr
    go_enter Try.func61, Try.ntmps61
    go_wp2_with fail
    refine (ready_any q F y bg n _ H.out).mono ?_
    rintro e w' ⟨rfl, k, rfl⟩
    rw [if_neg he]
    go_wp2_with fail
    go_ret
    exact ⟨rfl, F, H.out.drewN k, (Fr.refl _ _).drewN k, fun _ h => .inl h⟩
end Go.Proofs.Ytbemackcdccpaaa
