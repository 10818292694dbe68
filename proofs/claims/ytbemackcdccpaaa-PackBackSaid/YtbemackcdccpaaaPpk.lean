/-
  LAYER 7: THE PROGRAM's PACKER: a map from rests of names to places.
-/
import Derived.Test.YtbemackcdccpaaaNam
import Derived.Test.YtbemackcdccpaaaOct
import Derived.Maps.OwnSet
namespace Go.Proofs.Ytbemackcdccpaaa
open Go.RowKit Go.Maps
open Go.WideMaps (keyOf_string_mk)

theorem restLaw : Keyed Try.prog 64 := string_keyed Try.underlying64
theorem restZero (w : World) : (zeroValue 3).run Try.prog w = .ok (.int .i64 0) w := by kernel_rfl

/-- Block b is a map that tells of each rest where it stands. -/
def MapIs (w : World) (b n : Nat) (g : List UInt8 → Option Nat) : Prop :=
  ∃ D : DataW Unit, w.ownsMap Try.prog 64 (plainElem Try.prog 3) b n D ∧
    (∀ l : List UInt8, Maps.has D (.string l) = (g l).isSome ∧ D.atKey (.string l) (.lit (.int .i64 0)) = .lit (.int .i64 ((g l).getD 0 : Nat))) ∧ ∀ l a, g l = some a → a < 16384

theorem MapIs.made (w : World) : MapIs (w.alloc (.map #[] 0)) w.heap.size 0 (fun _ => none) :=
  ⟨.map [], World.ownsMap_made w _ _ _, fun _ => ⟨rfl, rfl⟩, fun _ _ h => by cases h⟩
theorem MapIs.lt {w : World} {b n : Nat} {g : List UInt8 → Option Nat} (h : MapIs w b n g) : b < w.heap.size := by
  obtain ⟨D, h1, _⟩ := h
  exact h1.lt
theorem MapIs.fr {w w' : World} {b n : Nat} {g : List UInt8 → Option Nat} {S : Nat → Prop} (h : MapIs w b n g) (hf : Fr S w w') (hb : ¬ S b) : MapIs w' b n g := by
  obtain ⟨D, ⟨es, clock, h1, h2, h3, h4⟩, hD⟩ := h
  exact ⟨D, ⟨es, clock, (hf.block b (Array.getElem?_eq_some_iff.1 h1).1 hb).trans h1, h2, h3, h4⟩, hD⟩
theorem MapIs.look {w : World} {b n : Nat} {g : List UInt8 → Option Nat} (h : MapIs w b n g) (s : ByteArray) (hs : s.size ≤ maxLen) :
    (Instr.lookup 128 (.map (some b)) (.string s) true).run Try.prog w = .ok (.tuple #[.int .i64 ((g s.data.toList).getD 0 : Nat), .bool (g s.data.toList).isSome]) w := by
  obtain ⟨D, h1, h2, _⟩ := h
  obtain ⟨v, ps, hrun, hv⟩ := h1.look_ok restLaw Try.underlying128 (restZero w) (plainElem_int Try.underlying3 (by decide)) (keyOf_string_mk Try.underlying64 hs)
  obtain ⟨c, rfl, hc, hwc⟩ := plainElem_int_inv Try.underlying3 hv
  obtain ⟨e1, e2⟩ := h2 s.data.toList
  rw [e2] at hc
  simp only [Prod.mk.injEq, DataW.lit.injEq, Lit.int.injEq, true_and] at hc
  rw [hrun, e1, hc.1]
theorem MapIs.put {w : World} {b n : Nat} {g : List UInt8 → Option Nat} (h : MapIs w b n g) (s : ByteArray) (hs : s.size ≤ maxLen) (a : Nat) (ha : a < 16384) (hn : n < maxLen) :
    ∃ w', (Instr.mapUpdate 128 (.map (some b)) (.string s) (.int .i64 a)).run Try.prog w = .ok () w' ∧ MapIs w' b (n + 1) (updAt g s.data.toList a) ∧ Fr (· = b) w w' := by
  obtain ⟨D, h1, h2, h14⟩ := h
  have hw : (Lit.int .i64 (a : Int)).wf = true := WalkArith.wf_i64 (by omega)
  obtain ⟨w', hrun, h3, h4⟩ := h1.update restLaw Try.underlying128 hn (keyOf_string_mk Try.underlying64 hs) (plainElem_int Try.underlying3 hw)
  refine ⟨w', hrun, ⟨_, h3, fun l => ?_, fun l c h => (updAt_some h).elim (h14 l c) fun h => by omega⟩, (Fr.refl (· = b) w).grown (row := some b) h4 fun k hk _ => ?_⟩
  rotate_left
  · exact (Option.some.inj hk).symm
  unfold updAt
  rw [if_pos ha]
  by_cases hl : l = s.data.toList
  · subst hl
    rw [if_pos rfl]
    have hk : WideAt.IsKeyLit (.string s.data.toList) := trivial
    exact ⟨has_put_same h1.isMap hk _, atKey_put_same h1.isMap hk _ _⟩
  · rw [if_neg hl]
    have hne : (Lit.string l) ≠ .string s.data.toList := fun h => hl (by injection h)
    rw [has_put_other hne, atKey_put_other hne]
    exact h2 l
theorem updAt_far {g : List UInt8 → Option Nat} {n : List UInt8} {p : Nat} (h : ¬ p < 16384) : updAt g n p = g := by unfold updAt; rw [if_neg h]

/-- The program's packer lies at block q, its memory within F; n: how many rests at most its map has. -/
def PPkn (w : World) (q : Nat) (F : Nat → Prop) (y : Pk) (bg : List Int) (n : Nat) : Prop :=
  ∃ p G b C ccap, Blk w q 132 #[.pointer (some ⟨p, 0, none⟩), .map (some b), .slice C bg.length ccap] ∧ Wr w p G y.x ∧ MapIs w b n y.get ∧
    w.ownsRow 0 3 1 (.slice C bg.length ccap) bg.length (bg.map (Value.int .i64)) ∧
    (¬ G q ∧ ¬ G b ∧ b ≠ q ∧ ¬ rowOf C b ∧ ∀ k, rowOf C k → ¬ G k) ∧ F q ∧ F b ∧ (∀ k, G k → F k) ∧ (∀ k, rowOf C k → F k) ∧ ∀ k, F k → k < w.heap.size
def PPk (w : World) (q : Nat) (F : Nat → Prop) (y : Pk) (bg : List Int) : Prop := ∃ n, n ≤ y.x.b.length ∧ PPkn w q F y bg n

theorem PPkn.fr {w w' : World} {q n : Nat} {F S : Nat → Prop} {y : Pk} {bg : List Int} (h : PPkn w q F y bg n) (hf : Fr S w w') (hd : ∀ k, F k → ¬ S k) : PPkn w' q F y bg n := by
  obtain ⟨p, G, b, C, ccap, h1, h2, h3, h4, h6, h7, h8, h9, h10, h11⟩ := h
  exact ⟨p, G, b, C, ccap, h1.fr hf (hd _ h7), h2.fr hf fun k hk => hd k (h9 k hk), h3.fr hf (hd _ h8), own_fr h4 hf fun k hk => hd k (h10 k hk), h6, h7, h8, h9, h10, fun k hk => Nat.lt_of_lt_of_le (h11 k hk) hf.size⟩
theorem PPk.fr {w w' : World} {q : Nat} {F S : Nat → Prop} {y : Pk} {bg : List Int} (h : PPk w q F y bg) (hf : Fr S w w') (hd : ∀ k, F k → ¬ S k) : PPk w' q F y bg := by
  obtain ⟨n, h1, h2⟩ := h
  exact ⟨n, h1, h2.fr hf hd⟩
theorem PPk.drewN {w : World} {q : Nat} {F : Nat → Prop} {y : Pk} {bg : List Int} (h : PPk w q F y bg) (n : Nat) : PPk (w.drewN n) q F y bg := h.fr (S := fun _ => False) ((Fr.refl _ w).drewN n) fun _ _ h => h

/-- What a call leaves. -/
def PPkPost (w : World) (q : Nat) (F : Nat → Prop) (bg : List Int) (r : Pk × Int) (e : Ending) (w' : World) : Prop :=
  e = .returned (.int .i64 r.2) ∧ ∃ F', PPk w' q F' r.1 bg ∧ Fr F w w' ∧ ∀ k, F' k → F k ∨ w.heap.size ≤ k
theorem PPkPost.of {w w1 w' : World} {q : Nat} {F F1 : Nat → Prop} {bg : List Int} {r : Pk × Int} {e : Ending} (h : PPkPost w1 q F1 bg r e w') (hf : Fr F w w1) (hs : ∀ k, F1 k → F k ∨ w.heap.size ≤ k) : PPkPost w q F bg r e w' := by
  obtain ⟨he, F', h2, h3, h4⟩ := h
  refine ⟨he, F', h2, hf.trans h3 fun i hi h => (hs i h).resolve_right (by omega), fun k hk => ?_⟩
  rcases h4 k hk with h | h
  · exact hs k h
  · exact .inr (Nat.le_trans hf.size h)

/-- The writer within. -/
theorem PPkn.writer {w : World} {q n : Nat} {F : Nat → Prop} {y : Pk} {bg : List Int} (h : PPkn w q F y bg n) :
    ∃ p G, w.cell? ⟨q, 0, none⟩ = some (.pointer (some ⟨p, 0, none⟩)) ∧ Wr w p G y.x ∧ (∀ k, G k → F k) ∧ ¬ G q ∧
      ∀ r e w', WrPost w p G r e w' → e = .returned (.int .i64 r.2) ∧ ∃ F', PPkn w' q F' ⟨r.1, y.get⟩ bg n ∧ Fr F w w' ∧ Fr G w w' ∧ ∀ k, F' k → F k ∨ w.heap.size ≤ k := by
  obtain ⟨p, G, b, C, ccap, h1, h2, h3, h4, ⟨d1, d2, d3, d4, d5⟩, h7, h8, h9, h10, h11⟩ := h
  refine ⟨p, G, h1.cell 0, h2, h9, d1, fun r e w' hp => ?_⟩
  obtain ⟨he, G', g1, g2, g3⟩ := hp
  have hq := h1.lt
  have hb := h3.lt
  refine ⟨he, fun k => F k ∨ G' k, ⟨p, G', b, C, ccap, h1.fr g2 d1, g1, h3.fr g2 d2, own_fr h4 g2 d5, ⟨fun h => (g3 _ h).elim d1 fun h => by omega, fun h => (g3 _ h).elim d2 fun h => by omega, d3, d4, fun k hk h => (g3 _ h).elim (d5 k hk) fun h => by have := own_lt h4 hk; omega⟩, .inl h7, .inl h8, fun k hk => .inr hk, fun k hk => .inl (h10 k hk), ?_⟩, g2.mono fun k _ hk => h9 k hk, g2, ?_⟩
  · rintro k (hk | hk)
    · exact Nat.lt_of_lt_of_le (h11 k hk) g2.size
    · exact g1.lt k hk
  · rintro k (hk | hk)
    · exact .inl hk
    · exact (g3 k hk).imp (h9 k) id
theorem PPk.writer {w : World} {q : Nat} {F : Nat → Prop} {y : Pk} {bg : List Int} (h : PPk w q F y bg) :
    ∃ p G, w.cell? ⟨q, 0, none⟩ = some (.pointer (some ⟨p, 0, none⟩)) ∧ Wr w p G y.x ∧ (∀ k, G k → F k) ∧ ¬ G q ∧
      ∀ r e w', WrPost w p G r e w' → y.x.b.length ≤ r.1.b.length → e = .returned (.int .i64 r.2) ∧ ∃ F', PPk w' q F' ⟨r.1, y.get⟩ bg ∧ Fr F w w' ∧ Fr G w w' ∧ ∀ k, F' k → F k ∨ w.heap.size ≤ k := by
  obtain ⟨n, hn, h⟩ := h
  obtain ⟨p, G, h1, h2, h3, h4, h5⟩ := h.writer
  refine ⟨p, G, h1, h2, h3, h4, fun r e w' hp hge => ?_⟩
  obtain ⟨he, F', g1, g2⟩ := h5 r e w' hp
  exact ⟨he, F', ⟨n, by dsimp only; omega, g1⟩, g2⟩
/-- The map within. -/
theorem PPkn.rests {w : World} {q n : Nat} {F : Nat → Prop} {y : Pk} {bg : List Int} (h : PPkn w q F y bg n) (s : ByteArray) (hs : s.size ≤ maxLen) (hn : n < maxLen) :
    ∃ b, w.cell? ⟨q, 1, none⟩ = some (.map (some b)) ∧
      (Instr.lookup 128 (.map (some b)) (.string s) true).run Try.prog w = .ok (.tuple #[.int .i64 ((y.get s.data.toList).getD 0 : Nat), .bool (y.get s.data.toList).isSome]) w ∧
      (∀ l a, y.get l = some a → a < 16384) ∧ ∀ a, a < 16384 → ∃ w', (Instr.mapUpdate 128 (.map (some b)) (.string s) (.int .i64 (a : Nat))).run Try.prog w = .ok () w' ∧ PPkn w' q F ⟨y.x, updAt y.get s.data.toList a⟩ bg (n + 1) ∧ Fr F w w' := by
  obtain ⟨p, G, b, C, ccap, h1, h2, h3, h4, ⟨d1, d2, d3, d4, d5⟩, h7, h8, h9, h10, h11⟩ := h
  refine ⟨b, h1.cell 1, h3.look s hs, (by obtain ⟨_, _, _, h⟩ := h3; exact h), fun a ha => ?_⟩
  obtain ⟨w', hrun, hm, hf⟩ := h3.put s hs a ha hn
  exact ⟨w', hrun, ⟨p, G, b, C, ccap, h1.fr hf (fun e => d3 e.symm), h2.fr hf (fun k hk e => d2 (e ▸ hk)), hm, own_fr h4 hf (fun k hk e => d4 (e ▸ hk)), ⟨d1, d2, d3, d4, d5⟩, h7, h8, h9, h10, fun k hk => Nat.lt_of_lt_of_le (h11 k hk) hf.size⟩, hf.mono fun k _ e => e ▸ h8⟩

set_option maxHeartbeats 1000000 in
theorem perr_any (q : Nat) (F : Nat → Prop) (y : Pk) (bg : List Int) (w : World) (h : PPk w q F y bg) :
    Calls Try.prog 73 #[.pointer (some ⟨q, 0, none⟩)] w fun e w' => e = .returned (.int .i64 y.x.e) ∧ w = w' := by
  obtain ⟨p, G, c0, hw, _⟩ := h.writer
  have HW := Lib.hid hw
  clear h hw
  go_enter Try.func73, Try.ntmps73
  go_wp2_with fail
  refine (err_any p G y.x _ HW.out).mono ?_
  rintro e w' ⟨rfl, rfl⟩
  go_wp2_with fail
  go_ret
  exact ⟨rfl, rfl⟩
set_option maxHeartbeats 1000000 in
theorem plen_any (q : Nat) (F : Nat → Prop) (y : Pk) (bg : List Int) (w : World) (h : PPk w q F y bg) :
    Calls Try.prog 63 #[.pointer (some ⟨q, 0, none⟩)] w fun e w' => e = .returned (.int .i64 y.x.b.length) ∧ w = w' := by
  obtain ⟨p, G, c0, hw, _⟩ := h.writer
  have HW := Lib.hid hw
  clear h hw
  go_enter Try.func63, Try.ntmps63
  go_wp2_with fail
  refine (len_any p G y.x _ HW.out).mono ?_
  rintro e w' ⟨rfl, rfl⟩
  go_wp2_with fail
  go_ret
  exact ⟨rfl, rfl⟩
set_option maxHeartbeats 1000000 in
theorem ptext_any (q : Nat) (F : Nat → Prop) (y : Pk) (bg : List Int) (w : World) (h : PPk w q F y bg) :
    Calls Try.prog 62 #[.pointer (some ⟨q, 0, none⟩)] w fun e w' => e = .returned (.string ⟨y.x.b.toArray⟩) ∧ w = w' := by
  obtain ⟨p, G, c0, hw, _⟩ := h.writer
  have HW := Lib.hid hw
  clear h hw
  go_enter Try.func62, Try.ntmps62
  go_wp2_with fail
  refine (text_any p G y.x _ HW.out).mono ?_
  rintro e w' ⟨rfl, rfl⟩
  go_wp2_with fail
  go_ret
  exact ⟨rfl, rfl⟩
set_option maxHeartbeats 1000000 in
theorem pput_any (q : Nat) (F : Nat → Prop) (y : Pk) (bg : List Int) (s : ByteArray) (w : World) (h : PPk w q F y bg) (hs : y.x.b.length + s.size ≤ 140737488355328) :
    Calls Try.prog 69 #[.pointer (some ⟨q, 0, none⟩), .string s] w (PPkPost w q F bg (⟨(y.x.put s.data.toList).1, y.get⟩, (y.x.put s.data.toList).2)) := by
  obtain ⟨p, G, c0, hw, _, _, hup⟩ := h.writer
  have HW := Lib.hid hw
  have HU := Lib.hid hup
  clear h hw hup
  go_enter Try.func69, Try.ntmps69
  go_wp2_with fail
  refine (put_any p G y.x s _ HW.out hs).mono ?_
  intro e w' hp
  obtain ⟨rfl, F', g1, g2, _, g4⟩ := HU.out _ _ _ hp (put_ge _ _)
  have HG := Lib.hid (And.intro g1 (And.intro g2 g4))
  clear hp g1 g2 g4
  go_wp2_with fail
  go_ret
  exact ⟨rfl, F', HG.out⟩
set_option maxHeartbeats 1000000 in
theorem pnumber_any (q : Nat) (F : Nat → Prop) (y : Pk) (bg : List Int) (v n : Int) (w : World) (h : PPk w q F y bg) (h0 : 0 ≤ v) (h1 : v < 4294967296) (hs : y.x.b.length + 4 ≤ 140737488355328) :
    Calls Try.prog 76 #[.pointer (some ⟨q, 0, none⟩), .int .u32 v, .int .i64 n] w (PPkPost w q F bg (⟨(y.x.number v n).1, y.get⟩, (y.x.number v n).2)) := by
  obtain ⟨p, G, c0, hw, _, _, hup⟩ := h.writer
  have HW := Lib.hid hw
  have HU := Lib.hid hup
  clear h hw hup
  go_enter Try.func76, Try.ntmps76
  go_wp2_with fail
  refine (number_any p G y.x v n _ HW.out h0 h1 hs).mono ?_
  intro e w' hp
  obtain ⟨rfl, F', g1, g2, _, g4⟩ := HU.out _ _ _ hp (number_ge _ _ _)
  have HG := Lib.hid (And.intro g1 (And.intro g2 g4))
  clear hp g1 g2 g4
  go_wp2_with fail
  go_ret
  exact ⟨rfl, F', HG.out⟩
set_option maxHeartbeats 1000000 in
theorem ready_any (q : Nat) (F : Nat → Prop) (y : Pk) (bg : List Int) (n : ByteArray) (w : World) (h : PPk w q F y bg) :
    Calls Try.prog 86 #[.pointer (some ⟨q, 0, none⟩), .string n] w fun e w' => e = .returned (.int .i64 (if y.x.e = 0 then ckN n else y.x.e)) ∧ ∃ k, w' = w.drewN k := by
  have H := Lib.hid h
  clear h
  by_cases he : y.x.e = 0
  · have he' : (y.x.e != 0) = false := by simp [he]
    rw [if_pos he]
    go_enter Try.func86, Try.ntmps86
    go_wp2_with fail
    refine (perr_any q F y bg _ H.out).mono ?_
    rintro e w' ⟨rfl, rfl⟩
    go_wp2_with fail
    refine (ncheck_any n _).mono ?_
    rintro e w' ⟨rfl, k, rfl⟩
    go_wp2_with fail
    go_ret
    exact ⟨rfl, k, rfl⟩
  · have he' : (y.x.e != 0) = true := by simp [he]
    rw [if_neg he]
    go_enter Try.func86, Try.ntmps86
    go_wp2_with fail
    refine (perr_any q F y bg _ H.out).mono ?_
    rintro e w' ⟨rfl, rfl⟩
    go_wp2_with fail
    go_ret
    exact ⟨rfl, 0, rfl⟩
set_option maxHeartbeats 1000000 in
theorem psize_any (n : ByteArray) (w : World) :
    Calls Try.prog 71 #[.string n] w fun e w' => e = .returned (.int .i64 (if ckN n = 0 then (n.size : Int) + 1 else 0)) ∧ ∃ k, w' = w.drewN k := by
  by_cases hc : ckN n = 0
  · have hc' : (ckN n != 0) = false := by simp [hc]
    have hn := (ckN_ok hc).1
    rw [if_pos hc]
    go_enter Try.func71, Try.ntmps71
    go_wp2_with fail
    refine (ncheck_any n _).mono ?_
    rintro e w' ⟨rfl, k, rfl⟩
    go_wp2_with fail
    go_ret
    exact ⟨rfl, k, rfl⟩
  · have hc' : (ckN n != 0) = true := by simp [hc]
    rw [if_neg hc]
    go_enter Try.func71, Try.ntmps71
    go_wp2_with fail
    refine (ncheck_any n _).mono ?_
    rintro e w' ⟨rfl, k, rfl⟩
    go_wp2_with fail
    go_ret
    exact ⟨rfl, k, rfl⟩
end Go.Proofs.Ytbemackcdccpaaa
