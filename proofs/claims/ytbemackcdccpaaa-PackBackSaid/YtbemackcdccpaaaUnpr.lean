/-
  THE CONTRACTS OF LAYER 8 (unpack): names read, counted.
-/
import Derived.Test.YtbemackcdccpaaaUnpw
import Derived.WalkMore
import Derived.Deep.LoopGhost
namespace Go.Proofs.Ytbemackcdccpaaa
open Go.RowKit

theorem run_index_oc' (s : ByteArray) (i : Int) (k : Nat) (hi : i = (k : Int)) (h : k < s.size) (w : World) : (Instr.index 64 (.string s) (.int .i64 i)).run Try.prog w = .ok (.int .u8 (oc s.data.toList k)) w := by
  subst hi
  rw [← get_oc s k h]
  simp [Instr.index, asIntOf, run_underlying Try.underlying64, h]
/-- What is small while a name is read. -/
def UOk (s : List UInt8) (x : Un) : Prop := x.at_ ≤ s.length ∧ x.jumps + x.begun ≤ s.length ∧ x.out.length ≤ 254
theorem UOk.on {s : List UInt8} {f : Bool} {x y : Un} (h : UOk s x) (hs : x.step s f = .on y) : UOk s y := by
  obtain ⟨h1, h2, h3⟩ := h
  unfold Un.step at hs
  split at hs
  · cases hs
  · split at hs
    · cases hs
    · split at hs
      · split at hs
        · cases hs
        · split at hs
          · cases hs
          · injection hs with hs
            subst hs
            refine ⟨?_, h2, ?_⟩
            · show x.at_ + 1 + oc s x.at_ ≤ s.length
              omega
            · show (x.out ++ _).length ≤ 254
              rw [List.length_append, List.length_take]
              omega
      · split at hs
        · split at hs
          · cases hs
          · split at hs
            · cases hs
            · injection hs with hs
              subst hs
              refine ⟨?_, ?_, h3⟩
              · show x.to s ≤ s.length
                omega
              · show x.jumps + 1 + x.to s ≤ s.length
                omega
        · cases hs

/-- What reading leaves. -/
def ReadPost (w : World) (s : ByteArray) (f : Bool) (r : Ust) (e : Ending) (w' : World) : Prop :=
  ∃ p, e = .returned (.pointer (some ⟨p, 0, none⟩)) ∧ Fr (fun _ => False) w w' ∧ w.heap.size ≤ p ∧
    match r with
    | .done y => ∃ F, Ur w' p F s f y 0 ∧ ∀ k, F k → w.heap.size ≤ k
    | .bad er => ∃ cs, Blk w' p 127 cs ∧ cs[8]? = some (.int .i64 er)
    | .on _ => False

set_option maxRecDepth 100000 in
set_option maxHeartbeats 1000000 in
theorem urfail_blk (p : Nat) (er : Int) (w : World) (cs : Array Value) (u : Value) (h : Blk w p 127 cs) (h8 : cs[8]? = some u) :
    Calls Try.prog 91 #[.pointer (some ⟨p, 0, none⟩), .int .i64 er] w fun e w' => e = .returned (.bool false) ∧ Blk w' p 127 (cs.setIfInBounds 8 (.int .i64 er)) ∧ Fr (· = p) w w' := by
  have c8 : w.cell? ⟨p, 8, none⟩ = some u := (h.cell 8).trans h8
  have f8 := h.frozen 8
  have H := Lib.hid h
  clear h
  go_enter Try.func91, Try.ntmps91
  go_wp2_with fail
  go_ret
  exact ⟨rfl, H.out.set_ 8 _, Fr.setCell (S := (· = p)) (Fr.refl _ w) (p := ⟨p, 8, none⟩) (fun _ => rfl) _⟩

set_option maxRecDepth 100000 in
set_option maxHeartbeats 2000000 in
theorem read8_any (s : ByteArray) (a : Int) (f : Bool) (w : World) (hs : s.size ≤ 140737488351232) :
    Calls Try.prog 83 #[.string s, .int .i64 a, .bool f] w (ReadPost w s f (nameAt s a f)) := by
  by_cases ha : a < 0 ∨ (s.size : Int) < a
  · have hr : nameAt s a f = .bad 2 := by unfold nameAt; rw [if_pos ha]
    rw [hr]
    clear hr
    have hfin : ∀ w', Blk w' w.heap.size 127 (#[.string s, .int .i64 a, .int .i64 a, .int .i64 (-1), .int .i64 0, .bool f, .pointer none, .slice none 0 0, .int .i64 2] : Array Value) →
        Fr (fun _ => False) w w' → ReadPost w s f (.bad 2) (.returned (.pointer (some ⟨w.heap.size, 0, none⟩))) w' := fun w' h1 h2 => ⟨_, rfl, h2, Nat.le_refl _, _, h1, rfl⟩
    have key : ∀ w', (Blk w' w.heap.size 127 (#[.string s, .int .i64 a, .int .i64 a, .int .i64 (-1), .int .i64 0, .bool f, .pointer none, .slice none 0 0, .int .i64 0] : Array Value) ∧ Fr (fun _ => False) w w') → 
        Calls Try.prog 91 #[.pointer (some ⟨w.heap.size, 0, none⟩), .int .i64 2] w' fun e w'' => e = .returned (.bool false) ∧ ReadPost w s f (.bad 2) (.returned (.pointer (some ⟨w.heap.size, 0, none⟩))) w'' := by
      rintro w' ⟨h1, h2⟩
      refine (urfail_blk w.heap.size 2 w' _ _ h1 rfl).mono ?_
      rintro e w'' ⟨rfl, g1, g2⟩
      exact ⟨rfl, hfin w'' g1 (h2.trans g2 fun i hi he => by omega)⟩
    have HK := Lib.hid key
    have HN : Hid (Blk (w.alloc (.cells #[.string s, .int .i64 a, .int .i64 a, .int .i64 (-1), .int .i64 0, .bool f, .pointer none, .slice none 0 0, .int .i64 0] 127)) w.heap.size 127 (#[.string s, .int .i64 a, .int .i64 a, .int .i64 (-1), .int .i64 0, .bool f, .pointer none, .slice none 0 0, .int .i64 0] : Array Value) ∧
        Fr (fun _ => False) w (w.alloc (.cells #[.string s, .int .i64 a, .int .i64 a, .int .i64 (-1), .int .i64 0, .bool f, .pointer none, .slice none 0 0, .int .i64 0] 127))) := ⟨Blk.new _ _ _, (Fr.refl _ _).alloc _⟩
    clear key hfin
    by_cases h0 : a < 0
    all_goals
      go_enter Try.func83, Try.ntmps83
      go_wp2_with fail
      go_step3
      go_wp2_with fail
      refine (HK.out _ HN.out).mono ?_
      rintro e w' ⟨rfl, g1⟩
      go_wp2_with fail
      rw [Exit.noGoto_ret]
      go_ret
      exact g1
  · obtain ⟨n, rfl⟩ := Int.eq_ofNat_of_zero_le (show 0 ≤ a by omega)
    have hr : nameAt s n f = uread s.data.toList f ⟨n, n, -1, 0, []⟩ := by unfold nameAt; rw [if_neg ha, Int.toNat_natCast]
    rw [hr]
    clear hr
    have hn : n ≤ s.size := by omega
    have hU : Ur (w.alloc (.cells #[.string s, .int .i64 n, .int .i64 n, .int .i64 (-1), .int .i64 0, .bool f, .pointer none, .slice none 0 0, .int .i64 0] 127)) w.heap.size (· = w.heap.size) s f ⟨n, n, -1, 0, []⟩ 0 :=
      ⟨none, 0, _, .inl rfl, Blk.new _ _ _, own_nil _ _ _, rfl, fun k hk => absurd hk (rowOf_none k), fun k hk => by subst hk; simp⟩
    have hF : Fr (fun _ => False) w (w.alloc (.cells #[.string s, .int .i64 n, .int .i64 n, .int .i64 (-1), .int .i64 0, .bool f, .pointer none, .slice none 0 0, .int .i64 0] 127)) := (Fr.refl _ _).alloc _
    have HU := Lib.hid (And.intro hU hF)
    clear hU hF
    go_enter Try.func83, Try.ntmps83
    go_wp2_with fail
    go_step3
    go_wp2_with fail
    go_step3
    go_wp2_with fail
    generalize w.alloc (.cells #[.string s, .int .i64 n, .int .i64 n, .int .i64 (-1), .int .i64 0, .bool f, .pointer none, .slice none 0 0, .int .i64 0] 127) = W at *
    generalize hp : w.heap.size = p at HU ⊢
    have HP := Lib.hid hp
    clear hp
    generalize hx0 : (⟨n, n, -1, 0, []⟩ : Un) = x0 at HU ⊢
    have hok0 : UOk s.data.toList x0 := by subst hx0; exact ⟨by rw [size_l]; exact hn, by rw [size_l]; dsimp only; omega, by simp⟩
    clear hx0
    have hd1 : decide (s.size < n) = false := decide_eq_false (by omega)
    have hd2 : decide ((n : Int) < 0) = false := decide_eq_false (by omega)
    simp only [hd1, hd2, Bool.or_false]
    clear hd1 hd2
    go_loopg [26] (x0.mu s.data.toList) (fun g _ wr => ∃ (x : Un) (F : Nat → Prop), g = x.mu s.data.toList ∧ Ur wr p F s f x 0 ∧ UOk s.data.toList x ∧ Fr (fun _ => False) w wr ∧ (∀ k, F k → p ≤ k) ∧ uread s.data.toList f x0 = uread s.data.toList f x)
    case atStart => exact ⟨x0, _, rfl, HU.out.1, hok0, HU.out.2, fun k hk => Nat.le_of_eq hk.symm, rfl⟩
    case round =>
      obtain ⟨x, F, rfl, hur, hok, hfr, hF, hrd⟩ := hrel
      have HX := Lib.hid (And.intro hok (And.intro hfr (And.intro hF hrd)))
      have HO := Lib.hid hur
      clear hok hfr hF hrd hur
      go_wp2_with fail
      refine (urstep_any p F s f x _ HO.out (by rw [← size_l s]; exact HX.out.1.1) hs (by have := HX.out.1.2.1; rw [size_l s] at this; omega) HX.out.1.2.2).mono ?_
      intro e w' hq
      cases hst : x.step s.data.toList f with
      | on y =>
        rw [hst] at hq
        obtain ⟨rfl, F', g1, g2, g3⟩ := hq
        have HG := Lib.hid (And.intro g1 (And.intro g2 (And.intro g3 hst)))
        clear g1 g2 g3 hst
        go_wp2_with fail
        go_roundg (y.mu s.data.toList)
        case rel =>
          refine ⟨y, F', rfl, HG.out.1, HX.out.1.on HG.out.2.2.2, HX.out.2.1.trans HG.out.2.1 ?_, fun k hk => ?_, HX.out.2.2.2.trans (uread_on HG.out.2.2.2)⟩
          · intro i hi hFi
            have := HX.out.2.2.1 i hFi
            have := HP.out
            omega
          · rcases HG.out.2.2.1 k hk with h | h
            · exact HX.out.2.2.1 k h
            · have := HX.out.2.1.size
              have := HP.out
              omega
        case measure => exact Un.step_mu HG.out.2.2.2
      | done y =>
        rw [hst] at hq
        obtain ⟨rfl, F', g1, g2, g3⟩ := hq
        have HG := Lib.hid (And.intro g1 (And.intro g2 (And.intro g3 hst)))
        clear g1 g2 g3 hst
        go_wp2_with fail
        rw [Exit.noGoto_ret]
        go_ret
        rw [HX.out.2.2.2, uread_done HG.out.2.2.2]
        refine ⟨p, rfl, HX.out.2.1.trans HG.out.2.1 ?_, Nat.le_of_eq HP.out, F', HG.out.1, fun k hk => ?_⟩
        · intro i hi hFi
          have := HX.out.2.2.1 i hFi
          have := HP.out
          omega
        · rcases HG.out.2.2.1 k hk with h | h
          · rw [HP.out]; exact HX.out.2.2.1 k h
          · have := HX.out.2.1.size
            omega
      | bad er =>
        rw [hst] at hq
        obtain ⟨y, rfl, F', g1, g2, g3⟩ := hq
        have HG := Lib.hid (And.intro g1 (And.intro g2 (And.intro g3 hst)))
        clear g1 g2 g3 hst
        go_wp2_with fail
        rw [Exit.noGoto_ret]
        go_ret
        rw [HX.out.2.2.2, uread_bad HG.out.2.2.2]
        obtain ⟨A, cap, v, k1, k2, _⟩ := HG.out.1
        refine ⟨p, rfl, HX.out.2.1.trans HG.out.2.1 ?_, Nat.le_of_eq HP.out, _, k2, rfl⟩
        intro i hi hFi
        have := HX.out.2.2.1 i hFi
        have := HP.out
        omega

set_option maxRecDepth 100000 in
set_option maxHeartbeats 2000000 in
theorem told_bad (p : Nat) (er : Int) (w : World) (cs : Array Value) (h : Blk w p 127 cs) (h8 : cs[8]? = some (.int .i64 er)) (he : er ≠ 0) :
    Calls Try.prog 84 #[.pointer (some ⟨p, 0, none⟩)] w fun e w' => e = .returned (.tuple #[.string ⟨#[]⟩, .int .i64 0, .int .i64 er]) ∧ Fr (fun _ => False) w w' := by
  have c8 : w.cell? ⟨p, 8, none⟩ = some (.int .i64 er) := (h.cell 8).trans h8
  have he' : (er != 0) = true := by simp [he]
  clear h
  go_enter Try.func84, Try.ntmps84
  go_wp2_with fail
  go_quiet (fail)
  go_wp2_with fail
  go_ret3
  exact ⟨rfl, (Fr.refl _ w).drewN _⟩

set_option maxRecDepth 100000 in
set_option maxHeartbeats 2000000 in
theorem told_done (p : Nat) (F : Nat → Prop) (s : ByteArray) (f : Bool) (y : Un) (w : World) (h : Ur w p F s f y 0) :
    Calls Try.prog 84 #[.pointer (some ⟨p, 0, none⟩)] w fun e w' => e = .returned (.tuple #[.string ⟨y.out.toArray⟩, .int .i64 y.fin, .int .i64 0]) ∧ Fr F w w' := by
  obtain ⟨A, cap, v, h1, h2, h3, h4, h5, h6⟩ := h
  have c8 : w.cell? ⟨p, 8, none⟩ = some (.int .i64 0) := h2.cell 8
  have c3 : w.cell? ⟨p, 3, none⟩ = some (.int .i64 y.fin) := h2.cell 3
  have hrow : ¬ rowOf A p := own_ne h3 h2 (by decide)
  have HH := Lib.hid (And.intro h2 (And.intro h3 (And.intro h5 hrow)))
  clear h1 h2 h3 h4 h5 h6 hrow
  go_enter Try.func84, Try.ntmps84
  go_wp2_with fail
  go_region_held3 (fun w' => w'.cell? ⟨p, 3, none⟩ = some (.int .i64 y.fin))
    (first | exact c3 | exact e3)
    (first
      | (go_at_call 93
         refine (bldString_any p 6 127 (urCells s f y v A cap 0) _ A cap y.out ?_ rfl ?_).mono ?_
         · exact HH.out.1
         · exact HH.out.2.1
         rintro e w4 ⟨rfl, f4⟩
         have e3 := (f4.cell (p := ⟨p, 3, none⟩) HH.out.1.lt HH.out.2.2.2).trans c3
         have H4 := Lib.hid f4
         clear f4))
  go_wp2_with fail
  go_ret3
  exact ⟨rfl, (H4.out.fromD).mono fun k _ h => HH.out.2.2.1 k h⟩

theorem nameAt_cases (s : ByteArray) (a : Int) (f : Bool) : (∃ y, nameAt s a f = .done y) ∨ ∃ e, e ≠ 0 ∧ nameAt s a f = .bad e := by
  unfold nameAt
  split
  · exact .inr ⟨2, by decide, rfl⟩
  · rcases uread_cases s.data.toList f ⟨a.toNat, a.toNat, -1, 0, []⟩ with ⟨y, hy⟩ | ⟨e, he⟩
    · exact .inl ⟨y, hy⟩
    · exact .inr ⟨e, uread_bad_ne he, he⟩

def Ust.told (r : Ust) : Value := .tuple #[.string r.name, .int .i64 r.fin, .int .i64 r.err]

theorem told_any (s : ByteArray) (f : Bool) (r : Ust) (hr : (∃ y, r = .done y) ∨ ∃ e, e ≠ 0 ∧ r = .bad e) (w0 w : World) (v : Value) (h : ReadPost w0 s f r (.returned v) w) :
    Calls Try.prog 84 #[v] w fun e w' => e = .returned (.tuple #[.string r.name, .int .i64 r.fin, .int .i64 r.err]) ∧ Fr (fun _ => False) w0 w' := by
  obtain ⟨p, hv, hf, hp, hm⟩ := h
  injection hv with hv
  subst hv
  rcases hr with ⟨y, rfl⟩ | ⟨er, he, rfl⟩
  · obtain ⟨F, hu, hF⟩ := hm
    refine (told_done p F s f y w hu).mono ?_
    rintro e w' ⟨rfl, g⟩
    exact ⟨rfl, hf.trans g fun i hi h => by have := hF i h; omega⟩
  · obtain ⟨cs, hb, h8⟩ := hm
    refine (told_bad p er w cs hb h8 he).mono ?_
    rintro e w' ⟨rfl, g⟩
    exact ⟨rfl, hf.then g⟩

set_option maxRecDepth 100000 in
set_option maxHeartbeats 2000000 in
theorem name8_any (s : ByteArray) (a : Int) (w : World) (hs : s.size ≤ 140737488351232) :
    Calls Try.prog 48 #[.string s, .int .i64 a] w fun e w' => e = .returned (.tuple #[.string (nameAt s a true).name, .int .i64 (nameAt s a true).fin, .int .i64 (nameAt s a true).err]) ∧ Fr (fun _ => False) w w' := by
  have hr := nameAt_cases s a true
  have h := read8_any s a true w hs
  generalize nameAt s a true = r at *
  have H := Lib.hid h
  have HR := Lib.hid hr
  clear h hr
  go_enter Try.func48, Try.ntmps48
  go_wp2_with fail
  refine H.out.mono ?_
  rintro e w1 ⟨p, rfl, h2⟩
  have H2 : Hid (ReadPost w s true r (.returned (.pointer (some ⟨p, 0, none⟩))) w1) := ⟨p, rfl, h2⟩
  clear h2
  go_wp2_with fail
  refine (told_any s true r HR.out w w1 _ H2.out).mono ?_
  rintro e w2 ⟨rfl, h3⟩
  go_wp2_with fail
  go_ret3
  exact ⟨rfl, h3⟩

set_option maxRecDepth 100000 in
set_option maxHeartbeats 2000000 in
theorem plain8_any (s : ByteArray) (a : Int) (w : World) (hs : s.size ≤ 140737488351232) :
    Calls Try.prog 57 #[.string s, .int .i64 a] w fun e w' => e = .returned (.tuple #[.string (nameAt s a false).name, .int .i64 (nameAt s a false).fin, .int .i64 (nameAt s a false).err]) ∧ Fr (fun _ => False) w w' := by
  have hr := nameAt_cases s a false
  have h := read8_any s a false w hs
  generalize nameAt s a false = r at *
  have H := Lib.hid h
  have HR := Lib.hid hr
  clear h hr
  go_enter Try.func57, Try.ntmps57
  go_wp2_with fail
  refine H.out.mono ?_
  rintro e w1 ⟨p, rfl, h2⟩
  have H2 : Hid (ReadPost w s false r (.returned (.pointer (some ⟨p, 0, none⟩))) w1) := ⟨p, rfl, h2⟩
  clear h2
  go_wp2_with fail
  refine (told_any s false r HR.out w w1 _ H2.out).mono ?_
  rintro e w2 ⟨rfl, h3⟩
  go_wp2_with fail
  go_ret3
  exact ⟨rfl, h3⟩

set_option maxRecDepth 100000 in
set_option maxHeartbeats 2000000 in
theorem jumps8_any (s : ByteArray) (a : Int) (w : World) (hs : s.size ≤ 140737488351232) :
    Calls Try.prog 55 #[.string s, .int .i64 a] w fun e w' => e = .returned (.int .i64 (nameAt s a true).jumps) ∧ Fr (fun _ => False) w w' := by
  have hr := nameAt_cases s a true
  have h := read8_any s a true w hs
  generalize nameAt s a true = r at *
  have H := Lib.hid h
  clear h
  rcases hr with ⟨y, rfl⟩ | ⟨er, he, rfl⟩
  · go_enter Try.func55, Try.ntmps55
    go_wp2_with fail
    refine H.out.mono ?_
    rintro e w1 ⟨p, rfl, h2, h3, F, ⟨A, cap, v, k1, k2, k3⟩, h4⟩
    have c8 : w1.cell? ⟨p, 8, none⟩ = some (.int .i64 0) := k2.cell 8
    have c4 : w1.cell? ⟨p, 4, none⟩ = some (.int .i64 y.jumps) := k2.cell 4
    have H2 := Lib.hid h2
    clear h2 k1 k2 k3 h4
    go_wp2_with fail
    go_ret
    exact ⟨rfl, H2.out⟩
  · have he' : (er != 0) = true := by simp [he]
    go_enter Try.func55, Try.ntmps55
    go_wp2_with fail
    refine H.out.mono ?_
    rintro e w1 ⟨p, rfl, h2, h3, cs, h4, h5⟩
    have c8 : w1.cell? ⟨p, 8, none⟩ = some (.int .i64 er) := (h4.cell 8).trans h5
    have H2 := Lib.hid h2
    clear h2 h4 h5
    go_wp2_with fail
    go_ret
    exact ⟨rfl, H2.out⟩

set_option maxRecDepth 100000 in
set_option maxHeartbeats 2000000 in
theorem skip8_any (s : ByteArray) (a : Int) (w : World) (hs : s.size ≤ 140737488351232) :
    Calls Try.prog 56 #[.string s, .int .i64 a] w fun e w' => e = .returned (.tuple #[.int .i64 (skipAt s a).1, .int .i64 (skipAt s a).2]) ∧ w = w' := by
  by_cases h0 : a < 0
  · have hr : skipAt s a = (0, 2) := by unfold skipAt; rw [if_pos (.inl h0)]
    rw [hr]
    clear hr
    go_enter Try.func56, Try.ntmps56
    go_wp2_with fail
    go_ret2
    exact ⟨rfl, rfl⟩
  · by_cases h1 : (s.size : Int) < a
    · have hr : skipAt s a = (0, 2) := by unfold skipAt; rw [if_pos (.inr h1)]
      rw [hr]
      clear hr
      go_enter Try.func56, Try.ntmps56
      go_wp2_with fail
      go_ret2
      exact ⟨rfl, rfl⟩
    · obtain ⟨n, rfl⟩ := Int.eq_ofNat_of_zero_le (show 0 ≤ a by omega)
      have hr : skipAt s n = skipL s.data.toList n := by unfold skipAt; rw [if_neg (by omega), Int.toNat_natCast]
      rw [hr]
      clear hr
      have hn : n ≤ s.size := by omega
      generalize hz : skipL s.data.toList n = z
      have HZ := Lib.hid hz
      clear hz
      go_enter Try.func56, Try.ntmps56
      go_wp2_with fail
      go_loop [1] (fun i => ∃ k : Nat, k ≤ s.size ∧ i = .int .i64 k ∧ skipL s.data.toList k = z) (fun i => s.size - (intOf i).toNat)
      case atStart => exact ⟨n, hn, rfl, HZ.out⟩
      case round =>
        obtain ⟨k, hk, rfl, hsk⟩ := hrel
        by_cases l1 : s.size ≤ k
        · have hz : z = (0, 8) := by rw [← hsk, skipL, if_pos (by rw [size_l]; exact l1)]
          subst hz
          clear HZ hsk
          go_wp2_with fail
          go_ret2
          exact ⟨rfl, rfl⟩
        · have hix := run_index_oc s (k : Int) k rfl (by omega)
          have hlt := oc_lt s.data.toList k
          have l1' : ¬ s.data.toList.length ≤ k := by rw [size_l]; exact l1
          rw [skipL, if_neg l1', size_l] at hsk
          by_cases z0 : oc s.data.toList k = 0
          · rw [if_pos z0] at hsk
            subst hsk
            rw [z0] at hix
            have q1 : IntKind.i64.wrap ((k : Int) + 1) = (k : Int) + 1 := IntWalk.i64_in _ (by omega)
            have q2 : ((k + 1 : Nat) : Int) = (k : Int) + 1 := by omega
            rw [q2]
            clear HZ
            go_wp2_with fail
            go_ret2
            exact ⟨rfl, rfl⟩
          · rw [if_neg z0] at hsk
            by_cases z1 : 192 ≤ oc s.data.toList k
            · rw [if_pos z1] at hsk
              by_cases z2 : s.size < k + 2
              · rw [if_pos z2] at hsk
                subst hsk
                have q1 : IntKind.i64.wrap ((k : Int) + 2) = (k : Int) + 2 := IntWalk.i64_in _ (by omega)
                generalize oc s.data.toList k = c at *
                clear HZ
                go_wp2_with fail
                go_ret2
                exact ⟨rfl, rfl⟩
              · rw [if_neg z2] at hsk
                subst hsk
                have q1 : IntKind.i64.wrap ((k : Int) + 2) = (k : Int) + 2 := IntWalk.i64_in _ (by omega)
                have q2 : ((k + 2 : Nat) : Int) = (k : Int) + 2 := by omega
                rw [q2]
                generalize oc s.data.toList k = c at *
                clear HZ
                go_wp2_with fail
                go_ret2
                exact ⟨rfl, rfl⟩
            · rw [if_neg z1] at hsk
              by_cases z2 : 64 ≤ oc s.data.toList k
              · rw [if_pos z2] at hsk
                subst hsk
                generalize oc s.data.toList k = c at *
                clear HZ
                go_wp2_with fail
                go_ret2
                exact ⟨rfl, rfl⟩
              · rw [if_neg z2] at hsk
                have q1 : IntKind.i64.wrap (1 + (oc s.data.toList k : Int)) = 1 + (oc s.data.toList k : Int) := IntWalk.i64_in _ (by omega)
                have q2 : IntKind.i64.wrap ((k : Int) + (1 + (oc s.data.toList k : Int))) = (k : Int) + (1 + (oc s.data.toList k : Int)) := IntWalk.i64_in _ (by omega)
                by_cases z3 : s.size < k + 1 + oc s.data.toList k
                · rw [if_pos z3] at hsk
                  subst hsk
                  generalize oc s.data.toList k = c at *
                  clear HZ
                  go_wp2_with fail
                  go_ret2
                  exact ⟨rfl, rfl⟩
                · rw [if_neg z3] at hsk
                  have HS := Lib.hid hsk
                  clear hsk
                  generalize oc s.data.toList k = c at *
                  go_wp2_with fail
                  go_round
                  case rel => exact ⟨k + 1 + c, by omega, by go_num, HS.out⟩
                  case measure => simp [intOf]; omega

set_option maxRecDepth 100000 in
set_option maxHeartbeats 2000000 in
theorem rcheck_any (s : ByteArray) (w : World) :
    Calls Try.prog 54 #[.string s] w fun e w' => e = .returned (.int .i64 (ckN s)) ∧ w = w' := by
  by_cases h0 : 254 < s.size
  · have hr : ckN s = 3 := by unfold ckN; rw [if_pos h0]
    rw [hr]
    clear hr
    go_enter Try.func54, Try.ntmps54
    go_wp2_with fail
    go_ret
    exact ⟨rfl, rfl⟩
  · have hr : ckN s = ckAt s.data.toList 0 := by unfold ckN; rw [if_neg h0]
    rw [hr]
    clear hr
    generalize hz : ckAt s.data.toList 0 = z
    have HZ := Lib.hid hz
    clear hz
    go_enter Try.func54, Try.ntmps54
    go_wp2_with fail
    go_loop [3] (fun i => ∃ k : Nat, k ≤ s.size ∧ i = .int .i64 k ∧ ckAt s.data.toList k = z) (fun i => s.size - (intOf i).toNat)
    case atStart => exact ⟨0, Nat.zero_le _, rfl, HZ.out⟩
    case round =>
      obtain ⟨k, hk, rfl, hsk⟩ := hrel
      by_cases l1 : s.size ≤ k
      · have hz : z = 0 := by rw [← hsk, ckAt, if_pos (by rw [size_l]; exact l1)]
        subst hz
        clear HZ hsk
        go_wp2_with fail
        go_ret
        exact ⟨rfl, rfl⟩
      · have hix := run_index_oc' s (k : Int) k rfl (by omega)
        have hlt := oc_lt s.data.toList k
        have l1' : ¬ s.data.toList.length ≤ k := by rw [size_l]; exact l1
        rw [ckAt, if_neg l1', size_l] at hsk
        have q1 : IntKind.i64.wrap ((k : Int) + 1) = (k : Int) + 1 := IntWalk.i64_in _ (by omega)
        have q2 : IntKind.i64.wrap ((k : Int) + 1 + (oc s.data.toList k : Int)) = (k : Int) + 1 + (oc s.data.toList k : Int) := IntWalk.i64_in _ (by omega)
        by_cases z0 : oc s.data.toList k < 1
        · rw [if_pos (.inl z0)] at hsk
          subst hsk
          clear HZ
          generalize oc s.data.toList k = c at *
          go_wp2_with fail
          go_ret
          exact ⟨rfl, rfl⟩
        · by_cases z1 : 63 < oc s.data.toList k
          · rw [if_pos (.inr (.inl z1))] at hsk
            subst hsk
            clear HZ
            generalize oc s.data.toList k = c at *
            go_wp2_with fail
            go_ret
            exact ⟨rfl, rfl⟩
          · by_cases z2 : s.size < k + 1 + oc s.data.toList k
            · rw [if_pos (.inr (.inr z2))] at hsk
              subst hsk
              clear HZ
              generalize oc s.data.toList k = c at *
              go_wp2_with fail
              go_ret
              exact ⟨rfl, rfl⟩
            · rw [if_neg (by omega)] at hsk
              have HS := Lib.hid hsk
              clear hsk
              generalize oc s.data.toList k = c at *
              go_wp2_with fail
              go_round
              case rel => exact ⟨k + 1 + c, by omega, by go_num, HS.out⟩
              case measure => simp [intOf]; omega
end Go.Proofs.Ytbemackcdccpaaa
