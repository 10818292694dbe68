/-
  THE CONTRACTS OF LAYER 8 (unpack): a reader of a name.
-/
import Derived.Test.YtbemackcdccpaaaBld
import Derived.Test.YtbemackcdccpaaaUnpb
namespace Go.Proofs.Ytbemackcdccpaaa
open Go.RowKit

def urCells (s : ByteArray) (f : Bool) (x : Un) (v : Value) (A : Option Addr) (cap : Nat) (e : Int) : Array Value :=
  #[.string s, .int .i64 x.at_, .int .i64 x.begun, .int .i64 x.fin, .int .i64 x.jumps, .bool f, v, .slice A x.out.length cap, .int .i64 e]

/-- A reader lies at block p, its memory within F. -/
def Ur (w : World) (p : Nat) (F : Nat → Prop) (s : ByteArray) (f : Bool) (x : Un) (e : Int) : Prop :=
  ∃ A cap v, selfOr p 6 v ∧ Blk w p 127 (urCells s f x v A cap e) ∧ w.ownsRow 0 5 1 (.slice A x.out.length cap) x.out.length (u8s x.out) ∧ F p ∧ (∀ k, rowOf A k → F k) ∧ ∀ k, F k → k < w.heap.size

theorem urLies : liesAt Try.prog Try.prog.depth 127 (9 / Try.prog.cellsOf 127) 6 125 1 = true := by kernel_rfl

/-- What a step leaves. -/
def UrPost (w : World) (p : Nat) (F : Nat → Prop) (s : ByteArray) (f : Bool) (b : Bool) (y : Un) (er : Int) (e : Ending) (w' : World) : Prop :=
  e = .returned (.bool b) ∧ ∃ F', Ur w' p F' s f y er ∧ Fr F w w' ∧ ∀ k, F' k → F k ∨ w.heap.size ≤ k
def StepPost (w : World) (p : Nat) (F : Nat → Prop) (s : ByteArray) (f : Bool) (r : Ust) (e : Ending) (w' : World) : Prop :=
  match r with
  | .on y => UrPost w p F s f true y 0 e w'
  | .done y => UrPost w p F s f false y 0 e w'
  | .bad er => ∃ y, UrPost w p F s f false y er e w'

theorem Ur.fr {w w' : World} {p : Nat} {F S : Nat → Prop} {s : ByteArray} {f : Bool} {x : Un} {e : Int} (h : Ur w p F s f x e) (hf : Fr S w w') (hd : ∀ k, F k → ¬ S k) : Ur w' p F s f x e := by
  obtain ⟨A, cap, v, h1, h2, h3, h4, h5, h6⟩ := h
  exact ⟨A, cap, v, h1, h2.fr hf (hd _ h4), own_fr h3 hf fun k hk => hd k (h5 k hk), h4, h5, fun k hk => Nat.lt_of_lt_of_le (h6 k hk) hf.size⟩

theorem Ur.fail {w : World} {p : Nat} {F : Nat → Prop} {s : ByteArray} {f : Bool} {x : Un} {e : Int} (h : Ur w p F s f x e) (er : Int) :
    Ur (w.setCell ⟨p, 8, none⟩ (.int .i64 er)) p F s f x er ∧ Fr F w (w.setCell ⟨p, 8, none⟩ (.int .i64 er)) := by
  obtain ⟨A, cap, v, h1, h2, h3, h4, h5, h6⟩ := h
  have hrow : ¬ rowOf A p := own_ne h3 h2 (by decide)
  have hf : Fr (· = p) w (w.setCell ⟨p, 8, none⟩ (.int .i64 er)) := Fr.setCell (S := (· = p)) (Fr.refl _ w) (p := ⟨p, 8, none⟩) (fun _ => rfl) _
  exact ⟨⟨A, cap, v, h1, h2.set_ 8 _, own_fr h3 hf (fun k hk e => hrow (e ▸ hk)), h4, h5, fun k hk => Nat.lt_of_lt_of_le (h6 k hk) hf.size⟩, hf.mono fun k _ e => e ▸ h4⟩
theorem Ur.drewN {w : World} {p : Nat} {F : Nat → Prop} {s : ByteArray} {f : Bool} {x : Un} {e : Int} (h : Ur w p F s f x e) (n : Nat) : Ur (w.drewN n) p F s f x e := h.fr (S := fun _ => False) ((Fr.refl _ w).drewN n) (fun _ _ h => h)

set_option maxRecDepth 100000 in
set_option maxHeartbeats 1000000 in
theorem urfail_any (p : Nat) (F : Nat → Prop) (s : ByteArray) (f : Bool) (x : Un) (er e0 : Int) (w : World) (h : Ur w p F s f x e0) :
    Calls Try.prog 91 #[.pointer (some ⟨p, 0, none⟩), .int .i64 er] w fun e w' => e = .returned (.bool false) ∧ Ur w' p F s f x er ∧ Fr F w w' := by
  have H := Lib.hid (h.fail er)
  obtain ⟨A, cap, v, h1, h2, h3, h4, h5, h6⟩ := h
  have c8 : w.cell? ⟨p, 8, none⟩ = some (.int .i64 e0) := h2.cell 8
  have f8 := h2.frozen 8
  clear h1 h2 h3 h4 h5 h6
  go_enter Try.func91, Try.ntmps91
  go_wp2_with fail
  go_ret
  exact ⟨rfl, H.out⟩

set_option maxRecDepth 100000 in
set_option maxHeartbeats 1000000 in
theorem leave_any (p : Nat) (F : Nat → Prop) (s : ByteArray) (f : Bool) (x : Un) (n : Nat) (w : World) (h : Ur w p F s f x 0) (hn : n ≤ 2) (ha : x.at_ ≤ 140737488351232) :
    Calls Try.prog 94 #[.pointer (some ⟨p, 0, none⟩), .int .i64 n] w fun e w' => e = .returned (.tuple #[]) ∧ Ur w' p F s f { x with fin := x.leave n } 0 ∧ Fr F w w' := by
  have H := Lib.hid h
  obtain ⟨A, cap, v, h1, h2, h3, h4, h5, h6⟩ := h
  have c1 : w.cell? ⟨p, 1, none⟩ = some (.int .i64 x.at_) := h2.cell 1
  have c3 : w.cell? ⟨p, 3, none⟩ = some (.int .i64 x.fin) := h2.cell 3
  have f3 := h2.frozen 3
  by_cases hlt : x.fin < 0
  · have hq : x.leave n = (x.at_ : Int) + n := by unfold Un.leave; rw [if_pos hlt]; omega
    rw [hq]
    have hrow : ¬ rowOf A p := own_ne h3 h2 (by decide)
    have hfin : Ur (w.setCell ⟨p, 3, none⟩ (.int .i64 ((x.at_ : Int) + n))) p F s f { x with fin := (x.at_ : Int) + n } 0 ∧ Fr F w (w.setCell ⟨p, 3, none⟩ (.int .i64 ((x.at_ : Int) + n))) := by
      have hf : Fr (· = p) w (w.setCell ⟨p, 3, none⟩ (.int .i64 ((x.at_ : Int) + n))) := Fr.setCell (S := (· = p)) (Fr.refl _ w) (p := ⟨p, 3, none⟩) (fun _ => rfl) _
      exact ⟨⟨A, cap, v, h1, h2.set_ 3 _, own_fr h3 hf (fun k hk e => hrow (e ▸ hk)), h4, h5, fun k hk => Nat.lt_of_lt_of_le (h6 k hk) hf.size⟩, hf.mono fun k _ e => e ▸ h4⟩
    clear h1 h2 h3 h4 h5 h6 hq
    go_enter Try.func94, Try.ntmps94
    go_wp2_with fail
    go_end0
    exact ⟨rfl, hfin⟩
  · have hq : x.leave n = x.fin := by unfold Un.leave; rw [if_neg hlt]
    rw [hq]
    clear h1 h2 h3 h4 h5 h6 hq
    go_enter Try.func94, Try.ntmps94
    go_wp2_with fail
    go_end0
    exact ⟨rfl, H.out, Fr.refl _ _⟩

theorem Ur.goto {w : World} {p : Nat} {F : Nat → Prop} {s : ByteArray} {f : Bool} {x : Un} {e : Int} (h : Ur w p F s f x e) (a : Nat) :
    Ur (w.setCell ⟨p, 1, none⟩ (.int .i64 a)) p F s f { x with at_ := a } e ∧ Fr F w (w.setCell ⟨p, 1, none⟩ (.int .i64 a)) := by
  obtain ⟨A, cap, v, h1, h2, h3, h4, h5, h6⟩ := h
  have hrow : ¬ rowOf A p := own_ne h3 h2 (by decide)
  have hf : Fr (· = p) w (w.setCell ⟨p, 1, none⟩ (.int .i64 a)) := Fr.setCell (S := (· = p)) (Fr.refl _ w) (p := ⟨p, 1, none⟩) (fun _ => rfl) _
  exact ⟨⟨A, cap, v, h1, h2.set_ 1 _, own_fr h3 hf (fun k hk e => hrow (e ▸ hk)), h4, h5, fun k hk => Nat.lt_of_lt_of_le (h6 k hk) hf.size⟩, hf.mono fun k _ e => e ▸ h4⟩

theorem ur_of_bld {w w' : World} {p : Nat} {F : Nat → Prop} {s : ByteArray} {f : Bool} {x : Un} {A : Option Addr} {cap : Nat} {v v0 : Value} {l : List UInt8} {e : Ending} (h4 : F p) (h5 : ∀ k, rowOf A k → F k)
    (h6 : ∀ k, F k → k < w.heap.size) (h : BldPost w p 6 127 (urCells s f x v A cap 0) A l v0 e w') :
    e = .returned v0 ∧ ∃ F', Ur w' p F' s f { x with out := l } 0 ∧ Fr F w w' ∧ ∀ k, F' k → F k ∨ w.heap.size ≤ k := by
  obtain ⟨he, A', cap', b1, b2, b3, b4⟩ := h
  refine ⟨he, fun k => k = p ∨ rowOf A' k, ⟨A', cap', _, .inr rfl, b1, b2, .inl rfl, fun k hk => .inr hk, ?_⟩, b3.mono ?_, ?_⟩
  · rintro k (rfl | hk)
    · exact Nat.lt_of_lt_of_le (h6 _ h4) b3.size
    · exact own_lt b2 hk
  · rintro k _ (rfl | hk)
    · exact h4
    · exact h5 k hk
  · rintro k (rfl | hk)
    · exact .inl h4
    · exact (b4 k hk).imp (h5 k) id

theorem size_l (s : ByteArray) : s.data.toList.length = s.size := by simp
theorem extract_list (s : ByteArray) (a b : Nat) : (s.extract a b).data.toList = (s.data.toList.drop a).take (b - a) := by
  simp [ByteArray.data_extract, List.take_drop]

/-- What comes of a label of so many octets. -/
def Un.labR (s : List UInt8) (x : Un) (n : Nat) : Ust :=
  if s.length < x.at_ + 1 + n then .bad 8
  else if 254 < x.out.length + (1 + n) then .bad 3
  else .on { x with at_ := x.at_ + 1 + n, out := x.out ++ (s.drop x.at_).take (1 + n) }

set_option maxRecDepth 100000 in
set_option maxHeartbeats 2000000 in
theorem label_any (p : Nat) (F : Nat → Prop) (s : ByteArray) (f : Bool) (x : Un) (n : Nat) (w : World) (h : Ur w p F s f x 0) (hn : n < 64) (ha : x.at_ ≤ s.size) (hs : s.size ≤ 140737488351232) (hx : x.out.length ≤ 254) :
    Calls Try.prog 95 #[.pointer (some ⟨p, 0, none⟩), .int .i64 n] w (StepPost w p F s f (x.labR s.data.toList n)) := by
  have H := Lib.hid h
  obtain ⟨A, cap, v, h1, h2, h3, h4, h5, h6⟩ := h
  have c0 : w.cell? ⟨p, 0, none⟩ = some (.string s) := h2.cell 0
  have c1 : w.cell? ⟨p, 1, none⟩ = some (.int .i64 x.at_) := h2.cell 1
  have c8 : w.cell? ⟨p, 8, none⟩ = some (.int .i64 0) := h2.cell 8
  have f8 := h2.frozen 8
  have hsz : s.data.toList.length = s.size := by simp
  have q1 : IntKind.i64.wrap ((x.at_ : Int) + 1) = (x.at_ : Int) + 1 := IntWalk.i64_in _ (by omega)
  have q2 : IntKind.i64.wrap ((x.at_ : Int) + 1 + (n : Int)) = (x.at_ : Int) + 1 + (n : Int) := IntWalk.i64_in _ (by omega)
  by_cases hl : s.size < x.at_ + 1 + n
  · have hr : x.labR s.data.toList n = .bad 8 := by unfold Un.labR; rw [if_pos (by omega)]
    rw [hr]
    clear hr h1 h2 h3 h4 h5 h6 hsz
    go_enter Try.func95, Try.ntmps95
    go_wp2_with fail
    go_quiet (fail)
    have H1 := Lib.hid (H.out.drewN nq)
    have F1 : Hid (Fr F w (w.drewN nq)) := (Fr.refl _ w).drewN nq
    clear c0 c1 c8 f8
    generalize w.drewN nq = w1 at *
    go_wp2_with fail
    refine (urfail_any p F s f x 8 0 _ H1.out).mono ?_
    rintro e w' ⟨rfl, g1, g2⟩
    go_wp2_with fail
    go_ret
    exact ⟨x, rfl, F, g1, F1.out.then g2, fun _ h => .inl h⟩
  · have q3 : (0 : Int) ≤ (x.at_ : Int) + 1 + (n : Int) := by omega
    have q4 : ((x.at_ : Int) + 1 + (n : Int)).toNat = x.at_ + 1 + n := by omega
    have hex : (s.extract x.at_ (x.at_ + 1 + n)).data.toList = (s.data.toList.drop x.at_).take (1 + n) := by
      rw [extract_list]
      congr 1
      omega
    have hml : ((s.data.toList.drop x.at_).take (1 + n)).length = 1 + n := by rw [List.length_take, List.length_drop, size_l s]; omega
    have hlr : x.labR s.data.toList n = if 254 < x.out.length + (1 + n) then .bad 3 else .on { x with at_ := x.at_ + 1 + n, out := x.out ++ (s.data.toList.drop x.at_).take (1 + n) } := by
      unfold Un.labR
      rw [size_l s, if_neg hl]
    rw [hlr]
    clear hlr
    generalize (s.data.toList.drop x.at_).take (1 + n) = m at *
    obtain ⟨r, hr⟩ : ∃ r, r = if 254 < x.out.length + (1 + n) then Ust.bad 3 else .on { x with at_ := x.at_ + 1 + n, out := x.out ++ m } := ⟨_, rfl⟩
    rw [← hr]
    have HR := Lib.hid hr
    clear hr
    have hsl : ∀ w, (Instr.slice 9 (.string s) (some (.int .i64 (x.at_ : Int))) (some (.int .i64 ((x.at_ : Int) + 1 + (n : Int)))) none).run Try.prog w = .ok (.string (s.extract x.at_ (x.at_ + 1 + n))) w := fun w => by
      rw [run_slice_string (P := Try.prog) w 9 s .i64 .i64 _ _ Try.underlying9 (by omega) (by omega) (by omega), q4, Int.toNat_natCast]
    have HEX := Lib.hid hex
    have HH := Lib.hid (And.intro h1 (And.intro h2 (And.intro h3 (And.intro h4 (And.intro h5 h6)))))
    clear hex h1 h2 h3 h4 h5 h6 hsz c8 f8
    go_enter Try.func95, Try.ntmps95
    go_wp2_with fail
    go_quiet (fail)
    go_wp2_with fail
    have FW : Hid (Fr (fun _ => False) w (w.drewN nq)) := (Fr.refl _ w).drewN nq
    have HB : Hid (Blk (w.drewN nq) p 127 (urCells s f x v A cap 0)) := HH.out.2.1.drewN nq
    have d0 : (w.drewN nq).cell? ⟨p, 0, none⟩ = some (.string s) := c0
    have d1 : (w.drewN nq).cell? ⟨p, 1, none⟩ = some (.int .i64 x.at_) := c1
    clear c0 c1 H
    generalize w.drewN nq = W at *
    go_still_tail 19, (by kernel_rfl)
    change wpList _ _ _ _ _ W.drew
    replace FW := Lib.hid FW.out.drew
    replace HB := Lib.hid HB.out.drew
    clear d0 d1
    generalize W.drew = W2 at *
    go_wp2_with fail
    refine (writeString_any p 6 127 (urCells s f x v A cap 0) v A cap x.out (s.extract x.at_ (x.at_ + 1 + n)) _ HB.out rfl HH.out.1 rfl
      (own_fr HH.out.2.2.1 FW.out (fun _ _ h => h)) (by decide) urLies (by simp only [ByteArray.size_extract]; omega)).mono ?_
    intro e w3 hp
    rw [HEX.out] at hp
    obtain ⟨rfl, F', hu, hf, hsub⟩ := ur_of_bld HH.out.2.2.2.1 HH.out.2.2.2.2.1 (fun k hk => Nat.lt_of_lt_of_le (HH.out.2.2.2.2.2 k hk) FW.out.size) hp
    clear hp HEX hsl q1 q2 q3 q4
    have q5 : IntKind.i64.wrap (1 + (n : Int)) = 1 + (n : Int) := IntWalk.i64_in _ (by omega)
    have q6 : IntKind.i64.wrap ((x.at_ : Int) + (1 + (n : Int))) = (x.at_ : Int) + (1 + (n : Int)) := IntWalk.i64_in _ (by omega)
    obtain ⟨hgu, hgf⟩ := hu.goto (x.at_ + 1 + n)
    rw [show ((x.at_ + 1 + n : Nat) : Int) = (x.at_ : Int) + (1 + (n : Int)) by omega] at hgu hgf
    obtain ⟨A3, cap3, v3, k1, k2, k3, k4, k5, k6⟩ := hu
    have c1 : w3.cell? ⟨p, 1, none⟩ = some (.int .i64 x.at_) := k2.cell 1
    have f1 := k2.frozen 1
    clear k1 k2 k3 k4 k5 k6
    have FF : Hid (Fr F w w3 ∧ ∀ k, F' k → F k ∨ w.heap.size ≤ k) := ⟨(FW.out.mono fun _ _ h => h.elim).then hf, fun k hk => (hsub k hk).imp id (fun h => Nat.le_trans FW.out.size h)⟩
    clear hf hsub FW HB HH
    have HG := Lib.hid hgu
    have HGF := Lib.hid hgf
    clear hgf
    obtain ⟨A4, cap4, v4, k1, k2, k3, k4, k5, k6⟩ := hgu
    have d7 : (w3.setCell ⟨p, 1, none⟩ (.int .i64 ((x.at_ : Int) + (1 + (n : Int))))).cell? ⟨p, 7, none⟩ = some (.slice A4 (x.out.length + (1 + n)) cap4) := by
      have := k2.cell 7
      rw [← hml, ← List.length_append]
      exact this
    clear k1 k2 k3 k4 k5 k6
    by_cases hlong : 254 < x.out.length + (1 + n)
    · go_wp2_with fail
      refine (bldLen_any p 6 A4 _ cap4 _ d7).mono ?_
      rintro e w' ⟨rfl, rfl⟩
      go_wp2_with fail
      refine (urfail_any p F' s f _ 3 0 _ HG.out).mono ?_
      rintro e w' ⟨rfl, g1, g2⟩
      go_wp2_with fail
      go_ret
      rw [HR.out, if_pos hlong]
      exact ⟨_, rfl, F', g1, (FF.out.1.trans HGF.out fun i hi h => (FF.out.2 i h).resolve_right (by omega)).trans g2 (fun i hi h => (FF.out.2 i h).resolve_right (by omega)), FF.out.2⟩
    · go_wp2_with fail
      refine (bldLen_any p 6 A4 _ cap4 _ d7).mono ?_
      rintro e w' ⟨rfl, rfl⟩
      go_wp2_with fail
      go_ret
      rw [HR.out, if_neg hlong]
      exact ⟨rfl, F', HG.out, FF.out.1.trans HGF.out fun i hi h => (FF.out.2 i h).resolve_right (by omega), FF.out.2⟩

/-- What comes of a pointer. -/
def Un.jmpR (s : List UInt8) (x : Un) (to : Nat) : Ust :=
  if s.length < x.at_ + 2 then .bad 8
  else if x.begun ≤ to then .bad 4
  else .on ⟨to, to, x.leave 2, x.jumps + 1, x.out⟩

theorem i64_or_nat (a b : Nat) (ha : a < 4294967296) (hb : b < 4294967296) : bits .or .i64 (a : Int) (b : Int) = ((a ||| b : Nat) : Int) := by
  have hx : a ||| b < 2 ^ 32 := Nat.or_lt_two_pow (by omega) (by omega)
  show IntKind.i64.wrap ((BitVec.ofInt 64 (a : Int) ||| BitVec.ofInt 64 (b : Int)).toNat : Int) = _
  rw [BitVec.toNat_or, BitVec.ofInt_natCast, BitVec.ofInt_natCast, BitVec.toNat_ofNat, BitVec.toNat_ofNat, Nat.mod_eq_of_lt (by omega), Nat.mod_eq_of_lt (by omega), IntKind.wrap_i64]
  omega
theorem or_octet64 (V c : Nat) (hV : V < 16777216) (hc : c < 256) : bits .or .i64 ((V : Int) * 256) (c : Int) = ((V * 256 + c : Nat) : Int) := by
  have e1 : (V : Int) * 256 = ((V * 256 : Nat) : Int) := by omega
  rw [e1, i64_or_nat _ _ (by omega) (by omega), Nat.mul_comm V 256, show 256 = 2 ^ 8 from rfl, ← Nat.two_pow_add_eq_or_of_lt (by omega)]

theorem get_oc (s : ByteArray) (i : Nat) (h : i < s.size) : (s[i]'h).toNat = oc s.data.toList i := by
  unfold oc
  rw [List.getD_eq_getElem?_getD, List.getElem?_eq_getElem (by simpa using h)]
  simp [ByteArray.getElem_eq_getElem_data]

theorem run_index_oc (s : ByteArray) (i : Int) (k : Nat) (hi : i = (k : Int)) (h : k < s.size) (w : World) : (Instr.index 9 (.string s) (.int .i64 i)).run Try.prog w = .ok (.int .u8 (oc s.data.toList k)) w := by
  subst hi
  rw [← get_oc s k h]
  simp [Instr.index, asIntOf, run_underlying Try.underlying9, h]
theorem Ur.jumped {w : World} {p : Nat} {F : Nat → Prop} {s : ByteArray} {f : Bool} {x : Un} {e : Int} (h : Ur w p F s f x e) (to : Nat) (j : Int) (hj : j = ((x.jumps + 1 : Nat) : Int)) :
    Ur (((w.setCell ⟨p, 1, none⟩ (.int .i64 to)).setCell ⟨p, 2, none⟩ (.int .i64 to)).setCell ⟨p, 4, none⟩ (.int .i64 j)) p F s f ⟨to, to, x.fin, x.jumps + 1, x.out⟩ e ∧
      Fr F w (((w.setCell ⟨p, 1, none⟩ (.int .i64 to)).setCell ⟨p, 2, none⟩ (.int .i64 to)).setCell ⟨p, 4, none⟩ (.int .i64 j)) := by
  subst hj
  obtain ⟨A, cap, v, h1, h2, h3, h4, h5, h6⟩ := h
  have hrow : ¬ rowOf A p := own_ne h3 h2 (by decide)
  have hf : Fr (· = p) w (((w.setCell ⟨p, 1, none⟩ (.int .i64 to)).setCell ⟨p, 2, none⟩ (.int .i64 to)).setCell ⟨p, 4, none⟩ (.int .i64 ((x.jumps + 1 : Nat) : Int))) :=
    Fr.setCell (S := (· = p)) (Fr.setCell (S := (· = p)) (Fr.setCell (S := (· = p)) (Fr.refl _ w) (p := ⟨p, 1, none⟩) (fun _ => rfl) _) (p := ⟨p, 2, none⟩) (fun _ => rfl) _) (p := ⟨p, 4, none⟩) (fun _ => rfl) _
  exact ⟨⟨A, cap, v, h1, ((h2.set_ 1 _).set_ 2 _).set_ 4 _, own_fr h3 hf (fun k hk e => hrow (e ▸ hk)), h4, h5, fun k hk => Nat.lt_of_lt_of_le (h6 k hk) hf.size⟩, hf.mono fun k _ e => e ▸ h4⟩

set_option maxRecDepth 100000 in
set_option maxHeartbeats 2000000 in
theorem jump_any (p : Nat) (F : Nat → Prop) (s : ByteArray) (f : Bool) (x : Un) (n : Nat) (w : World) (h : Ur w p F s f x 0) (hn : n < 64) (ha : x.at_ ≤ s.size) (hs : s.size ≤ 140737488351232) (hj : x.jumps ≤ s.size) :
    Calls Try.prog 96 #[.pointer (some ⟨p, 0, none⟩), .int .i64 n] w (StepPost w p F s f (x.jmpR s.data.toList (n * 256 + oc s.data.toList (x.at_ + 1)))) := by
  have H := Lib.hid h
  obtain ⟨A, cap, v, h1, h2, h3, h4, h5, h6⟩ := h
  have c0 : w.cell? ⟨p, 0, none⟩ = some (.string s) := h2.cell 0
  have c1 : w.cell? ⟨p, 1, none⟩ = some (.int .i64 x.at_) := h2.cell 1
  have c2 : w.cell? ⟨p, 2, none⟩ = some (.int .i64 x.begun) := h2.cell 2
  have q1 : IntKind.i64.wrap ((x.at_ : Int) + 2) = (x.at_ : Int) + 2 := IntWalk.i64_in _ (by omega)
  clear h1 h2 h3 h4 h5 h6
  by_cases hl : s.size < x.at_ + 2
  · have hr : x.jmpR s.data.toList (n * 256 + oc s.data.toList (x.at_ + 1)) = .bad 8 := by unfold Un.jmpR; rw [size_l s, if_pos (by omega)]
    rw [hr]
    clear hr
    go_enter Try.func96, Try.ntmps96
    go_wp2_with fail
    go_quiet (fail)
    have H1 := Lib.hid (H.out.drewN nq)
    have F1 : Hid (Fr F w (w.drewN nq)) := (Fr.refl _ w).drewN nq
    clear c0 c1 c2
    generalize w.drewN nq = w1 at *
    go_wp2_with fail
    refine (urfail_any p F s f x 8 0 _ H1.out).mono ?_
    rintro e w' ⟨rfl, g1, g2⟩
    go_wp2_with fail
    go_ret
    exact ⟨x, rfl, F, g1, F1.out.then g2, fun _ h => .inl h⟩
  · have hlt : x.at_ + 1 < s.size := by omega
    have hoc := get_oc s (x.at_ + 1) hlt
    have hoclt := oc_lt s.data.toList (x.at_ + 1)
    have hor := or_octet64 n (s[x.at_ + 1]'hlt).toNat (by omega) (by rw [hoc]; exact hoclt)
    have hjr : x.jmpR s.data.toList (n * 256 + oc s.data.toList (x.at_ + 1)) = if x.begun ≤ n * 256 + oc s.data.toList (x.at_ + 1) then .bad 4 else .on ⟨n * 256 + oc s.data.toList (x.at_ + 1), n * 256 + oc s.data.toList (x.at_ + 1), x.leave 2, x.jumps + 1, x.out⟩ := by
      unfold Un.jmpR
      rw [size_l s, if_neg hl]
    rw [hjr]
    clear hjr
    have hix := run_index_oc s ((x.at_ : Int) + 1) (x.at_ + 1) (by omega) hlt
    have q2 : IntKind.i64.wrap ((x.at_ : Int) + 1) = (x.at_ : Int) + 1 := IntWalk.i64_in _ (by omega)
    rw [hoc] at hor
    clear hoc
    generalize oc s.data.toList (x.at_ + 1) = c at *
    have hbn : n * 256 + c < 16384 := by omega
    generalize n * 256 + c = to at *
    by_cases hbeg : x.begun ≤ to
    · rw [if_pos hbeg]
      go_enter Try.func96, Try.ntmps96
      go_wp2_with fail
      go_quiet (fail)
      go_wp2_with fail
      go_quiet (fail)
      go_wp2_with fail
      refine (urfail_any p F s f x 4 0 _ (H.out.drewN _)).mono ?_
      rintro e w' ⟨rfl, g1, g2⟩
      go_wp2_with fail
      go_ret
      exact ⟨x, rfl, F, g1, ((Fr.refl F w).drewN _).then g2, fun _ h => .inl h⟩
    · rw [if_neg hbeg]
      go_enter Try.func96, Try.ntmps96
      go_wp2_with fail
      go_quiet (fail)
      go_wp2_with fail
      go_quiet (fail)
      go_wp2_with fail
      refine (leave_any p F s f x 2 _ (H.out.drewN _) (by decide) (by omega)).mono ?_
      rintro e w5 ⟨rfl, g1, g2⟩
      have g3 : Hid (Fr F w w5) := ((Fr.refl F w).drewN _).then g2
      have HJ := Lib.hid (g1.jumped to ((x.jumps : Int) + 1) (by dsimp only; omega))
      have q3 : IntKind.i64.wrap ((x.jumps : Int) + 1) = (x.jumps : Int) + 1 := IntWalk.i64_in _ (by omega)
      obtain ⟨A5, cap5, v5, k1, k2, k3, k4, k5, k6⟩ := g1
      have d1 : w5.cell? ⟨p, 1, none⟩ = some (.int .i64 x.at_) := k2.cell 1
      have d2 : w5.cell? ⟨p, 2, none⟩ = some (.int .i64 x.begun) := k2.cell 2
      have d4 : w5.cell? ⟨p, 4, none⟩ = some (.int .i64 x.jumps) := k2.cell 4
      have e1 := k2.frozen 1
      have e2 := k2.frozen 2
      have e4 := k2.frozen 4
      clear k1 k2 k3 k4 k5 k6 g2 c0 c1 c2 hix hor
      go_wp2_with fail
      go_ret
      exact ⟨rfl, F, HJ.out.1, g3.out.then HJ.out.2, fun _ h => .inl h⟩

theorem StepPost.ret {w w' : World} {n p : Nat} {F : Nat → Prop} {s : ByteArray} {f : Bool} {r : Ust} {e : Ending} (h : StepPost (w.drewN n) p F s f r e w') : ∃ b, e = .returned (.bool b) ∧ StepPost w p F s f r (.returned (.bool b)) w' := by
  cases r with
  | on y =>
    obtain ⟨he, F', h1, h2, h3⟩ := h
    exact ⟨true, he, rfl, F', h1, h2.fromN, h3⟩
  | done y =>
    obtain ⟨he, F', h1, h2, h3⟩ := h
    exact ⟨false, he, rfl, F', h1, h2.fromN, h3⟩
  | bad er =>
    obtain ⟨y, he, F', h1, h2, h3⟩ := h
    exact ⟨false, he, y, rfl, F', h1, h2.fromN, h3⟩
theorem step_bad8 {s : List UInt8} {f : Bool} {x : Un} (h : s.length ≤ x.at_) : x.step s f = .bad 8 := by unfold Un.step; rw [if_pos h]
theorem step_zero {s : List UInt8} {f : Bool} {x : Un} (h : ¬ s.length ≤ x.at_) (hc : oc s x.at_ = 0) : x.step s f = .done { x with fin := x.leave 1 } := by unfold Un.step; rw [if_neg h, if_pos hc]
theorem step_lab {s : List UInt8} {f : Bool} {x : Un} (h : ¬ s.length ≤ x.at_) (h0 : oc s x.at_ ≠ 0) (h1 : oc s x.at_ < 64) : x.step s f = x.labR s (oc s x.at_) := by
  unfold Un.step Un.labR Un.lab
  rw [if_neg h, if_neg h0, if_pos h1]
theorem step_jmp {s : List UInt8} {x : Un} (h : ¬ s.length ≤ x.at_) (h1 : 192 ≤ oc s x.at_) : x.step s true = x.jmpR s ((oc s x.at_ - 192) * 256 + oc s (x.at_ + 1)) := by
  unfold Un.step Un.jmpR Un.jmp Un.to
  rw [if_neg h, if_neg (by omega), if_neg (by omega), if_pos ⟨h1, rfl⟩]
theorem step_bad4 {s : List UInt8} {f : Bool} {x : Un} (h : ¬ s.length ≤ x.at_) (h1 : 64 ≤ oc s x.at_) (h2 : ¬ (192 ≤ oc s x.at_ ∧ f = true)) : x.step s f = .bad 4 := by
  unfold Un.step
  rw [if_neg h, if_neg (by omega), if_neg (by omega), if_neg h2]

set_option maxRecDepth 100000 in
set_option maxHeartbeats 2000000 in
theorem urstep_any (p : Nat) (F : Nat → Prop) (s : ByteArray) (f : Bool) (x : Un) (w : World) (h : Ur w p F s f x 0) (ha : x.at_ ≤ s.size) (hs : s.size ≤ 140737488351232) (hj : x.jumps ≤ s.size) (hx : x.out.length ≤ 254) :
    Calls Try.prog 92 #[.pointer (some ⟨p, 0, none⟩)] w (StepPost w p F s f (x.step s.data.toList f)) := by
  have H := Lib.hid h
  obtain ⟨A, cap, v, h1, h2, h3, h4, h5, h6⟩ := h
  have c0 : w.cell? ⟨p, 0, none⟩ = some (.string s) := h2.cell 0
  have c1 : w.cell? ⟨p, 1, none⟩ = some (.int .i64 x.at_) := h2.cell 1
  have c5 : w.cell? ⟨p, 5, none⟩ = some (.bool f) := h2.cell 5
  clear h1 h2 h3 h4 h5 h6
  by_cases hl : s.size ≤ x.at_
  · rw [step_bad8 (by rw [size_l]; exact hl)]
    go_enter Try.func92, Try.ntmps92
    go_wp2_with fail
    go_quiet (fail)
    go_wp2_with fail
    refine (urfail_any p F s f x 8 0 _ (H.out.drewN _)).mono ?_
    rintro e w' ⟨rfl, g1, g2⟩
    go_wp2_with fail
    go_ret
    exact ⟨x, rfl, F, g1, ((Fr.refl F w).drewN _).then g2, fun _ h => .inl h⟩
  · have hl' : ¬ s.data.toList.length ≤ x.at_ := by rw [size_l]; exact hl
    have hix := run_index_oc s (x.at_ : Int) x.at_ rfl (by omega)
    have hlt := oc_lt s.data.toList x.at_
    by_cases z0 : oc s.data.toList x.at_ = 0
    · rw [step_zero hl' z0]
      rw [z0] at hix
      go_enter Try.func92, Try.ntmps92
      go_wp2_with fail
      go_quiet (fail)
      go_wp2_with fail
      go_quiet (fail)
      go_wp2_with fail
      refine (leave_any p F s f x 1 _ (H.out.drewN _) (by decide) (by omega)).mono ?_
      rintro e w' ⟨rfl, g1, g2⟩
      go_wp2_with fail
      go_ret
      exact ⟨rfl, F, g1, ((Fr.refl F w).drewN _).then g2, fun _ h => .inl h⟩
    · by_cases z1 : oc s.data.toList x.at_ < 64
      · rw [step_lab hl' z0 z1]
        generalize oc s.data.toList x.at_ = c at *
        go_enter Try.func92, Try.ntmps92
        go_wp2_with fail
        go_quiet (fail)
        go_wp2_with fail
        go_quiet (fail)
        go_wp2_with fail
        refine (label_any p F s f x c _ (H.out.drewN _) z1 ha hs hx).mono ?_
        intro e w' hp
        obtain ⟨b, rfl, hq⟩ := hp.ret
        have HQ := Lib.hid hq
        clear hp hq
        go_wp2_with fail
        go_ret
        exact HQ.out
      · by_cases z2 : 192 ≤ oc s.data.toList x.at_
        · rcases (show f = false ∨ f = true by cases f <;> simp) with rfl | rfl
          · rw [step_bad4 hl' (by omega) (by simp)]
            generalize oc s.data.toList x.at_ = c at *
            go_enter Try.func92, Try.ntmps92
            go_wp2_with fail
            go_quiet (fail)
            go_wp2_with fail
            go_quiet (fail)
            go_wp2_with fail
            refine (urfail_any p F s false x 4 0 _ (H.out.drewN _)).mono ?_
            rintro e w' ⟨rfl, g1, g2⟩
            go_wp2_with fail
            go_ret
            exact ⟨x, rfl, F, g1, ((Fr.refl F w).drewN _).then g2, fun _ h => .inl h⟩
          · rw [step_jmp hl' z2]
            obtain ⟨n, hn⟩ : ∃ n, oc s.data.toList x.at_ = n + 192 := ⟨oc s.data.toList x.at_ - 192, by omega⟩
            rw [hn] at hix hlt ⊢
            rw [Nat.add_sub_cancel]
            have q3 : IntKind.i64.wrap (((n + 192 : Nat) : Int) - 192) = (n : Int) := by rw [IntWalk.i64_in _ (by omega)]; omega
            have q4 : ((n + 192 : Nat) : Int) - 192 = (n : Int) := by omega
            clear hn z0 z1 z2
            go_enter Try.func92, Try.ntmps92
            go_wp2_with fail
            go_quiet (fail)
            go_wp2_with fail
            go_quiet (fail)
            go_wp2_with fail
            refine (jump_any p F s true x n _ (H.out.drewN _) (by omega) ha hs hj).mono ?_
            intro e w' hp
            obtain ⟨b, rfl, hq⟩ := hp.ret
            have HQ := Lib.hid hq
            clear hp hq
            go_wp2_with fail
            go_ret
            exact HQ.out
        · rw [step_bad4 hl' (by omega) (fun h => z2 h.1)]
          generalize oc s.data.toList x.at_ = c at *
          go_enter Try.func92, Try.ntmps92
          go_wp2_with fail
          go_quiet (fail)
          go_wp2_with fail
          go_quiet (fail)
          go_wp2_with fail
          refine (urfail_any p F s f x 4 0 _ (H.out.drewN _)).mono ?_
          rintro e w' ⟨rfl, g1, g2⟩
          go_wp2_with fail
          go_ret
          exact ⟨x, rfl, F, g1, ((Fr.refl F w).drewN _).then g2, fun _ h => .inl h⟩
end Go.Proofs.Ytbemackcdccpaaa
