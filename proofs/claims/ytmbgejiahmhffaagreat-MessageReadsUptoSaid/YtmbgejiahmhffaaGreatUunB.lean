/-
  TEXTS OF THIS CLAIM, TOGETHER: Unpw, Unpr, Unpf, Unpk, Pkp, Lives3, Rpk, Opens, Unpbk, Pgp.
-/
import Derived.Test.YtmbgejiahmhffaaGreatUunA
import Derived.WalkMore
import Derived.Deep.LoopGhost
import Derived.StillTailTactics
import Derived.ProofKit
import Derived.OpenShut
import Derived.ShutString
import Derived.ChangeOld
import Derived.Deep.Slices
import Derived.Deep.Fields
import Derived.ChangeSame
import Derived.Test.YtmbgejiahmhffaaGreatProg
/-
  THE CONTRACTS OF LAYER 8 (unpack): a reader of a name.
-/
namespace Go.Proofs.YtmbgejiahmhffaaGreat
open Go.RowKit

def urCells (s : ByteArray) (f : Bool) (x : Un) (v : Value) (A : Option Addr) (cap : Nat) (e : Int) : Array Value :=
  #[.string s, .int .i64 x.at_, .int .i64 x.begun, .int .i64 x.fin, .int .i64 x.jumps, .bool f, v, .slice A x.out.length cap, .int .i64 e]
/-- A reader lies at block p, its memory within F. -/
def Ur (w : World) (p : Nat) (F : Nat → Prop) (s : ByteArray) (f : Bool) (x : Un) (e : Int) : Prop :=
  ∃ A cap v, selfOr p 6 v ∧ Blk w p 201 (urCells s f x v A cap e) ∧ w.ownsRow 0 5 1 (.slice A x.out.length cap) x.out.length (u8s x.out) ∧ F p ∧ (∀ k, rowOf A k → F k) ∧ ∀ k, F k → k < w.heap.size
theorem urLies : liesAt Tryz.prog Tryz.prog.depth 201 (9 / Tryz.prog.cellsOf 201) 6 199 1 = true := by kernel_rfl
/-- What a step leaves. -/
def UrPost (w : World) (p : Nat) (F : Nat → Prop) (s : ByteArray) (f : Bool) (b : Bool) (y : Un) (er : Int) (e : Ending) (w' : World) : Prop :=
  e = .returned (.bool b) ∧ ∃ F', Ur w' p F' s f y er ∧ Fr F w w' ∧ ∀ k, F' k → F k ∨ w.heap.size ≤ k
def StepPost (w : World) (p : Nat) (F : Nat → Prop) (s : ByteArray) (f : Bool) (r : Ust) (e : Ending) (w' : World) : Prop :=
  match r with
  | .on y => UrPost w p F s f true y 0 e w'
  | .done y => UrPost w p F s f false y 0 e w'
  | .bad er => ∃ y, UrPost w p F s f false y er e w'
theorem Ur.fr {w w' : World} {p : Nat} {F S : Nat → Prop} {s : ByteArray} {f : Bool} {x : Un} {e : Int} (h : Ur w p F s f x e) (hf : Fr S w w') (hd : ∀ k, F k → ¬ S k) : Ur w' p F s f x e := by
  obtain ⟨A, cap, v, h1, h2, h3, h4, h5, h6⟩ := h
  exact ⟨A, cap, v, h1, h2.fr hf (hd _ h4), own_fr h3 hf fun k hk => hd k (h5 k hk), h4, h5, fun k hk => Nat.lt_of_lt_of_le (h6 k hk) hf.size⟩
theorem Ur.fail {w : World} {p : Nat} {F : Nat → Prop} {s : ByteArray} {f : Bool} {x : Un} {e : Int} (h : Ur w p F s f x e) (er : Int) :
    Ur (w.setCell ⟨p, 8, none⟩ (.int .i64 er)) p F s f x er ∧ Fr F w (w.setCell ⟨p, 8, none⟩ (.int .i64 er)) := by
  obtain ⟨A, cap, v, h1, h2, h3, h4, h5, h6⟩ := h
  have hrow : ¬ rowOf A p := own_ne h3 h2 (by decide)
  have hf : Fr (· = p) w (w.setCell ⟨p, 8, none⟩ (.int .i64 er)) := Fr.setCell (S := (· = p)) (Fr.refl _ w) (p := ⟨p, 8, none⟩) (fun _ => rfl) _
  exact ⟨⟨A, cap, v, h1, h2.set_ 8 _, own_fr h3 hf (fun k hk e => hrow (e ▸ hk)), h4, h5, fun k hk => Nat.lt_of_lt_of_le (h6 k hk) hf.size⟩, hf.mono fun k _ e => e ▸ h4⟩
theorem Ur.drewN {w : World} {p : Nat} {F : Nat → Prop} {s : ByteArray} {f : Bool} {x : Un} {e : Int} (h : Ur w p F s f x e) (n : Nat) : Ur (w.drewN n) p F s f x e := h.fr (S := fun _ => False) ((Fr.refl _ w).drewN n) (fun _ _ h => h)
set_option maxRecDepth 100000 in
set_option maxHeartbeats 1000000 in
theorem urfail_any (p : Nat) (F : Nat → Prop) (s : ByteArray) (f : Bool) (x : Un) (er e0 : Int) (w : World) (h : Ur w p F s f x e0) :
    Calls Tryz.prog 135 #[.pointer (some ⟨p, 0, none⟩), .int .i64 er] w fun e w' => e = .returned (.bool false) ∧ Ur w' p F s f x er ∧ Fr F w w' := by
  have H := Lib.hid (h.fail er)
  obtain ⟨A, cap, v, h1, h2, h3, h4, h5, h6⟩ := h
  have c8 : w.cell? ⟨p, 8, none⟩ = some (.int .i64 e0) := h2.cell 8
  have f8 := h2.frozen 8
  clear h1 h2 h3 h4 h5 h6
  go_enter Tryz.func135, Tryz.ntmps135
  go_wp2_with fail
  go_ret
  exact ⟨rfl, H.out⟩
set_option maxRecDepth 100000 in
set_option maxHeartbeats 1000000 in
theorem leave_any (p : Nat) (F : Nat → Prop) (s : ByteArray) (f : Bool) (x : Un) (n : Nat) (w : World) (h : Ur w p F s f x 0) (hn : n ≤ 2) (ha : x.at_ ≤ 140737488351232) :
    Calls Tryz.prog 140 #[.pointer (some ⟨p, 0, none⟩), .int .i64 n] w fun e w' => e = .returned (.tuple #[]) ∧ Ur w' p F s f { x with fin := x.leave n } 0 ∧ Fr F w w' := by
  have H := Lib.hid h
  obtain ⟨A, cap, v, h1, h2, h3, h4, h5, h6⟩ := h
  have c1 : w.cell? ⟨p, 1, none⟩ = some (.int .i64 x.at_) := h2.cell 1
  have c3 : w.cell? ⟨p, 3, none⟩ = some (.int .i64 x.fin) := h2.cell 3
  have f3 := h2.frozen 3
  by_cases hlt : x.fin < 0
  · have hq : x.leave n = (x.at_ : Int) + n := by unfold Un.leave; rw [if_pos hlt]; omega
    rw [hq]
    have hrow : ¬ rowOf A p := own_ne h3 h2 (by decide)
    have hfin : Ur (w.setCell ⟨p, 3, none⟩ (.int .i64 ((x.at_ : Int) + n))) p F s f { x with fin := (x.at_ : Int) + n } 0 ∧ Fr F w (w.setCell ⟨p, 3, none⟩ (.int .i64 ((x.at_ : Int) + n))) := by
      have hf : Fr (· = p) w (w.setCell ⟨p, 3, none⟩ (.int .i64 ((x.at_ : Int) + n))) := Fr.setCell (S := (· = p)) (Fr.refl _ w) (p := ⟨p, 3, none⟩) (fun _ => rfl) _
      exact ⟨⟨A, cap, v, h1, h2.set_ 3 _, own_fr h3 hf (fun k hk e => hrow (e ▸ hk)), h4, h5, fun k hk => Nat.lt_of_lt_of_le (h6 k hk) hf.size⟩, hf.mono fun k _ e => e ▸ h4⟩
    clear h1 h2 h3 h4 h5 h6 hq
    go_enter Tryz.func140, Tryz.ntmps140
    go_wp2_with fail
    go_end0
    exact ⟨rfl, hfin⟩
  · have hq : x.leave n = x.fin := by unfold Un.leave; rw [if_neg hlt]
    rw [hq]
    clear h1 h2 h3 h4 h5 h6 hq
    go_enter Tryz.func140, Tryz.ntmps140
    go_wp2_with fail
    go_end0
    exact ⟨rfl, H.out, Fr.refl _ _⟩
theorem Ur.goto {w : World} {p : Nat} {F : Nat → Prop} {s : ByteArray} {f : Bool} {x : Un} {e : Int} (h : Ur w p F s f x e) (a : Nat) :
    Ur (w.setCell ⟨p, 1, none⟩ (.int .i64 a)) p F s f { x with at_ := a } e ∧ Fr F w (w.setCell ⟨p, 1, none⟩ (.int .i64 a)) := by
  obtain ⟨A, cap, v, h1, h2, h3, h4, h5, h6⟩ := h
  have hrow : ¬ rowOf A p := own_ne h3 h2 (by decide)
  have hf : Fr (· = p) w (w.setCell ⟨p, 1, none⟩ (.int .i64 a)) := Fr.setCell (S := (· = p)) (Fr.refl _ w) (p := ⟨p, 1, none⟩) (fun _ => rfl) _
  exact ⟨⟨A, cap, v, h1, h2.set_ 1 _, own_fr h3 hf (fun k hk e => hrow (e ▸ hk)), h4, h5, fun k hk => Nat.lt_of_lt_of_le (h6 k hk) hf.size⟩, hf.mono fun k _ e => e ▸ h4⟩
theorem ur_of_bld {w w' : World} {p : Nat} {F : Nat → Prop} {s : ByteArray} {f : Bool} {x : Un} {A : Option Addr} {cap : Nat} {v v0 : Value} {l : List UInt8} {e : Ending} (h4 : F p) (h5 : ∀ k, rowOf A k → F k)
    (h6 : ∀ k, F k → k < w.heap.size) (h : BldPost w p 6 201 (urCells s f x v A cap 0) A l v0 e w') :
    e = .returned v0 ∧ ∃ F', Ur w' p F' s f { x with out := l } 0 ∧ Fr F w w' ∧ ∀ k, F' k → F k ∨ w.heap.size ≤ k := by
  obtain ⟨he, A', cap', b1, b2, b3, b4⟩ := h
  refine ⟨he, fun k => k = p ∨ rowOf A' k, ⟨A', cap', _, .inr rfl, b1, b2, .inl rfl, fun k hk => .inr hk, ?_⟩, b3.mono ?_, ?_⟩
  · rintro k (rfl | hk)
    · exact Nat.lt_of_lt_of_le (h6 _ h4) b3.size
    · exact own_lt b2 hk
  · rintro k _ (rfl | hk)
    · exact h4
    · exact h5 k hk
  · rintro k (rfl | hk)
    · exact .inl h4
    · exact (b4 k hk).imp (h5 k) id
theorem size_l (s : ByteArray) : s.data.toList.length = s.size := by simp
theorem extract_list (s : ByteArray) (a b : Nat) : (s.extract a b).data.toList = (s.data.toList.drop a).take (b - a) := by
  simp [ByteArray.data_extract, List.take_drop]
/-- What comes of a label of so many octets. -/
def Un.labR (s : List UInt8) (x : Un) (n : Nat) : Ust :=
  if s.length < x.at_ + 1 + n then .bad 8
  else if 254 < x.out.length + (1 + n) then .bad 3
  else .on { x with at_ := x.at_ + 1 + n, out := x.out ++ (s.drop x.at_).take (1 + n) }
set_option maxRecDepth 100000 in
set_option maxHeartbeats 2000000 in
theorem label_any (p : Nat) (F : Nat → Prop) (s : ByteArray) (f : Bool) (x : Un) (n : Nat) (w : World) (h : Ur w p F s f x 0) (hn : n < 64) (ha : x.at_ ≤ s.size) (hs : s.size ≤ 140737488351232) (hx : x.out.length ≤ 254) :
    Calls Tryz.prog 141 #[.pointer (some ⟨p, 0, none⟩), .int .i64 n] w (StepPost w p F s f (x.labR s.data.toList n)) := by
  have H := Lib.hid h
  obtain ⟨A, cap, v, h1, h2, h3, h4, h5, h6⟩ := h
  have c0 : w.cell? ⟨p, 0, none⟩ = some (.string s) := h2.cell 0
  have c1 : w.cell? ⟨p, 1, none⟩ = some (.int .i64 x.at_) := h2.cell 1
  have c8 : w.cell? ⟨p, 8, none⟩ = some (.int .i64 0) := h2.cell 8
  have f8 := h2.frozen 8
  have hsz : s.data.toList.length = s.size := by simp
  have q1 : IntKind.i64.wrap ((x.at_ : Int) + 1) = (x.at_ : Int) + 1 := IntWalk.i64_in _ (by omega)
  have q2 : IntKind.i64.wrap ((x.at_ : Int) + 1 + (n : Int)) = (x.at_ : Int) + 1 + (n : Int) := IntWalk.i64_in _ (by omega)
  by_cases hl : s.size < x.at_ + 1 + n
  · have hr : x.labR s.data.toList n = .bad 8 := by unfold Un.labR; rw [if_pos (by omega)]
    rw [hr]
    clear hr h1 h2 h3 h4 h5 h6 hsz
    go_enter Tryz.func141, Tryz.ntmps141
    go_wp2_with fail
    go_quiet (fail)
    have H1 := Lib.hid (H.out.drewN nq)
    have F1 : Hid (Fr F w (w.drewN nq)) := (Fr.refl _ w).drewN nq
    clear c0 c1 c8 f8
    generalize w.drewN nq = w1 at *
    go_wp2_with fail
    refine (urfail_any p F s f x 8 0 _ H1.out).mono ?_
    rintro e w' ⟨rfl, g1, g2⟩
    go_wp2_with fail
    go_ret
    exact ⟨x, rfl, F, g1, F1.out.then g2, fun _ h => .inl h⟩
  · have q3 : (0 : Int) ≤ (x.at_ : Int) + 1 + (n : Int) := by omega
    have q4 : ((x.at_ : Int) + 1 + (n : Int)).toNat = x.at_ + 1 + n := by omega
    have hex : (s.extract x.at_ (x.at_ + 1 + n)).data.toList = (s.data.toList.drop x.at_).take (1 + n) := by
      rw [extract_list]
      congr 1
      omega
    have hml : ((s.data.toList.drop x.at_).take (1 + n)).length = 1 + n := by rw [List.length_take, List.length_drop, size_l s]; omega
    have hlr : x.labR s.data.toList n = if 254 < x.out.length + (1 + n) then .bad 3 else .on { x with at_ := x.at_ + 1 + n, out := x.out ++ (s.data.toList.drop x.at_).take (1 + n) } := by
      unfold Un.labR
      rw [size_l s, if_neg hl]
    rw [hlr]
    clear hlr
    generalize (s.data.toList.drop x.at_).take (1 + n) = m at *
    obtain ⟨r, hr⟩ : ∃ r, r = if 254 < x.out.length + (1 + n) then Ust.bad 3 else .on { x with at_ := x.at_ + 1 + n, out := x.out ++ m } := ⟨_, rfl⟩
    rw [← hr]
    have HR := Lib.hid hr
    clear hr
    have hsl : ∀ w, (Instr.slice 9 (.string s) (some (.int .i64 (x.at_ : Int))) (some (.int .i64 ((x.at_ : Int) + 1 + (n : Int)))) none).run Tryz.prog w = .ok (.string (s.extract x.at_ (x.at_ + 1 + n))) w := fun w => by
      rw [run_slice_string (P := Tryz.prog) w 9 s .i64 .i64 _ _ Tryz.underlying9 (by omega) (by omega) (by omega), q4, Int.toNat_natCast]
    have HEX := Lib.hid hex
    have HH := Lib.hid (And.intro h1 (And.intro h2 (And.intro h3 (And.intro h4 (And.intro h5 h6)))))
    clear hex h1 h2 h3 h4 h5 h6 hsz c8 f8
    go_enter Tryz.func141, Tryz.ntmps141
    go_wp2_with fail
    go_quiet (fail)
    go_wp2_with fail
    have FW : Hid (Fr (fun _ => False) w (w.drewN nq)) := (Fr.refl _ w).drewN nq
    have HB : Hid (Blk (w.drewN nq) p 201 (urCells s f x v A cap 0)) := HH.out.2.1.drewN nq
    have d0 : (w.drewN nq).cell? ⟨p, 0, none⟩ = some (.string s) := c0
    have d1 : (w.drewN nq).cell? ⟨p, 1, none⟩ = some (.int .i64 x.at_) := c1
    clear c0 c1 H
    generalize w.drewN nq = W at *
    go_still_tail 19, (by kernel_rfl)
    change wpList _ _ _ _ _ W.drew
    replace FW := Lib.hid FW.out.drew
    replace HB := Lib.hid HB.out.drew
    clear d0 d1
    generalize W.drew = W2 at *
    go_wp2_with fail
    refine (writeString_any p 6 201 (urCells s f x v A cap 0) v A cap x.out (s.extract x.at_ (x.at_ + 1 + n)) _ HB.out rfl HH.out.1 rfl
      (own_fr HH.out.2.2.1 FW.out (fun _ _ h => h)) (by decide) urLies (by simp only [ByteArray.size_extract]; omega)).mono ?_
    intro e w3 hp
    rw [HEX.out] at hp
    obtain ⟨rfl, F', hu, hf, hsub⟩ := ur_of_bld HH.out.2.2.2.1 HH.out.2.2.2.2.1 (fun k hk => Nat.lt_of_lt_of_le (HH.out.2.2.2.2.2 k hk) FW.out.size) hp
    clear hp HEX hsl q1 q2 q3 q4
    have q5 : IntKind.i64.wrap (1 + (n : Int)) = 1 + (n : Int) := IntWalk.i64_in _ (by omega)
    have q6 : IntKind.i64.wrap ((x.at_ : Int) + (1 + (n : Int))) = (x.at_ : Int) + (1 + (n : Int)) := IntWalk.i64_in _ (by omega)
    obtain ⟨hgu, hgf⟩ := hu.goto (x.at_ + 1 + n)
    rw [show ((x.at_ + 1 + n : Nat) : Int) = (x.at_ : Int) + (1 + (n : Int)) by omega] at hgu hgf
    obtain ⟨A3, cap3, v3, k1, k2, k3, k4, k5, k6⟩ := hu
    have c1 : w3.cell? ⟨p, 1, none⟩ = some (.int .i64 x.at_) := k2.cell 1
    have f1 := k2.frozen 1
    clear k1 k2 k3 k4 k5 k6
    have FF : Hid (Fr F w w3 ∧ ∀ k, F' k → F k ∨ w.heap.size ≤ k) := ⟨(FW.out.mono fun _ _ h => h.elim).then hf, fun k hk => (hsub k hk).imp id (fun h => Nat.le_trans FW.out.size h)⟩
    clear hf hsub FW HB HH
    have HG := Lib.hid hgu
    have HGF := Lib.hid hgf
    clear hgf
    obtain ⟨A4, cap4, v4, k1, k2, k3, k4, k5, k6⟩ := hgu
    have d7 : (w3.setCell ⟨p, 1, none⟩ (.int .i64 ((x.at_ : Int) + (1 + (n : Int))))).cell? ⟨p, 7, none⟩ = some (.slice A4 (x.out.length + (1 + n)) cap4) := by
      have := k2.cell 7
      rw [← hml, ← List.length_append]
      exact this
    clear k1 k2 k3 k4 k5 k6
    by_cases hlong : 254 < x.out.length + (1 + n)
    · go_wp2_with fail
      refine (bldLen_any p 6 A4 _ cap4 _ d7).mono ?_
      rintro e w' ⟨rfl, rfl⟩
      go_wp2_with fail
      refine (urfail_any p F' s f _ 3 0 _ HG.out).mono ?_
      rintro e w' ⟨rfl, g1, g2⟩
      go_wp2_with fail
      go_ret
      rw [HR.out, if_pos hlong]
      exact ⟨_, rfl, F', g1, (FF.out.1.trans HGF.out fun i hi h => (FF.out.2 i h).resolve_right (by omega)).trans g2 (fun i hi h => (FF.out.2 i h).resolve_right (by omega)), FF.out.2⟩
    · go_wp2_with fail
      refine (bldLen_any p 6 A4 _ cap4 _ d7).mono ?_
      rintro e w' ⟨rfl, rfl⟩
      go_wp2_with fail
      go_ret
      rw [HR.out, if_neg hlong]
      exact ⟨rfl, F', HG.out, FF.out.1.trans HGF.out fun i hi h => (FF.out.2 i h).resolve_right (by omega), FF.out.2⟩
/-- What comes of a pointer. -/
def Un.jmpR (s : List UInt8) (x : Un) (to : Nat) : Ust :=
  if s.length < x.at_ + 2 then .bad 8
  else if x.begun ≤ to then .bad 4
  else .on ⟨to, to, x.leave 2, x.jumps + 1, x.out⟩
theorem i64_or_nat (a b : Nat) (ha : a < 4294967296) (hb : b < 4294967296) : bits .or .i64 (a : Int) (b : Int) = ((a ||| b : Nat) : Int) := by
  have hx : a ||| b < 2 ^ 32 := Nat.or_lt_two_pow (by omega) (by omega)
  show IntKind.i64.wrap ((BitVec.ofInt 64 (a : Int) ||| BitVec.ofInt 64 (b : Int)).toNat : Int) = _
  rw [BitVec.toNat_or, BitVec.ofInt_natCast, BitVec.ofInt_natCast, BitVec.toNat_ofNat, BitVec.toNat_ofNat, Nat.mod_eq_of_lt (by omega), Nat.mod_eq_of_lt (by omega), IntKind.wrap_i64]
  omega
theorem or_octet64 (V c : Nat) (hV : V < 16777216) (hc : c < 256) : bits .or .i64 ((V : Int) * 256) (c : Int) = ((V * 256 + c : Nat) : Int) := by
  have e1 : (V : Int) * 256 = ((V * 256 : Nat) : Int) := by omega
  rw [e1, i64_or_nat _ _ (by omega) (by omega), Nat.mul_comm V 256, show 256 = 2 ^ 8 from rfl, ← Nat.two_pow_add_eq_or_of_lt (by omega)]
theorem get_oc (s : ByteArray) (i : Nat) (h : i < s.size) : (s[i]'h).toNat = oc s.data.toList i := by
  unfold oc
  rw [List.getD_eq_getElem?_getD, List.getElem?_eq_getElem (by simpa using h)]
  simp [ByteArray.getElem_eq_getElem_data]
theorem run_index_oc (s : ByteArray) (i : Int) (k : Nat) (hi : i = (k : Int)) (h : k < s.size) (w : World) : (Instr.index 9 (.string s) (.int .i64 i)).run Tryz.prog w = .ok (.int .u8 (oc s.data.toList k)) w := by
  subst hi
  rw [← get_oc s k h]
  simp [Instr.index, asIntOf, run_underlying Tryz.underlying9, h]
theorem Ur.jumped {w : World} {p : Nat} {F : Nat → Prop} {s : ByteArray} {f : Bool} {x : Un} {e : Int} (h : Ur w p F s f x e) (to : Nat) (j : Int) (hj : j = ((x.jumps + 1 : Nat) : Int)) :
    Ur (((w.setCell ⟨p, 1, none⟩ (.int .i64 to)).setCell ⟨p, 2, none⟩ (.int .i64 to)).setCell ⟨p, 4, none⟩ (.int .i64 j)) p F s f ⟨to, to, x.fin, x.jumps + 1, x.out⟩ e ∧
      Fr F w (((w.setCell ⟨p, 1, none⟩ (.int .i64 to)).setCell ⟨p, 2, none⟩ (.int .i64 to)).setCell ⟨p, 4, none⟩ (.int .i64 j)) := by
  subst hj
  obtain ⟨A, cap, v, h1, h2, h3, h4, h5, h6⟩ := h
  have hrow : ¬ rowOf A p := own_ne h3 h2 (by decide)
  have hf : Fr (· = p) w (((w.setCell ⟨p, 1, none⟩ (.int .i64 to)).setCell ⟨p, 2, none⟩ (.int .i64 to)).setCell ⟨p, 4, none⟩ (.int .i64 ((x.jumps + 1 : Nat) : Int))) :=
    Fr.setCell (S := (· = p)) (Fr.setCell (S := (· = p)) (Fr.setCell (S := (· = p)) (Fr.refl _ w) (p := ⟨p, 1, none⟩) (fun _ => rfl) _) (p := ⟨p, 2, none⟩) (fun _ => rfl) _) (p := ⟨p, 4, none⟩) (fun _ => rfl) _
  exact ⟨⟨A, cap, v, h1, ((h2.set_ 1 _).set_ 2 _).set_ 4 _, own_fr h3 hf (fun k hk e => hrow (e ▸ hk)), h4, h5, fun k hk => Nat.lt_of_lt_of_le (h6 k hk) hf.size⟩, hf.mono fun k _ e => e ▸ h4⟩
set_option maxRecDepth 100000 in
set_option maxHeartbeats 2000000 in
theorem jump_any (p : Nat) (F : Nat → Prop) (s : ByteArray) (f : Bool) (x : Un) (n : Nat) (w : World) (h : Ur w p F s f x 0) (hn : n < 64) (ha : x.at_ ≤ s.size) (hs : s.size ≤ 140737488351232) (hj : x.jumps ≤ s.size) :
    Calls Tryz.prog 142 #[.pointer (some ⟨p, 0, none⟩), .int .i64 n] w (StepPost w p F s f (x.jmpR s.data.toList (n * 256 + oc s.data.toList (x.at_ + 1)))) := by
  have H := Lib.hid h
  obtain ⟨A, cap, v, h1, h2, h3, h4, h5, h6⟩ := h
  have c0 : w.cell? ⟨p, 0, none⟩ = some (.string s) := h2.cell 0
  have c1 : w.cell? ⟨p, 1, none⟩ = some (.int .i64 x.at_) := h2.cell 1
  have c2 : w.cell? ⟨p, 2, none⟩ = some (.int .i64 x.begun) := h2.cell 2
  have q1 : IntKind.i64.wrap ((x.at_ : Int) + 2) = (x.at_ : Int) + 2 := IntWalk.i64_in _ (by omega)
  clear h1 h2 h3 h4 h5 h6
  by_cases hl : s.size < x.at_ + 2
  · have hr : x.jmpR s.data.toList (n * 256 + oc s.data.toList (x.at_ + 1)) = .bad 8 := by unfold Un.jmpR; rw [size_l s, if_pos (by omega)]
    rw [hr]
    clear hr
    go_enter Tryz.func142, Tryz.ntmps142
    go_wp2_with fail
    go_quiet (fail)
    have H1 := Lib.hid (H.out.drewN nq)
    have F1 : Hid (Fr F w (w.drewN nq)) := (Fr.refl _ w).drewN nq
    clear c0 c1 c2
    generalize w.drewN nq = w1 at *
    go_wp2_with fail
    refine (urfail_any p F s f x 8 0 _ H1.out).mono ?_
    rintro e w' ⟨rfl, g1, g2⟩
    go_wp2_with fail
    go_ret
    exact ⟨x, rfl, F, g1, F1.out.then g2, fun _ h => .inl h⟩
  · have hlt : x.at_ + 1 < s.size := by omega
    have hoc := get_oc s (x.at_ + 1) hlt
    have hoclt := oc_lt s.data.toList (x.at_ + 1)
    have hor := or_octet64 n (s[x.at_ + 1]'hlt).toNat (by omega) (by rw [hoc]; exact hoclt)
    have hjr : x.jmpR s.data.toList (n * 256 + oc s.data.toList (x.at_ + 1)) = if x.begun ≤ n * 256 + oc s.data.toList (x.at_ + 1) then .bad 4 else .on ⟨n * 256 + oc s.data.toList (x.at_ + 1), n * 256 + oc s.data.toList (x.at_ + 1), x.leave 2, x.jumps + 1, x.out⟩ := by
      unfold Un.jmpR
      rw [size_l s, if_neg hl]
    rw [hjr]
    clear hjr
    have hix := run_index_oc s ((x.at_ : Int) + 1) (x.at_ + 1) (by omega) hlt
    have q2 : IntKind.i64.wrap ((x.at_ : Int) + 1) = (x.at_ : Int) + 1 := IntWalk.i64_in _ (by omega)
    rw [hoc] at hor
    clear hoc
    generalize oc s.data.toList (x.at_ + 1) = c at *
    have hbn : n * 256 + c < 16384 := by omega
    generalize n * 256 + c = to at *
    by_cases hbeg : x.begun ≤ to
    · rw [if_pos hbeg]
      go_enter Tryz.func142, Tryz.ntmps142
      go_wp2_with fail
      go_quiet (fail)
      go_wp2_with fail
      go_quiet (fail)
      go_wp2_with fail
      refine (urfail_any p F s f x 4 0 _ (H.out.drewN _)).mono ?_
      rintro e w' ⟨rfl, g1, g2⟩
      go_wp2_with fail
      go_ret
      exact ⟨x, rfl, F, g1, ((Fr.refl F w).drewN _).then g2, fun _ h => .inl h⟩
    · rw [if_neg hbeg]
      go_enter Tryz.func142, Tryz.ntmps142
      go_wp2_with fail
      go_quiet (fail)
      go_wp2_with fail
      go_quiet (fail)
      go_wp2_with fail
      refine (leave_any p F s f x 2 _ (H.out.drewN _) (by decide) (by omega)).mono ?_
      rintro e w5 ⟨rfl, g1, g2⟩
      have g3 : Hid (Fr F w w5) := ((Fr.refl F w).drewN _).then g2
      have HJ := Lib.hid (g1.jumped to ((x.jumps : Int) + 1) (by dsimp only; omega))
      have q3 : IntKind.i64.wrap ((x.jumps : Int) + 1) = (x.jumps : Int) + 1 := IntWalk.i64_in _ (by omega)
      obtain ⟨A5, cap5, v5, k1, k2, k3, k4, k5, k6⟩ := g1
      have d1 : w5.cell? ⟨p, 1, none⟩ = some (.int .i64 x.at_) := k2.cell 1
      have d2 : w5.cell? ⟨p, 2, none⟩ = some (.int .i64 x.begun) := k2.cell 2
      have d4 : w5.cell? ⟨p, 4, none⟩ = some (.int .i64 x.jumps) := k2.cell 4
      have e1 := k2.frozen 1
      have e2 := k2.frozen 2
      have e4 := k2.frozen 4
      clear k1 k2 k3 k4 k5 k6 g2 c0 c1 c2 hix hor
      go_wp2_with fail
      go_ret
      exact ⟨rfl, F, HJ.out.1, g3.out.then HJ.out.2, fun _ h => .inl h⟩
theorem StepPost.ret {w w' : World} {n p : Nat} {F : Nat → Prop} {s : ByteArray} {f : Bool} {r : Ust} {e : Ending} (h : StepPost (w.drewN n) p F s f r e w') : ∃ b, e = .returned (.bool b) ∧ StepPost w p F s f r (.returned (.bool b)) w' := by
  cases r with
  | on y =>
    obtain ⟨he, F', h1, h2, h3⟩ := h
    exact ⟨true, he, rfl, F', h1, h2.fromN, h3⟩
  | done y =>
    obtain ⟨he, F', h1, h2, h3⟩ := h
    exact ⟨false, he, rfl, F', h1, h2.fromN, h3⟩
  | bad er =>
    obtain ⟨y, he, F', h1, h2, h3⟩ := h
    exact ⟨false, he, y, rfl, F', h1, h2.fromN, h3⟩
theorem step_bad8 {s : List UInt8} {f : Bool} {x : Un} (h : s.length ≤ x.at_) : x.step s f = .bad 8 := by unfold Un.step; rw [if_pos h]
theorem step_zero {s : List UInt8} {f : Bool} {x : Un} (h : ¬ s.length ≤ x.at_) (hc : oc s x.at_ = 0) : x.step s f = .done { x with fin := x.leave 1 } := by unfold Un.step; rw [if_neg h, if_pos hc]
theorem step_lab {s : List UInt8} {f : Bool} {x : Un} (h : ¬ s.length ≤ x.at_) (h0 : oc s x.at_ ≠ 0) (h1 : oc s x.at_ < 64) : x.step s f = x.labR s (oc s x.at_) := by
  unfold Un.step Un.labR Un.lab
  rw [if_neg h, if_neg h0, if_pos h1]
theorem step_jmp {s : List UInt8} {x : Un} (h : ¬ s.length ≤ x.at_) (h1 : 192 ≤ oc s x.at_) : x.step s true = x.jmpR s ((oc s x.at_ - 192) * 256 + oc s (x.at_ + 1)) := by
  unfold Un.step Un.jmpR Un.jmp Un.to
  rw [if_neg h, if_neg (by omega), if_neg (by omega), if_pos ⟨h1, rfl⟩]
theorem step_bad4 {s : List UInt8} {f : Bool} {x : Un} (h : ¬ s.length ≤ x.at_) (h1 : 64 ≤ oc s x.at_) (h2 : ¬ (192 ≤ oc s x.at_ ∧ f = true)) : x.step s f = .bad 4 := by
  unfold Un.step
  rw [if_neg h, if_neg (by omega), if_neg (by omega), if_neg h2]
set_option maxRecDepth 100000 in
set_option maxHeartbeats 2000000 in
theorem urstep_any (p : Nat) (F : Nat → Prop) (s : ByteArray) (f : Bool) (x : Un) (w : World) (h : Ur w p F s f x 0) (ha : x.at_ ≤ s.size) (hs : s.size ≤ 140737488351232) (hj : x.jumps ≤ s.size) (hx : x.out.length ≤ 254) :
    Calls Tryz.prog 136 #[.pointer (some ⟨p, 0, none⟩)] w (StepPost w p F s f (x.step s.data.toList f)) := by
  have H := Lib.hid h
  obtain ⟨A, cap, v, h1, h2, h3, h4, h5, h6⟩ := h
  have c0 : w.cell? ⟨p, 0, none⟩ = some (.string s) := h2.cell 0
  have c1 : w.cell? ⟨p, 1, none⟩ = some (.int .i64 x.at_) := h2.cell 1
  have c5 : w.cell? ⟨p, 5, none⟩ = some (.bool f) := h2.cell 5
  clear h1 h2 h3 h4 h5 h6
  by_cases hl : s.size ≤ x.at_
  · rw [step_bad8 (by rw [size_l]; exact hl)]
    go_enter Tryz.func136, Tryz.ntmps136
    go_wp2_with fail
    go_quiet (fail)
    go_wp2_with fail
    refine (urfail_any p F s f x 8 0 _ (H.out.drewN _)).mono ?_
    rintro e w' ⟨rfl, g1, g2⟩
    go_wp2_with fail
    go_ret
    exact ⟨x, rfl, F, g1, ((Fr.refl F w).drewN _).then g2, fun _ h => .inl h⟩
  · have hl' : ¬ s.data.toList.length ≤ x.at_ := by rw [size_l]; exact hl
    have hix := run_index_oc s (x.at_ : Int) x.at_ rfl (by omega)
    have hlt := oc_lt s.data.toList x.at_
    by_cases z0 : oc s.data.toList x.at_ = 0
    · rw [step_zero hl' z0]
      rw [z0] at hix
      go_enter Tryz.func136, Tryz.ntmps136
      go_wp2_with fail
      go_quiet (fail)
      go_wp2_with fail
      go_quiet (fail)
      go_wp2_with fail
      refine (leave_any p F s f x 1 _ (H.out.drewN _) (by decide) (by omega)).mono ?_
      rintro e w' ⟨rfl, g1, g2⟩
      go_wp2_with fail
      go_ret
      exact ⟨rfl, F, g1, ((Fr.refl F w).drewN _).then g2, fun _ h => .inl h⟩
    · by_cases z1 : oc s.data.toList x.at_ < 64
      · rw [step_lab hl' z0 z1]
        generalize oc s.data.toList x.at_ = c at *
        go_enter Tryz.func136, Tryz.ntmps136
        go_wp2_with fail
        go_quiet (fail)
        go_wp2_with fail
        go_quiet (fail)
        go_wp2_with fail
        refine (label_any p F s f x c _ (H.out.drewN _) z1 ha hs hx).mono ?_
        intro e w' hp
        obtain ⟨b, rfl, hq⟩ := hp.ret
        have HQ := Lib.hid hq
        clear hp hq
        go_wp2_with fail
        go_ret
        exact HQ.out
      · by_cases z2 : 192 ≤ oc s.data.toList x.at_
        · rcases (show f = false ∨ f = true by cases f <;> simp) with rfl | rfl
          · rw [step_bad4 hl' (by omega) (by simp)]
            generalize oc s.data.toList x.at_ = c at *
            go_enter Tryz.func136, Tryz.ntmps136
            go_wp2_with fail
            go_quiet (fail)
            go_wp2_with fail
            go_quiet (fail)
            go_wp2_with fail
            refine (urfail_any p F s false x 4 0 _ (H.out.drewN _)).mono ?_
            rintro e w' ⟨rfl, g1, g2⟩
            go_wp2_with fail
            go_ret
            exact ⟨x, rfl, F, g1, ((Fr.refl F w).drewN _).then g2, fun _ h => .inl h⟩
          · rw [step_jmp hl' z2]
            obtain ⟨n, hn⟩ : ∃ n, oc s.data.toList x.at_ = n + 192 := ⟨oc s.data.toList x.at_ - 192, by omega⟩
            rw [hn] at hix hlt ⊢
            rw [Nat.add_sub_cancel]
            have q3 : IntKind.i64.wrap (((n + 192 : Nat) : Int) - 192) = (n : Int) := by rw [IntWalk.i64_in _ (by omega)]; omega
            have q4 : ((n + 192 : Nat) : Int) - 192 = (n : Int) := by omega
            clear hn z0 z1 z2
            go_enter Tryz.func136, Tryz.ntmps136
            go_wp2_with fail
            go_quiet (fail)
            go_wp2_with fail
            go_quiet (fail)
            go_wp2_with fail
            refine (jump_any p F s true x n _ (H.out.drewN _) (by omega) ha hs hj).mono ?_
            intro e w' hp
            obtain ⟨b, rfl, hq⟩ := hp.ret
            have HQ := Lib.hid hq
            clear hp hq
            go_wp2_with fail
            go_ret
            exact HQ.out
        · rw [step_bad4 hl' (by omega) (fun h => z2 h.1)]
          generalize oc s.data.toList x.at_ = c at *
          go_enter Tryz.func136, Tryz.ntmps136
          go_wp2_with fail
          go_quiet (fail)
          go_wp2_with fail
          go_quiet (fail)
          go_wp2_with fail
          refine (urfail_any p F s f x 4 0 _ (H.out.drewN _)).mono ?_
          rintro e w' ⟨rfl, g1, g2⟩
          go_wp2_with fail
          go_ret
          exact ⟨x, rfl, F, g1, ((Fr.refl F w).drewN _).then g2, fun _ h => .inl h⟩
end Go.Proofs.YtmbgejiahmhffaaGreat

/-
  THE CONTRACTS OF LAYER 8 (unpack): names read, counted.
-/
namespace Go.Proofs.YtmbgejiahmhffaaGreat
open Go.RowKit

theorem run_index_oc' (s : ByteArray) (i : Int) (k : Nat) (hi : i = (k : Int)) (h : k < s.size) (w : World) : (Instr.index 36 (.string s) (.int .i64 i)).run Tryz.prog w = .ok (.int .u8 (oc s.data.toList k)) w := by
  subst hi
  rw [← get_oc s k h]
  simp [Instr.index, asIntOf, run_underlying Tryz.underlying36, h]
/-- What is small while a name is read. -/
def UOk (s : List UInt8) (x : Un) : Prop := x.at_ ≤ s.length ∧ x.jumps + x.begun ≤ s.length ∧ x.out.length ≤ 254
theorem UOk.on {s : List UInt8} {f : Bool} {x y : Un} (h : UOk s x) (hs : x.step s f = .on y) : UOk s y := by
  obtain ⟨h1, h2, h3⟩ := h
  unfold Un.step at hs
  split at hs
  · cases hs
  · split at hs
    · cases hs
    · split at hs
      · split at hs
        · cases hs
        · split at hs
          · cases hs
          · injection hs with hs
            subst hs
            refine ⟨?_, h2, ?_⟩
            · show x.at_ + 1 + oc s x.at_ ≤ s.length
              omega
            · show (x.out ++ _).length ≤ 254
              rw [List.length_append, List.length_take]
              omega
      · split at hs
        · split at hs
          · cases hs
          · split at hs
            · cases hs
            · injection hs with hs
              subst hs
              refine ⟨?_, ?_, h3⟩
              · show x.to s ≤ s.length
                omega
              · show x.jumps + 1 + x.to s ≤ s.length
                omega
        · cases hs
/-- What reading leaves. -/
def ReadPost (w : World) (s : ByteArray) (f : Bool) (r : Ust) (e : Ending) (w' : World) : Prop :=
  ∃ p, e = .returned (.pointer (some ⟨p, 0, none⟩)) ∧ Fr (fun _ => False) w w' ∧ w.heap.size ≤ p ∧
    match r with
    | .done y => ∃ F, Ur w' p F s f y 0 ∧ ∀ k, F k → w.heap.size ≤ k
    | .bad er => ∃ cs, Blk w' p 201 cs ∧ cs[8]? = some (.int .i64 er)
    | .on _ => False
set_option maxRecDepth 100000 in
set_option maxHeartbeats 1000000 in
theorem urfail_blk (p : Nat) (er : Int) (w : World) (cs : Array Value) (u : Value) (h : Blk w p 201 cs) (h8 : cs[8]? = some u) :
    Calls Tryz.prog 135 #[.pointer (some ⟨p, 0, none⟩), .int .i64 er] w fun e w' => e = .returned (.bool false) ∧ Blk w' p 201 (cs.setIfInBounds 8 (.int .i64 er)) ∧ Fr (· = p) w w' := by
  have c8 : w.cell? ⟨p, 8, none⟩ = some u := (h.cell 8).trans h8
  have f8 := h.frozen 8
  have H := Lib.hid h
  clear h
  go_enter Tryz.func135, Tryz.ntmps135
  go_wp2_with fail
  go_ret
  exact ⟨rfl, H.out.set_ 8 _, Fr.setCell (S := (· = p)) (Fr.refl _ w) (p := ⟨p, 8, none⟩) (fun _ => rfl) _⟩
set_option maxRecDepth 100000 in
set_option maxHeartbeats 2000000 in
theorem read8_any (s : ByteArray) (a : Int) (f : Bool) (w : World) (hs : s.size ≤ 140737488351232) :
    Calls Tryz.prog 125 #[.string s, .int .i64 a, .bool f] w (ReadPost w s f (nameAt s a f)) := by
  by_cases ha : a < 0 ∨ (s.size : Int) < a
  · have hr : nameAt s a f = .bad 2 := by unfold nameAt; rw [if_pos ha]
    rw [hr]
    clear hr
    have hfin : ∀ w', Blk w' w.heap.size 201 (#[.string s, .int .i64 a, .int .i64 a, .int .i64 (-1), .int .i64 0, .bool f, .pointer none, .slice none 0 0, .int .i64 2] : Array Value) →
        Fr (fun _ => False) w w' → ReadPost w s f (.bad 2) (.returned (.pointer (some ⟨w.heap.size, 0, none⟩))) w' := fun w' h1 h2 => ⟨_, rfl, h2, Nat.le_refl _, _, h1, rfl⟩
    have key : ∀ w', (Blk w' w.heap.size 201 (#[.string s, .int .i64 a, .int .i64 a, .int .i64 (-1), .int .i64 0, .bool f, .pointer none, .slice none 0 0, .int .i64 0] : Array Value) ∧ Fr (fun _ => False) w w') → 
        Calls Tryz.prog 135 #[.pointer (some ⟨w.heap.size, 0, none⟩), .int .i64 2] w' fun e w'' => e = .returned (.bool false) ∧ ReadPost w s f (.bad 2) (.returned (.pointer (some ⟨w.heap.size, 0, none⟩))) w'' := by
      rintro w' ⟨h1, h2⟩
      refine (urfail_blk w.heap.size 2 w' _ _ h1 rfl).mono ?_
      rintro e w'' ⟨rfl, g1, g2⟩
      exact ⟨rfl, hfin w'' g1 (h2.trans g2 fun i hi he => by omega)⟩
    have HK := Lib.hid key
    have HN : Hid (Blk (w.alloc (.cells #[.string s, .int .i64 a, .int .i64 a, .int .i64 (-1), .int .i64 0, .bool f, .pointer none, .slice none 0 0, .int .i64 0] 201)) w.heap.size 201 (#[.string s, .int .i64 a, .int .i64 a, .int .i64 (-1), .int .i64 0, .bool f, .pointer none, .slice none 0 0, .int .i64 0] : Array Value) ∧
        Fr (fun _ => False) w (w.alloc (.cells #[.string s, .int .i64 a, .int .i64 a, .int .i64 (-1), .int .i64 0, .bool f, .pointer none, .slice none 0 0, .int .i64 0] 201))) := ⟨Blk.new _ _ _, (Fr.refl _ _).alloc _⟩
    clear key hfin
    by_cases h0 : a < 0
    all_goals
      go_enter Tryz.func125, Tryz.ntmps125
      go_wp2_with fail
      go_step3
      go_wp2_with fail
      refine (HK.out _ HN.out).mono ?_
      rintro e w' ⟨rfl, g1⟩
      go_wp2_with fail
      rw [Exit.noGoto_ret]
      go_ret
      exact g1
  · obtain ⟨n, rfl⟩ := Int.eq_ofNat_of_zero_le (show 0 ≤ a by omega)
    have hr : nameAt s n f = uread s.data.toList f ⟨n, n, -1, 0, []⟩ := by unfold nameAt; rw [if_neg ha, Int.toNat_natCast]
    rw [hr]
    clear hr
    have hn : n ≤ s.size := by omega
    have hU : Ur (w.alloc (.cells #[.string s, .int .i64 n, .int .i64 n, .int .i64 (-1), .int .i64 0, .bool f, .pointer none, .slice none 0 0, .int .i64 0] 201)) w.heap.size (· = w.heap.size) s f ⟨n, n, -1, 0, []⟩ 0 :=
      ⟨none, 0, _, .inl rfl, Blk.new _ _ _, own_nil _ _ _, rfl, fun k hk => absurd hk (rowOf_none k), fun k hk => by subst hk; simp⟩
    have hF : Fr (fun _ => False) w (w.alloc (.cells #[.string s, .int .i64 n, .int .i64 n, .int .i64 (-1), .int .i64 0, .bool f, .pointer none, .slice none 0 0, .int .i64 0] 201)) := (Fr.refl _ _).alloc _
    have HU := Lib.hid (And.intro hU hF)
    clear hU hF
    go_enter Tryz.func125, Tryz.ntmps125
    go_wp2_with fail
    go_step3
    go_wp2_with fail
    go_step3
    go_wp2_with fail
    generalize w.alloc (.cells #[.string s, .int .i64 n, .int .i64 n, .int .i64 (-1), .int .i64 0, .bool f, .pointer none, .slice none 0 0, .int .i64 0] 201) = W at *
    generalize hp : w.heap.size = p at HU ⊢
    have HP := Lib.hid hp
    clear hp
    generalize hx0 : (⟨n, n, -1, 0, []⟩ : Un) = x0 at HU ⊢
    have hok0 : UOk s.data.toList x0 := by subst hx0; exact ⟨by rw [size_l]; exact hn, by rw [size_l]; dsimp only; omega, by simp⟩
    clear hx0
    have hd1 : decide (s.size < n) = false := decide_eq_false (by omega)
    have hd2 : decide ((n : Int) < 0) = false := decide_eq_false (by omega)
    simp only [hd1, hd2, Bool.or_false]
    clear hd1 hd2
    go_loopg [26] (x0.mu s.data.toList) (fun g _ wr => ∃ (x : Un) (F : Nat → Prop), g = x.mu s.data.toList ∧ Ur wr p F s f x 0 ∧ UOk s.data.toList x ∧ Fr (fun _ => False) w wr ∧ (∀ k, F k → p ≤ k) ∧ uread s.data.toList f x0 = uread s.data.toList f x)
    case atStart => exact ⟨x0, _, rfl, HU.out.1, hok0, HU.out.2, fun k hk => Nat.le_of_eq hk.symm, rfl⟩
    case round =>
      obtain ⟨x, F, rfl, hur, hok, hfr, hF, hrd⟩ := hrel
      have HX := Lib.hid (And.intro hok (And.intro hfr (And.intro hF hrd)))
      have HO := Lib.hid hur
      clear hok hfr hF hrd hur
      go_wp2_with fail
      refine (urstep_any p F s f x _ HO.out (by rw [← size_l s]; exact HX.out.1.1) hs (by have := HX.out.1.2.1; rw [size_l s] at this; omega) HX.out.1.2.2).mono ?_
      intro e w' hq
      cases hst : x.step s.data.toList f with
      | on y =>
        rw [hst] at hq
        obtain ⟨rfl, F', g1, g2, g3⟩ := hq
        have HG := Lib.hid (And.intro g1 (And.intro g2 (And.intro g3 hst)))
        clear g1 g2 g3 hst
        go_wp2_with fail
        go_roundg (y.mu s.data.toList)
        case rel =>
          refine ⟨y, F', rfl, HG.out.1, HX.out.1.on HG.out.2.2.2, HX.out.2.1.trans HG.out.2.1 ?_, fun k hk => ?_, HX.out.2.2.2.trans (uread_on HG.out.2.2.2)⟩
          · intro i hi hFi
            have := HX.out.2.2.1 i hFi
            have := HP.out
            omega
          · rcases HG.out.2.2.1 k hk with h | h
            · exact HX.out.2.2.1 k h
            · have := HX.out.2.1.size
              have := HP.out
              omega
        case measure => exact Un.step_mu HG.out.2.2.2
      | done y =>
        rw [hst] at hq
        obtain ⟨rfl, F', g1, g2, g3⟩ := hq
        have HG := Lib.hid (And.intro g1 (And.intro g2 (And.intro g3 hst)))
        clear g1 g2 g3 hst
        go_wp2_with fail
        rw [Exit.noGoto_ret]
        go_ret
        rw [HX.out.2.2.2, uread_done HG.out.2.2.2]
        refine ⟨p, rfl, HX.out.2.1.trans HG.out.2.1 ?_, Nat.le_of_eq HP.out, F', HG.out.1, fun k hk => ?_⟩
        · intro i hi hFi
          have := HX.out.2.2.1 i hFi
          have := HP.out
          omega
        · rcases HG.out.2.2.1 k hk with h | h
          · rw [HP.out]; exact HX.out.2.2.1 k h
          · have := HX.out.2.1.size
            omega
      | bad er =>
        rw [hst] at hq
        obtain ⟨y, rfl, F', g1, g2, g3⟩ := hq
        have HG := Lib.hid (And.intro g1 (And.intro g2 (And.intro g3 hst)))
        clear g1 g2 g3 hst
        go_wp2_with fail
        rw [Exit.noGoto_ret]
        go_ret
        rw [HX.out.2.2.2, uread_bad HG.out.2.2.2]
        obtain ⟨A, cap, v, k1, k2, _⟩ := HG.out.1
        refine ⟨p, rfl, HX.out.2.1.trans HG.out.2.1 ?_, Nat.le_of_eq HP.out, _, k2, rfl⟩
        intro i hi hFi
        have := HX.out.2.2.1 i hFi
        have := HP.out
        omega
set_option maxRecDepth 100000 in
set_option maxHeartbeats 2000000 in
theorem told_bad (p : Nat) (er : Int) (w : World) (cs : Array Value) (h : Blk w p 201 cs) (h8 : cs[8]? = some (.int .i64 er)) (he : er ≠ 0) :
    Calls Tryz.prog 126 #[.pointer (some ⟨p, 0, none⟩)] w fun e w' => e = .returned (.tuple #[.string ⟨#[]⟩, .int .i64 0, .int .i64 er]) ∧ Fr (fun _ => False) w w' := by
  have c8 : w.cell? ⟨p, 8, none⟩ = some (.int .i64 er) := (h.cell 8).trans h8
  have he' : (er != 0) = true := by simp [he]
  clear h
  go_enter Tryz.func126, Tryz.ntmps126
  go_wp2_with fail
  go_quiet (fail)
  go_wp2_with fail
  go_ret3
  exact ⟨rfl, (Fr.refl _ w).drewN _⟩
set_option maxRecDepth 100000 in
set_option maxHeartbeats 2000000 in
theorem told_done (p : Nat) (F : Nat → Prop) (s : ByteArray) (f : Bool) (y : Un) (w : World) (h : Ur w p F s f y 0) :
    Calls Tryz.prog 126 #[.pointer (some ⟨p, 0, none⟩)] w fun e w' => e = .returned (.tuple #[.string ⟨y.out.toArray⟩, .int .i64 y.fin, .int .i64 0]) ∧ Fr F w w' := by
  obtain ⟨A, cap, v, h1, h2, h3, h4, h5, h6⟩ := h
  have c8 : w.cell? ⟨p, 8, none⟩ = some (.int .i64 0) := h2.cell 8
  have c3 : w.cell? ⟨p, 3, none⟩ = some (.int .i64 y.fin) := h2.cell 3
  have hrow : ¬ rowOf A p := own_ne h3 h2 (by decide)
  have HH := Lib.hid (And.intro h2 (And.intro h3 (And.intro h5 hrow)))
  clear h1 h2 h3 h4 h5 h6 hrow
  go_enter Tryz.func126, Tryz.ntmps126
  go_wp2_with fail
  go_region_held3 (fun w' => w'.cell? ⟨p, 3, none⟩ = some (.int .i64 y.fin))
    (first | exact c3 | exact e3)
    (first
      | (go_at_call 137
         refine (bldString_any p 6 201 (urCells s f y v A cap 0) _ A cap y.out ?_ rfl ?_).mono ?_
         · exact HH.out.1
         · exact HH.out.2.1
         rintro e w4 ⟨rfl, f4⟩
         have e3 := (f4.cell (p := ⟨p, 3, none⟩) HH.out.1.lt HH.out.2.2.2).trans c3
         have H4 := Lib.hid f4
         clear f4))
  go_wp2_with fail
  go_ret3
  exact ⟨rfl, (H4.out.fromD).mono fun k _ h => HH.out.2.2.1 k h⟩
theorem nameAt_cases (s : ByteArray) (a : Int) (f : Bool) : (∃ y, nameAt s a f = .done y) ∨ ∃ e, e ≠ 0 ∧ nameAt s a f = .bad e := by
  unfold nameAt
  split
  · exact .inr ⟨2, by decide, rfl⟩
  · rcases uread_cases s.data.toList f ⟨a.toNat, a.toNat, -1, 0, []⟩ with ⟨y, hy⟩ | ⟨e, he⟩
    · exact .inl ⟨y, hy⟩
    · exact .inr ⟨e, uread_bad_ne he, he⟩
def Ust.told (r : Ust) : Value := .tuple #[.string r.name, .int .i64 r.fin, .int .i64 r.err]
theorem told_any (s : ByteArray) (f : Bool) (r : Ust) (hr : (∃ y, r = .done y) ∨ ∃ e, e ≠ 0 ∧ r = .bad e) (w0 w : World) (v : Value) (h : ReadPost w0 s f r (.returned v) w) :
    Calls Tryz.prog 126 #[v] w fun e w' => e = .returned (.tuple #[.string r.name, .int .i64 r.fin, .int .i64 r.err]) ∧ Fr (fun _ => False) w0 w' := by
  obtain ⟨p, hv, hf, hp, hm⟩ := h
  injection hv with hv
  subst hv
  rcases hr with ⟨y, rfl⟩ | ⟨er, he, rfl⟩
  · obtain ⟨F, hu, hF⟩ := hm
    refine (told_done p F s f y w hu).mono ?_
    rintro e w' ⟨rfl, g⟩
    exact ⟨rfl, hf.trans g fun i hi h => by have := hF i h; omega⟩
  · obtain ⟨cs, hb, h8⟩ := hm
    refine (told_bad p er w cs hb h8 he).mono ?_
    rintro e w' ⟨rfl, g⟩
    exact ⟨rfl, hf.then g⟩
set_option maxRecDepth 100000 in
set_option maxHeartbeats 2000000 in
theorem name8_any (s : ByteArray) (a : Int) (w : World) (hs : s.size ≤ 140737488351232) :
    Calls Tryz.prog 106 #[.string s, .int .i64 a] w fun e w' => e = .returned (.tuple #[.string (nameAt s a true).name, .int .i64 (nameAt s a true).fin, .int .i64 (nameAt s a true).err]) ∧ Fr (fun _ => False) w w' := by
  have hr := nameAt_cases s a true
  have h := read8_any s a true w hs
  generalize nameAt s a true = r at *
  have H := Lib.hid h
  have HR := Lib.hid hr
  clear h hr
  go_enter Tryz.func106, Tryz.ntmps106
  go_wp2_with fail
  refine H.out.mono ?_
  rintro e w1 ⟨p, rfl, h2⟩
  have H2 : Hid (ReadPost w s true r (.returned (.pointer (some ⟨p, 0, none⟩))) w1) := ⟨p, rfl, h2⟩
  clear h2
  go_wp2_with fail
  refine (told_any s true r HR.out w w1 _ H2.out).mono ?_
  rintro e w2 ⟨rfl, h3⟩
  go_wp2_with fail
  go_ret3
  exact ⟨rfl, h3⟩
set_option maxRecDepth 100000 in
set_option maxHeartbeats 2000000 in
theorem plain8_any (s : ByteArray) (a : Int) (w : World) (hs : s.size ≤ 140737488351232) :
    Calls Tryz.prog 132 #[.string s, .int .i64 a] w fun e w' => e = .returned (.tuple #[.string (nameAt s a false).name, .int .i64 (nameAt s a false).fin, .int .i64 (nameAt s a false).err]) ∧ Fr (fun _ => False) w w' := by
  have hr := nameAt_cases s a false
  have h := read8_any s a false w hs
  generalize nameAt s a false = r at *
  have H := Lib.hid h
  have HR := Lib.hid hr
  clear h hr
  go_enter Tryz.func132, Tryz.ntmps132
  go_wp2_with fail
  refine H.out.mono ?_
  rintro e w1 ⟨p, rfl, h2⟩
  have H2 : Hid (ReadPost w s false r (.returned (.pointer (some ⟨p, 0, none⟩))) w1) := ⟨p, rfl, h2⟩
  clear h2
  go_wp2_with fail
  refine (told_any s false r HR.out w w1 _ H2.out).mono ?_
  rintro e w2 ⟨rfl, h3⟩
  go_wp2_with fail
  go_ret3
  exact ⟨rfl, h3⟩
end Go.Proofs.YtmbgejiahmhffaaGreat

/-
  LAYER 8, PLAIN: a row of labels is read; pointers ahead, to the own run.
-/
namespace Go.Proofs.YtmbgejiahmhffaaGreat
open Go.RowKit

/-- Octets stand at a place. -/
def StandsAt (s : List UInt8) (p : Nat) (n : List UInt8) : Prop := (s.drop p).take n.length = n
theorem StandsAt.le {s : List UInt8} {p : Nat} {n : List UInt8} (h : StandsAt s p n) : n = [] ∨ p + n.length ≤ s.length := by
  unfold StandsAt at h
  have := congrArg List.length h
  rw [List.length_take, List.length_drop] at this
  rcases n with _ | ⟨a, n⟩
  · exact .inl rfl
  · right
    simp only [List.length_cons] at this ⊢
    omega
theorem StandsAt.oc {s : List UInt8} {p : Nat} {n : List UInt8} (h : StandsAt s p n) (i : Nat) (hi : i < n.length) : oc s (p + i) = oc n i := by
  unfold StandsAt at h
  rw [← h, oc_take _ _ _ hi, oc_drop]
theorem StandsAt.part {s : List UInt8} {p : Nat} {n : List UInt8} (h : StandsAt s p n) (a k : Nat) (hk : a + k ≤ n.length) : (s.drop (p + a)).take k = (n.drop a).take k := by
  unfold StandsAt at h
  rw [← h, List.drop_take, List.take_take, List.drop_drop, Nat.min_eq_left (by omega)]
theorem standsAt_app (a n b : List UInt8) : StandsAt (a ++ (n ++ b)) a.length n := by
  unfold StandsAt
  rw [List.drop_left, List.take_left]
/-- A row of labels that stands there is read. -/
theorem uread_labels {s : List UInt8} {f : Bool} {p : Nat} {n : List UInt8} (hs : StandsAt s p n) (b : Nat) (fin : Int) (j : Nat) (o : List UInt8) (ho : o.length + n.length ≤ 254) (a : Nat) (ha : a ≤ n.length) (hc : ckAt n a = 0) :
    uread s f ⟨p + a, b, fin, j, o ++ n.take a⟩ = uread s f ⟨p + n.length, b, fin, j, o ++ n⟩ := by
  generalize hm : n.length - a = m
  induction m using Nat.strongRecOn generalizing a with
  | _ m ih =>
    by_cases he : a = n.length
    · rw [he, List.take_length]
    · have hlt : a < n.length := by omega
      have hle : p + n.length ≤ s.length := by
        rcases hs.le with h | h
        · rw [h] at hlt; simp at hlt
        · exact h
      rw [ckAt, if_neg (by omega)] at hc
      split at hc
      · cases hc
      · rename_i hk
        have hoc := hs.oc a hlt
        have ht := hs.part a (1 + oc n a) (by omega)
        have hst : Un.step s f ⟨p + a, b, fin, j, o ++ n.take a⟩ = .on ⟨p + (a + 1 + oc n a), b, fin, j, o ++ n.take (a + 1 + oc n a)⟩ := by
          unfold Un.step Un.lab
          simp only [hoc]
          have hl : (o ++ n.take a).length = o.length + a := by rw [List.length_append, List.length_take]; omega
          rw [if_neg (by omega), if_neg (by omega), if_pos (by omega), if_neg (by omega), hl, if_neg (by omega), ht]
          have e : n.take (a + 1 + oc n a) = n.take a ++ (n.drop a).take (1 + oc n a) := by rw [Nat.add_assoc]; exact List.take_add
          rw [e, List.append_assoc, show p + a + 1 + oc n a = p + (a + 1 + oc n a) by omega]
        rw [uread_on hst]
        exact ih _ (by omega) _ (by omega) hc rfl
theorem uread_labels0 {s : List UInt8} {f : Bool} {p : Nat} {n : List UInt8} (hs : StandsAt s p n) (b : Nat) (fin : Int) (j : Nat) (o : List UInt8) (ho : o.length + n.length ≤ 254) (hc : ckAt n 0 = 0) :
    uread s f ⟨p, b, fin, j, o⟩ = uread s f ⟨p + n.length, b, fin, j, o ++ n⟩ := by
  have := uread_labels (f := f) hs b fin j o ho 0 (Nat.zero_le _) hc
  rw [List.take_zero, List.append_nil, Nat.add_zero] at this
  exact this
theorem ckN_ok {n : ByteArray} (h : ckN n = 0) : n.size ≤ 254 ∧ ckAt n.data.toList 0 = 0 := by
  unfold ckN at h
  split at h
  · cases h
  · exact ⟨by omega, h⟩
/-- Two octets of a pointer. -/
def ptr (k : Nat) : List UInt8 := [UInt8.ofNat (192 + k / 256), UInt8.ofNat (k % 256)]
theorem ptr_oc (a b : List UInt8) (k : Nat) (hk : k < 16384) : oc (a ++ (ptr k ++ b)) a.length = 192 + k / 256 ∧ oc (a ++ (ptr k ++ b)) (a.length + 1) = k % 256 := by
  have h0 : oc (a ++ (ptr k ++ b)) (a.length + 0) = _ := oc_app_r a (ptr k ++ b) 0
  have h1 : oc (a ++ (ptr k ++ b)) (a.length + 1) = _ := oc_app_r a (ptr k ++ b) 1
  rw [Nat.add_zero] at h0
  rw [h0, h1]
  unfold oc ptr
  simp
  omega
end Go.Proofs.YtmbgejiahmhffaaGreat

/-
  LAYER 8, PLAIN: what the reference's packer puts is read, name by name.
-/
namespace Go.Proofs.YtmbgejiahmhffaaGreat
open Go.RowKit

/-- Octets behind do not matter to what is read. -/
theorem step_app {S T : List UInt8} {f : Bool} {x : Un} (h : ∀ e, x.step S f ≠ .bad e) : x.step (S ++ T) f = x.step S f := by
  have hl : (S ++ T).length = S.length + T.length := List.length_append
  unfold Un.step at h ⊢
  by_cases h1 : S.length ≤ x.at_
  · rw [if_pos h1] at h
    exact absurd rfl (h 8)
  · have o1 : oc (S ++ T) x.at_ = oc S x.at_ := oc_app_l _ _ _ (by omega)
    rw [if_neg h1] at h ⊢
    rw [if_neg (by omega), o1]
    by_cases h2 : oc S x.at_ = 0
    · rw [if_pos h2, if_pos h2]
    · rw [if_neg h2] at h ⊢
      rw [if_neg h2]
      by_cases h3 : oc S x.at_ < 64
      · rw [if_pos h3] at h ⊢
        rw [if_pos h3]
        by_cases h4 : S.length < x.at_ + 1 + oc S x.at_
        · rw [if_pos h4] at h
          exact absurd rfl (h 8)
        · rw [if_neg h4]
          rw [if_neg (by omega)]
          by_cases h5 : 254 < x.out.length + (1 + oc S x.at_)
          · rw [if_pos h5, if_pos h5]
          · rw [if_neg h5, if_neg h5]
            unfold Un.lab
            rw [o1, List.drop_append_of_le_length (by omega), List.take_append_of_le_length (by rw [List.length_drop]; omega)]
      · rw [if_neg h3] at h ⊢
        rw [if_neg h3]
        by_cases h4 : 192 ≤ oc S x.at_ ∧ f = true
        · rw [if_pos h4] at h ⊢
          rw [if_pos h4]
          by_cases h5 : S.length < x.at_ + 2
          · rw [if_pos h5] at h
            exact absurd rfl (h 8)
          · have o2 : oc (S ++ T) (x.at_ + 1) = oc S (x.at_ + 1) := oc_app_l _ _ _ (by omega)
            rw [if_neg h5]
            rw [if_neg (by omega)]
            unfold Un.jmp Un.to
            rw [o1, o2]
        · rw [if_neg h4, if_neg h4]
/-- So many steps from here to the end. -/
inductive Rd8 (S : List UInt8) : Nat → Un → Un → Prop
  | done {x y : Un} (h : x.step S true = .done y) : Rd8 S 1 x y
  | on {k : Nat} {x y z : Un} (h : x.step S true = .on z) (r : Rd8 S k z y) : Rd8 S (k + 1) x y
theorem Rd8.uread {S : List UInt8} {k : Nat} {x y : Un} (h : Rd8 S k x y) : uread S true x = .done y := by
  induction h with
  | done h => exact uread_done h
  | on h _ ih => rw [uread_on h]; exact ih
theorem Rd8.app {S : List UInt8} {k : Nat} {x y : Un} (h : Rd8 S k x y) (T : List UInt8) : Rd8 (S ++ T) k x y := by
  induction h with
  | done h => exact .done ((step_app (by rw [h]; intro e he; cases he)).trans h)
  | on h _ ih => exact .on ((step_app (by rw [h]; intro e he; cases he)).trans h) ih
/-- A packer: what is written, where which rest of a name stands. -/
structure Rp where
  S : List UInt8
  get : List UInt8 → Option Nat
def updAt (g : List UInt8 → Option Nat) (n : List UInt8) (p : Nat) : List UInt8 → Option Nat := if p < 16384 then fun m => if m = n then some p else g m else g
theorem updAt_some {g : List UInt8 → Option Nat} {n m : List UInt8} {p a : Nat} (h : updAt g n p m = some a) : g m = some a ∨ (m = n ∧ a = p ∧ p < 16384) := by
  unfold updAt at h
  split at h
  · dsimp only at h
    split at h
    · injection h with h
      exact .inr ⟨by assumption, h.symm, by assumption⟩
    · exact .inl h
  · exact .inl h
def Rp.rest (x : Rp) (n : List UInt8) : Rp :=
  if _h : n = [] then { x with S := x.S ++ [0] }
  else match x.get n with
  | some a => { x with S := x.S ++ ptr a }
  | none => Rp.rest ⟨x.S ++ n.take (1 + oc n 0), updAt x.get n x.S.length⟩ (n.drop (1 + oc n 0))
termination_by n.length
decreasing_by
  rw [List.length_drop]
  have := List.length_pos_iff.2 (by assumption)
  omega
theorem rest_nil (x : Rp) : x.rest [] = { x with S := x.S ++ [0] } := by rw [Rp.rest]; rfl
theorem rest_some {x : Rp} {n : List UInt8} {a : Nat} (hn : n ≠ []) (h : x.get n = some a) : x.rest n = { x with S := x.S ++ ptr a } := by
  rw [Rp.rest, dif_neg hn, h]
theorem rest_none {x : Rp} {n : List UInt8} (hn : n ≠ []) (h : x.get n = none) : x.rest n = Rp.rest ⟨x.S ++ n.take (1 + oc n 0), updAt x.get n x.S.length⟩ (n.drop (1 + oc n 0)) := by
  rw [Rp.rest, dif_neg hn, h]
/-- At a place there stands a name for whoever is led there. -/
def Rds (S : List UInt8) (q : Nat) (r : List UInt8) : Prop :=
  ∀ (fin : Int) (j : Nat) (o : List UInt8), 0 ≤ fin → o.length + r.length ≤ 254 → ∃ k y, k ≤ r.length + 1 ∧ Rd8 S k ⟨q, q, fin, j, o⟩ y ∧ y.out = o ++ r ∧ y.fin = fin
theorem Rds.app {S : List UInt8} {q : Nat} {r : List UInt8} (h : Rds S q r) (T : List UInt8) : Rds (S ++ T) q r := fun fin j o h1 h2 => by
  obtain ⟨k, y, h0, h3, h4⟩ := h fin j o h1 h2
  exact ⟨k, y, h0, h3.app T, h4⟩
theorem ckAt_drop (n : List UInt8) (b : Nat) : ∀ a, ckAt (n.drop b) a = ckAt n (b + a) := by
  intro a
  generalize hm : n.length - (b + a) = m
  induction m using Nat.strongRecOn generalizing a with
  | _ m ih =>
    rw [ckAt]
    conv => rhs; rw [ckAt]
    rw [List.length_drop, oc_drop]
    by_cases h1 : n.length ≤ b + a
    · rw [if_pos (by omega), if_pos h1]
    · rw [if_neg (by omega), if_neg h1]
      by_cases h2 : oc n (b + a) < 1 ∨ 63 < oc n (b + a) ∨ n.length < b + a + 1 + oc n (b + a)
      · rw [if_pos (by omega), if_pos h2]
      · rw [if_neg (by omega), if_neg h2, ih _ (by omega) _ rfl]
        congr 1
        omega
theorem ckAt_first {n : List UInt8} (hn : n ≠ []) (h : ckAt n 0 = 0) : 1 ≤ oc n 0 ∧ oc n 0 ≤ 63 ∧ 1 + oc n 0 ≤ n.length ∧ ckAt (n.drop (1 + oc n 0)) 0 = 0 := by
  have hl := List.length_pos_iff.2 hn
  rw [ckAt, if_neg (by omega)] at h
  split at h
  · cases h
  · rw [ckAt_drop]
    refine ⟨by omega, by omega, by omega, ?_⟩
    rw [Nat.add_zero, ← h]
theorem rest_reads (x : Rp) (n : List UInt8) (base : Nat) (hb : base ≤ x.S.length) (hc : ckAt n 0 = 0)
    (hm : ∀ m a, x.get m = some a → m.length ≤ n.length → a < base ∧ a < 16384 ∧ Rds x.S a m) :
    (∃ T, (x.rest n).S = x.S ++ T ∧ T ≠ [] ∧ T.length ≤ n.length + 2) ∧
    (∀ (b : Nat) (fin : Int) (j : Nat) (o : List UInt8), base ≤ b → o.length + n.length ≤ 254 → ∃ k y, k ≤ n.length + 2 ∧ Rd8 (x.rest n).S k ⟨x.S.length, b, fin, j, o⟩ y ∧ y.out = o ++ n ∧ y.fin = if fin < 0 then ((x.rest n).S.length : Int) else fin) ∧
    (∀ m a, (x.rest n).get m = some a → x.get m = some a ∨ (a < (x.rest n).S.length ∧ a < 16384 ∧ Rds (x.rest n).S a m)) := by
  generalize hk : n.length = k
  induction k using Nat.strongRecOn generalizing x n with
  | _ k ih =>
    subst hk
    by_cases hn : n = []
    · subst hn
      rw [rest_nil]
      refine ⟨⟨[0], rfl, by simp, by simp⟩, fun b fin j o _ _ => ⟨1, ⟨x.S.length, b, if fin < 0 then ((x.S.length + 1 : Nat) : Int) else fin, j, o⟩, by simp, ?_, by simp, by simp⟩, fun m a h => .inl h⟩
      refine .done ?_
      have h0 : oc (x.S ++ [0]) (x.S.length + 0) = 0 := by rw [oc_app_r]; rfl
      rw [Nat.add_zero] at h0
      unfold Un.step Un.leave
      simp only [h0, List.length_append, List.length_cons, List.length_nil]
      rw [if_neg (by omega), if_pos trivial]
    · cases hkn : x.get n with
      | some a =>
        obtain ⟨hab, ha, hrd⟩ := hm _ _ hkn (Nat.le_refl _)
        rw [rest_some hn hkn]
        refine ⟨⟨ptr a, rfl, by simp [ptr], by simp [ptr]⟩, fun b fin j o hbb ho => ?_, fun m a h => .inl h⟩
        obtain ⟨o1, o2⟩ := ptr_oc x.S [] a ha
        rw [List.append_nil] at o1 o2
        have hst : Un.step (x.S ++ ptr a) true ⟨x.S.length, b, fin, j, o⟩ = .on ⟨a, a, if fin < 0 then ((x.S.length + 2 : Nat) : Int) else fin, j + 1, o⟩ := by
          have hl : (x.S ++ ptr a).length = x.S.length + 2 := by simp [ptr]
          have hto : Un.to (x.S ++ ptr a) ⟨x.S.length, b, fin, j, o⟩ = a := by
            unfold Un.to
            simp only [o1, o2]
            omega
          unfold Un.step Un.jmp Un.leave
          rw [hto]
          simp only [o1, hl]
          rw [if_neg (by omega), if_neg (by omega), if_neg (by omega), if_pos ⟨by omega, trivial⟩, if_neg (by omega), if_neg (by omega)]
        obtain ⟨k, y, h0, h1, h2, h3⟩ := (hrd.app (ptr a)) (if fin < 0 then ((x.S.length + 2 : Nat) : Int) else fin) (j + 1) o (by split <;> omega) ho
        refine ⟨k + 1, y, by omega, .on hst h1, h2, ?_⟩
        rw [h3]
        simp [ptr]
      | none =>
        obtain ⟨c1, c2, c3, c4⟩ := ckAt_first hn hc
        rw [rest_none hn hkn]
        have hlen : (n.take (1 + oc n 0)).length = 1 + oc n 0 := by rw [List.length_take]; omega
        have hdl : (n.drop (1 + oc n 0)).length = n.length - (1 + oc n 0) := List.length_drop
        obtain ⟨⟨T, hT, _, hT2⟩, hrd, hmk⟩ := ih (n.drop (1 + oc n 0)).length (by omega) ⟨x.S ++ n.take (1 + oc n 0), updAt x.get n x.S.length⟩ (n.drop (1 + oc n 0))
          (by dsimp only; rw [List.length_append]; omega) c4 (fun m a hmm hle => by
            dsimp only at hmm ⊢
            rcases updAt_some hmm with h | ⟨h, _⟩
            · obtain ⟨p1, p2, p3⟩ := hm m a h (by omega)
              exact ⟨p1, p2, p3.app _⟩
            · subst h
              omega) rfl
        dsimp only at hT hrd hmk
        generalize Rp.rest ⟨x.S ++ n.take (1 + oc n 0), updAt x.get n x.S.length⟩ (n.drop (1 + oc n 0)) = z at hT hrd hmk ⊢
        have hT' : z.S = x.S ++ (n.take (1 + oc n 0) ++ T) := by rw [hT, List.append_assoc]
        have hzl : z.S.length = x.S.length + (1 + oc n 0 + T.length) := by rw [hT', List.length_append, List.length_append, hlen]
        have key : ∀ (b : Nat) (fin : Int) (j : Nat) (o : List UInt8), base ≤ b → o.length + n.length ≤ 254 → ∃ k y, k ≤ n.length + 1 ∧ Rd8 z.S k ⟨x.S.length, b, fin, j, o⟩ y ∧ y.out = o ++ n ∧ y.fin = if fin < 0 then (z.S.length : Int) else fin := by
          intro b fin j o hbb ho
          obtain ⟨k, y, hk0, h1, h2, h3⟩ := hrd b fin j (o ++ n.take (1 + oc n 0)) hbb (by rw [List.length_append, hlen, hdl]; omega)
          refine ⟨k + 1, y, by omega, ?_, ?_, h3⟩
          · rw [List.length_append, hlen] at h1
            refine .on ?_ h1
            have h0 : oc z.S (x.S.length + 0) = oc n 0 := by
              rw [hT', oc_app_r, oc_app_l _ _ _ (by omega), oc_take _ _ _ (by omega)]
            have hd : (z.S.drop x.S.length).take (1 + oc n 0) = n.take (1 + oc n 0) := by
              rw [hT', List.drop_left]
              have := List.take_left (l₁ := n.take (1 + oc n 0)) (l₂ := T)
              rw [hlen] at this
              exact this
            rw [Nat.add_zero] at h0
            unfold Un.step Un.lab
            simp only [h0, hd]
            rw [if_neg (by omega), if_neg (by omega), if_pos (by omega), if_neg (by omega), if_neg (by omega), Nat.add_assoc]
          · rw [h2, List.append_assoc, List.take_append_drop]
        refine ⟨⟨_, hT', ?_, ?_⟩, fun b fin j o hbb ho => ?_, fun m a hmm => ?_⟩
        · intro h
          have := congrArg List.length h
          rw [List.length_append, hlen] at this
          simp at this
        · rw [List.length_append, hlen]
          omega
        · obtain ⟨k, y, h0, h1⟩ := key b fin j o hbb ho
          exact ⟨k, y, by omega, h1⟩
        · rcases hmk m a hmm with h | h
          · rcases updAt_some h with h | ⟨h, h', h''⟩
            · exact .inl h
            · subst h h'
              refine .inr ⟨by omega, h'', fun fin j o h1 h2 => ?_⟩
              obtain ⟨k, y, h0, h3, h4, h5⟩ := key x.S.length fin j o hb h2
              refine ⟨k, y, h0, h3, h4, ?_⟩
              rw [h5, if_neg (by omega)]
          · exact .inr h
/-- All that was marked is there. -/
def Rp.good (x : Rp) : Prop := ∀ m a, x.get m = some a → a < x.S.length ∧ a < 16384 ∧ Rds x.S a m
/-- A name that was put reads from where it was begun. -/
theorem rest_one {x : Rp} {n : List UInt8} (hg : x.good) (h1 : ckAt n 0 = 0) (h2 : n.length ≤ 254) :
    (x.rest n).good ∧ (∃ T, (x.rest n).S = x.S ++ T ∧ T ≠ [] ∧ T.length ≤ n.length + 2) ∧
      ∃ k y, k ≤ 256 ∧ Rd8 (x.rest n).S k ⟨x.S.length, x.S.length, -1, 0, []⟩ y ∧ y.out = n ∧ y.fin = (x.rest n).S.length := by
  obtain ⟨⟨T, hT, hT1, hT2⟩, hrd, hmk⟩ := rest_reads x n x.S.length (Nat.le_refl _) h1 fun m a hm _ => hg m a hm
  obtain ⟨k, y, h0, h3, h4, h5⟩ := hrd x.S.length (-1) 0 [] (Nat.le_refl _) (by simpa using h2)
  refine ⟨fun m a hm => ?_, ⟨T, hT, hT1, hT2⟩, k, y, by omega, h3, by rw [h4]; rfl, by rw [h5]; rfl⟩
  rcases hmk m a hm with h | h
  · obtain ⟨g1, g2, g3⟩ := hg m a h
    rw [hT]
    exact ⟨by rw [List.length_append]; omega, g2, g3.app T⟩
  · exact h
/-- From a place on there stand names, one behind the other. -/
def Chain (S : List UInt8) : Nat → List (List UInt8) → Nat → Prop
  | p, [], e => p = e
  | p, n :: l, e => ∃ k y q, Rd8 S k ⟨p, p, -1, 0, []⟩ y ∧ y.out = n ∧ y.fin = ((q : Nat) : Int) ∧ p ≤ S.length ∧ Chain S q l e
theorem Chain.app {S : List UInt8} (T : List UInt8) : ∀ {l : List (List UInt8)} {p e : Nat}, Chain S p l e → Chain (S ++ T) p l e
  | [], _, _, h => h
  | n :: l, p, e, ⟨k, y, q, h1, h2, h3, h4, h5⟩ => ⟨k, y, q, h1.app T, h2, h3, by rw [List.length_append]; omega, Chain.app T h5⟩
theorem Chain.snoc {S : List UInt8} {n : List UInt8} {q k : Nat} {y : Un} : ∀ {l : List (List UInt8)} {p e : Nat}, Chain S p l e → Rd8 S k ⟨e, e, -1, 0, []⟩ y → y.out = n → y.fin = ((q : Nat) : Int) → e ≤ S.length → Chain S p (l ++ [n]) q
  | [], p, e, h, h1, h2, h3, h4 => by
    have h : p = e := h
    subst h
    exact ⟨k, y, q, h1, h2, h3, h4, rfl⟩
  | m :: l, p, e, ⟨k', z, r, g1, g2, g3, g4, g5⟩, h1, h2, h3, h4 => ⟨k', z, r, g1, g2, g3, g4, Chain.snoc g5 h1 h2 h3 h4⟩
/-- One name more. -/
theorem rest_chain {x : Rp} {n : List UInt8} {l : List (List UInt8)} (hg : x.good) (hc : Chain x.S 0 l x.S.length) (h1 : ckAt n 0 = 0) (h2 : n.length ≤ 254) :
    (x.rest n).good ∧ Chain (x.rest n).S 0 (l ++ [n]) (x.rest n).S.length ∧ (x.rest n).S.length ≤ x.S.length + 256 := by
  obtain ⟨hg', ⟨T, hT, _, hT2⟩, k, y, _, h3, h4, h5⟩ := rest_one hg h1 h2
  refine ⟨hg', Chain.snoc (e := x.S.length) ?_ h3 h4 h5 ?_, ?_⟩
  · rw [hT]; exact hc.app T
  · rw [hT, List.length_append]; omega
  · rw [hT, List.length_append]
    omega
end Go.Proofs.YtmbgejiahmhffaaGreat

/-
  LAYER 7, PLAIN: a packer, as what is written, which rest of a name stands where, which lengths were begun.
-/
namespace Go.Proofs.YtmbgejiahmhffaaGreat
open Go.RowKit

structure Pk where
  x : Wst
  get : List UInt8 → Option Nat
/-- A rest of a name is put. -/
def Pk.rest (p : Pk) (n : List UInt8) : Pk × Int :=
  if _h : n = [] then ({ p with x := (p.x.put [0]).1 }, (p.x.put [0]).2)
  else match p.get n with
  | some a => ({ p with x := (p.x.number (49152 + a) 2).1 }, (p.x.number (49152 + a) 2).2)
  | none =>
    if (p.x.put (n.take (1 + oc n 0))).2 = 0 then Pk.rest ⟨(p.x.put (n.take (1 + oc n 0))).1, updAt p.get n p.x.b.length⟩ (n.drop (1 + oc n 0))
    else ({ p with x := (p.x.put (n.take (1 + oc n 0))).1 }, (p.x.put (n.take (1 + oc n 0))).2)
termination_by n.length
decreasing_by
  rw [List.length_drop]
  have := List.length_pos_iff.2 (by assumption)
  omega
theorem Pk.rest_nil (p : Pk) : p.rest [] = ({ p with x := (p.x.put [0]).1 }, (p.x.put [0]).2) := by rw [Pk.rest]; rfl
theorem Pk.rest_some {p : Pk} {n : List UInt8} {a : Nat} (hn : n ≠ []) (h : p.get n = some a) : p.rest n = ({ p with x := (p.x.number (49152 + a) 2).1 }, (p.x.number (49152 + a) 2).2) := by
  rw [Pk.rest, dif_neg hn, h]
theorem Pk.rest_go {p : Pk} {n : List UInt8} (hn : n ≠ []) (h : p.get n = none) (h0 : (p.x.put (n.take (1 + oc n 0))).2 = 0) :
    p.rest n = Pk.rest ⟨(p.x.put (n.take (1 + oc n 0))).1, updAt p.get n p.x.b.length⟩ (n.drop (1 + oc n 0)) := by
  rw [Pk.rest, dif_neg hn, h]
  dsimp only
  rw [if_pos h0]
theorem Pk.rest_stop {p : Pk} {n : List UInt8} (hn : n ≠ []) (h : p.get n = none) (h0 : (p.x.put (n.take (1 + oc n 0))).2 ≠ 0) :
    p.rest n = ({ p with x := (p.x.put (n.take (1 + oc n 0))).1 }, (p.x.put (n.take (1 + oc n 0))).2) := by
  rw [Pk.rest, dif_neg hn, h]
  dsimp only
  rw [if_neg h0]
/-- A name is put. -/
def Pk.name (p : Pk) (n : ByteArray) : Pk × Int :=
  if p.x.e ≠ 0 then (p, p.x.e) else if ckN n ≠ 0 then (p, ckN n) else p.rest n.data.toList
/-- A name is put without pointers. -/
def Pk.plain (p : Pk) (n : ByteArray) : Pk × Int :=
  if p.x.e ≠ 0 then (p, p.x.e) else if ckN n ≠ 0 then (p, ckN n) else ({ p with x := (p.x.put (n.data.toList ++ [0])).1 }, (p.x.put (n.data.toList ++ [0])).2)
/-- Where there is room nothing fails. -/
theorem Wst.put_ok {x : Wst} {l : List UInt8} (he : x.e = 0) (h : (x.b.length : Int) + l.length ≤ x.most) : x.put l = ({ x with b := x.b ++ l }, 0) := by
  unfold Wst.put
  rw [if_neg (by simp [he]), if_neg (by omega)]
theorem ptr_octs (a : Nat) (_h : a < 16384) : octs (49152 + a) 2 = ptr a := by
  simp only [octs, ptr, Nat.pow_one, Nat.pow_zero, Nat.div_one]
  have e1 : (49152 + a) / 256 = 192 + a / 256 := by omega
  rw [e1]
  congr 2
  apply UInt8.toNat_inj.1
  simp
end Go.Proofs.YtmbgejiahmhffaaGreat

/-
  CHAPTER 3's OWN EXAMPLES ('lives') COME OUT; the remainder function of the kit.
-/
namespace Go.Proofs.YtmbgejiahmhffaaGreat
open Go.RowKit

theorem Wr.lt {w : World} {p : Nat} {F : Nat → Prop} {x : Wst} (h : Wr w p F x) : ∀ k, F k → k < w.heap.size := by
  obtain ⟨A, cap, h1, h2, h3, h4, h5, h6⟩ := h
  exact h5
theorem Wr.ne {w : World} {p : Nat} {F : Nat → Prop} {x : Wst} (h : Wr w p F x) : F p := by
  obtain ⟨A, cap, h1, h2, h3, h4, h5, h6⟩ := h
  exact h3
/-- A new writer. -/
def NewPost (w : World) (m : Int) (e : Ending) (w' : World) : Prop :=
  ∃ p F, e = .returned (.pointer (some ⟨p, 0, none⟩)) ∧ Wr w' p F ⟨[], max 0 m, 0⟩ ∧ Fr (fun _ => False) w w' ∧ ∀ k, F k → w.heap.size ≤ k
theorem newWriter_c (m : Int) (hm : m ≤ 9223372036854775807) (w : World) : Calls Tryz.prog 61 #[.int .i64 m] w (NewPost w m) := by
  refine (newWriter_any m w).mono ?_
  rintro e w' ⟨rfl, rfl⟩
  exact ⟨w.heap.size, _, rfl, Wr.new m hm w, (Fr.refl _ _).alloc _, fun k hk => Nat.le_of_eq hk.symm⟩
/-- The remainder, from nought on. -/
def pick (n m : Int) : Int := if n.tmod m < 0 then n.tmod m + m else n.tmod m
set_option maxRecDepth 100000 in
set_option maxHeartbeats 1000000 in
theorem pick_any (n m : Int) (w : World) (hm : 1 ≤ m) (hm' : m ≤ 1000000) :
    Calls Tryz.prog 25 #[.int .i64 n, .int .i64 m] w fun e w' => e = .returned (.int .i64 (pick n m)) ∧ w = w' := by
  have h1 : n.tmod m < m := Int.tmod_lt_of_pos _ (by omega)
  have h2 : -m < n.tmod m := by have := Int.lt_tmod_of_pos n (show 0 < m by omega); omega
  unfold pick
  by_cases hc : n.tmod m < 0
  · rw [if_pos hc]
    go_enter Tryz.func25, Tryz.ntmps25
    go_wp2
    go_ret
    exact ⟨rfl, rfl⟩
  · rw [if_neg hc]
    go_enter Tryz.func25, Tryz.ntmps25
    go_wp2
    go_ret
    exact ⟨rfl, rfl⟩
theorem pick_range (n m : Int) (hm : 1 ≤ m) : 0 ≤ pick n m ∧ pick n m < m := by
  have h1 : n.tmod m < m := Int.tmod_lt_of_pos _ (by omega)
  have h2 : -m < n.tmod m := by have := Int.lt_tmod_of_pos n (show 0 < m by omega); omega
  unfold pick
  split <;> omega
end Go.Proofs.YtmbgejiahmhffaaGreat

/-
  LAYER 7: THE REFERENCE's PACKER.
-/
namespace Go.Proofs.YtmbgejiahmhffaaGreat
open Go.RowKit

theorem put_ge (x : Wst) (l : List UInt8) : x.b.length ≤ (x.put l).1.b.length := by
  unfold Wst.put
  split
  · exact Nat.le_refl _
  · split
    · exact Nat.le_refl _
    · dsimp only; rw [List.length_append]; omega
theorem number_ge (x : Wst) (v n : Int) : x.b.length ≤ (x.number v n).1.b.length := by
  unfold Wst.number
  split
  · exact Nat.le_refl _
  · split
    · exact put_ge _ _
    · exact Nat.le_refl _
theorem take_list (m : ByteArray) (k : Nat) : (m.extract 0 k).data.toList = m.data.toList.take k := by rw [extract_list]; simp
theorem drop_list (m : ByteArray) (k : Nat) : (m.extract k m.size).data.toList = m.data.toList.drop k := by
  rw [extract_list, ← size_l m]
  rw [List.take_of_length_le (by rw [List.length_drop]; omega)]
theorem rput_err (x : Wst) (l : List UInt8) (he : x.e = 0) (h : (x.put l).2 = 0) : (x.put l).1 = { x with b := x.b ++ l } := by
  unfold Wst.put at *
  rw [if_neg (by simp [he])] at *
  split at h
  · cases h
  · rename_i h1
    rw [if_neg h1]
end Go.Proofs.YtmbgejiahmhffaaGreat

/-
  LISTS OF STRINGS AND OF BOOLS THAT CAME IN, OPENED.
-/
namespace Go.Proofs.YtmbgejiahmhffaaGreat
open Go.ChangeShapes Go.WideShapes Go.ChangeAt Go.RowKit Go.Deep

/-- A row of one-cell values that came in. -/
def RowIn (W : World) (A : Option Addr) (vs : List Value) : Prop := 0 < vs.length → ∃ b off, A = some ⟨b, off, none⟩ ∧ b < W.heap.size ∧ ∀ i x, vs[i]? = some x → W.cell? ⟨b, off + i, none⟩ = some x
def Strs (W : World) (A : Option Addr) (l : List ByteArray) : Prop := RowIn W A (l.map Value.string)
end Go.Proofs.YtmbgejiahmhffaaGreat

/-
  LAYER 8: UnpackBack.
-/
namespace Go.Proofs.YtmbgejiahmhffaaGreat
open Go.RowKit

/-- Where there is room a name is put whole. -/
theorem Pk.rest_room (y : Pk) (n : List UInt8) (he : y.x.e = 0) (hc : ckAt n 0 = 0) (hg : ∀ m a, y.get m = some a → a < 16384) (hr : (y.x.b.length : Int) + n.length + 2 ≤ y.x.most) :
    y.rest n = (⟨{ y.x with b := (Rp.rest ⟨y.x.b, y.get⟩ n).S }, (Rp.rest ⟨y.x.b, y.get⟩ n).get⟩, 0) := by
  generalize hk : n.length = k
  induction k using Nat.strongRecOn generalizing y n with
  | _ k ih =>
    subst hk
    by_cases hn : n = []
    · subst hn
      rw [Pk.rest_nil, Go.Proofs.YtmbgejiahmhffaaGreat.rest_nil, Wst.put_ok he (by simp at hr ⊢; omega)]
    · cases hgn : y.get n with
      | some a =>
        have ha := hg _ _ hgn
        rw [Pk.rest_some hn hgn, Go.Proofs.YtmbgejiahmhffaaGreat.rest_some (x := ⟨y.x.b, y.get⟩) hn hgn]
        have hf : fitsB (49152 + (a : Int)) 2 = true := by
          simp only [fitsB, decide_eq_true_eq]
          refine ⟨by omega, by omega, ?_⟩
          show (49152 : Int) + a < 256 ^ 2
          omega
        have hnm : y.x.number (49152 + (a : Int)) 2 = ({ y.x with b := y.x.b ++ ptr a }, 0) := by
          unfold Wst.number
          rw [if_neg (by simp [he]), if_pos hf]
          rw [show ((49152 : Int) + a).toNat = 49152 + a by omega, show (2 : Int).toNat = 2 from rfl, ptr_octs a ha]
          exact Wst.put_ok he (by simp [ptr]; omega)
        rw [hnm]
      | none =>
        obtain ⟨c1, c2, c3, c4⟩ := ckAt_first hn hc
        have hlen : (n.take (1 + oc n 0)).length = 1 + oc n 0 := by rw [List.length_take]; omega
        have hdl : (n.drop (1 + oc n 0)).length = n.length - (1 + oc n 0) := List.length_drop
        have hpo := Wst.put_ok (x := y.x) (l := n.take (1 + oc n 0)) he (by rw [hlen]; omega)
        rw [Pk.rest_go hn hgn (by rw [hpo]), Go.Proofs.YtmbgejiahmhffaaGreat.rest_none (x := ⟨y.x.b, y.get⟩) hn hgn, hpo]
        exact ih (n.drop (1 + oc n 0)).length (by omega) ⟨{ y.x with b := y.x.b ++ n.take (1 + oc n 0) }, updAt y.get n y.x.b.length⟩ (n.drop (1 + oc n 0)) he c4
          (fun m a h => by
            rcases updAt_some h with h | ⟨_, h, h'⟩
            · exact hg m a h
            · omega) (by dsimp only; rw [List.length_append, hlen, hdl]; omega) rfl
/-- What holds of the packer while names are put one behind the other. -/
structure UBp (y : Pk) (D : List ByteArray) (k : Nat) : Prop where
  e : y.x.e = 0
  most : y.x.most = 65535
  good : (Rp.mk y.x.b y.get).good
  chain : Chain y.x.b 0 (D.map fun d => d.data.toList) y.x.b.length
  len : y.x.b.length ≤ 256 * k
  cnt : D.length ≤ k
theorem UBp.put {y : Pk} {D : List ByteArray} {k : Nat} (h : UBp y D k) (n : ByteArray) (hn : ckN n = 0) (hk : k < 60) : (y.name n).2 = 0 ∧ UBp (y.name n).1 (D ++ [n]) (k + 1) := by
  obtain ⟨h1, h2⟩ := ckN_ok hn
  have hr : y.name n = y.rest n.data.toList := by unfold Pk.name; rw [if_neg (by simp [h.e]), if_neg (by simp [hn])]
  have hrm := Pk.rest_room y n.data.toList h.e h2 (fun m a hm => (h.good m a hm).2.1) (by rw [h.most, size_l]; have := h.len; omega)
  rw [hr, hrm]
  obtain ⟨g1, g2, g3⟩ := rest_chain h.good h.chain h2 (by rw [size_l]; exact h1)
  refine ⟨rfl, h.e, h.most, g1, ?_, ?_, ?_⟩
  · rw [List.map_append]
    exact g2
  · have := h.len
    dsimp only at g3 ⊢
    omega
  · rw [List.length_append, List.length_singleton]
    have := h.cnt
    omega
theorem UBp.no {y : Pk} {D : List ByteArray} {k : Nat} (h : UBp y D k) (n : ByteArray) (hn : ckN n ≠ 0) : y.name n = (y, ckN n) ∧ UBp y D (k + 1) := by
  refine ⟨by unfold Pk.name; rw [if_neg (by simp [h.e]), if_pos hn], h.e, h.most, h.good, h.chain, ?_, ?_⟩
  · have := h.len; omega
  · have := h.cnt; omega
theorem UBp.skip {y : Pk} {D : List ByteArray} {k : Nat} (h : UBp y D k) : UBp y D (k + 1) := by
  refine ⟨h.e, h.most, h.good, h.chain, ?_, ?_⟩
  · have := h.len; omega
  · have := h.cnt; omega
theorem UBp.start : UBp ⟨⟨[], 65535, 0⟩, fun _ => none⟩ [] 0 := ⟨rfl, rfl, (fun m a h => by cases h), rfl, Nat.le_refl _, Nat.le_refl _⟩
theorem Chain.le {S : List UInt8} : ∀ {l : List (List UInt8)} {p : Nat}, Chain S p l S.length → p ≤ S.length
  | [], p, h => by
    have h : p = S.length := h
    omega
  | _ :: _, _, ⟨_, _, _, _, _, _, h, _⟩ => h
end Go.Proofs.YtmbgejiahmhffaaGreat

/-
  LAYER 7, PLAIN: what names leave behind them, with pointers or without.
-/
namespace Go.Proofs.YtmbgejiahmhffaaGreat
open Go.RowKit

/-- What holds of a packer with room for k names of 256 octets, behind a start. -/
structure UGK (K : Nat) (y : Pk) (B : Nat) : Prop where
  e : y.x.e = 0
  most : y.x.most = (K : Nat)
  good : (Rp.mk y.x.b y.get).good
  len : y.x.b.length ≤ B
/-- The same, with the room that a packer of the program has at most. -/
abbrev UG (y : Pk) (B : Nat) : Prop := UGK 65535 y B
variable {K : Nat}

/-- Labels that stand there are read step by step. -/
theorem rd8_labels {s : List UInt8} {p : Nat} {n : List UInt8} (hs : StandsAt s p n) (b : Nat) (fin : Int) (j : Nat) (o : List UInt8) (ho : o.length + n.length ≤ 254) (k : Nat) (y : Un) (hk : Rd8 s k ⟨p + n.length, b, fin, j, o ++ n⟩ y) (a : Nat) (ha : a ≤ n.length) (hc : ckAt n a = 0) :
    ∃ k', k' ≤ k + (n.length - a) ∧ Rd8 s k' ⟨p + a, b, fin, j, o ++ n.take a⟩ y := by
  generalize hm : n.length - a = m
  induction m using Nat.strongRecOn generalizing a with
  | _ m ih =>
    by_cases he : a = n.length
    · rw [he, List.take_length]
      exact ⟨k, by omega, hk⟩
    · have hlt : a < n.length := by omega
      have hle : p + n.length ≤ s.length := by
        rcases hs.le with h | h
        · rw [h] at hlt; simp at hlt
        · exact h
      rw [ckAt, if_neg (by omega)] at hc
      split at hc
      · cases hc
      · rename_i hkk
        have hoc := hs.oc a hlt
        have ht := hs.part a (1 + oc n a) (by omega)
        have hst : Un.step s true ⟨p + a, b, fin, j, o ++ n.take a⟩ = .on ⟨p + (a + 1 + oc n a), b, fin, j, o ++ n.take (a + 1 + oc n a)⟩ := by
          unfold Un.step Un.lab
          simp only [hoc]
          have hl : (o ++ n.take a).length = o.length + a := by rw [List.length_append, List.length_take]; omega
          rw [if_neg (by omega), if_neg (by omega), if_pos (by omega), if_neg (by omega), hl, if_neg (by omega), ht]
          have e : n.take (a + 1 + oc n a) = n.take a ++ (n.drop a).take (1 + oc n a) := by rw [Nat.add_assoc]; exact List.take_add
          rw [e, List.append_assoc, show p + a + 1 + oc n a = p + (a + 1 + oc n a) by omega]
        obtain ⟨k', h1, h2⟩ := ih (n.length - (a + 1 + oc n a)) (by omega) (a + 1 + oc n a) (by omega) hc rfl
        exact ⟨k' + 1, by omega, .on hst h2⟩
/-- A name without pointers reads where it stands. -/
theorem plain_reads (S n : List UInt8) (hc : ckAt n 0 = 0) (hn : n.length ≤ 254) : ∃ k y, k ≤ 255 ∧ Rd8 (S ++ (n ++ [0])) k ⟨S.length, S.length, -1, 0, []⟩ y ∧ y.out = n ∧ y.fin = ((S.length + n.length + 1 : Nat) : Int) := by
  have hst : StandsAt (S ++ (n ++ [0])) S.length n := standsAt_app S n [0]
  have h0 : oc (S ++ (n ++ [0])) (S.length + (n.length + 0)) = 0 := by
    rw [oc_app_r, oc_app_r]
    rfl
  have hend : Rd8 (S ++ (n ++ [0])) 1 ⟨S.length + n.length, S.length, -1, 0, [] ++ n⟩ ⟨S.length + n.length, S.length, ((S.length + n.length + 1 : Nat) : Int), 0, [] ++ n⟩ := by
    refine .done ?_
    rw [Nat.add_zero] at h0
    unfold Un.step Un.leave
    simp only [h0, List.length_append, List.length_cons, List.length_nil]
    rw [if_neg (by omega), if_pos trivial, if_pos (by decide)]
  obtain ⟨k', h1, h2⟩ := rd8_labels hst S.length (-1) 0 [] (by simpa using hn) 1 _ hend 0 (Nat.zero_le _) hc
  rw [List.take_zero, List.append_nil, Nat.add_zero] at h2
  exact ⟨k', _, by omega, h2, rfl, rfl⟩
theorem UGK.name {y : Pk} {B : Nat} (h : UGK K y B) (n : ByteArray) (hn : ckN n = 0) (hB : B + 256 ≤ K) :
    (y.name n).2 = 0 ∧ UGK K (y.name n).1 (B + 256) ∧ (∃ T, (y.name n).1.x.b = y.x.b ++ T ∧ T ≠ [] ∧ T.length ≤ n.size + 2) ∧ ∃ k z, k ≤ 256 ∧ Rd8 (y.name n).1.x.b k ⟨y.x.b.length, y.x.b.length, -1, 0, []⟩ z ∧ z.out = n.data.toList ∧ z.fin = (y.name n).1.x.b.length := by
  obtain ⟨h1, h2⟩ := ckN_ok hn
  have hr : y.name n = y.rest n.data.toList := by unfold Pk.name; rw [if_neg (by simp [h.e]), if_neg (by simp [hn])]
  have hrm := Pk.rest_room y n.data.toList h.e h2 (fun m a hm => (h.good m a hm).2.1) (by rw [h.most, size_l]; have := h.len; omega)
  rw [hr, hrm]
  obtain ⟨g1, ⟨T, g2, g3, g4⟩, g5⟩ := rest_one h.good h2 (by rw [size_l]; exact h1)
  rw [size_l] at g4
  refine ⟨rfl, ⟨h.e, h.most, g1, ?_⟩, ⟨T, g2, g3, g4⟩, g5⟩
  have := h.len
  dsimp only at g2 ⊢
  rw [g2, List.length_append]
  omega
theorem UGK.more {y : Pk} {B C : Nat} (h : UGK K y B) (hc : B ≤ C) : UGK K y C := ⟨h.e, h.most, h.good, Nat.le_trans h.len hc⟩
theorem UGK.plain {y : Pk} {B : Nat} (h : UGK K y B) (n : ByteArray) (hn : ckN n = 0) (hB : B + 256 ≤ K) :
    (y.plain n).2 = 0 ∧ UGK K (y.plain n).1 (B + 256) ∧ (∃ T, (y.plain n).1.x.b = y.x.b ++ T ∧ T ≠ [] ∧ T.length ≤ n.size + 1) ∧ ∃ k z, k ≤ 256 ∧ Rd8 (y.plain n).1.x.b k ⟨y.x.b.length, y.x.b.length, -1, 0, []⟩ z ∧ z.out = n.data.toList ∧ z.fin = (y.plain n).1.x.b.length := by
  obtain ⟨h1, h2⟩ := ckN_ok hn
  have hpo := Wst.put_ok (x := y.x) (l := n.data.toList ++ [0]) h.e (by rw [h.most, List.length_append, size_l]; have := h.len; simp; omega)
  have hr : y.plain n = (⟨{ y.x with b := y.x.b ++ (n.data.toList ++ [0]) }, y.get⟩, 0) := by
    unfold Pk.plain
    rw [if_neg (by simp [h.e]), if_neg (by simp [hn]), hpo]
  rw [hr]
  obtain ⟨k, z, g1, g2, g3, g4⟩ := plain_reads y.x.b n.data.toList h2 (by rw [size_l]; exact h1)
  refine ⟨rfl, ⟨h.e, h.most, fun m a hm => ?_, ?_⟩, ⟨_, rfl, by simp, by rw [List.length_append, size_l]; simp⟩, k, z, by omega, g2, g3, ?_⟩
  · obtain ⟨r1, r2, r3⟩ := h.good m a hm
    dsimp only at r1
    exact ⟨by dsimp only; rw [List.length_append]; omega, r2, r3.app _⟩
  · have := h.len
    dsimp only
    rw [List.length_append, List.length_append, size_l]
    simp
    omega
  · rw [g4]
    dsimp only
    rw [List.length_append, List.length_append]
    simp
    omega
theorem UGK.start : UGK 65535 ⟨⟨[], 65535, 0⟩, fun _ => none⟩ 0 := ⟨rfl, rfl, (fun m a h => by cases h), Nat.le_refl _⟩
end Go.Proofs.YtmbgejiahmhffaaGreat
