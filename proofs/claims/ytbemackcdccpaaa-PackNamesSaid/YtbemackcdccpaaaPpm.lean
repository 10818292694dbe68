/-
  LAYER 7: PackNames.
-/
import Derived.Test.YtbemackcdccpaaaPpb
namespace Go.Proofs.Ytbemackcdccpaaa
open Go.RowKit Go.Maps

/-- Three packers of the call's own, apart. -/
structure TP (w w' : World) (p : Nat) (F : Nat → Prop) (y : Pk) (bg : List Int) (q : Nat) (G : Nat → Prop) (z : Pk) (r : Nat) (H : Nat → Prop) (u : Pk) : Prop where
  p : PPk w' p F y bg
  q : PPk w' q G z []
  r : PPk w' r H u []
  pq : ∀ k, F k → ¬ G k
  pr : ∀ k, F k → ¬ H k
  qr : ∀ k, G k → ¬ H k
  pn : ∀ k, F k → w.heap.size ≤ k
  qn : ∀ k, G k → w.heap.size ≤ k
  rn : ∀ k, H k → w.heap.size ≤ k
  fr : Fr (fun _ => False) w w'
theorem PPk.lt {w : World} {q : Nat} {F : Nat → Prop} {y : Pk} {bg : List Int} (h : PPk w q F y bg) : ∀ k, F k → k < w.heap.size := by
  obtain ⟨n, _, p, G, b, C, ccap, _, _, _, _, _, _, _, _, _, h⟩ := h
  exact h
section
variable {w w' w2 : World} {p q r : Nat} {F G H F' : Nat → Prop} {y z u y' : Pk} {bg bg' : List Int}
theorem TP.stepP (h : TP w w' p F y bg q G z r H u) (g1 : PPk w2 p F' y' bg') (g2 : Fr F w' w2) (g3 : ∀ k, F' k → F k ∨ w'.heap.size ≤ k) : TP w w2 p F' y' bg' q G z r H u :=
  ⟨g1, h.q.fr g2 fun k hg hf => h.pq k hf hg, h.r.fr g2 fun k hg hf => h.pr k hf hg, fun k hk hg => (g3 k hk).elim (fun hf => h.pq k hf hg) fun hl => by have := h.q.lt k hg; omega,
    fun k hk hg => (g3 k hk).elim (fun hf => h.pr k hf hg) fun hl => by have := h.r.lt k hg; omega, h.qr, fun k hk => (g3 k hk).elim (h.pn k) fun hl => Nat.le_trans h.fr.size hl, h.qn, h.rn, h.fr.trans g2 fun i hi hf => by have := h.pn i hf; omega⟩
theorem TP.stepQ (h : TP w w' p F y bg q G z r H u) (g1 : PPk w2 q F' y' []) (g2 : Fr G w' w2) (g3 : ∀ k, F' k → G k ∨ w'.heap.size ≤ k) : TP w w2 p F y bg q F' y' r H u :=
  ⟨h.p.fr g2 fun k hf hg => h.pq k hf hg, g1, h.r.fr g2 fun k hh hg => h.qr k hg hh, fun k hf hk => (g3 k hk).elim (fun hg => h.pq k hf hg) fun hl => by have := h.p.lt k hf; omega, h.pr,
    fun k hk hh => (g3 k hk).elim (fun hg => h.qr k hg hh) fun hl => by have := h.r.lt k hh; omega, h.pn, fun k hk => (g3 k hk).elim (h.qn k) fun hl => Nat.le_trans h.fr.size hl, h.rn, h.fr.trans g2 fun i hi hf => by have := h.qn i hf; omega⟩
theorem TP.stepR (h : TP w w' p F y bg q G z r H u) (g1 : PPk w2 r F' y' []) (g2 : Fr H w' w2) (g3 : ∀ k, F' k → H k ∨ w'.heap.size ≤ k) : TP w w2 p F y bg q G z r F' y' :=
  ⟨h.p.fr g2 fun k hf hg => h.pr k hf hg, h.q.fr g2 fun k hf hg => h.qr k hf hg, g1, h.pq, fun k hf hk => (g3 k hk).elim (fun hg => h.pr k hf hg) fun hl => by have := h.p.lt k hf; omega,
    fun k hf hk => (g3 k hk).elim (fun hg => h.qr k hf hg) fun hl => by have := h.q.lt k hf; omega, h.pn, h.qn, fun k hk => (g3 k hk).elim (h.rn k) fun hl => Nat.le_trans h.fr.size hl, h.fr.trans g2 fun i hi hf => by have := h.rn i hf; omega⟩
theorem TP.drewN (h : TP w w' p F y bg q G z r H u) (n : Nat) : TP w (w'.drewN n) p F y bg q G z r H u :=
  ⟨h.p.drewN n, h.q.drewN n, h.r.drewN n, h.pq, h.pr, h.qr, h.pn, h.qn, h.rn, h.fr.drewN n⟩
end

def nm0 : Pk := ⟨⟨[], 99, 0⟩, fun _ => none⟩
def nm1 : Pk := ⟨⟨[1, 97, 0], 99, 0⟩, fun _ => none⟩
def nm2 : Pk := ⟨⟨[1, 97, 0, 1, 65, 0], 99, 0⟩, updAt (fun _ => none) [1, 65] 3⟩
def nm3 : Pk := ⟨⟨[1, 97, 0, 1, 65, 0, 1, 97, 0], 99, 0⟩, updAt nm2.get [1, 97] 6⟩
def nm4 : Pk := ⟨⟨[1, 97, 0, 1, 65, 0, 1, 97, 0, 0], 99, 0⟩, nm3.get⟩
def nm5 : Pk := ⟨⟨[1, 97, 0, 1, 65, 0, 1, 97, 0, 0, 0, 0], 99, 0⟩, nm3.get⟩
def nm6 : Pk := ⟨⟨[1, 97, 0, 1, 65, 0, 1, 97, 0, 0, 0, 0, 120, 121, 122], 99, 0⟩, nm3.get⟩
def nm7 : Pk := ⟨⟨[1, 97, 0, 1, 65, 0, 1, 97, 0, 0, 0, 3, 120, 121, 122], 99, 0⟩, nm3.get⟩
def nm8 : Pk := ⟨⟨[1, 97, 0, 1, 65, 0, 1, 97, 0, 0, 0, 3, 120, 121, 122, 7], 99, 0⟩, nm3.get⟩
def zm0 : Pk := ⟨⟨[], 3, 0⟩, fun _ => none⟩
def zm1 : Pk := ⟨⟨[1, 97], 3, 3⟩, updAt (fun _ => none) [1, 97, 1, 98] 0⟩
def um0 : Pk := ⟨⟨[], 0, 0⟩, fun _ => none⟩
theorem ckBad : ckN ⟨#[2, 97]⟩ = 4 := ckN_eq 9 (by kernel_rfl) (by kernel_rfl)
theorem ckA : ckN ⟨#[1, 97]⟩ = 0 := ckN_eq 9 (by kernel_rfl) (by kernel_rfl)
theorem ckE : ckN ⟨#[]⟩ = 0 := ckN_eq 9 (by kernel_rfl) (by kernel_rfl)
theorem nmA : nm0.name ⟨#[2, 97]⟩ = (nm0, 4) := by unfold Pk.name; rw [if_neg (by decide), if_pos (by rw [ckBad]; decide), ckBad]
theorem nmB : nm0.plain ⟨#[1, 97]⟩ = (nm1, 0) := by
  unfold Pk.plain
  rw [if_neg (by decide), if_neg (by rw [ckA]; decide)]
  kernel_rfl
theorem nmC : nm1.name ⟨#[1, 65]⟩ = (nm2, 0) := name_eq 9 rfl (by kernel_rfl) (by kernel_rfl) (by kernel_rfl)
theorem nmD : nm2.name ⟨#[1, 97]⟩ = (nm3, 0) := name_eq 9 rfl (by kernel_rfl) (by kernel_rfl) (by kernel_rfl)
theorem nmE : nm3.name ⟨#[]⟩ = (nm4, 0) := name_eq 9 rfl (by kernel_rfl) (by kernel_rfl) (by kernel_rfl)
theorem nmF : (nm4.x.number 0 2) = (nm5.x, 0) := by kernel_rfl
theorem nmG : (nm5.x.put (⟨#[120, 121, 122]⟩ : ByteArray).data.toList) = (nm6.x, 0) := by kernel_rfl
theorem nmH : (nm6.x.patch (10 : Nat) ((nm6.x.b.length - 10 - 2 : Nat) : Int) 2) = (nm7.x, 0) := by kernel_rfl
theorem nmI : (nm7.x.number 7 1) = (nm8.x, 0) := by kernel_rfl
theorem nmJ : (nm8.x.number 256 1) = (nm8.x, 2) := by kernel_rfl
theorem zmA : zm0.name ⟨#[1, 97, 1, 98]⟩ = (zm1, 3) := name_eq 9 rfl (by kernel_rfl) (by kernel_rfl) (by kernel_rfl)
theorem zmB : (zm1.x.put (⟨#[]⟩ : ByteArray).data.toList) = (zm1.x, 3) := by kernel_rfl
theorem umA : (um0.x.number 0 2).2 = 3 := by kernel_rfl

set_option maxRecDepth 100000 in
set_option maxHeartbeats 8000000 in
theorem packNames_walk (w : World) :
    Calls Try.prog 23 #[] w fun e w' => e = .returned (.bool true) ∧ Below w.heap.size w w' := by
  go_enter Try.func23, Try.ntmps23
  go_wp2_with fail
  refine (lives7_any _).mono ?_
  rintro e w0 ⟨rfl, f0⟩
  have F0 := Lib.hid f0
  clear f0
  go_wp2_with fail
  refine (pnew_any 99 (by decide) _).mono ?_
  rintro e w1 ⟨p, F, rfl, a1, a2, a3⟩
  have HA := Lib.hid (And.intro a1 (And.intro a2 a3))
  clear a1 a2 a3
  go_wp2_with fail
  refine (pnew_any 3 (by decide) _).mono ?_
  rintro e w2 ⟨q, G, rfl, a1, a2, a3⟩
  have HB := Lib.hid (And.intro a1 (And.intro a2 a3))
  clear a1 a2 a3
  go_wp2_with fail
  refine (pnew_any (-1) (by decide) _).mono ?_
  rintro e w3 ⟨r, H, rfl, a1, a2, a3⟩
  have h0 : Hid (TP w w3 p F nm0 [] q G zm0 r H um0) := by
    have b1 := HA.out.1.lt
    have b2 := HB.out.1.lt
    refine ⟨(HA.out.1.fr HB.out.2.1 fun _ _ h => h).fr a2 fun _ _ h => h, HB.out.1.fr a2 fun _ _ h => h, a1, fun k hf hg => ?_, fun k hf hg => ?_, fun k hf hg => ?_, fun k hk => Nat.le_trans F0.out.size (HA.out.2.2 k hk), fun k hk => ?_, fun k hk => ?_, ((F0.out.then HA.out.2.1).then HB.out.2.1).then a2⟩
    · have := b1 k hf; have := HB.out.2.2 k hg; omega
    · have := b1 k hf; have := a3 k hg; have := HB.out.2.1.size; omega
    · have := b2 k hf; have := a3 k hg; omega
    · have := HB.out.2.2 k hk; have := HA.out.2.1.size; have := F0.out.size; omega
    · have := a3 k hk; have := HB.out.2.1.size; have := HA.out.2.1.size; have := F0.out.size; omega
  clear a1 a2 a3 HA HB F0
  go_wp2_with fail
  refine (pname_any p _ nm0 [] ⟨#[2, 97]⟩ _ h0.out.p (by decide)).mono ?_
  rintro e v1 ⟨rfl, F1, g1, g2, g3⟩
  rw [nmA] at g1 ⊢
  have h1 := Lib.hid (h0.out.stepP g1 g2 g3)
  clear g1 g2 g3 h0
  go_wp2_with fail
  refine (pplain_any p _ nm0 [] ⟨#[1, 97]⟩ _ h1.out.p (by decide)).mono ?_
  rintro e v2 ⟨rfl, F2, g1, g2, g3⟩
  rw [nmB] at g1 ⊢
  have h2 := Lib.hid (h1.out.stepP g1 g2 g3)
  clear g1 g2 g3 h1
  go_wp2_with fail
  refine (pname_any p _ nm1 [] ⟨#[1, 65]⟩ _ h2.out.p (by decide)).mono ?_
  rintro e v3 ⟨rfl, F3, g1, g2, g3⟩
  rw [nmC] at g1 ⊢
  have h3 := Lib.hid (h2.out.stepP g1 g2 g3)
  clear g1 g2 g3 h2
  go_wp2_with fail
  refine (pname_any p _ nm2 [] ⟨#[1, 97]⟩ _ h3.out.p (by decide)).mono ?_
  rintro e v4 ⟨rfl, F4, g1, g2, g3⟩
  rw [nmD] at g1 ⊢
  have h4 := Lib.hid (h3.out.stepP g1 g2 g3)
  clear g1 g2 g3 h3
  go_wp2_with fail
  refine (pname_any p _ nm3 [] ⟨#[]⟩ _ h4.out.p (by decide)).mono ?_
  rintro e v5 ⟨rfl, F5, g1, g2, g3⟩
  rw [nmE] at g1 ⊢
  have h5 := Lib.hid (h4.out.stepP g1 g2 g3)
  clear g1 g2 g3 h4
  go_wp2_with fail
  refine (pbegin_ok p _ nm4 [] _ h5.out.p (by decide) (by decide) (by rw [nmF])).mono ?_
  rintro e v6 ⟨rfl, F6, g1, g2, g3⟩
  rw [nmF] at g1
  replace g1 : PPk v6 p F6 nm5 [10] := g1
  rw [show (nm4.x.b.length : Int) = 10 from rfl]
  have h6 := Lib.hid (h5.out.stepP g1 g2 g3)
  clear g1 g2 g3 h5
  go_wp2_with fail
  refine (pput_any p _ nm5 [10] ⟨#[120, 121, 122]⟩ _ h6.out.p (by decide)).mono ?_
  rintro e v7 ⟨rfl, F7, g1, g2, g3⟩
  rw [nmG] at g1 ⊢
  replace g1 : PPk v7 p F7 nm6 [10] := g1
  have h7 := Lib.hid (h6.out.stepP g1 g2 g3)
  clear g1 g2 g3 h6
  go_wp2_with fail
  refine (pend_state p _ nm6 [10] 11 _ h7.out.p rfl (by decide) (by decide)).mono ?_
  rintro e w' ⟨rfl, rfl⟩
  go_wp2_with fail
  refine (pend_ok p _ nm6 [] 10 _ h7.out.p rfl (by decide) (by decide) (by decide)).mono ?_
  rintro e v8 ⟨rfl, F8, g1, g2, g3⟩
  rw [nmH] at g1 ⊢
  replace g1 : PPk v8 p F8 nm7 [] := g1
  have h8 := Lib.hid (h7.out.stepP g1 g2 g3)
  clear g1 g2 g3 h7
  go_wp2_with fail
  refine (pend_state p _ nm7 [] 10 _ h8.out.p rfl (by decide) (by decide)).mono ?_
  rintro e w' ⟨rfl, rfl⟩
  go_wp2_with fail
  refine (pname_any q _ zm0 [] ⟨#[1, 97, 1, 98]⟩ _ h8.out.q (by decide)).mono ?_
  rintro e v9 ⟨rfl, F9, g1, g2, g3⟩
  rw [zmA] at g1 ⊢
  have h9 := Lib.hid (h8.out.stepQ g1 g2 g3)
  clear g1 g2 g3 h8
  go_wp2_with fail
  refine (pput_any q _ zm1 [] ⟨#[]⟩ _ h9.out.q (by decide)).mono ?_
  rintro e v10 ⟨rfl, F10, g1, g2, g3⟩
  rw [zmB] at g1 ⊢
  replace g1 : PPk v10 q F10 zm1 [] := g1
  have h10 := Lib.hid (h9.out.stepQ g1 g2 g3)
  clear g1 g2 g3 h9
  go_wp2_with fail
  refine (pbegin_err r _ um0 [] _ h10.out.r (by decide) (by rw [umA]; decide)).mono ?_
  rintro e v11 ⟨rfl, F11, g1, g2, g3⟩
  rw [umA]
  have h11 := Lib.hid (h10.out.stepR g1 g2 g3)
  clear g1 g2 g3 h10
  go_wp2_with fail
  refine (ptext_any p _ nm7 [] _ h11.out.p).mono ?_
  rintro e w' ⟨rfl, rfl⟩
  simp only [nm7]
  go_wp2_with fail
  refine (perr_any q _ zm1 [] _ h11.out.q).mono ?_
  rintro e w' ⟨rfl, rfl⟩
  rw [show zm1.x.e = 3 from rfl]
  go_wp2_with fail
  refine (psize_any ⟨#[1, 97]⟩ _).mono ?_
  rintro e w' ⟨rfl, k1, rfl⟩
  rw [if_pos ckA, show (((⟨#[1, 97]⟩ : ByteArray).size : Int) + 1) = 3 from rfl]
  have h12 := Lib.hid (h11.out.drewN k1)
  clear h11
  generalize v11.drewN k1 = V1 at *
  go_wp2_with fail
  refine (psize_any ⟨#[]⟩ _).mono ?_
  rintro e w' ⟨rfl, k2, rfl⟩
  rw [if_pos ckE, show (((⟨#[]⟩ : ByteArray).size : Int) + 1) = 1 from rfl]
  have h13 := Lib.hid (h12.out.drewN k2)
  clear h12
  generalize V1.drewN k2 = V2 at *
  go_wp2_with fail
  refine (psize_any ⟨#[2, 97]⟩ _).mono ?_
  rintro e w' ⟨rfl, k3, rfl⟩
  rw [if_neg (by rw [ckBad]; decide)]
  have h14 := Lib.hid (h13.out.drewN k3)
  clear h13
  generalize V2.drewN k3 = V3 at *
  go_wp2_with fail
  refine (pnumber_any p _ nm7 [] 7 1 _ h14.out.p (by decide) (by decide) (by decide)).mono ?_
  rintro e v15 ⟨rfl, F15, g1, g2, g3⟩
  rw [nmI] at g1 ⊢
  replace g1 : PPk v15 p F15 nm8 [] := g1
  have h15 := Lib.hid (h14.out.stepP g1 g2 g3)
  clear g1 g2 g3 h14
  go_wp2_with fail
  refine (pnumber_any p _ nm8 [] 256 1 _ h15.out.p (by decide) (by decide) (by decide)).mono ?_
  rintro e v16 ⟨rfl, F16, g1, g2, g3⟩
  rw [nmJ] at g1 ⊢
  replace g1 : PPk v16 p F16 nm8 [] := g1
  have h16 := Lib.hid (h15.out.stepP g1 g2 g3)
  clear g1 g2 g3 h15
  go_wp2_with fail
  refine (plen_any p _ nm8 [] _ h16.out.p).mono ?_
  rintro e w' ⟨rfl, rfl⟩
  rw [show (nm8.x.b.length : Int) = 16 from rfl]
  go_wp2_with fail
  go_ret
  exact ⟨rfl, h16.out.fr.below (fun _ h => h.elim) (Nat.le_refl _)⟩
end Go.Proofs.Ytbemackcdccpaaa
