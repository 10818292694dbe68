/-
  THE WALK OF 'OctetsBack' (chapter 3).
-/
import Derived.Test.YtbemackcdccpaaaPatch3
import Derived.Test.YtbemackcdccpaaaWrite3
namespace Go.Proofs.Ytbemackcdccpaaa
open Go.RowKit

/-- What an act has written. -/
def enc (d : Act3) : List UInt8 := if d.kind = 0 then octs d.v.toNat d.n.toNat else d.s.data.toList
def encs (D : List Act3) : List UInt8 := D.flatMap enc
def acell (d : Act3) : List Value := [.int .i64 d.kind, .int .i64 d.n, .int .u32 d.v, .string d.s]
def acells (D : List Act3) : List Value := D.flatMap acell
def Good (d : Act3) : Prop := (d.kind = 0 ∧ fitsB d.v d.n = true ∧ 0 ≤ d.v ∧ d.v < 4294967296) ∨ (d.kind = 1 ∧ d.s.size ≤ 60)

theorem acells_length (D : List Act3) : (acells D).length = D.length * 4 := by
  induction D with
  | nil => rfl
  | cons d D ih => simp only [acells, List.flatMap_cons, List.length_append, List.length_cons] at ih ⊢; rw [ih]; simp [acell]; omega
theorem acells_snoc (D : List Act3) (d : Act3) : acells (D ++ [d]) = acells D ++ acell d := by simp [acells]
theorem encs_snoc (D : List Act3) (d : Act3) : encs (D ++ [d]) = encs D ++ enc d := by simp [encs]
theorem acells_get (D : List Act3) : ∀ (j i : Nat) (d : Act3), D[j]? = some d → i < 4 → (acells D)[j * 4 + i]? = (acell d)[i]? := by
  induction D with
  | nil => intro j i d h; simp at h
  | cons x D ih =>
    intro j i d h hi
    have hx : (acell x).length = 4 := rfl
    have hc : acells (x :: D) = acell x ++ acells D := by simp [acells]
    rw [hc]
    cases j with
    | zero =>
      simp only [List.getElem?_cons_zero, Option.some.injEq] at h
      subst h
      rw [List.getElem?_append_left (by rw [hx]; omega)]
      congr 1
      omega
    | succ j =>
      rw [List.getElem?_append_right (by rw [hx]; omega), hx]
      rw [← ih j i d (by simpa using h) hi]
      congr 1
      omega
theorem acell_one (d : Act3) : ∀ u ∈ acell d, u.oneCell' = true := by
  intro u hu
  simp only [acell, List.mem_cons, List.not_mem_nil, or_false] at hu
  rcases hu with rfl | rfl | rfl | rfl <;> rfl

def BackInv (B p : Nat) (A : Option Addr) (cap : Nat) (D : List Act3) (k : Nat) (w : World) : Prop :=
  ∃ F, Wr w p F ⟨encs D, 60000, 0⟩ ∧ w.ownsRow 0 30 4 (.slice A D.length cap) D.length (acells D) ∧ (∀ i, F i → B ≤ i) ∧ (∀ i, rowOf A i → B ≤ i ∧ ¬ F i) ∧ D.length ≤ k ∧
    (∀ d ∈ D, Good d) ∧ (encs D).length ≤ 60 * k

theorem BackInv.fr {B p cap k k' : Nat} {A : Option Addr} {D : List Act3} {w w' : World} (h : BackInv B p A cap D k w) (f : Fr (fun _ => False) w w') (hk : k ≤ k') : BackInv B p A cap D k' w' := by
  obtain ⟨F, h1, h2, h3, h4, h5, h6, h7⟩ := h
  exact ⟨F, h1.fr f (fun _ _ h => h), own_fr h2 f (fun _ _ h => h), h3, h4, by omega, h6, by omega⟩

/-- The writer has gone on by what an act writes; the row has not turned. -/
theorem BackInv.wrote {B cap : Nat} {A : Option Addr} {D : List Act3} {w w' : World} {F F' : Nat → Prop}
    (h2 : w.ownsRow 0 30 4 (.slice A D.length cap) D.length (acells D)) (h3 : ∀ i, F i → B ≤ i) (h4 : ∀ i, rowOf A i → B ≤ i ∧ ¬ F i) (hBw : B ≤ w.heap.size) (g2 : Fr F w w') (g3 : ∀ i, F' i → F i ∨ w.heap.size ≤ i) :
    w'.ownsRow 0 30 4 (.slice A D.length cap) D.length (acells D) ∧ (∀ i, F' i → B ≤ i) ∧ (∀ i, rowOf A i → B ≤ i ∧ ¬ F' i) ∧ Below B w w' :=
  ⟨own_fr h2 g2 (fun i hi => (h4 i hi).2), fun i hi => (g3 i hi).elim (h3 i) fun h => by omega, fun i hi => ⟨(h4 i hi).1, fun hf => (g3 i hf).elim (h4 i hi).2 fun h => by have := own_lt h2 hi; omega⟩,
    g2.below h3 hBw⟩

theorem BackInv.appended {B p cap' k n : Nat} {A A' : Option Addr} {D : List Act3} {d : Act3} {w w' : World} {F : Nat → Prop} (g1 : Wr w p F ⟨encs D ++ enc d, 60000, 0⟩)
    (h3 : ∀ i, F i → B ≤ i) (h4 : ∀ i, rowOf A i → B ≤ i ∧ ¬ F i) (hBw : B ≤ w.heap.size) (h5 : D.length ≤ k) (h6 : ∀ d ∈ D, Good d)
    (h7 : (encs D).length ≤ 60 * k) (hd : Good d) (hn : n = D.length + 1)
    (q1 : w'.ownsRow 0 30 4 (.slice A' n cap') n (acells D ++ acell d)) (q2 : Fr (rowOf A) w w') (q3 : ∀ i, rowOf A' i → rowOf A i ∨ w.heap.size ≤ i) :
    BackInv B p A' cap' (D ++ [d]) (k + 1) w' ∧ Below B w w' := by
  subst hn
  have hle : (enc d).length ≤ 60 := by
    unfold enc
    rcases hd with ⟨h0, hf, _⟩ | ⟨h1, hs⟩
    · rw [if_pos h0, octs_length]
      simp only [fitsB, decide_eq_true_eq] at hf
      omega
    · rw [if_neg (by omega)]
      simpa using hs
  refine ⟨⟨F, ?_, ?_, h3, fun i hi => (q3 i hi).elim (h4 i) fun h => ⟨by omega, fun hf => by have := g1.lt i hf; omega⟩, by simp; omega, ?_, ?_⟩, q2.below (fun i hi => (h4 i hi).1) hBw⟩
  · rw [encs_snoc]
    exact g1.fr q2 (fun i hi hr => (h4 i hr).2 hi)
  · rw [acells_snoc]
    simpa using q1
  · intro x hx
    rcases List.mem_append.1 hx with h | h
    · exact h6 x h
    · rw [List.mem_singleton.1 h]; exact hd
  · rw [encs_snoc, List.length_append]
    omega

/-- The act's own variable, behind a call that leaves it alone. -/
theorem BackInv.local {w w4 : World} {p : Nat} {F : Nat → Prop} {y : Wst} {cs : Array Value} {T : TypeId} (h : Wr w p F y) (f : Fr F (w.alloc (.cells cs T)) w4) : Blk w4 w.heap.size T cs :=
  (Blk.new w T cs).fr f fun hF => by have := h.lt _ hF; omega
theorem acell_new (w : World) (d : Act3) (T : TypeId) : ∀ j u, (acell d)[j]? = some u → (w.alloc (.cells (acell d).toArray T)).cell? ((⟨w.heap.size, 0, none⟩ : Addr).add j) = some u := by
  intro j u hu
  have ha : (⟨w.heap.size, 0, none⟩ : Addr).add j = ⟨w.heap.size, j, none⟩ := by unfold Addr.add; split <;> simp_all
  rw [ha, (Blk.new w T _).cell]
  simpa using hu

theorem own_cells4 {w : World} {e : TypeId} {A : Option Addr} {n cap : Nat} {xs : List Value} (h : w.ownsRow 0 e 4 (.slice A n cap) n xs) {m : Nat} {u : Value} (hu : xs[m]? = some u) : ∃ g, A = some ⟨g, 0, none⟩ ∧ w.cell? ⟨g, m, none⟩ = some u := by
  rcases h.2 with ⟨h2, h0⟩ | ⟨g, cp, cur, hv, _, hg, h3, h4, h5, h6⟩
  · have hl := h.1
    rw [h0] at hl
    have : xs = [] := List.eq_nil_of_length_eq_zero (by simpa using hl)
    subst this
    simp at hu
  · injection hv with hA _ _
    refine ⟨g, hA, ?_⟩
    have := h.cells (g := g) (by rw [hA]; rfl) m u hu
    rwa [show (⟨g, 0, none⟩ : Addr).add m = ⟨g, m, none⟩ from by unfold Addr.add; split <;> simp_all] at this
theorem encs_split {D : List Act3} {d : Act3} {j : Nat} (h : D[j]? = some d) : encs D = encs (D.take j) ++ (enc d ++ encs (D.drop (j + 1))) := by
  have hj := (List.getElem?_eq_some_iff.1 h).1
  have hd := (List.getElem?_eq_some_iff.1 h).2
  conv => lhs; rw [← List.take_append_drop j D, List.drop_eq_getElem_cons hj, hd]
  simp [encs]
theorem encs_next {D : List Act3} {d : Act3} {j : Nat} (h : D[j]? = some d) : (encs (D.take (j + 1))).length = (encs (D.take j)).length + (enc d).length := by
  have hj := (List.getElem?_eq_some_iff.1 h).1
  have hd := (List.getElem?_eq_some_iff.1 h).2
  rw [List.take_succ_eq_append_getElem hj, hd, encs_snoc, List.length_append]
theorem take_mid (P X R : List UInt8) (n : Int) (hn : n = X.length) : (Rst.mk ⟨(P ++ (X ++ R)).toArray⟩ P.length).take n = (⟨⟨(P ++ (X ++ R)).toArray⟩, P.length + X.length⟩, ⟨X.toArray⟩, 0) := by
  subst hn
  have hz : (⟨(P ++ (X ++ R)).toArray⟩ : ByteArray).size = P.length + (X.length + R.length) := by show (List.toArray _).size = _; simp
  unfold Rst.take
  rw [if_neg (by omega), if_neg (by dsimp only; rw [hz]; omega)]
  simp only [Int.toNat_natCast]
  rw [str_sub]
  congr 3
  rw [List.drop_left, Nat.add_sub_cancel_left, List.take_left]
theorem read_take {D : List Act3} {d : Act3} {P R : List UInt8} (h : encs D = P ++ (enc d ++ R)) (he : enc d = d.s.data.toList) :
    (Rst.mk ⟨(encs D).toArray⟩ P.length).take d.s.size = (⟨⟨(encs D).toArray⟩, P.length + (enc d).length⟩, d.s, 0) := by
  have hn : (d.s.size : Int) = (enc d).length := by rw [he]; simp
  rw [h, take_mid P (enc d) R _ hn]
  congr 2
  rw [he]
theorem read_number {D : List Act3} {d : Act3} {P R : List UInt8} (h : encs D = P ++ (enc d ++ R)) (he : enc d = octs d.v.toNat d.n.toNat) (hf : fitsB d.v d.n = true) (hv : 0 ≤ d.v) :
    (Rst.mk ⟨(encs D).toArray⟩ P.length).number d.n = (⟨⟨(encs D).toArray⟩, P.length + (enc d).length⟩, d.v, 0) := by
  simp only [fitsB, decide_eq_true_eq] at hf
  have hn : d.n = (enc d).length := by rw [he, octs_length]; omega
  have ht := take_mid P (enc d) R d.n hn
  rw [← h] at ht
  unfold Rst.number
  rw [if_neg (by omega), ht]
  have hv2 : numOf (⟨(enc d).toArray⟩ : ByteArray).data.toList = d.v.toNat := by
    show numOf (enc d) = _
    rw [he]
    have hlt : d.v.toNat < 256 ^ d.n.toNat := by
      have h3 := hf.2.2
      have : ((d.v.toNat : Nat) : Int) < ((256 ^ d.n.toNat : Nat) : Int) := by
        rw [Int.toNat_of_nonneg hv]
        simpa using h3
      omega
    have := numOf_octs d.v.toNat d.n.toNat hlt 0
    simpa [numOf] using this
  dsimp only
  rw [hv2, Int.toNat_of_nonneg hv]

theorem number_back {b : List UInt8} {v n : Int} (hb : b.length ≤ 59000) (hf : fitsB v n = true) : (Wst.mk b 60000 0).number v n = (⟨b ++ octs v.toNat n.toNat, 60000, 0⟩, 0) := by
  have hn : n.toNat ≤ 4 := by simp only [fitsB, decide_eq_true_eq] at hf; omega
  unfold Wst.number
  rw [if_neg (by simp), if_pos hf]
  unfold Wst.put
  rw [if_neg (by simp), if_neg (by dsimp only; rw [octs_length]; omega)]
theorem number_back_no {b : List UInt8} {v n : Int} (hf : fitsB v n = false) : (Wst.mk b 60000 0).number v n = (⟨b, 60000, 0⟩, 2) := by
  unfold Wst.number
  rw [if_neg (by simp), if_neg (by simp [hf])]
theorem put_back {b : List UInt8} {s : ByteArray} (hb : b.length ≤ 59000) (hs : s.size ≤ 60) : (Wst.mk b 60000 0).put s.data.toList = (⟨b ++ s.data.toList, 60000, 0⟩, 0) := by
  have hl : s.data.toList.length = s.size := by simp
  unfold Wst.put
  rw [if_neg (by simp), if_neg (by dsimp only; rw [hl]; omega)]

theorem Try.info30 : (Try.prog.info? 30).map (fun i => (i.zero, i.size, i.bytes)) = some (some (.agg #[.int .i64 0, .int .i64 0, .int .u32 0, .string ⟨#[]⟩]), 4, 40) := by kernel_rfl

set_option maxRecDepth 100000 in
set_option maxHeartbeats 4000000 in
theorem octetsBack_in (A : Option Addr) (cap : Nat) (l : List Act3) (w : World) (hA : Acts w A l) (hl : ∀ x ∈ l, ActOk x) (hn : l.length ≤ 200) :
    Calls Try.prog 8 #[.slice A l.length cap] w fun e w' => e = .returned (.bool true) ∧ Below w.heap.size w w' := by
  obtain ⟨i0, hi, hz0, hz1, hz2⟩ := info_parts Try.info30
  have HA := Lib.hid hA
  have HL := Lib.hid hl
  clear hA hl
  go_enter Try.func8, Try.ntmps8
  go_wp2_with fail
  refine (lives3_any _).mono ?_
  rintro e w1 ⟨rfl, hb1⟩
  have HB1 := Lib.hid hb1
  clear hb1
  go_wp2_with fail
  refine (newWriter_c 60000 (by decide) _).mono ?_
  rintro e w2 ⟨p, F, rfl, h2, f2, b2⟩
  have H2 : Hid (BackInv w.heap.size p none 0 [] 0 w2 ∧ Below w.heap.size w w2) :=
    ⟨⟨F, h2, own_nil _ _ _, fun k hk => Nat.le_trans HB1.out.size (b2 k hk), fun i hi => absurd hi (rowOf_none i), Nat.zero_le _, fun d hd => by simp at hd, by simp [encs]⟩, HB1.out.trans (f2.below (fun _ h => h.elim) HB1.out.size)⟩
  clear h2 f2 b2
  go_wp2_with fail
  go_loopg [4, 5] l.length (fun g dv i wr => ∃ k A' cap' D, g = l.length - k ∧ k ≤ l.length ∧ i = .int .i64 (k : Nat) ∧ dv = .slice A' (List.length D) cap' ∧ BackInv w.heap.size p A' cap' D k wr ∧ Below w.heap.size w wr)
  case atStart => exact ⟨0, none, 0, [], rfl, Nat.zero_le _, rfl, rfl, H2.out⟩
  case round =>
    obtain ⟨k, A', cap', D, hg, hk, rfl, rfl, hinv, hbel⟩ := hrel
    have HBE := Lib.hid hbel
    have HG := Lib.hid hg
    have HI := Lib.hid hinv
    clear hbel hg H2 hinv
    by_cases hlt : k < l.length
    · obtain ⟨x, hx⟩ : ∃ x, l[k]? = some x := ⟨l[k], List.getElem?_eq_getElem hlt⟩
      obtain ⟨b, off, rfl, hbs, hc⟩ := HA.out (by omega)
      have hcx := hc k x hx
      have d0 : wr.cell? ⟨b, off + k * 4, none⟩ = some (.int .i64 x.kind) := (HBE.out.cell (p := ⟨b, _, none⟩) hbs).trans hcx.1
      have d1 : wr.cell? ⟨b, off + k * 4 + 1, none⟩ = some (.int .i64 x.n) := (HBE.out.cell (p := ⟨b, _, none⟩) hbs).trans hcx.2.1
      have d2 : wr.cell? ⟨b, off + k * 4 + 2, none⟩ = some (.int .u32 x.v) := (HBE.out.cell (p := ⟨b, _, none⟩) hbs).trans hcx.2.2.1
      have d3 : wr.cell? ⟨b, off + k * 4 + 3, none⟩ = some (.string x.s) := (HBE.out.cell (p := ⟨b, _, none⟩) hbs).trans hcx.2.2.2
      obtain ⟨o1, o2, o3, o4, o5, o6⟩ := HL.out x (List.mem_of_getElem? hx)
      have HX := Lib.hid (And.intro hx hc)
      clear hx hc hcx
      by_cases hs : x.s.size ≤ 60
      · go_wp2_with fail
        refine (pick_any x.kind 2 _ (by decide) (by decide)).mono ?_
        rintro e w' ⟨rfl, rfl⟩
        obtain ⟨c0, c1⟩ := pick_range x.kind 2 (by decide)
        generalize pick x.kind 2 = c at *
        have HX2 : Hid (BackInv w.heap.size p A' cap' D k wr) := HI.out
        obtain ⟨F, hW, hO, hFB, hAB, hD, hGD, hE⟩ := HI.out
        have HW := Lib.hid hW
        have HO := Lib.hid hO
        have HFB := Lib.hid hFB
        have HAB := Lib.hid hAB
        have HGD := Lib.hid hGD
        clear hW hO hFB hAB hGD HI
        rcases (show c = 0 ∨ c = 1 by omega) with rfl | rfl
        · by_cases hf : fitsB x.v x.n = true
          · have HF := Lib.hid hf
            clear hf
            have hgd : Good ⟨0, x.n, x.v, x.s⟩ := .inl ⟨rfl, HF.out, o5, o6⟩
            go_wp2_with fail
            refine (number_any p F _ x.v x.n _ (HW.out.fr (S := fun _ => False) ((Fr.refl _ _).alloc _) (fun _ _ h => h)) o5 o6 (by dsimp only; omega)).mono ?_
            rintro e w4 ⟨rfl, F', h4, f4, s4⟩
            have e4 : (Wst.mk (encs D) 60000 0).number x.v x.n = (⟨encs D ++ enc ⟨0, x.n, x.v, x.s⟩, 60000, 0⟩, 0) := number_back (by omega) HF.out
            rw [e4] at h4
            simp only [e4]
            have f4' : Fr F wr w4 := (((Fr.refl (fun _ => False) wr).alloc _).mono (fun _ _ h => h.elim)).then f4
            have s4' : ∀ i, F' i → F i ∨ wr.heap.size ≤ i := fun i hi => (s4 i hi).imp id fun h => by rw [World.size_alloc] at h; omega
            have bl := BackInv.local HW.out f4
            have l0 : w4.cell? ⟨wr.heap.size, 0, none⟩ = some (.int .i64 0) := bl.cell 0
            have l1 : w4.cell? ⟨wr.heap.size, 1, none⟩ = some (.int .i64 x.n) := bl.cell 1
            have l2 : w4.cell? ⟨wr.heap.size, 2, none⟩ = some (.int .u32 x.v) := bl.cell 2
            have l3 : w4.cell? ⟨wr.heap.size, 3, none⟩ = some (.string x.s) := bl.cell 3
            obtain ⟨m1, m2, m3, m4⟩ := BackInv.wrote HO.out HFB.out HAB.out HBE.out.size f4' s4'
            have H4 := Lib.hid (And.intro h4 (And.intro m1 (And.intro m2 (And.intro m3 m4))))
            have z4 : w.heap.size ≤ w4.heap.size := Nat.le_trans HBE.out.size f4'.size
            clear h4 f4 s4 e4 f4' s4' bl m1 m2 m3 m4
            go_wp2_with (first
              | (at_builtin; refine wpList_append_src rfl (.tmp 64) (.tmp 66) _ _ rfl 30 i0 _ 4 40 Try.underlying22 hi hz0 hz1 hz2 rfl (by decide) A' D.length cap' (acells D) (by rfl) (H4.out.2.1.alloc _) _ 1 (acell ⟨0, x.n, x.v, x.s⟩) (by rfl) (Src.ofSlice _ Try.underlying22 ⟨w4.heap.size, 0, none⟩ 1 1 (acell ⟨0, x.n, x.v, x.s⟩) rfl (acell_new _ _ _) (acell_one _)) (by simp only [maxLen]; omega) (by omega) ?_
                 intro A2 cap2 w5 q1 q2 q3))
            have HN : Hid (BackInv w.heap.size p A2 cap2 (D ++ [⟨0, x.n, x.v, x.s⟩]) (k + 1) w5 ∧ Below w.heap.size w4 w5) := by
              have hw4 := H4.out.1.fr ((Fr.refl (fun _ => False) _).alloc (.cells (acell ⟨0, x.n, x.v, x.s⟩).toArray 30)) (fun _ _ h => h)
              obtain ⟨r1, r2⟩ := BackInv.appended hw4 H4.out.2.2.1 H4.out.2.2.2.1 (by rw [World.size_alloc]; omega) hD HGD.out hE hgd rfl q1 q2 q3
              exact ⟨r1, ((Below.refl _ _).alloc z4 _).trans r2⟩
            clear q1 q2 q3
            go_wp2_with fail
            go_roundg (l.length - (k + 1))
            case measure => rw [HG.out]; omega
            case rel => exact ⟨k + 1, A2, cap2, D ++ [⟨0, x.n, x.v, x.s⟩], rfl, by omega, by go_num, by simp, HN.out.1, (HBE.out.trans H4.out.2.2.2.2).trans HN.out.2⟩
          · have hf' : fitsB x.v x.n = false := by simpa using hf
            have HF := Lib.hid hf'
            clear hf hf'
            go_wp2_with fail
            refine (number_any p F _ x.v x.n _ (HW.out.fr (S := fun _ => False) ((Fr.refl _ _).alloc _) (fun _ _ h => h)) o5 o6 (by dsimp only; omega)).mono ?_
            rintro e w4 ⟨rfl, F', h4, f4, s4⟩
            have e4 := number_back_no (b := encs D) (v := x.v) (n := x.n) HF.out
            rw [e4] at h4
            simp only [e4]
            have f4' : Fr F wr w4 := (((Fr.refl (fun _ => False) wr).alloc _).mono (fun _ _ h => h.elim)).then f4
            have s4' : ∀ i, F' i → F i ∨ wr.heap.size ≤ i := fun i hi => (s4 i hi).imp id fun h => by rw [World.size_alloc] at h; omega
            have bl := BackInv.local HW.out f4
            have l0 : w4.cell? ⟨wr.heap.size, 0, none⟩ = some (.int .i64 0) := bl.cell 0
            obtain ⟨m1, m2, m3, m4⟩ := BackInv.wrote HO.out HFB.out HAB.out HBE.out.size f4' s4'
            have HN : Hid (BackInv w.heap.size p A' cap' D (k + 1) w4 ∧ Below w.heap.size wr w4) := ⟨⟨F', h4, m1, m2, m3, by omega, HGD.out, by omega⟩, m4⟩
            clear h4 f4 s4 e4 f4' s4' bl m1 m2 m3 m4
            go_wp2_with fail
            go_roundg (l.length - (k + 1))
            case measure => rw [HG.out]; omega
            case rel => exact ⟨k + 1, A', cap', D, rfl, by omega, by go_num, rfl, HN.out.1, HBE.out.trans HN.out.2⟩
        · have hgd : Good ⟨1, x.n, x.v, x.s⟩ := .inr ⟨rfl, hs⟩
          go_wp2_with fail
          refine (put_any p F _ x.s _ (HW.out.fr (S := fun _ => False) ((Fr.refl _ _).alloc _) (fun _ _ h => h)) (by dsimp only; omega)).mono ?_
          rintro e w4 ⟨rfl, F', h4, f4, s4⟩
          have e4 : (Wst.mk (encs D) 60000 0).put x.s.data.toList = (⟨encs D ++ enc ⟨1, x.n, x.v, x.s⟩, 60000, 0⟩, 0) := put_back (by omega) hs
          rw [e4] at h4
          simp only [e4]
          have f4' : Fr F wr w4 := (((Fr.refl (fun _ => False) wr).alloc _).mono (fun _ _ h => h.elim)).then f4
          have s4' : ∀ i, F' i → F i ∨ wr.heap.size ≤ i := fun i hi => (s4 i hi).imp id fun h => by rw [World.size_alloc] at h; omega
          have bl := BackInv.local HW.out f4
          have l0 : w4.cell? ⟨wr.heap.size, 0, none⟩ = some (.int .i64 1) := bl.cell 0
          have l1 : w4.cell? ⟨wr.heap.size, 1, none⟩ = some (.int .i64 x.n) := bl.cell 1
          have l2 : w4.cell? ⟨wr.heap.size, 2, none⟩ = some (.int .u32 x.v) := bl.cell 2
          have l3 : w4.cell? ⟨wr.heap.size, 3, none⟩ = some (.string x.s) := bl.cell 3
          obtain ⟨m1, m2, m3, m4⟩ := BackInv.wrote HO.out HFB.out HAB.out HBE.out.size f4' s4'
          have H4 := Lib.hid (And.intro h4 (And.intro m1 (And.intro m2 (And.intro m3 m4))))
          have z4 : w.heap.size ≤ w4.heap.size := Nat.le_trans HBE.out.size f4'.size
          clear h4 f4 s4 e4 f4' s4' bl m1 m2 m3 m4
          go_wp2_with (first
            | (at_builtin; refine wpList_append_src rfl (.tmp 64) (.tmp 66) _ _ rfl 30 i0 _ 4 40 Try.underlying22 hi hz0 hz1 hz2 rfl (by decide) A' D.length cap' (acells D) (by rfl) (H4.out.2.1.alloc _) _ 1 (acell ⟨1, x.n, x.v, x.s⟩) (by rfl) (Src.ofSlice _ Try.underlying22 ⟨w4.heap.size, 0, none⟩ 1 1 (acell ⟨1, x.n, x.v, x.s⟩) rfl (acell_new _ _ _) (acell_one _)) (by simp only [maxLen]; omega) (by omega) ?_
               intro A2 cap2 w5 q1 q2 q3))
          have HN : Hid (BackInv w.heap.size p A2 cap2 (D ++ [⟨1, x.n, x.v, x.s⟩]) (k + 1) w5 ∧ Below w.heap.size w4 w5) := by
            have hw4 := H4.out.1.fr ((Fr.refl (fun _ => False) _).alloc (.cells (acell ⟨1, x.n, x.v, x.s⟩).toArray 30)) (fun _ _ h => h)
            obtain ⟨r1, r2⟩ := BackInv.appended hw4 H4.out.2.2.1 H4.out.2.2.2.1 (by rw [World.size_alloc]; omega) hD HGD.out hE hgd rfl q1 q2 q3
            exact ⟨r1, ((Below.refl _ _).alloc z4 _).trans r2⟩
          clear q1 q2 q3
          go_wp2_with fail
          go_roundg (l.length - (k + 1))
          case measure => rw [HG.out]; omega
          case rel => exact ⟨k + 1, A2, cap2, D ++ [⟨1, x.n, x.v, x.s⟩], rfl, by omega, by go_num, by simp, HN.out.1, (HBE.out.trans H4.out.2.2.2.2).trans HN.out.2⟩
      · go_wp2_with fail
        go_ret
        exact ⟨rfl, HBE.out⟩
    · obtain ⟨F, hW, hO, hFB, hAB, hD, hGD, hE⟩ := HI.out
      have HW := Lib.hid hW
      have HO := Lib.hid hO
      have HFB := Lib.hid hFB
      have HAB := Lib.hid hAB
      have HGD := Lib.hid hGD
      clear hW hO hFB hAB hGD HI HA
      go_wp2_with fail
      refine (text_any p F _ _ HW.out).mono ?_
      rintro e w' ⟨rfl, rfl⟩
      have hT : (⟨(encs D).toArray⟩ : ByteArray).size ≤ 12000 := by
        show (encs D).toArray.size ≤ _
        rw [List.size_toArray]; omega
      go_wp2_with fail
      refine (newReader_c _ (by omega) _).mono ?_
      rintro e w5 ⟨q, rfl, h5, f5, b5⟩
      have H5 : Hid (Rd w5 q ⟨⟨(encs D).toArray⟩, 0⟩ ∧ Wr w5 p F ⟨encs D, 60000, 0⟩ ∧ w5.ownsRow 0 30 4 (.slice A' D.length cap') D.length (acells D) ∧ ¬ F q ∧ (∀ i, rowOf A' i → i ≠ q) ∧ w.heap.size ≤ q ∧ Below w.heap.size w w5) :=
        ⟨h5, HW.out.fr f5 (fun _ _ h => h), own_fr HO.out f5 (fun _ _ h => h), fun hF => by have := HW.out.lt q hF; omega, fun i hi e => by have := own_lt HO.out hi; omega, Nat.le_trans HBE.out.size b5,
          HBE.out.trans (f5.below (fun _ h => h.elim) HBE.out.size)⟩
      clear h5 f5 b5 HW HO HFB HAB
      have HT := Lib.hid hT
      clear hT
      have hDl : D.length ≤ 200 := by omega
      go_wp2_with fail
      go_loopg [8] D.length (fun g i wq => ∃ j : Nat, g = D.length - j ∧ j ≤ D.length ∧ i = .int .i64 j ∧ Rd wq q ⟨⟨(encs D).toArray⟩, (encs (D.take j)).length⟩ ∧ Fr (· = q) w5 wq)
      case atStart => exact ⟨0, rfl, Nat.zero_le _, rfl, H5.out.1, Fr.refl _ _⟩
      case round =>
        obtain ⟨j, hj, hjk, rfl, hrd, hfr⟩ := hrel
        have HJ := Lib.hid hj
        have HR := Lib.hid hrd
        have HFR := Lib.hid hfr
        clear hj hrd hfr
        have HBQ : Hid (Below w.heap.size w wr) := H5.out.2.2.2.2.2.2.trans (HFR.out.below (fun i hi => by have := H5.out.2.2.2.2.2.1; omega) H5.out.2.2.2.2.2.2.size)
        by_cases hlt2 : j < D.length
        · obtain ⟨d, hd⟩ : ∃ d, D[j]? = some d := ⟨D[j], List.getElem?_eq_getElem hlt2⟩
          obtain ⟨g, hgA, hgc⟩ := own_cells4 H5.out.2.2.1 (acells_get D j 0 d hd (by decide))
          subst hgA
          have hgq : g ≠ q := H5.out.2.2.2.2.1 g ⟨_, rfl, rfl⟩
          have hgl : g < w5.heap.size := own_lt H5.out.2.2.1 ⟨_, rfl, rfl⟩
          have cc : ∀ i u, i < 4 → (acell d)[i]? = some u → ∀ w', Fr (· = q) w5 w' → w'.cell? ⟨g, j * 4 + i, none⟩ = some u := by
            intro i u hi hu w' hf
            obtain ⟨g', hg', hc⟩ := own_cells4 H5.out.2.2.1 ((acells_get D j i d hd hi).trans hu)
            injection hg' with hg'
            injection hg' with hg' _ _
            subst hg'
            exact (hf.cell (p := ⟨g, _, none⟩) hgl hgq).trans hc
          have HC := Lib.hid cc
          have l0 : wr.cell? ⟨g, j * 4, none⟩ = some (.int .i64 d.kind) := HC.out 0 _ (by decide) rfl wr HFR.out
          have l1 : wr.cell? ⟨g, j * 4 + 1, none⟩ = some (.int .i64 d.n) := HC.out 1 _ (by decide) rfl wr HFR.out
          have l2 : wr.cell? ⟨g, j * 4 + 2, none⟩ = some (.int .u32 d.v) := HC.out 2 _ (by decide) rfl wr HFR.out
          have l3 : wr.cell? ⟨g, j * 4 + 3, none⟩ = some (.string d.s) := HC.out 3 _ (by decide) rfl wr HFR.out
          have hsp : encs D = encs (D.take j) ++ (enc d ++ encs (D.drop (j + 1))) := encs_split hd
          have hnx : (encs (D.take (j + 1))).length = (encs (D.take j)).length + (enc d).length := encs_next hd
          have HSP := Lib.hid hsp
          have HNX := Lib.hid hnx
          have HD := Lib.hid hd
          clear cc hgc hsp hnx hd
          rcases HGD.out d (List.mem_of_getElem? HD.out) with ⟨hk0, hf, hv0, hv1⟩ | ⟨hk1, hds⟩
          · have HF := Lib.hid hf
            have henc : Hid (enc d = octs d.v.toNat d.n.toNat) := by show _ = _; unfold enc; rw [if_pos hk0]
            clear hf
            rw [hk0] at l0
            clear hk0
            go_wp2_with fail
            refine (rdnumber_any q _ d.n _ HR.out).mono ?_
            rintro e w6 ⟨rfl, h6, f6⟩
            have e6 := read_number (D := D) (d := d) (P := encs (D.take j)) (R := encs (D.drop (j + 1))) HSP.out henc.out HF.out hv0
            rw [e6, ← HNX.out] at h6
            simp only [e6]
            have f6' := HFR.out.then f6
            have n2 : w6.cell? ⟨g, j * 4 + 2, none⟩ = some (.int .u32 d.v) := HC.out 2 _ (by decide) rfl w6 f6'
            have H6 := Lib.hid (And.intro h6 f6')
            clear h6 f6 f6' e6
            go_wp2_with fail
            go_roundg (D.length - (j + 1))
            case measure => rw [HJ.out]; omega
            case rel => exact ⟨j + 1, rfl, by omega, by go_num, H6.out⟩
          · have henc : Hid (enc d = d.s.data.toList) := by show _ = _; unfold enc; rw [if_neg (by omega)]
            rw [hk1] at l0
            clear hk1
            go_wp2_with fail
            refine (take_any q _ d.s.size _ HR.out).mono ?_
            rintro e w6 ⟨rfl, h6, f6⟩
            have e6 := read_take (D := D) (d := d) (P := encs (D.take j)) (R := encs (D.drop (j + 1))) HSP.out henc.out
            rw [e6, ← HNX.out] at h6
            simp only [e6]
            have f6' := HFR.out.then f6
            have n3 : w6.cell? ⟨g, j * 4 + 3, none⟩ = some (.string d.s) := HC.out 3 _ (by decide) rfl w6 f6'
            have H6 := Lib.hid (And.intro h6 f6')
            clear h6 f6 f6' e6
            go_wp2_with fail
            go_roundg (D.length - (j + 1))
            case measure => rw [HJ.out]; omega
            case rel => exact ⟨j + 1, rfl, by omega, by go_num, H6.out⟩
        · have hjD : j = D.length := by omega
          subst hjD
          have hR2 := HR.out
          rw [List.take_length] at hR2
          have HR2 := Lib.hid hR2
          have HWr : Hid (Wr wr p F ⟨encs D, 60000, 0⟩) := H5.out.2.1.fr HFR.out (fun i hi e => H5.out.2.2.2.1 (e ▸ hi))
          clear hR2 HR
          have hsz : (⟨(encs D).toArray⟩ : ByteArray).size = (encs D).length := by show (encs D).toArray.size = _; rw [List.size_toArray]
          go_wp2_with fail
          refine (left_any q _ _ HR2.out).mono ?_
          rintro e w' ⟨rfl, nq, rfl⟩
          dsimp only
          rw [hsz]
          clear hsz
          go_wp2_with fail
          refine (at_any q ⟨⟨(encs D).toArray⟩, (encs D).length⟩ _ ?_).mono ?_
          · exact HR2.out.fr ((Fr.refl (fun _ => False) _).drewN _) id
          rintro e w' ⟨rfl, rfl⟩
          go_wp2_with fail
          refine (len_any p F ⟨encs D, 60000, 0⟩ _ ?_).mono ?_
          · exact HWr.out.fr ((Fr.refl (fun _ => False) _).drewN _) (fun _ _ h => h)
          rintro e w' ⟨rfl, rfl⟩
          go_wp2_with fail
          refine (err_any p F ⟨encs D, 60000, 0⟩ _ ?_).mono ?_
          · exact HWr.out.fr ((Fr.refl (fun _ => False) _).drewN _) (fun _ _ h => h)
          rintro e w' ⟨rfl, rfl⟩
          go_wp2_with fail
          go_ret
          exact ⟨rfl, HBQ.out.drewN' _⟩

set_option maxRecDepth 100000 in
set_option maxHeartbeats 1000000 in
theorem octetsBack_walk (A : Option Addr) (cap : Nat) (l : List Act3) (w : World) (b0 : Acts w A l ∧ (∀ x ∈ l, ActOk x) ∧ l.length ≤ maxLen) :
    Calls Try.prog 8 #[.slice A l.length cap] w fun e w' => e = .returned (.bool true) ∧ Below w.heap.size w w' := by
  obtain ⟨hA, hl, hm⟩ := b0
  unfold maxLen at hm
  by_cases hn : l.length ≤ 200
  · exact octetsBack_in A cap l w hA hl hn
  · clear hA hl
    go_enter Try.func8, Try.ntmps8
    go_wp2_with fail
    refine (lives3_any _).mono ?_
    rintro e w1 ⟨rfl, hb1⟩
    go_wp2_with fail
    go_ret
    exact ⟨rfl, hb1⟩
end Go.Proofs.Ytbemackcdccpaaa
