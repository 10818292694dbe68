/-
  LAYER 8: UnpackBack.
-/
import Derived.Test.YtbemackcdccpaaaRpk
import Derived.Test.YtbemackcdccpaaaUnpl
import Derived.Test.YtbemackcdccpaaaOpens
namespace Go.Proofs.Ytbemackcdccpaaa
open Go.RowKit

/-- Where there is room a name is put whole. -/
theorem Pk.rest_room (y : Pk) (n : List UInt8) (he : y.x.e = 0) (hc : ckAt n 0 = 0) (hg : ∀ m a, y.get m = some a → a < 16384) (hr : (y.x.b.length : Int) + n.length + 2 ≤ y.x.most) :
    y.rest n = (⟨{ y.x with b := (Rp.rest ⟨y.x.b, y.get⟩ n).S }, (Rp.rest ⟨y.x.b, y.get⟩ n).get⟩, 0) := by
  generalize hk : n.length = k
  induction k using Nat.strongRecOn generalizing y n with
  | _ k ih =>
    subst hk
    by_cases hn : n = []
    · subst hn
      rw [Pk.rest_nil, Go.Proofs.Ytbemackcdccpaaa.rest_nil, Wst.put_ok he (by simp at hr ⊢; omega)]
    · cases hgn : y.get n with
      | some a =>
        have ha := hg _ _ hgn
        rw [Pk.rest_some hn hgn, Go.Proofs.Ytbemackcdccpaaa.rest_some (x := ⟨y.x.b, y.get⟩) hn hgn]
        have hf : fitsB (49152 + (a : Int)) 2 = true := by
          simp only [fitsB, decide_eq_true_eq]
          refine ⟨by omega, by omega, ?_⟩
          show (49152 : Int) + a < 256 ^ 2
          omega
        have hnm : y.x.number (49152 + (a : Int)) 2 = ({ y.x with b := y.x.b ++ ptr a }, 0) := by
          unfold Wst.number
          rw [if_neg (by simp [he]), if_pos hf]
          rw [show ((49152 : Int) + a).toNat = 49152 + a by omega, show (2 : Int).toNat = 2 from rfl, ptr_octs a ha]
          exact Wst.put_ok he (by simp [ptr]; omega)
        rw [hnm]
      | none =>
        obtain ⟨c1, c2, c3, c4⟩ := ckAt_first hn hc
        have hlen : (n.take (1 + oc n 0)).length = 1 + oc n 0 := by rw [List.length_take]; omega
        have hdl : (n.drop (1 + oc n 0)).length = n.length - (1 + oc n 0) := List.length_drop
        have hpo := Wst.put_ok (x := y.x) (l := n.take (1 + oc n 0)) he (by rw [hlen]; omega)
        rw [Pk.rest_go hn hgn (by rw [hpo]), Go.Proofs.Ytbemackcdccpaaa.rest_none (x := ⟨y.x.b, y.get⟩) hn hgn, hpo]
        exact ih (n.drop (1 + oc n 0)).length (by omega) ⟨{ y.x with b := y.x.b ++ n.take (1 + oc n 0) }, updAt y.get n y.x.b.length⟩ (n.drop (1 + oc n 0)) he c4
          (fun m a h => by
            rcases updAt_some h with h | ⟨_, h, h'⟩
            · exact hg m a h
            · omega) (by dsimp only; rw [List.length_append, hlen, hdl]; omega) rfl

/-- What holds of the packer while names are put one behind the other. -/
structure UBp (y : Pk) (D : List ByteArray) (k : Nat) : Prop where
  e : y.x.e = 0
  most : y.x.most = 65535
  good : (Rp.mk y.x.b y.get).good
  chain : Chain y.x.b 0 (D.map fun d => d.data.toList) y.x.b.length
  len : y.x.b.length ≤ 256 * k
  cnt : D.length ≤ k

theorem UBp.put {y : Pk} {D : List ByteArray} {k : Nat} (h : UBp y D k) (n : ByteArray) (hn : ckN n = 0) (hk : k < 60) : (y.name n).2 = 0 ∧ UBp (y.name n).1 (D ++ [n]) (k + 1) := by
  obtain ⟨h1, h2⟩ := ckN_ok hn
  have hr : y.name n = y.rest n.data.toList := by unfold Pk.name; rw [if_neg (by simp [h.e]), if_neg (by simp [hn])]
  have hrm := Pk.rest_room y n.data.toList h.e h2 (fun m a hm => (h.good m a hm).2.1) (by rw [h.most, size_l]; have := h.len; omega)
  rw [hr, hrm]
  obtain ⟨g1, g2, g3⟩ := rest_chain h.good h.chain h2 (by rw [size_l]; exact h1)
  refine ⟨rfl, h.e, h.most, g1, ?_, ?_, ?_⟩
  · rw [List.map_append]
    exact g2
  · have := h.len
    dsimp only at g3 ⊢
    omega
  · rw [List.length_append, List.length_singleton]
    have := h.cnt
    omega
theorem UBp.no {y : Pk} {D : List ByteArray} {k : Nat} (h : UBp y D k) (n : ByteArray) (hn : ckN n ≠ 0) : y.name n = (y, ckN n) ∧ UBp y D (k + 1) := by
  refine ⟨by unfold Pk.name; rw [if_neg (by simp [h.e]), if_pos hn], h.e, h.most, h.good, h.chain, ?_, ?_⟩
  · have := h.len; omega
  · have := h.cnt; omega
theorem UBp.skip {y : Pk} {D : List ByteArray} {k : Nat} (h : UBp y D k) : UBp y D (k + 1) := by
  refine ⟨h.e, h.most, h.good, h.chain, ?_, ?_⟩
  · have := h.len; omega
  · have := h.cnt; omega
theorem UBp.start : UBp ⟨⟨[], 65535, 0⟩, fun _ => none⟩ [] 0 := ⟨rfl, rfl, (fun m a h => by cases h), rfl, Nat.le_refl _, Nat.le_refl _⟩

theorem Chain.le {S : List UInt8} : ∀ {l : List (List UInt8)} {p : Nat}, Chain S p l S.length → p ≤ S.length
  | [], p, h => by
    have h : p = S.length := h
    omega
  | _ :: _, _, ⟨_, _, _, _, _, _, h, _⟩ => h

def RPkNew (w : World) (m : Int) (e : Ending) (w' : World) : Prop :=
  ∃ q F, e = .returned (.pointer (some ⟨q, 0, none⟩)) ∧ RPk w' q F ⟨[], max 0 (min m 65535), 0⟩ [] [] ∧ Fr (fun _ => False) w w' ∧ ∀ k, F k → w.heap.size ≤ k
set_option maxRecDepth 100000 in
set_option maxHeartbeats 1000000 in
theorem rpknew_any (w : World) : Calls Try.prog 46 #[.int .i64 65535] w (RPkNew w 65535) := by
  go_enter Try.func46, Try.ntmps46
  go_wp2_with fail
  refine (rnew_c 65535 (by decide) _).mono ?_
  rintro e w1 ⟨p, rfl, h1, h2, h3⟩
  have HN := Lib.hid (And.intro h1 (And.intro h2 h3))
  clear h1 h2 h3
  go_wp2_with fail
  go_ret
  refine ⟨w1.heap.size, fun k => k = w1.heap.size ∨ k = p, rfl, ⟨p, none, 0, none, 0, Blk.new _ _ _, HN.out.1.fr (S := fun _ => False) ((Fr.refl _ _).alloc _) id, own_nil _ _ _, own_nil _ _ _, .inl rfl, .inr rfl, fun k hk => absurd hk (rowOf_none k), fun k hk => absurd hk (rowOf_none k), ?_, Nat.le_refl _⟩, HN.out.2.1.alloc _, ?_⟩
  · rintro k (rfl | rfl)
    · simp
    · have := HN.out.1.1.lt
      simp; omega
  · rintro k (rfl | rfl)
    · exact HN.out.2.1.size
    · exact HN.out.2.2

theorem str_new (w : World) (s : ByteArray) (T : TypeId) : ∀ j u, ([Value.string s] : List Value)[j]? = some u → (w.alloc (.cells #[.string s] T)).cell? ((⟨w.heap.size, 0, none⟩ : Addr).add j) = some u := by
  intro j u hu
  have ha : (⟨w.heap.size, 0, none⟩ : Addr).add j = ⟨w.heap.size, j, none⟩ := by unfold Addr.add; split <;> simp_all
  rw [ha, (Blk.new w T _).cell]
  simpa using hu
theorem str_one (s : ByteArray) : ∀ u ∈ ([Value.string s] : List Value), u.oneCell' = true := by
  intro u hu
  simp only [List.mem_singleton] at hu
  subst hu
  rfl

/-- What stands while names are put. -/
def UB (B : Nat) (w wr : World) (q k : Nat) (A : Option Addr) (cap : Nat) (D : List ByteArray) : Prop :=
  ∃ (y : Pk) (F : Nat → Prop) (ls : List (List UInt8 × Nat)), knownAt ls = y.get ∧ RPk wr q F y.x ls [] ∧ wr.ownsRow 0 64 1 (.slice A D.length cap) D.length (D.map Value.string) ∧
    (∀ i, F i → B ≤ i) ∧ (∀ i, rowOf A i → B ≤ i ∧ ¬ F i) ∧ Below B w wr ∧ UBp y D k

/-- A name that was put is noted. -/
theorem UB.noted {B : Nat} {w wr w4 w5 : World} {q k cap cap2 : Nat} {A A2 : Option Addr} {D : List ByteArray} {F F2 : Nat → Prop} {y2 : Pk} {ls2 : List (List UInt8 × Nat)} {x : ByteArray}
    (hown : wr.ownsRow 0 64 1 (.slice A D.length cap) D.length (D.map Value.string)) (hF : ∀ i, F i → B ≤ i) (hA : ∀ i, rowOf A i → B ≤ i ∧ ¬ F i) (hb : Below B w wr) (hBw : B ≤ wr.heap.size)
    (hl : knownAt ls2 = y2.get) (hR : RPk w4 q F2 y2.x ls2 []) (hf : Fr F wr w4) (hs : ∀ i, F2 i → F i ∨ wr.heap.size ≤ i) (hy : UBp y2 (D ++ [x]) k)
    (o1 : w5.ownsRow 0 64 1 (.slice A2 (D.length + 1) cap2) (D.length + 1) (D.map Value.string ++ [.string x])) (o2 : Fr (rowOf A) (w4.alloc (.cells #[.string x] 64)) w5)
    (o3 : ∀ i, rowOf A2 i → rowOf A i ∨ (w4.alloc (.cells #[.string x] 64)).heap.size ≤ i) : UB B w w5 q k A2 cap2 (D ++ [x]) := by
  have hw5 : Fr (rowOf A) w4 w5 := ((Fr.refl _ w4).alloc _).then o2
  have hdis : ∀ i, F2 i → ¬ rowOf A i := fun i hi hr => (hs i hi).elim (hA i hr).2 fun h => by have := own_lt hown hr; omega
  have hF2 : ∀ i, F2 i → i < w4.heap.size := by
    obtain ⟨_, _, _, _, _, _, _, _, _, _, _, _, _, h, _⟩ := hR
    exact h
  refine ⟨y2, F2, ls2, hl, hR.fr hw5 hdis, ?_, fun i hi => (hs i hi).elim (hF i) fun h => by omega, fun i hi => ?_, ?_, hy⟩
  · rw [List.length_append, List.map_append]
    exact o1
  · rcases o3 i hi with h | h
    · exact ⟨(hA i h).1, fun h' => hdis i h' h⟩
    · rw [World.size_alloc] at h
      have := hf.size
      exact ⟨by omega, fun h' => by have := hF2 i h'; omega⟩
  · exact (hb.trans (hf.below hF hBw)).trans (hw5.below (fun i hi => (hA i hi).1) (Nat.le_trans hBw hf.size))

theorem Try.infoName : (Try.prog.info? 64).map (fun i => (i.zero, i.size, i.bytes)) = some (some (.string ⟨#[]⟩), 1, 16) := by kernel_rfl

set_option maxRecDepth 100000 in
set_option maxHeartbeats 8000000 in
theorem unpackBack_walk (A : Option Addr) (cap : Nat) (l : List ByteArray) (w : World) (h : Strs w A l ∧ (∀ x ∈ l, x.size ≤ maxLen) ∧ l.length ≤ maxLen) :
    Calls Try.prog 7 #[.slice A l.length cap] w fun e w' => e = .returned (.bool true) ∧ Below w.heap.size w w' := by
  obtain ⟨i0, hi, hz0, hz1, hz2⟩ := info_parts Try.infoName
  obtain ⟨hA, _, hlm⟩ := h
  have HA := Lib.hid hA
  have hll : l.length ≤ 9223372036854775807 := by simp only [maxLen] at hlm; omega
  clear hA hlm
  by_cases hl : 60 < l.length
  · go_enter Try.func7, Try.ntmps7
    go_wp2_with fail
    refine (lives8_any _).mono ?_
    rintro e w1 ⟨rfl, f1⟩
    go_wp2_with fail
    go_ret
    exact ⟨rfl, f1.below (fun _ h => h.elim) (Nat.le_refl _)⟩
  · go_enter Try.func7, Try.ntmps7
    go_wp2_with fail
    refine (lives8_any _).mono ?_
    rintro e w1 ⟨rfl, f1⟩
    have F1 := Lib.hid f1
    clear f1
    go_wp2_with fail
    refine (rpknew_any _).mono ?_
    rintro e w2 ⟨q, F, rfl, h1, h2, h3⟩
    have H0 : Hid (UB w.heap.size w w2 q 0 none 0 []) :=
      ⟨⟨⟨[], 65535, 0⟩, fun _ => none⟩, F, [], rfl, h1, own_nil _ _ _, fun i hi => Nat.le_trans F1.out.size (h3 i hi), fun i hi => absurd hi (rowOf_none i), (F1.out.then h2).below (fun _ h => h.elim) (Nat.le_refl _), UBp.start⟩
    clear h1 h2 h3 F1
    go_wp2_with fail
    go_loopg [4, 5] l.length (fun g dv i wr => ∃ (k : Nat) (A' : Option Addr) (cap' : Nat) (D : List ByteArray), g = l.length - k ∧ k ≤ l.length ∧ i = .int .i64 (k : Nat) ∧ dv = .slice A' D.length cap' ∧ UB w.heap.size w wr q k A' cap' D)
    case atStart => exact ⟨0, none, 0, [], rfl, Nat.zero_le _, rfl, rfl, H0.out⟩
    case round =>
      obtain ⟨k, A', cap', D, rfl, hk, rfl, rfl, y, F', ls, u1, u2, u3, u4, u5, u6, u7⟩ := hrel
      by_cases hlt : k < l.length
      · obtain ⟨x, hx⟩ : ∃ x, l[k]? = some x := ⟨l[k], List.getElem?_eq_getElem hlt⟩
        obtain ⟨b, off, rfl, hbs, hc⟩ := HA.out (by rw [List.length_map]; omega)
        have hcx := hc k (.string x) (by rw [List.getElem?_map, hx]; rfl)
        have d0 : wr.cell? ⟨b, off + k, none⟩ = some (.string x) := (u6.cell (p := ⟨b, _, none⟩) hbs).trans hcx
        have HX := Lib.hid (And.intro hc hx)
        have HU := Lib.hid (And.intro u1 (And.intro u2 (And.intro u3 (And.intro u4 (And.intro u5 (And.intro u6 u7))))))
        clear hc hx hcx u1 u2 u3 u4 u5 u6 u7
        by_cases hx4 : x.size ≤ 400
        · go_wp2_with fail
          refine (rpkname_any q F' y ls [] x _ HU.out.2.1 HU.out.1 (by have := HU.out.2.2.2.2.2.2.len; omega)).mono ?_
          rintro e w4 ⟨rfl, F2, ls2, r1, r2, r3, r4⟩
          by_cases hck : ckN x = 0
          · obtain ⟨p1, p2⟩ := HU.out.2.2.2.2.2.2.put x hck (by omega)
            rw [p1]
            generalize (y.name x).1 = y2 at r1 r2 p2
            have e0 : w4.cell? ⟨b, off + k, none⟩ = some (.string x) := (r3.cell (p := ⟨b, off + k, none⟩) (World.block_lt_of_cell? wr _ d0) (fun h => by have := HU.out.2.2.2.1 _ h; dsimp only at this; omega)).trans d0
            have HO := Lib.hid (own_fr HU.out.2.2.1 r3 (fun i hi h => (HU.out.2.2.2.2.1 i hi).2 h))
            have HR := Lib.hid (And.intro r1 (And.intro r2 (And.intro r3 (And.intro r4 p2))))
            have hcnt := HU.out.2.2.2.2.2.2.cnt
            clear r1 r2 r3 r4 p1 p2 d0
            go_wp2_with (first
              | (at_builtin; refine wpList_append_src rfl (.tmp 38) (.tmp 43) _ _ rfl 64 i0 _ 1 16 Try.underlying61 hi hz0 hz1 hz2 rfl (by decide) A' D.length cap' (D.map Value.string) (by rfl) (HO.out.alloc _) _ 1 [.string x] (by rfl)
                   (Src.ofSlice _ Try.underlying61 ⟨w4.heap.size, 0, none⟩ 1 1 [.string x] rfl (str_new _ _ _) (str_one _)) (by simp only [maxLen]; omega) (by omega) ?_
                 intro A2 cap2 w5 o1 o2 o3
                 have HN := Lib.hid (UB.noted HU.out.2.2.1 HU.out.2.2.2.1 HU.out.2.2.2.2.1 HU.out.2.2.2.2.2.1 HU.out.2.2.2.2.2.1.size HR.out.1 HR.out.2.1 HR.out.2.2.1 HR.out.2.2.2.1 HR.out.2.2.2.2 o1 o2 o3)
                 clear o1 o2 o3))
            go_roundg (l.length - (k + 1))
            case measure => omega
            case rel => exact ⟨k + 1, A2, cap2, D ++ [x], rfl, by omega, by go_num, by rw [List.length_append]; rfl, HN.out⟩
          · have hck' : (ckN x == 0) = false := by simp [hck]
            obtain ⟨p1, p2⟩ := HU.out.2.2.2.2.2.2.no x hck
            rw [p1] at r1 r2 ⊢
            have HR := Lib.hid (And.intro r1 (And.intro r2 (And.intro r3 (And.intro r4 p2))))
            clear r1 r2 r3 r4 p1 p2 d0
            go_wp2_with fail
            go_roundg (l.length - (k + 1))
            case measure => omega
            case rel =>
              refine ⟨k + 1, A', cap', D, rfl, by omega, by go_num, rfl, y, F2, ls2, HR.out.1, HR.out.2.1, own_fr HU.out.2.2.1 HR.out.2.2.1 (fun i hi h => (HU.out.2.2.2.2.1 i hi).2 h), ?_, ?_, HU.out.2.2.2.2.2.1.trans (HR.out.2.2.1.below HU.out.2.2.2.1 HU.out.2.2.2.2.2.1.size), HR.out.2.2.2.2⟩
              · intro i hi
                have := HU.out.2.2.2.2.2.1.size
                exact (HR.out.2.2.2.1 i hi).elim (HU.out.2.2.2.1 i) fun h => by omega
              · intro i hi
                exact ⟨(HU.out.2.2.2.2.1 i hi).1, fun h => (HR.out.2.2.2.1 i h).elim (HU.out.2.2.2.2.1 i hi).2 fun h => by have := own_lt HU.out.2.2.1 hi; omega⟩
        · go_wp2_with fail
          go_roundg (l.length - (k + 1))
          case measure => omega
          case rel => exact ⟨k + 1, A', cap', D, rfl, by omega, by go_num, rfl, y, F', ls, HU.out.1, HU.out.2.1, HU.out.2.2.1, HU.out.2.2.2.1, HU.out.2.2.2.2.1, HU.out.2.2.2.2.2.1, HU.out.2.2.2.2.2.2.skip⟩
      · have hke : k = l.length := by omega
        obtain ⟨p', c0, hw', _, _⟩ := u2.writer
        have cS : wr.cell? ⟨p', 0, none⟩ = some (.string ⟨y.x.b.toArray⟩) := hw'.1.cell 0
        have hqlt := World.block_lt_of_cell? wr _ c0
        have hplt := World.block_lt_of_cell? wr _ cS
        have hSz : (⟨y.x.b.toArray⟩ : ByteArray).size = y.x.b.length := by simp [ByteArray.size]
        have hSl : (⟨y.x.b.toArray⟩ : ByteArray).data.toList = y.x.b := by simp
        have hch := u7.chain
        have hbl : y.x.b.length ≤ 16000 := by have := u7.len; omega
        have hcnt := u7.cnt
        have HO := Lib.hid u3
        have HBe := Lib.hid u6
        clear u1 u2 u3 u4 u5 u6 u7 hw' H0
        generalize hS : (⟨y.x.b.toArray⟩ : ByteArray) = S at *
        rw [← hSl] at hch
        rw [← hSz, ← size_l S] at hbl
        have hlen : y.x.b.length = S.data.toList.length := by rw [size_l, hSz]
        rw [hSl] at hch
        have HC : Hid (Chain S.data.toList 0 (D.map fun d => d.data.toList) S.data.toList.length) := by rw [← hlen, hSl]; exact hch
        clear hch hSl hS hSz hlen
        go_wp2_with fail
        go_loopg [6, 7] D.length (fun g a i wq => ∃ (j at_ : Nat), g = D.length - j ∧ j ≤ D.length ∧ i = .int .i64 (j : Nat) ∧ a = .int .i64 (at_ : Nat) ∧ at_ ≤ S.size ∧ Chain S.data.toList at_ ((D.drop j).map fun d => d.data.toList) S.data.toList.length ∧ Fr (fun _ => False) wr wq)
        case atStart => exact ⟨0, 0, rfl, Nat.zero_le _, rfl, rfl, Nat.zero_le _, by rw [List.drop_zero]; exact HC.out, Fr.refl _ _⟩
        case round =>
          obtain ⟨j, at_, rfl, hj, rfl, rfl, hat, hchn, hfq⟩ := hrel
          have e0 := (hfq.cell (p := ⟨q, 0, none⟩) hqlt id).trans c0
          have eS := (hfq.cell (p := ⟨p', 0, none⟩) hplt id).trans cS
          by_cases hjl : j < D.length
          · obtain ⟨d, hd⟩ : ∃ d, D[j]? = some d := ⟨D[j], List.getElem?_eq_getElem hjl⟩
            have hdr : D.drop j = d :: D.drop (j + 1) := by rw [List.drop_eq_getElem_cons hjl, (List.getElem?_eq_some_iff.1 hd).2]
            rw [hdr] at hchn
            obtain ⟨n, z, r, g1, g2, g3, g4, g5⟩ := hchn
            have hnm : nameAt S at_ true = .done z := by
              unfold nameAt
              rw [if_neg (by omega), Int.toNat_natCast]
              exact g1.uread
            obtain ⟨g, hg, hcell⟩ := own_cell HO.out (j := j) (u := .string d) (by rw [List.getElem?_map, hd]; rfl)
            subst hg
            have d0 := (hfq.cell (p := ⟨g, j, none⟩) (World.block_lt_of_cell? _ _ hcell) id).trans hcell
            have HG := Lib.hid (And.intro hfq (And.intro g5 (And.intro g2 g3)))
            have HNM := Lib.hid hnm
            clear hfq g1 g2 g3 g4 g5 hnm hdr hd hcell
            go_wp2_with fail
            refine (name8_any S _ _ (by rw [← size_l S]; omega)).mono ?_
            rintro e w7 ⟨rfl, f7⟩
            rw [HNM.out]
            simp only [Ust.name, Ust.fin, Ust.err]
            rw [HG.out.2.2.1, HG.out.2.2.2, str_of]
            have d1 := (f7.cell (p := ⟨g, j, none⟩) (World.block_lt_of_cell? _ _ d0) id).trans d0
            have HF7 := Lib.hid (HG.out.1.then f7)
            clear f7 e0 eS d0
            go_wp2_with fail
            go_roundg (D.length - (j + 1))
            case measure => omega
            case rel => exact ⟨j + 1, r, rfl, by omega, by go_num, rfl, by rw [← size_l S]; exact HG.out.2.1.le, HG.out.2.1, HF7.out⟩
          · have hje : j = D.length := by omega
            subst hje
            rw [List.drop_length] at hchn
            have hend : at_ = S.data.toList.length := hchn
            rw [size_l] at hend
            subst hend
            have HF := Lib.hid hfq
            clear hfq hchn
            go_wp2_with fail
            go_ret
            exact ⟨rfl, HBe.out.trans (HF.out.below (fun _ h => h.elim) HBe.out.size)⟩
end Go.Proofs.Ytbemackcdccpaaa
