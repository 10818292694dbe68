/-
  LAYER 11: MessageReads, the walk.
-/
import Derived.Test.YtmbgejiahmhffaaGreatUMlb
import Derived.Test.YtmbgejiahmhffaaGreatUMxt
import Derived.Test.YtmbgejiahmhffaaGreatUunB
namespace Go.Proofs.YtmbgejiahmhffaaGreat
open Go.RowKit
set_option linter.unusedVariables false
set_option linter.unusedSimpArgs false

/-- What Read leaves is a message in memory. -/
theorem rd_in2 {W : World} (h2 : Hd) (A2q : Option Addr) (l2q : List Qn) (c2q : Nat) (A2a : Option Addr) (l2a : RLm) (c2a : Nat) (A2b : Option Addr) (l2b : RLm) (c2b : Nat) (A2c : Option Addr) (l2c : RLm) (c2c : Nat) (hr : RdMem W h2 A2q l2q c2q A2a l2a c2a A2b l2b c2b A2c l2c c2c) (hf : (msOf h2 l2q l2a l2b l2c).fine) : MsIn W h2 A2q l2q c2q A2a l2a c2a A2b l2b c2b A2c l2c c2c := by
  obtain ⟨h1, h2', ⟨c0, c1, c2, c3⟩, hq, ha, hb, hc⟩ := hf
  have hm := (Hd.may_parts h2').2.2
  have c0' : h2.c0 = (l2q.length : Nat) := c0
  have c1' : h2.c1 = ((l2a.map Prod.fst).length : Nat) := c1
  have c2' : h2.c2 = ((l2b.map Prod.fst).length : Nat) := c2
  have c3' : h2.c3 = ((l2c.map Prod.fst).length : Nat) := c3
  rw [List.length_map] at c1' c2' c3'
  have n0 := hm 0
  have n1 := hm 1
  have n2 := hm 2
  have n3 := hm 3
  have n0' : h2.c0 ≤ 65535 := n0.2
  have n1' : h2.c1 ≤ 65535 := n1.2
  have n2' : h2.c2 ≤ 65535 := n2.2
  have n3' : h2.c3 ≤ 65535 := n3.2
  have key : ∀ (l : RLm), (∀ r ∈ l.map Prod.fst, r.ok ∧ r.check = 0) → (∀ x ∈ l, Strs W x.2.1 x.1.d.texts) → ∀ x ∈ l, RcIn W x.2.1 x.1 ∧ x.1.name.size + x.1.d.light ≤ 1048576 := fun l hl ht x hx => by
    obtain ⟨k1, k2⟩ := hl x.1 (List.mem_map.2 ⟨x, hx, rfl⟩)
    obtain ⟨q1, q2⟩ := Rcd.check_ok k2
    obtain ⟨q3, q4, q5⟩ := qcheck_ok q1
    obtain ⟨_, _, d1, d2, _, d3⟩ := dcheck_ok q2
    have e1 := (ckN_ok q3).1
    have e2 := (ckN_ok d1).1
    have e3 := (ckN_ok d2).1
    have e4 : x.1.d.raw.size ≤ x.1.d.size (whatN x.1.t) ∧ textsLen x.1.d.texts ≤ x.1.d.size (whatN x.1.t) := by unfold Dt.size; omega
    have e5 : ∀ l : List ByteArray, l.length ≤ textsLen l := fun l => by
      induction l with
      | nil => exact Nat.le_refl _
      | cons y l ih => show l.length + 1 ≤ 1 + y.size + textsLen l; omega
    have e6 := e5 x.1.d.texts
    refine ⟨⟨⟨k1.2.1, k1.2.2.1, k1.2.2.2, ht x hx, by omega, by omega⟩, by omega, by omega, k1.1⟩, ?_⟩
    have hq : x.1.d.light = x.1.d.raw.size + x.1.d.name.size + x.1.d.mail.size + textsLen x.1.d.texts := rfl
    omega
  refine ⟨h1, own_rowIn hr.oq, fun q hqm => ?_, own_slok hr.oq (by omega), own_rowIn hr.oa, key l2a ha (fun x hx => hr.tx x (.inl hx)), own_slok hr.oa (by omega), own_rowIn hr.ob, key l2b hb (fun x hx => hr.tx x (.inr (.inl hx))), own_slok hr.ob (by omega), own_rowIn hr.oc, key l2c hc (fun x hx => hr.tx x (.inr (.inr hx))), own_slok hr.oc (by omega)⟩
  obtain ⟨q3, q4, q5⟩ := qcheck_ok (hq q hqm)
  have e1 := (ckN_ok q3).1
  exact ⟨by omega, by unfold i64k; omega, by unfold i64k; omega⟩
theorem zero_in (W : World) : MsIn W Hd.zero none [] 0 none [] 0 none [] 0 none [] 0 :=
  ⟨Hd.zero_ok, (fun h => by simp at h), (fun x hx => by simp at hx), ⟨by decide, fun _ => rfl, fun _ => rfl, Nat.le_refl _, by decide⟩, (fun h => by simp at h), (fun x hx => by simp at hx), ⟨by decide, fun _ => rfl, fun _ => rfl, Nat.le_refl _, by decide⟩, (fun h => by simp at h), (fun x hx => by simp at hx), ⟨by decide, fun _ => rfl, fun _ => rfl, Nat.le_refl _, by decide⟩, (fun h => by simp at h), (fun x hx => by simp at hx), ⟨by decide, fun _ => rfl, fun _ => rfl, Nat.le_refl _, by decide⟩⟩
theorem same_zero (W : World) : Calls Tryz.prog 24 #[.agg #[.int .u16 0, .bool false, .int .i64 0, .bool false, .bool false, .bool false, .bool false, .bool false, .bool false, .int .i64 0, .int .i64 0, .int .i64 0, .int .i64 0, .int .i64 0, .slice none 0 0, .slice none 0 0, .slice none 0 0, .slice none 0 0], .agg #[.int .u16 0, .bool false, .int .i64 0, .bool false, .bool false, .bool false, .bool false, .bool false, .bool false, .int .i64 0, .int .i64 0, .int .i64 0, .int .i64 0, .int .i64 0, .slice none 0 0, .slice none 0 0, .slice none 0 0, .slice none 0 0]] W (EqPost W true) := by
  refine (msame_m Hd.zero none [] 0 none [] 0 none [] 0 none [] 0 Hd.zero none [] 0 none [] 0 none [] 0 none [] 0 W (zero_in W) (zero_in W)).mono ?_
  rintro e w' ⟨r, rfl, hr, f⟩
  have : r = true := hr.2 rfl
  subst this
  exact ⟨rfl, f⟩
/-- Octets cut: what Read tells of them is no success. -/
theorem rd_bad (s : ByteArray) (w : World) (hs : s.size ≤ 140737488351232) (h : mreadE s ≠ 0) :
    Calls Tryz.prog 16 #[.string s] w fun e w' => e = .returned (.tuple #[.agg #[.int .u16 0, .bool false, .int .i64 0, .bool false, .bool false, .bool false, .bool false, .bool false, .bool false, .int .i64 0, .int .i64 0, .int .i64 0, .int .i64 0, .int .i64 0, .slice none 0 0, .slice none 0 0, .slice none 0 0, .slice none 0 0], .int .i64 (mreadE s)]) ∧ Fr (fun _ => False) w w' := by
  refine (mread_any s w hs).mono ?_
  rintro e w' ⟨f, ⟨hne, rfl⟩ | ⟨h1, _⟩⟩
  · exact ⟨rfl, f⟩
  · exact absurd h1 h
theorem row_byte1 (w : World) (x0 : UInt8) : (convert 66 9 (.slice (some ⟨w.heap.size, 0, none⟩) 1 1)).run Tryz.prog (w.alloc (.cells #[.int .u8 (x0.toNat : Nat)] 5)) = .ok (.string ⟨#[x0]⟩) (w.alloc (.cells #[.int .u8 (x0.toNat : Nat)] 5)) := by
  have hb := Blk.new w 5 #[.int .u8 (x0.toNat : Nat)]
  exact run_convert_bytes_back _ _ _ 5 ⟨w.heap.size, 0, none⟩ 1 [x0] Tryz.underlying66 Tryz.underlying5 Tryz.underlying9 (fun j hj => by
    rw [show ((⟨w.heap.size, 0, none⟩ : Addr).add j) = ⟨w.heap.size, j, none⟩ from by unfold Addr.add; split <;> simp_all, hb.cell j]
    have h4 : j < 1 := hj
    obtain rfl : j = 0 := by omega
    rfl)
theorem rdcut_bad {s : ByteArray} (h : mreadE s = 0) {k : Nat} (hk : k < s.size) : mreadE (s.extract 0 k) ≠ 0 := by
  intro hz
  have hl : s.data.toList.length = s.size := by rw [Array.length_toList]; rfl
  have hs : s.data.toList = (s.extract 0 k).data.toList ++ s.data.toList.drop k := by
    have : (s.extract 0 k).data.toList = s.data.toList.take k := by simp [ByteArray.extract, ByteArray.copySlice]
    rw [this, List.take_append_drop]
  have := mread_more hs (fun e => by have := congrArg List.length e; rw [List.length_drop, List.length_nil] at this; omega) (mread_good h).sz hz
  rw [h] at this
  cases this
set_option maxRecDepth 100000 in
set_option maxHeartbeats 32000000 in
theorem mreads_any (s : ByteArray) (cut : Int) (x0 : UInt8) (w : World) :
    Calls Tryz.prog 6 #[.string s, .int .i64 cut, .int .u8 (x0.toNat : Nat)] w (EqPost w true) := by
  by_cases hbig : 2500 < s.size
  · have q1 : decide ((2500 : Int) < (s.size : Int)) = true := decide_eq_true (by omega)
    have q2 : (2500 : Int) < (s.size : Int) := by omega
    go_enter Tryz.func6, Tryz.ntmps6
    go_wp2_with (first
      | (go_at_call 9
         (with_reducible refine (lives11_any w).mono ?_)
         rintro e w1 ⟨rfl, f1⟩
         have H1 := Lib.hid f1
         clear f1)
      | fail "no arm")
    go_ret
    exact ⟨rfl, H1.out⟩
  · have q1 : decide ((2500 : Int) < (s.size : Int)) = false := decide_eq_false (by omega)
    have q2 : ¬ (2500 : Int) < (s.size : Int) := by omega
    by_cases he : mreadE s = 0
    · obtain ⟨hfine, h12⟩ := mread_fine he
      have hcut : ∀ k, k < s.size → mreadE (s.extract 0 k) ≠ 0 := fun k hk => rdcut_bad he hk
      obtain ⟨s', hs'⟩ : ∃ s' : ByteArray, s' = s ++ ⟨#[x0]⟩ := ⟨_, rfl⟩
      have hsz' : s'.size = s.size + 1 := by rw [hs']; simp [ByteArray.size_append]; rfl
      have hmore : mreadE s' = 4 := mread_more (s := s) (T := [x0]) (by rw [hs']; simp) (by simp) (by omega) he
      have HE := Lib.hid (And.intro he (And.intro hfine (And.intro hcut (And.intro hmore hs'))))
      have q3 : decide ((s.size : Int) < 12) = false := decide_eq_false (by omega)
      have q3' : ¬ (s.size : Int) < 12 := by omega
      clear he hfine hcut hmore hs'
      go_enter Tryz.func6, Tryz.ntmps6
      go_upto_region 10 with (first
        | (go_at_call 9
           (with_reducible refine (lives11_any w).mono ?_)
           rintro e w1 ⟨rfl, f1⟩
           have H1 := Lib.hid f1
           clear f1)
        | (go_at_call 16
           (with_reducible refine (mread_any s w1 (by omega)).mono ?_)
           rintro e w2 ⟨f2, ⟨hne, _⟩ | ⟨h0, h2, A2q, l2q, c2q, A2a, l2a, c2a, A2b, l2b, c2b, A2c, l2c, c2c, rfl, hrd, hms⟩⟩
           · exact absurd HE.out.1 hne
           have H2 := Lib.hid (And.intro (H1.out.then f2) (And.intro hrd hms))
           clear f2 h0 hrd hms)
        | (refine wpList_store_part rfl 29 _ _ rfl w2.heap.size 0 (by rfl) _ (by rfl) 29 _ (Blk.new w2 29 _) (by kernel_rfl) (by simp [Value.oneCell']) (by simp) #[.int .u16 h2.id, .bool h2.resp, .int .i64 h2.op, .bool h2.aa, .bool h2.tc, .bool h2.rd, .bool h2.ra, .bool h2.ad, .bool h2.cd, .int .i64 h2.rc, .int .i64 h2.c0, .int .i64 h2.c1, .int .i64 h2.c2, .int .i64 h2.c3, .slice A2q l2q.length c2q, .slice A2a l2a.length c2a, .slice A2b l2b.length c2b, .slice A2c l2c.length c2c] (by rfl) ?_
           intro w3 bz fz
           have g_ : Fr (fun _ => False) w2 w3 := ((Fr.refl (fun _ => False) w2).alloc _).step fz (fun k hk => .inr (by subst hk; exact Nat.le_refl _))
           have H3 := Lib.hid (And.intro (H2.out.1.then g_) (And.intro bz ((rd_in2 h2 A2q l2q c2q A2a l2a c2a A2b l2b c2b A2c l2c c2c H2.out.2.1 (by rw [H2.out.2.2]; exact HE.out.2.1)).fr0 g_)))
           clear bz fz g_)
        | (refine wpList_load_blk rfl 29 _ rfl w2.heap.size (by rfl) 29 _ _ H3.out.2.1 Tryz.underlying29 rfl (by kernel_rfl) ?_)
        | (go_at_call 11
           (with_reducible refine (mcheck_any h2 A2q l2q c2q A2a l2a c2a A2b l2b c2b A2c l2c c2c w3 H3.out.2.2).mono ?_)
           rintro e w4 ⟨rfl, f4⟩
           rw [H2.out.2.2, (mcheck_fine ⟨HE.out.2.1.1, fun r hr => (HE.out.2.1.2.2.2.2.1 r hr).1, fun r hr => (HE.out.2.1.2.2.2.2.2.1 r hr).1, fun r hr => (HE.out.2.1.2.2.2.2.2.2 r hr).1⟩).2 HE.out.2.1]
           have H4 := Lib.hid (And.intro (H3.out.1.then f4) (And.intro (H3.out.2.1.fr f4 id) (H3.out.2.2.fr0 f4)))
           clear f4)
        | fail "no arm")
      obtain ⟨k, hk⟩ : ∃ k : Nat, (k : Int) = pick cut (s.size : Int) := ⟨(pick cut (s.size : Int)).toNat, by have := (pick_range cut (s.size : Int) (by omega)).1; omega⟩
      have hks : k < s.size := by have := (pick_range cut (s.size : Int) (by omega)).2; omega
      have hkle : k ≤ s.size := by omega
      obtain ⟨sc, hsc⟩ : ∃ sc, sc = s.extract 0 k := ⟨_, rfl⟩
      obtain ⟨E, hE⟩ : ∃ E, E = mreadE sc := ⟨_, rfl⟩
      have hE0 : E ≠ 0 := by rw [hE, hsc]; exact HE.out.2.2.1 k hks
      have qE : (E == 0) = false := by rw [beq_eq_false_iff_ne]; exact hE0
      have hscl : sc.size ≤ 140737488351232 := by rw [hsc, ByteArray.size_extract]; omega
      have HK := Lib.hid (And.intro hk (And.intro hsc (And.intro hE (And.intro hE0 hscl))))
      have hsx : s.extract 0 k = sc := hsc.symm
      clear hk hsc hE hE0 hscl
      go_upto_region 11 with (first
        | (go_at_call 25
           (with_reducible refine (pick_any cut (s.size : Int) w4 (by omega) (by omega)).mono ?_)
           rintro e w5 ⟨rfl, rfl⟩
           rw [← HK.out.1])
        | (go_at_call 16
           (with_reducible refine (rd_bad sc w4 HK.out.2.2.2.2 (by rw [← HK.out.2.2.1]; exact HK.out.2.2.2.1)).mono ?_)
           rintro e w6 ⟨rfl, f6⟩
           rw [← HK.out.2.2.1]
           have H6 := Lib.hid (And.intro (H4.out.1.then f6) (And.intro (H4.out.2.1.fr f6 id) (H4.out.2.2.fr0 f6)))
           clear f6)
        | (refine wpList_store_part rfl 29 _ _ rfl w6.heap.size 0 (by rfl) _ (by rfl) 29 _ (Blk.new w6 29 _) (by kernel_rfl) (by simp [Value.oneCell']) (by simp) #[.int .u16 0, .bool false, .int .i64 0, .bool false, .bool false, .bool false, .bool false, .bool false, .bool false, .int .i64 0, .int .i64 0, .int .i64 0, .int .i64 0, .int .i64 0, .slice none 0 0, .slice none 0 0, .slice none 0 0, .slice none 0 0] (by rfl) ?_
           intro w7 bz fz
           have g_ : Fr (fun _ => False) w6 w7 := ((Fr.refl (fun _ => False) w6).alloc _).step fz (fun k hk => .inr (by subst hk; exact Nat.le_refl _))
           have H7 := Lib.hid (And.intro (H6.out.1.then g_) (And.intro (H6.out.2.1.fr g_ id) (H6.out.2.2.fr0 g_)))
           clear bz fz g_)
        | fail "no arm")
      have hcv := row_byte1 w7 x0
      have hcat : s ++ (⟨#[x0]⟩ : ByteArray) = s' := HE.out.2.2.2.2.symm
      go_upto_if 64 with (first
        | (go_at_call 16
           (with_reducible refine (rd_bad s' (w7.alloc (.cells #[.int .u8 (x0.toNat : Nat)] 5)) (by omega) (by rw [HE.out.2.2.2.1]; decide)).mono ?_)
           rintro e w8 ⟨rfl, f8⟩
           rw [HE.out.2.2.2.1]
           have g8 : Fr (fun _ => False) w7 w8 := ((Fr.refl (fun _ => False) w7).alloc _).then f8
           have H8 := Lib.hid (And.intro (H7.out.1.then g8) (And.intro (H7.out.2.1.fr g8 id) (H7.out.2.2.fr0 g8)))
           clear f8 g8)
        | (refine wpList_store_part rfl 29 _ _ rfl w8.heap.size 0 (by rfl) _ (by rfl) 29 _ (Blk.new w8 29 _) (by kernel_rfl) (by simp [Value.oneCell']) (by simp) #[.int .u16 0, .bool false, .int .i64 0, .bool false, .bool false, .bool false, .bool false, .bool false, .bool false, .int .i64 0, .int .i64 0, .int .i64 0, .int .i64 0, .int .i64 0, .slice none 0 0, .slice none 0 0, .slice none 0 0, .slice none 0 0] (by rfl) ?_
           intro w9 bz fz
           have g_ : Fr (fun _ => False) w8 w9 := ((Fr.refl (fun _ => False) w8).alloc _).step fz (fun k hk => .inr (by subst hk; exact Nat.le_refl _))
           have H9 := Lib.hid (And.intro (H8.out.1.then g_) (And.intro (H8.out.2.1.fr g_ id) (H8.out.2.2.fr0 g_)))
           clear bz fz g_)
        | fail "no arm")
      clear hcv hcat hsx
      obtain ⟨ms, hms⟩ : ∃ ms, ms = mreadM s := ⟨_, rfl⟩
      have HMS := Lib.hid (And.intro (show msOf h2 l2q l2a l2b l2c = ms by rw [hms]; exact H2.out.2.2) (show ms.fine by rw [hms]; exact HE.out.2.1))
      clear hms
      obtain ⟨Z, hZ⟩ : ∃ Z, Z = ms.size := ⟨_, rfl⟩
      have hck : mcheckB ms = 0 := (mcheck_fine ⟨HMS.out.2.1, fun r hr => (HMS.out.2.2.2.2.2.1 r hr).1, fun r hr => (HMS.out.2.2.2.2.2.2.1 r hr).1, fun r hr => (HMS.out.2.2.2.2.2.2.2 r hr).1⟩).2 HMS.out.2
      have HZ := Lib.hid (And.intro hZ (And.intro hck (show msizeB ms = (Z : Int) by unfold msizeB; rw [if_neg (by simp [hck]), hZ])))
      clear hZ hck
      by_cases hzb : 65535 < Z
      · have z1 : decide ((65535 : Int) < (Z : Int)) = true := decide_eq_true (by omega)
        have z2 : (65535 : Int) < (Z : Int) := by omega
        go_wp2_with (first
          | (refine wpList_load_blk rfl 29 _ rfl w2.heap.size (by rfl) 29 _ _ H9.out.2.1 Tryz.underlying29 rfl (by kernel_rfl) ?_)
          | (go_at_call 22
             (with_reducible refine (msize_any h2 A2q l2q c2q A2a l2a c2a A2b l2b c2b A2c l2c c2c w9 H9.out.2.2).mono ?_)
             rintro e w10 ⟨rfl, f10⟩
             rw [HMS.out.1, HZ.out.2.2]
             have H10 := Lib.hid (H9.out.1.then f10)
             clear f10)
          | fail "no arm")
        go_ret
        exact ⟨rfl, H10.out⟩
      · have z1 : decide ((65535 : Int) < (Z : Int)) = false := decide_eq_false (by omega)
        have z2 : ¬ (65535 : Int) < (Z : Int) := by omega
        have hs1 : ms.size + 2000 ≤ 1000000 := by rw [← HZ.out.1]; omega
        obtain ⟨r1, r2, _⟩ := mput_reads HMS.out.2 hs1
        rw [← HZ.out.1] at r2
        obtain ⟨t, ht⟩ : ∃ t : ByteArray, t = ⟨(mputB ms).x.b.toArray⟩ := ⟨_, rfl⟩
        have htl : t.size = (mputB ms).x.b.length := by rw [ht]; exact List.size_toArray
        have htr := mread_reads (s := t) (m := ms) (by rw [ht]; simpa using r1) HMS.out.2.2.2.1 (by omega)
        have HT := Lib.hid (And.intro htr (And.intro (show ∀ W, MsIn W h2 A2q l2q c2q A2a l2a c2a A2b l2b c2b A2c l2c c2c → Calls Tryz.prog 12 #[.agg #[.int .u16 h2.id, .bool h2.resp, .int .i64 h2.op, .bool h2.aa, .bool h2.tc, .bool h2.rd, .bool h2.ra, .bool h2.ad, .bool h2.cd, .int .i64 h2.rc, .int .i64 h2.c0, .int .i64 h2.c1, .int .i64 h2.c2, .int .i64 h2.c3, .slice A2q l2q.length c2q, .slice A2a l2a.length c2a, .slice A2b l2b.length c2b, .slice A2c l2c.length c2c], .int .i64 65535] W fun e w' => e = .returned (.tuple #[.string t, .int .i64 0]) ∧ Fr (fun _ => False) W w' from fun W hW => by
          have := mput_any h2 A2q l2q c2q A2a l2a c2a A2b l2b c2b A2c l2c c2c 65535 W hW (by rw [HMS.out.1]; exact hs1)
          rw [HMS.out.1, mputR_fits HZ.out.2.1 (by unfold roomN; omega)] at this
          rw [ht]
          exact this) (show t.size ≤ 140737488351232 by omega)))
        clear hs1 r1 r2 ht htl htr
        go_upto_region 18 with (first
          | (refine wpList_load_blk rfl 29 _ rfl w2.heap.size (by rfl) 29 _ _ H9.out.2.1 Tryz.underlying29 rfl (by kernel_rfl) ?_)
          | (refine wpList_load_blk rfl 29 _ rfl w2.heap.size (by rfl) 29 _ _ H10.out.2.1 Tryz.underlying29 rfl (by kernel_rfl) ?_)
          | (go_at_call 22
             (with_reducible refine (msize_any h2 A2q l2q c2q A2a l2a c2a A2b l2b c2b A2c l2c c2c w9 H9.out.2.2).mono ?_)
             rintro e w10 ⟨rfl, f10⟩
             rw [HMS.out.1, HZ.out.2.2]
             have H10 := Lib.hid (And.intro (H9.out.1.then f10) (And.intro (H9.out.2.1.fr f10 id) (H9.out.2.2.fr0 f10)))
             clear f10)
          | (go_at_call 12
             (with_reducible refine (HT.out.2.1 w10 H10.out.2.2).mono ?_)
             rintro e w11 ⟨rfl, f11⟩
             have H11 := Lib.hid (And.intro (H10.out.1.then f11) (And.intro (H10.out.2.1.fr f11 id) (H10.out.2.2.fr0 f11)))
             clear f11)
          | (go_at_call 16
             (with_reducible refine (mread_any t w11 HT.out.2.2).mono ?_)
             rintro e w12 ⟨f12, ⟨hne, _⟩ | ⟨h0, h3, A3q, l3q, c3q, A3a, l3a, c3a, A3b, l3b, c3b, A3c, l3c, c3c, rfl, hrd, hms⟩⟩
             · exact absurd HT.out.1.1 hne
             have H12 := Lib.hid (And.intro (H11.out.1.then f12) (And.intro (H11.out.2.1.fr f12 id) (And.intro (H11.out.2.2.fr0 f12) (And.intro hrd (hms.trans HT.out.1.2)))))
             clear f12 h0 hrd hms)
          | (refine wpList_store_part rfl 29 _ _ rfl w12.heap.size 0 (by rfl) _ (by rfl) 29 _ (Blk.new w12 29 _) (by kernel_rfl) (by simp [Value.oneCell']) (by simp) #[.int .u16 h3.id, .bool h3.resp, .int .i64 h3.op, .bool h3.aa, .bool h3.tc, .bool h3.rd, .bool h3.ra, .bool h3.ad, .bool h3.cd, .int .i64 h3.rc, .int .i64 h3.c0, .int .i64 h3.c1, .int .i64 h3.c2, .int .i64 h3.c3, .slice A3q l3q.length c3q, .slice A3a l3a.length c3a, .slice A3b l3b.length c3b, .slice A3c l3c.length c3c] (by rfl) ?_
             intro w13 bz fz
             have g_ : Fr (fun _ => False) w12 w13 := ((Fr.refl (fun _ => False) w12).alloc _).step fz (fun k hk => .inr (by subst hk; exact Nat.le_refl _))
             have hne1 : w2.heap.size ≠ w12.heap.size := by have := H12.out.2.1.lt; omega
             have H13 := Lib.hid (And.intro (H12.out.1.then g_) (And.intro ((H12.out.2.1.alloc _).fr fz hne1) (And.intro (H12.out.2.2.1.fr0 g_) (And.intro bz ((rd_in2 h3 A3q l3q c3q A3a l3a c3a A3b l3b c3b A3c l3c c3c H12.out.2.2.2.1 (by rw [H12.out.2.2.2.2]; exact HMS.out.2)).fr0 g_)))))
             clear bz fz g_ hne1)
          | fail "no arm")
        go_wp2_with (first
          | (refine wpList_load_mid_g (by rfl) 29 _ rfl w2.heap.size 0 (by rfl) [.int .u16 h2.id, .bool h2.resp, .int .i64 h2.op, .bool h2.aa, .bool h2.tc, .bool h2.rd, .bool h2.ra, .bool h2.ad, .bool h2.cd, .int .i64 h2.rc, .int .i64 h2.c0, .int .i64 h2.c1, .int .i64 h2.c2, .int .i64 h2.c3, .slice A2q l2q.length c2q, .slice A2a l2a.length c2a, .slice A2b l2b.length c2b, .slice A2c l2c.length c2c] _ (blk_rg0 H13.out.2.1) Tryz.underlying29 rfl (by kernel_rfl) ?_)
          | (refine wpList_load_mid_g (by rfl) 29 _ rfl w12.heap.size 0 (by rfl) [.int .u16 h3.id, .bool h3.resp, .int .i64 h3.op, .bool h3.aa, .bool h3.tc, .bool h3.rd, .bool h3.ra, .bool h3.ad, .bool h3.cd, .int .i64 h3.rc, .int .i64 h3.c0, .int .i64 h3.c1, .int .i64 h3.c2, .int .i64 h3.c3, .slice A3q l3q.length c3q, .slice A3a l3a.length c3a, .slice A3b l3b.length c3b, .slice A3c l3c.length c3c] _ (blk_rg0 H13.out.2.2.2.1) Tryz.underlying29 rfl (by kernel_rfl) ?_)
          | (go_at_call 24
             (with_reducible refine (msame_m h2 A2q l2q c2q A2a l2a c2a A2b l2b c2b A2c l2c c2c h3 A3q l3q c3q A3a l3a c3a A3b l3b c3b A3c l3c c3c w13 H13.out.2.2.1 H13.out.2.2.2.2).mono ?_)
             rintro e w14 ⟨r, rfl, hr, f14⟩
             have hr1 : r = true := hr.2 (HMS.out.1.trans H12.out.2.2.2.2.symm)
             subst hr1
             have H14 := Lib.hid (H13.out.1.then f14)
             clear f14 hr)
          | fail "no arm")
        go_ret
        exact ⟨rfl, H14.out⟩
    · obtain ⟨E, hE⟩ : ∃ E, E = mreadE s := ⟨_, rfl⟩
      have qE : (E != 0) = true := by rw [hE]; simpa using he
      have HE := Lib.hid (And.intro hE he)
      clear hE he
      go_enter Tryz.func6, Tryz.ntmps6
      go_wp2_with (first
        | (go_at_call 9
           (with_reducible refine (lives11_any w).mono ?_)
           rintro e w1 ⟨rfl, f1⟩
           have H1 := Lib.hid f1
           clear f1)
        | (go_at_call 16
           (with_reducible refine (rd_bad s w1 (by omega) HE.out.2).mono ?_)
           rintro e w2 ⟨rfl, f2⟩
           rw [← HE.out.1]
           have H2 := Lib.hid (H1.out.then f2)
           clear f2)
        | (refine wpList_store_part rfl 29 _ _ rfl w2.heap.size 0 (by rfl) _ (by rfl) 29 _ (Blk.new w2 29 _) (by kernel_rfl) (by simp [Value.oneCell']) (by simp) #[.int .u16 0, .bool false, .int .i64 0, .bool false, .bool false, .bool false, .bool false, .bool false, .bool false, .int .i64 0, .int .i64 0, .int .i64 0, .int .i64 0, .int .i64 0, .slice none 0 0, .slice none 0 0, .slice none 0 0, .slice none 0 0] (by rfl) ?_
           intro w3 bz fz
           have g_ : Fr (fun _ => False) w2 w3 := ((Fr.refl (fun _ => False) w2).alloc _).step fz (fun k hk => .inr (by subst hk; exact Nat.le_refl _))
           have H3 := Lib.hid (And.intro (H2.out.then g_) bz)
           clear bz fz g_)
        | (refine wpList_load_blk rfl 29 _ rfl w2.heap.size (by rfl) 29 _ _ H3.out.2 Tryz.underlying29 rfl (by kernel_rfl) ?_)
        | (go_at_call 24
           (with_reducible refine (same_zero w3).mono ?_)
           rintro e w4 ⟨rfl, f4⟩
           have H4 := Lib.hid (H3.out.1.then f4)
           clear f4)
        | fail "no arm")
      go_ret
      exact ⟨rfl, H4.out⟩
theorem messageReads_walk (s : ByteArray) (cut more : Int) (w : World) (b0 : s.size ≤ 1048576) (b1 : -9223372036854775808 ≤ cut ∧ cut ≤ 9223372036854775807) (b2 : 0 ≤ more ∧ more ≤ 255) :
    Calls Tryz.prog 6 #[.string s, .int .i64 cut, .int .u8 more] w fun e w' => e = .returned (.bool true) ∧ Below w.heap.size w w' := by
  obtain ⟨x0, hx0⟩ : ∃ x0 : UInt8, ((x0.toNat : Nat) : Int) = more := ⟨UInt8.ofNat more.toNat, by rw [UInt8.toNat_ofNat']; omega⟩
  rw [← hx0]
  exact (mreads_any s cut x0 w).mono fun e w' ⟨h1, h2⟩ => ⟨h1, h2.below (fun k hk => hk.elim) (Nat.le_refl _)⟩
end Go.Proofs.YtmbgejiahmhffaaGreat
