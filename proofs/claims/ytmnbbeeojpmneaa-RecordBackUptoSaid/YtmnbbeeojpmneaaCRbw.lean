/-
  LAYER 10: RecordBack: the law's walk. 
-/
import Derived.Test.YtmnbbeeojpmneaaBunK
import Derived.Deep.MidRow
import Derived.IntWalk
namespace Go.Proofs.Ytmnbbeeojpmneaa
set_option linter.unusedVariables false
set_option linter.unusedSimpArgs false
open Go.RowKit
theorem Try.infoQn : (Try.prog.info? 25).map (fun i => (i.zero, i.size, i.bytes)) = some (some (.agg #[.string ⟨#[]⟩, .int .i64 0, .int .i64 0]), 3, 32) := by kernel_rfl
theorem qcl_one (q : Qn) : ∀ u ∈ qcl q, u.oneCell' = true := by intro u hu; simp [qcl] at hu; rcases hu with rfl | rfl | rfl <;> rfl
theorem Try.infoRc : (Try.prog.info? 63).map (fun i => (i.zero, i.size, i.bytes)) = some (some (.agg #[.string ⟨#[]⟩, .int .i64 0, .int .i64 0, .int .u32 0, .bool false, .int .u64 0, .int .u64 0, .string ⟨#[]⟩, .string ⟨#[]⟩, .int .u32 0, .int .u32 0, .int .u32 0, .int .u32 0, .int .u32 0, .slice none 0 0, .string ⟨#[]⟩]), 16, 160) := by kernel_rfl
theorem rcl_one (x : Rcd × Option Addr × Nat) : ∀ u ∈ rcl x, u.oneCell' = true := by
  intro u hu
  simp [rcl, Rcd.cells] at hu
  rcases hu with rfl | rfl | rfl | rfl | rfl | rfl | rfl | rfl | rfl | rfl | rfl | rfl | rfl | rfl | rfl | rfl <;> rfl
theorem rowIn_rg {w : World} {A : Option Addr} {l : List (Rcd × Option Addr × Nat)} (h : RowIn w A (l.flatMap rcl)) {i : Nat} {x : Rcd × Option Addr × Nat} (hq : l[i]? = some x) :
    ∃ b off, A = some ⟨b, off, none⟩ ∧ b < w.heap.size ∧ w.rangeAt b (off + i * 16) [.string x.1.name, .int .i64 x.1.t, .int .i64 x.1.cl, .int .u32 x.1.ttl, .bool x.1.d.six, .int .u64 x.1.d.hi, .int .u64 x.1.d.lo, .string x.1.d.name, .string x.1.d.mail, .int .u32 x.1.d.n0, .int .u32 x.1.d.n1, .int .u32 x.1.d.n2, .int .u32 x.1.d.n3, .int .u32 x.1.d.n4, .slice x.2.1 x.1.d.texts.length x.2.2, .string x.1.d.raw] := by
  obtain ⟨b, off, h1, h2, h3⟩ := rowIn_r h hq
  exact ⟨b, off, h1, h2, fun j v hj => by rw [Nat.add_assoc]; exact h3 j v hj⟩
theorem range16 {w : World} {b o : Nat} {v0 v1 v2 v3 v4 v5 v6 v7 v8 v9 v10 v11 v12 v13 v14 v15 : Value} (h : w.rangeAt b o [v0, v1, v2, v3, v4, v5, v6, v7, v8, v9, v10, v11, v12, v13, v14, v15]) : w.cell? ⟨b, o, none⟩ = some (v0) ∧ w.cell? ⟨b, o + 1, none⟩ = some (v1) ∧ w.cell? ⟨b, o + 2, none⟩ = some (v2) ∧ w.cell? ⟨b, o + 3, none⟩ = some (v3) ∧ w.cell? ⟨b, o + 4, none⟩ = some (v4) ∧ w.cell? ⟨b, o + 5, none⟩ = some (v5) ∧ w.cell? ⟨b, o + 6, none⟩ = some (v6) ∧ w.cell? ⟨b, o + 7, none⟩ = some (v7) ∧ w.cell? ⟨b, o + 8, none⟩ = some (v8) ∧ w.cell? ⟨b, o + 9, none⟩ = some (v9) ∧ w.cell? ⟨b, o + 10, none⟩ = some (v10) ∧ w.cell? ⟨b, o + 11, none⟩ = some (v11) ∧ w.cell? ⟨b, o + 12, none⟩ = some (v12) ∧ w.cell? ⟨b, o + 13, none⟩ = some (v13) ∧ w.cell? ⟨b, o + 14, none⟩ = some (v14) ∧ w.cell? ⟨b, o + 15, none⟩ = some (v15) :=
  ⟨h 0 _ rfl, h 1 _ rfl, h 2 _ rfl, h 3 _ rfl, h 4 _ rfl, h 5 _ rfl, h 6 _ rfl, h 7 _ rfl, h 8 _ rfl, h 9 _ rfl, h 10 _ rfl, h 11 _ rfl, h 12 _ rfl, h 13 _ rfl, h 14 _ rfl, h 15 _ rfl⟩
theorem blk_range {w : World} {g : Nat} {T : TypeId} {cs : List Value} (h : Blk w g T cs.toArray) : w.rangeAt g 0 cs := fun j v hv => by
  rw [Nat.zero_add, h.cell j, List.getElem?_toArray]
  exact hv
theorem range_fr {w wx : World} {b o : Nat} {cs : List Value} (f : Fr (fun _ => False) w wx) (hb : b < w.heap.size) (h : w.rangeAt b o cs) : wx.rangeAt b o cs := fun j v hv => (f.cell (p := ⟨b, o + j, none⟩) hb id).trans (h j v hv)
theorem at_far {w w1 wx : World} {b o : Nat} {v : Value} (f1 : Fr (fun _ => False) w w1) (f2 : Fr (fun _ => False) w1 wx) (hb : b < w.heap.size) (h : w.cell? ⟨b, o, none⟩ = some v) : wx.cell? ⟨b, o, none⟩ = some v :=
  ((f1.then f2).cell (p := ⟨b, o, none⟩) hb id).trans h
theorem q_neq_self (q : Qn) (hq : QOk q) (w : World) :
    (Go.binOp .neq 25 (.agg #[.string q.1, .int .i64 q.2.1, .int .i64 q.2.2]) (.agg #[.string q.1, .int .i64 q.2.1, .int .i64 q.2.2])).run Try.prog w = .ok (.bool false) w := by
  have g1 : q.1.size ≤ maxLen := by have := hq.1; simp only [maxLen]; omega
  obtain ⟨r, hr, hiff⟩ := run_equalIn_deep (P := Try.prog) 9997 3 25 (by kernel_rfl) w 3 3 _ _ _ _ (q_formed q.1 q.2.1 q.2.2) (q_formed q.1 q.2.1 q.2.2) (q_keyLits q.1 q.2.1 q.2.2 g1 hq.2.1 hq.2.2) (q_keyLits q.1 q.2.1 q.2.2 g1 hq.2.1 hq.2.2)
  have e : r = true := hiff.2 rfl
  rw [run_neq_struct, hr, e]
  rfl
set_option maxRecDepth 100000 in
set_option maxHeartbeats 16000000 in
theorem recordBack_walk (l : List Qn) (A : Option Addr) (ka : Nat) (m : List (Rcd × Option Addr × Nat)) (B : Option Addr) (kb : Nat) (w : World) (hl : RowIn w A (l.flatMap qcl)) (hlq : ∀ q ∈ l, QOk q) (hm : RowIn w B (m.flatMap rcl)) (hmr : ∀ x ∈ m, RcIn w x.2.1 x.1 ∧ x.1.name.size + x.1.d.light ≤ 1048576) :
    Calls Try.prog 11 #[.slice A l.length ka, .slice B m.length kb] w fun e w' => e = .returned (.bool true) ∧ Below w.heap.size w w' := by
  have HL := Lib.hid (And.intro hl (And.intro hlq (And.intro hm hmr)))
  clear hl hlq hm hmr
  obtain ⟨iq, hqi, hqz0, hqz1, hqz2⟩ := info_parts Try.infoQn
  obtain ⟨ii, hii, hiz0, hiz1, hiz2⟩ := info_parts Try.infoInt
  obtain ⟨ir, hri, hrz0, hrz1, hrz2⟩ := info_parts Try.infoRc
  by_cases h20 : l.length ≤ 20 ∧ m.length ≤ 20
  · obtain ⟨h1, h2⟩ := h20
    go_enter Try.func11, Try.ntmps11
    go_upto_region 10 with (first
      | (go_at_call 28
         (with_reducible refine (lives10_any _).mono ?_)
         rintro e w1 ⟨rfl, f1⟩
         have H1 := Lib.hid f1
         clear f1)
      | (go_at_call 30
         (with_reducible refine (pnew_pd _).mono ?_)
         rintro e w2 ⟨p, F, rfl, g1⟩
         have H2 := Lib.hid (RB.start g1)
         clear g1)
      | fail "no arm")
    -- loop 1 (slots: 5 the packer, 6 the ends, 7 the questions, 8 the records, 9 the index)
    go_loopg [6, 7, 9] l.length (fun g ev qv i wr => ∃ (k : Nat) (F1 : Nat → Prop) (A1 : Option Addr) (c1 : Nat) (C1 : Option Addr) (e1 : Nat), g = l.length - k ∧ k ≤ l.length ∧ i = .int .i64 (k : Nat) ∧ qv = .slice A1 (qacc l k).length c1 ∧ ev = .slice C1 (qends pk0 (qacc l k)).length e1 ∧
      RB w1 wr p F1 (qputsB pk0 (qacc l k)) A1 c1 (qacc l k) none 0 [] C1 e1 (qends pk0 (qacc l k)) ∧ ∀ q ∈ l.take k, q.1.size ≤ 400)
    case atStart => exact ⟨0, F, none, 0, none, 0, rfl, Nat.zero_le _, rfl, rfl, rfl, H2.out, fun q hq => by simp at hq⟩
    case round =>
      obtain ⟨k, F1, A1, c1, C1, e1, rfl, hk, rfl, rfl, rfl, hrb, hsz⟩ := hrel
      have HS := Lib.hid hsz
      have HU := Lib.hid (qacc_facts (by omega) hsz)
      have hGl : (qacc l k).length ≤ k := qacc_len l k
      have hEl : (qends pk0 (qacc l k)).length ≤ k := by rw [qends_len]; exact hGl
      have HR := Lib.hid hrb
      clear hrb hsz
      by_cases hlt : k < l.length
      · obtain ⟨q, hx⟩ : ∃ q, l[k]? = some q := ⟨l[k], List.getElem?_eq_getElem hlt⟩
        have HX := Lib.hid hx
        have HN := Lib.hid (qacc_succ hx)
        obtain ⟨b, off, rfl, hbs, d0, d1, d2⟩ := rowIn_q HL.out.1 hx
        have HD := Lib.hid (And.intro d0 (And.intro d1 d2))
        clear d0 d1 d2 hx
        have x0 := at_far H1.out HR.out.pd.fr hbs HD.out.1
        have x1 := at_far H1.out HR.out.pd.fr hbs HD.out.2.1
        have x2 := at_far H1.out HR.out.pd.fr hbs HD.out.2.2
        by_cases hx4 : q.1.size ≤ 400
        · have hT : ∀ z ∈ l.take (k + 1), z.1.size ≤ 400 := by
            intro z hz
            rw [take_succ_of HX.out] at hz
            rcases List.mem_append.1 hz with h | h
            · exact HS.out z h
            · rw [List.mem_singleton.1 h]; exact hx4
          have HT := Lib.hid hT
          clear hT
          by_cases hc : qcheck q.1 q.2.1 q.2.2 = 0
          · have HC := Lib.hid hc
            have hG1 : qacc l (k + 1) = qacc l k ++ [q] := by rw [HN.out, if_pos hc]
            have HG := Lib.hid hG1
            clear hG1
            clear hc
            obtain ⟨G, hG⟩ : ∃ G, G = qacc l k := ⟨_, rfl⟩
            rw [← hG] at HU HR hGl hEl HG ⊢
            have HGG := Lib.hid hG
            clear hG
            obtain ⟨E, hE⟩ : ∃ E, E = qends pk0 G := ⟨_, rfl⟩
            rw [← hE] at HR hEl ⊢
            have HE := Lib.hid hE
            clear hE
            go_wp2_with (first
              | (go_at_call 54
                 (with_reducible refine (qput_ok HR.out.pd HU.out.1 q.1 q.2.1 q.2.2 (by have := HU.out.2.1; omega) HC.out).mono ?_)
                 rintro e w3 ⟨rfl, F3, g1, g2, g3⟩
                 have HP := Lib.hid (RB.put HR.out g1 g2 g3)
                 clear g1 g2 g3 x0 x1 x2
                 have x0 := at_far H1.out HP.out.pd.fr hbs HD.out.1
                 have x1 := at_far H1.out HP.out.pd.fr hbs HD.out.2.1
                 have x2 := at_far H1.out HP.out.pd.fr hbs HD.out.2.2)
              | (at_builtin; refine wpList_append_src rfl (.tmp 53) (.tmp 58) _ _ rfl 25 iq _ 3 32 Try.underlying34 hqi hqz0 hqz1 hqz2 rfl (by decide) A1 G.length c1 (G.flatMap qcl) (by rfl) (HP.out.quiet ((Fr.refl _ _).alloc _)).q _ 1 (qcl q) (by rfl)
                   (src_blk Try.underlying34 (vs := qcl q) (Blk.new w3 25 _) (qcl_one q)) (by simp only [maxLen]; omega) (by omega) ?_
                 intro A2 c2 w4 o1 o2 o3
                 have HQ := Lib.hid (RB.addq (HP.out.quiet ((Fr.refl _ _).alloc _)) o2 o1 o3)
                 clear o1 o2 o3)
              | (go_at_call 55
                 (with_reducible refine (len_pd HQ.out.pd).mono ?_)
                 rintro e w5 ⟨rfl, rfl⟩)
              | (at_builtin; refine wpList_append_src rfl (.tmp 60) (.tmp 63) _ _ rfl 3 ii _ 1 8 Try.underlying99 hii hiz0 hiz1 hiz2 rfl (by decide) C1 E.length e1 (endl E) (by rfl) (HQ.out.quiet ((Fr.refl _ _).alloc _)).e _ 1 [.int .i64 (((headB (qputsB pk0 G) q.1 q.2.1 q.2.2).x.b.length : Nat) : Int)] (by rfl)
                   (Src.ofSlice _ Try.underlying99 ⟨w4.heap.size, 0, none⟩ 1 1 [.int .i64 (((headB (qputsB pk0 G) q.1 q.2.1 q.2.2).x.b.length : Nat) : Int)] rfl (int_new _ _ _) (int_one _)) (by simp only [maxLen]; omega) (by omega) ?_
                 intro C2 e2 w6 o1 o2 o3
                 have HZ := Lib.hid (RB.adde (HQ.out.quiet ((Fr.refl _ _).alloc _)) o2 o1 o3)
                 clear o1 o2 o3)
              | fail "no arm")
            go_roundg (l.length - (k + 1))
            case measure => omega
            case rel =>
              have hz := HZ.out
              have e1' : qends pk0 (qacc l (k + 1)) = E ++ [(headB (qputsB pk0 G) q.1 q.2.1 q.2.2).x.b.length] := by rw [HG.out, qends_snoc, HE.out]
              have e2' : qputsB pk0 (qacc l (k + 1)) = headB (qputsB pk0 G) q.1 q.2.1 q.2.2 := by rw [HG.out, qputsB_snoc]
              rw [← e1', ← e2', ← HG.out] at hz
              exact ⟨k + 1, F3, A2, c2, C2, e2, rfl, by omega, by go_num, by rw [HG.out, List.length_append]; rfl, by rw [e1', List.length_append]; rfl, hz, HT.out⟩
          · have hne : (qcheck q.1 q.2.1 q.2.2 == 0) = false := by simp [hc]
            have hG1 : qacc l (k + 1) = qacc l k := by rw [HN.out, if_neg hc]
            have HG := Lib.hid (And.intro hG1 hc)
            clear hG1 hc
            go_wp2_with (first
              | (go_at_call 54
                 (with_reducible refine (qput_no HR.out.pd HU.out.1 q.1 q.2.1 q.2.2 (by have := HU.out.2.1; omega) HG.out.2).mono ?_)
                 rintro e w3 ⟨rfl, F3, g1, g2, g3⟩
                 have HP := Lib.hid (RB.put HR.out g1 g2 g3)
                 clear g1 g2 g3 x0 x1 x2)
              | fail "no arm")
            go_roundg (l.length - (k + 1))
            case measure => omega
            case rel => exact ⟨k + 1, F3, A1, c1, C1, e1, rfl, by omega, by go_num, by rw [HG.out.1], by rw [HG.out.1], by rw [HG.out.1]; exact HP.out, HT.out⟩
        · go_wp2_with fail
          go_ret
          exact ⟨rfl, (H1.out.then HR.out.pd.fr).below (fun _ h => h.elim) (Nat.le_refl _)⟩
      · have hke : k = l.length := by omega
        subst hke
        obtain ⟨G, hG⟩ : ∃ G, G = qacc l l.length := ⟨_, rfl⟩
        rw [← hG] at HU HR hGl hEl ⊢
        obtain ⟨y, hy⟩ : ∃ y, y = qputsB pk0 G := ⟨_, rfl⟩
        rw [← hy] at HU HR
        obtain ⟨E, hE⟩ : ∃ E, E = qends pk0 G := ⟨_, rfl⟩
        rw [← hE] at HR hEl ⊢
        have HGY := Lib.hid (And.intro hG (And.intro hy hE))
        clear hG hy hE
        go_upto_region 17 with fail
        go_loopg [6, 8, 10] m.length (fun g ev rv i w2 => ∃ (j : Nat) (F2 : Nat → Prop) (B2 : Option Addr) (c2 : Nat) (C2 : Option Addr) (e2 : Nat), g = m.length - j ∧ j ≤ m.length ∧ i = .int .i64 (j : Nat) ∧ rv = .slice B2 (raccx m j).length c2 ∧ ev = .slice C2 (E ++ rends y ((raccx m j).map Prod.fst)).length e2 ∧
          RB w1 w2 p F2 (rputsB y ((raccx m j).map Prod.fst)) A1 c1 G B2 c2 (raccx m j) C2 e2 (E ++ rends y ((raccx m j).map Prod.fst)) ∧ ∀ x ∈ m.take j, rlight x.1 = true)
        case atStart =>
          have e0 : E ++ rends y ((raccx m 0).map Prod.fst) = E := List.append_nil _
          refine ⟨0, F1, none, 0, C1, e1, rfl, Nat.zero_le _, rfl, rfl, ?_, ?_, fun x hx => by simp at hx⟩
          · rw [e0]
          · rw [e0]; exact HR.out
        case round =>
          obtain ⟨j, F2, B2, c2, C2, e2, rfl, hj, rfl, rfl, rfl, hrb, hsz⟩ := hrel
          have hok : ∀ x ∈ m.take j, x.1.ok ∧ rlight x.1 = true := fun x hx => ⟨(HL.out.2.2.2 x (List.mem_of_mem_take hx)).1.ok, hsz x hx⟩
          have HV := Lib.hid (raccx_facts (by omega) hok HU.out.1 (by have := HU.out.2.1; omega))
          have HOK := Lib.hid hok
          have hRl : (raccx m j).length ≤ j := raccx_len m j
          have hCl : (E ++ rends y ((raccx m j).map Prod.fst)).length ≤ 40 := by rw [List.length_append, rends_len, List.length_map]; omega
          have HRB := Lib.hid hrb
          clear hrb hsz hok
          by_cases hlt : j < m.length
          · obtain ⟨x, hx⟩ : ∃ x, m[j]? = some x := ⟨m[j], List.getElem?_eq_getElem hlt⟩
            have HX := Lib.hid (And.intro hx (HL.out.2.2.2 x (List.mem_iff_getElem?.2 ⟨j, hx⟩)))
            have HN := Lib.hid (raccx_succ hx)
            obtain ⟨b, off, rfl, hbs, d0⟩ := rowIn_rg HL.out.2.2.1 hx
            have HD := Lib.hid d0
            clear d0 hx
            have X0 := Lib.hid (range_fr (H1.out.then HRB.out.pd.fr) hbs HD.out)
            by_cases hlg : rlight x.1 = true
            · have HLG := Lib.hid hlg
              have hok2 : ∀ z ∈ m.take (j + 1), rlight z.1 = true := by
                intro z hz
                rw [take_succ_of HX.out.1] at hz
                rcases List.mem_append.1 hz with h | h
                · exact (HOK.out z h).2
                · rw [List.mem_singleton.1 h]; exact hlg
              have HOK2 := Lib.hid hok2
              have hll := (rlight_size hlg).2.1
              clear hlg hok2
              obtain ⟨R, hR⟩ : ∃ R, R = raccx m j := ⟨_, rfl⟩
              rw [← hR] at HRB HV hRl hCl HN ⊢
              obtain ⟨z, hz⟩ : ∃ z, z = rputsB y (R.map Prod.fst) := ⟨_, rfl⟩
              rw [← hz] at HRB HV
              obtain ⟨E2, hE2⟩ : ∃ E2, E2 = E ++ rends y (R.map Prod.fst) := ⟨_, rfl⟩
              rw [← hE2] at HRB hCl ⊢
              have HRZ := Lib.hid (And.intro hR (And.intro hz hE2))
              clear hR hz hE2
              by_cases hc : x.1.check = 0
              · have hG1 : raccx m (j + 1) = R ++ [x] := by rw [HN.out, if_pos hc]
                have HC := Lib.hid (And.intro hG1 hc)
                clear hG1 hc
                go_upto_region 24 with (first
                  | (refine wpList_load_mid rfl 63 _ rfl b (off + j * 16) (by rfl) [.string x.1.name, .int .i64 x.1.t, .int .i64 x.1.cl, .int .u32 x.1.ttl, .bool x.1.d.six, .int .u64 x.1.d.hi, .int .u64 x.1.d.lo, .string x.1.d.name, .string x.1.d.mail, .int .u32 x.1.d.n0, .int .u32 x.1.d.n1, .int .u32 x.1.d.n2, .int .u32 x.1.d.n3, .int .u32 x.1.d.n4, .slice x.2.1 x.1.d.texts.length x.2.2, .string x.1.d.raw] _ X0.out Try.underlying63 rfl (by kernel_rfl) ?_)
                  | (go_at_call 29
                     (with_reducible refine (rlight_any x.1 x.2.1 x.2.2 wr (HX.out.2.1.fr0 (H1.out.then HRB.out.pd.fr)) (by omega) (by have := HX.out.2.2; omega)).mono ?_)
                     rintro e w3 ⟨rfl, f3⟩
                     rw [HLG.out]
                     have H3 := Lib.hid (HRB.out.quiet f3)
                     have X1 := Lib.hid (range_fr (H1.out.then H3.out.pd.fr) hbs HD.out)
                     clear f3)
                  | (go_at_call 55
                     (with_reducible refine (len_pd H3.out.pd).mono ?_)
                     rintro e w5 ⟨rfl, rfl⟩)
                  | (refine wpList_load_mid rfl 63 _ rfl b (off + j * 16) (by rfl) [.string x.1.name, .int .i64 x.1.t, .int .i64 x.1.cl, .int .u32 x.1.ttl, .bool x.1.d.six, .int .u64 x.1.d.hi, .int .u64 x.1.d.lo, .string x.1.d.name, .string x.1.d.mail, .int .u32 x.1.d.n0, .int .u32 x.1.d.n1, .int .u32 x.1.d.n2, .int .u32 x.1.d.n3, .int .u32 x.1.d.n4, .slice x.2.1 x.1.d.texts.length x.2.2, .string x.1.d.raw] _ X1.out Try.underlying63 rfl (by kernel_rfl) ?_)
                  | (go_at_call 31
                     (with_reducible refine (rput_ok H3.out.pd HV.out.1 x.1 x.2.1 x.2.2 (HX.out.2.1.fr0 H1.out) (by have := HV.out.2.1; omega) HC.out.2).mono ?_)
                     rintro e w4 ⟨rfl, F4, g1, g2, g3⟩
                     have H4 := Lib.hid (RB.put H3.out g1 g2 g3)
                     have X2 := Lib.hid (range_fr (H1.out.then H4.out.pd.fr) hbs HD.out)
                     clear g1 g2 g3)
                  | (refine wpList_load_mid rfl 63 _ rfl b (off + j * 16) (by rfl) [.string x.1.name, .int .i64 x.1.t, .int .i64 x.1.cl, .int .u32 x.1.ttl, .bool x.1.d.six, .int .u64 x.1.d.hi, .int .u64 x.1.d.lo, .string x.1.d.name, .string x.1.d.mail, .int .u32 x.1.d.n0, .int .u32 x.1.d.n1, .int .u32 x.1.d.n2, .int .u32 x.1.d.n3, .int .u32 x.1.d.n4, .slice x.2.1 x.1.d.texts.length x.2.2, .string x.1.d.raw] _ X2.out Try.underlying63 rfl (by kernel_rfl) ?_)
                  | (at_builtin; refine wpList_append_src rfl (.tmp 86) (.tmp 91) _ _ rfl 63 ir _ 16 160 Try.underlying35 hri hrz0 hrz1 hrz2 rfl (by decide) B2 R.length c2 (R.flatMap rcl) (by rfl) (H4.out.quiet ((Fr.refl _ _).alloc _)).r _ 1 (rcl x) (by rfl)
                       (src_blk Try.underlying35 (vs := rcl x) (Blk.new w4 63 _) (rcl_one x)) (by simp only [maxLen]; omega) (by omega) ?_
                     intro B3 c3 w5 o1 o2 o3
                     have H5 := Lib.hid (RB.addr (H4.out.quiet ((Fr.refl _ _).alloc _)) o2 o1 o3)
                     clear o1 o2 o3)
                  | (go_at_call 55
                     (with_reducible refine (len_pd H5.out.pd).mono ?_)
                     rintro e w6 ⟨rfl, rfl⟩)
                  | (at_builtin; refine wpList_append_src rfl (.tmp 93) (.tmp 96) _ _ rfl 3 ii _ 1 8 Try.underlying99 hii hiz0 hiz1 hiz2 rfl (by decide) C2 E2.length e2 (endl E2) (by rfl) (H5.out.quiet ((Fr.refl _ _).alloc _)).e _ 1 [.int .i64 (((rputB z x.1).x.b.length : Nat) : Int)] (by rfl)
                       (Src.ofSlice _ Try.underlying99 ⟨w5.heap.size, 0, none⟩ 1 1 [.int .i64 (((rputB z x.1).x.b.length : Nat) : Int)] rfl (int_new _ _ _) (int_one _)) (by simp only [maxLen]; omega) (by omega) ?_
                     intro C3 e3 w7 o1 o2 o3
                     have H7 := Lib.hid (RB.adde (H5.out.quiet ((Fr.refl _ _).alloc _)) o2 o1 o3)
                     clear o1 o2 o3)
                  | fail "no arm")
                have hrp := HC.out.2
                obtain ⟨_, _, _, _, _, _, hle, _⟩ := rput_facts HV.out.1 HX.out.2.1.ok hrp (by have := HV.out.2.1; have := size_light x.1.t x.1.d; omega)
                have hze : rsizeB x.1 = ((x.1.name.size + 11 + x.1.d.size (whatN x.1.t) : Nat) : Int) := by
                  unfold rsizeB
                  rw [if_pos (by rw [rcheckB_eq]; exact hrp)]
                  omega
                obtain ⟨nz, hnz⟩ : ∃ nz, nz = x.1.name.size + 11 + x.1.d.size (whatN x.1.t) := ⟨_, rfl⟩
                rw [← hnz] at hze
                have hle' : (rputB z x.1).x.b.length ≤ z.x.b.length + nz := by omega
                have hb1 := HV.out.2.1
                have hb2 := rlight_size HLG.out
                have hb3 : nz ≤ 2451 := by rw [hnz]; exact hb2.1
                have HZE := Lib.hid hze
                clear hze hnz hle hrp hb2
                obtain ⟨a1, ha1⟩ : ∃ a1, a1 = (rputB z x.1).x.b.length := ⟨_, rfl⟩
                obtain ⟨b1, hb1'⟩ : ∃ b1, b1 = z.x.b.length := ⟨_, rfl⟩
                rw [← ha1, ← hb1'] at hle'
                rw [← hb1'] at hb1 ⊢
                have HA1 := Lib.hid ha1
                clear ha1 hb1'
                have hsub : IntKind.i64.wrap (((a1 : Nat) : Int) - ((b1 : Nat) : Int)) = ((a1 : Nat) : Int) - ((b1 : Nat) : Int) := IntWalk.i64_in _ (by omega)
                have hgt : decide (((nz : Nat) : Int) < ((a1 : Nat) : Int) - ((b1 : Nat) : Int)) = false := by rw [decide_eq_false_iff_not]; omega
                obtain ⟨y0, y1, y2, y3, y4, y5, y6, y7, y8, y9, y10, y11, y12, y13, y14, y15⟩ := range16 (range_fr ((H1.out.then H7.out.pd.fr).drew) hbs HD.out)
                go_region_held3 (fun w' => w'.cell? ⟨b, off + j * 16, none⟩ = some (.string x.1.name) ∧ w'.cell? ⟨b, off + j * 16 + 1, none⟩ = some (.int .i64 x.1.t) ∧ w'.cell? ⟨b, off + j * 16 + 2, none⟩ = some (.int .i64 x.1.cl) ∧ w'.cell? ⟨b, off + j * 16 + 3, none⟩ = some (.int .u32 x.1.ttl) ∧ w'.cell? ⟨b, off + j * 16 + 4, none⟩ = some (.bool x.1.d.six) ∧ w'.cell? ⟨b, off + j * 16 + 5, none⟩ = some (.int .u64 x.1.d.hi) ∧ w'.cell? ⟨b, off + j * 16 + 6, none⟩ = some (.int .u64 x.1.d.lo) ∧ w'.cell? ⟨b, off + j * 16 + 7, none⟩ = some (.string x.1.d.name) ∧ w'.cell? ⟨b, off + j * 16 + 8, none⟩ = some (.string x.1.d.mail) ∧ w'.cell? ⟨b, off + j * 16 + 9, none⟩ = some (.int .u32 x.1.d.n0) ∧ w'.cell? ⟨b, off + j * 16 + 10, none⟩ = some (.int .u32 x.1.d.n1) ∧ w'.cell? ⟨b, off + j * 16 + 11, none⟩ = some (.int .u32 x.1.d.n2) ∧ w'.cell? ⟨b, off + j * 16 + 12, none⟩ = some (.int .u32 x.1.d.n3) ∧ w'.cell? ⟨b, off + j * 16 + 13, none⟩ = some (.int .u32 x.1.d.n4) ∧ w'.cell? ⟨b, off + j * 16 + 14, none⟩ = some (.slice x.2.1 x.1.d.texts.length x.2.2) ∧ w'.cell? ⟨b, off + j * 16 + 15, none⟩ = some (.string x.1.d.raw))
                  (first | with_reducible exact ⟨y0, y1, y2, y3, y4, y5, y6, y7, y8, y9, y10, y11, y12, y13, y14, y15⟩ | with_reducible exact ⟨z0, z1, z2, z3, z4, z5, z6, z7, z8, z9, z10, z11, z12, z13, z14, z15⟩)
                  (first
                    | (go_at_call 55
                       (with_reducible refine (len_pd (H7.out.quiet ((Fr.refl _ _).drew)).pd).mono ?_)
                       rintro e w6 ⟨rfl, rfl⟩
                       rw [← HA1.out])
                    | (go_at_call 56
                       (with_reducible refine (rsize_any x.1 x.2.1 x.2.2 w7.drew (HX.out.2.1.fr0 ((H1.out.then H7.out.pd.fr).drew)) (by omega)).mono ?_)
                       rintro e w8 ⟨rfl, f8⟩
                       rw [HZE.out]
                       have H8 := Lib.hid (H7.out.quiet f8.fromD)
                       obtain ⟨z0, z1, z2, z3, z4, z5, z6, z7, z8, z9, z10, z11, z12, z13, z14, z15⟩ := range16 (range_fr (H1.out.then H8.out.pd.fr) hbs HD.out))
                    | fail "no arm")
                clear y0 y1 y2 y3 y4 y5 y6 y7 y8 y9 y10 y11 y12 y13 y14 y15 z0 z1 z2 z3 z4 z5 z6 z7 z8 z9 z10 z11 z12 z13 z14 z15
                have HLE := Lib.hid (And.intro hgt hsub)
                go_wp2_with fail
                go_roundg (m.length - (j + 1))
                case measure => omega
                case rel =>
                  have e1' : E ++ rends y ((raccx m (j + 1)).map Prod.fst) = E2 ++ [(rputB z x.1).x.b.length] := by rw [HC.out.1, List.map_append, HRZ.out.2.2, HRZ.out.2.1]; show _ ++ rends y (_ ++ [x.1]) = _; rw [rends_snoc, List.append_assoc]
                  have e2' : rputsB y ((raccx m (j + 1)).map Prod.fst) = rputB z x.1 := by rw [HC.out.1, List.map_append, HRZ.out.2.1]; exact rputsB_snoc _ _ _
                  refine ⟨j + 1, F4, B3, c3, C3, e3, rfl, by omega, by go_num, by rw [HC.out.1, List.length_append]; rfl, by rw [e1', List.length_append]; rfl, ?_, HOK2.out⟩
                  rw [e1', e2', HC.out.1]
                  exact H8.out
              · have hne : (x.1.check == 0) = false := by simp [hc]
                have hG1 : raccx m (j + 1) = R := by rw [HN.out, if_neg hc]
                have HC := Lib.hid (And.intro hG1 hc)
                clear hG1 hc
                obtain ⟨ck, hck⟩ : ∃ ck, ck = x.1.check := ⟨_, rfl⟩
                rw [← hck] at hne
                have HCK := Lib.hid hck
                clear hck
                go_wp2_with (first
                  | (refine wpList_load_mid rfl 63 _ rfl b (off + j * 16) (by rfl) [.string x.1.name, .int .i64 x.1.t, .int .i64 x.1.cl, .int .u32 x.1.ttl, .bool x.1.d.six, .int .u64 x.1.d.hi, .int .u64 x.1.d.lo, .string x.1.d.name, .string x.1.d.mail, .int .u32 x.1.d.n0, .int .u32 x.1.d.n1, .int .u32 x.1.d.n2, .int .u32 x.1.d.n3, .int .u32 x.1.d.n4, .slice x.2.1 x.1.d.texts.length x.2.2, .string x.1.d.raw] _ X0.out Try.underlying63 rfl (by kernel_rfl) ?_)
                  | (go_at_call 29
                     (with_reducible refine (rlight_any x.1 x.2.1 x.2.2 wr (HX.out.2.1.fr0 (H1.out.then HRB.out.pd.fr)) (by omega) (by have := HX.out.2.2; omega)).mono ?_)
                     rintro e w3 ⟨rfl, f3⟩
                     rw [HLG.out]
                     have H3 := Lib.hid (HRB.out.quiet f3)
                     have X1 := Lib.hid (range_fr (H1.out.then H3.out.pd.fr) hbs HD.out)
                     clear f3)
                  | (go_at_call 55
                     (with_reducible refine (len_pd H3.out.pd).mono ?_)
                     rintro e w5 ⟨rfl, rfl⟩)
                  | (refine wpList_load_mid rfl 63 _ rfl b (off + j * 16) (by rfl) [.string x.1.name, .int .i64 x.1.t, .int .i64 x.1.cl, .int .u32 x.1.ttl, .bool x.1.d.six, .int .u64 x.1.d.hi, .int .u64 x.1.d.lo, .string x.1.d.name, .string x.1.d.mail, .int .u32 x.1.d.n0, .int .u32 x.1.d.n1, .int .u32 x.1.d.n2, .int .u32 x.1.d.n3, .int .u32 x.1.d.n4, .slice x.2.1 x.1.d.texts.length x.2.2, .string x.1.d.raw] _ X1.out Try.underlying63 rfl (by kernel_rfl) ?_)
                  | (go_at_call 31
                     (with_reducible refine (rput_no H3.out.pd HV.out.1 x.1 x.2.1 x.2.2 (HX.out.2.1.fr0 H1.out) (by have := HV.out.2.1; omega) HC.out.2).mono ?_)
                     rintro e w4 ⟨rfl, F4, g1, g2, g3⟩
                     rw [← HCK.out]
                     have H4 := Lib.hid (RB.put H3.out g1 g2 g3)
                     clear g1 g2 g3)
                  | fail "no arm")
                go_roundg (m.length - (j + 1))
                case measure => omega
                case rel =>
                  refine ⟨j + 1, F4, B2, c2, C2, e2, rfl, by omega, by go_num, by rw [HC.out.1], by rw [HC.out.1, HRZ.out.2.2], ?_, HOK2.out⟩
                  rw [HC.out.1, ← HRZ.out.2.1, ← HRZ.out.2.2]
                  exact H4.out
            · have hlf : rlight x.1 = false := by simpa using hlg
              have HLG := Lib.hid hlf
              clear hlg hlf
              go_wp2_with (first
                | (refine wpList_load_mid rfl 63 _ rfl b (off + j * 16) (by rfl) [.string x.1.name, .int .i64 x.1.t, .int .i64 x.1.cl, .int .u32 x.1.ttl, .bool x.1.d.six, .int .u64 x.1.d.hi, .int .u64 x.1.d.lo, .string x.1.d.name, .string x.1.d.mail, .int .u32 x.1.d.n0, .int .u32 x.1.d.n1, .int .u32 x.1.d.n2, .int .u32 x.1.d.n3, .int .u32 x.1.d.n4, .slice x.2.1 x.1.d.texts.length x.2.2, .string x.1.d.raw] _ X0.out Try.underlying63 rfl (by kernel_rfl) ?_)
                | (go_at_call 29
                   (with_reducible refine (rlight_any x.1 x.2.1 x.2.2 wr (HX.out.2.1.fr0 (H1.out.then HRB.out.pd.fr)) (by have := HX.out.2.2; omega) (by have := HX.out.2.2; omega)).mono ?_)
                   rintro e w3 ⟨rfl, f3⟩
                   rw [HLG.out]
                   have H3 := Lib.hid (HRB.out.quiet f3)
                   clear f3)
                | fail "no arm")
              go_ret
              exact ⟨rfl, (H1.out.then H3.out.pd.fr).below (fun _ h => h.elim) (Nat.le_refl _)⟩
          · have hje : j = m.length := by omega
            subst hje
            obtain ⟨R, hR⟩ : ∃ R, R = raccx m m.length := ⟨_, rfl⟩
            rw [← hR] at HRB HV hRl hCl ⊢
            obtain ⟨z, hz⟩ : ∃ z, z = rputsB y (R.map Prod.fst) := ⟨_, rfl⟩
            rw [← hz] at HRB HV
            obtain ⟨E2, hE2⟩ : ∃ E2, E2 = E ++ rends y (R.map Prod.fst) := ⟨_, rfl⟩
            rw [← hE2] at HRB hCl ⊢
            have hSl : (⟨z.x.b.toArray⟩ : ByteArray).data.toList = z.x.b := by simp
            have hSz : (⟨z.x.b.toArray⟩ : ByteArray).size = z.x.b.length := by simp [ByteArray.size]
            obtain ⟨S, hS⟩ : ∃ S : ByteArray, S = ⟨z.x.b.toArray⟩ := ⟨_, rfl⟩
            rw [← hS] at hSl hSz
            have hzb : z.x.b.length ≤ 57120 := by have := HV.out.2.1; omega
            have hSb : S.size ≤ 57120 := by omega
            have hqs : ∀ q ∈ l, q.1.size ≤ 400 := fun q hq => HS.out q (by rw [List.take_length]; exact hq)
            have hrs : ∀ x ∈ m, x.1.ok ∧ rlight x.1 = true := fun x hx => HOK.out x (by rw [List.take_length]; exact hx)
            have hqst : ∀ t q, G[t]? = some q → qreadC S ((qputsB pk0 (G.take t)).x.b.length : Nat) = (q, (((qputsB pk0 (G.take (t + 1))).x.b.length : Nat) : Int), 0) := fun t q h => by
              rw [qreadC_eq, hSl, hz, hR, HGY.out.2.1, HGY.out.1]
              rw [HGY.out.1] at h
              exact q_step h1 h2 hqs hrs h
            have hrst : ∀ t x, R[t]? = some x → rreadC S ((rputsB y ((R.map Prod.fst).take t)).x.b.length : Nat) = (x.1, (((rputsB y ((R.map Prod.fst).take (t + 1))).x.b.length : Nat) : Int), 0) := fun t x h => by
              rw [rreadC_eq, hSl, hz, hR, HGY.out.2.1, HGY.out.1]
              rw [hR] at h
              exact r_step h1 h2 hqs hrs h
            have hEt : ∀ t, t < G.length → E2[t]? = some (qputsB pk0 (G.take (t + 1))).x.b.length := fun t ht => by
              rw [hE2, List.getElem?_append, if_pos (by rw [HGY.out.2.2, qends_len]; exact ht), HGY.out.2.2]
              exact qends_get G pk0 t ht
            have hRt : ∀ t, t < R.length → E2[G.length + t]? = some (rputsB y ((R.map Prod.fst).take (t + 1))).x.b.length := fun t ht => by
              have hEl' : E.length = G.length := by rw [HGY.out.2.2, qends_len]
              rw [hE2, List.getElem?_append, if_neg (by omega), hEl', Nat.add_sub_cancel_left]
              exact rends_get (R.map Prod.fst) y t (by rw [List.length_map]; exact ht)
            have hmemG : ∀ q ∈ G, QOk q := fun q hq => HL.out.2.1 q (List.mem_of_mem_take (qacc_mem (by rw [← HGY.out.1]; exact hq)))
            have hmemR : ∀ x ∈ R, RcIn w x.2.1 x.1 ∧ x.1.name.size + x.1.d.light ≤ 1048576 := fun x hx => HL.out.2.2.2 x (List.mem_of_mem_take (raccx_mem (by rw [← hR]; exact hx)).1)
            have HA := Lib.hid (And.intro hqst (And.intro hrst (And.intro hEt (And.intro hRt (And.intro hmemG hmemR)))))
            have HZ := Lib.hid (And.intro hz (And.intro hS hSz))
            have HY : Hid (y = qputsB pk0 G) := HGY.out.2.1
            have hGl2 : G.length ≤ 20 := by omega
            have hRl2 : R.length ≤ 20 := by omega
            clear hqst hrst hEt hRt hmemG hmemR hR hz hE2 hS hSl hSz hqs hrs HGY HOK HV HU HS
            go_upto_region 28 with (first
              | (go_at_call 33
                 (with_reducible refine (text_pd HRB.out.pd).mono ?_)
                 rintro e w3 ⟨rfl, rfl⟩
                 rw [← HZ.out.2.1])
              | fail "no arm")
            go_loopg [13, 14] G.length (fun g av iv w3 => ∃ t : Nat, g = G.length - t ∧ t ≤ G.length ∧ iv = .int .i64 (t : Nat) ∧ av = .int .i64 ((qputsB pk0 (G.take t)).x.b.length : Nat) ∧ RB w1 w3 p F2 z A1 c1 G B2 c2 R C2 e2 E2)
            case atStart => exact ⟨0, rfl, Nat.zero_le _, rfl, rfl, HRB.out⟩
            case round =>
              obtain ⟨t, rfl, ht, rfl, rfl, hrb⟩ := hrel
              have HR3 := Lib.hid hrb
              clear hrb
              by_cases hlt : t < G.length
              · obtain ⟨q, hq⟩ : ∃ q, G[t]? = some q := ⟨G[t], List.getElem?_eq_getElem hlt⟩
                have hrd := readq_any S ((qputsB pk0 (G.take t)).x.b.length : Nat) wr (by omega)
                unfold QrdPost at hrd
                rw [HA.out.1 t q hq] at hrd
                obtain ⟨n1, hn1⟩ : ∃ n1, n1 = (qputsB pk0 (G.take (t + 1))).x.b.length := ⟨_, rfl⟩
                rw [← hn1] at hrd
                have hen : (endl E2)[t]? = some (.int .i64 ((n1 : Nat) : Int)) := by unfold endl; rw [List.getElem?_map, HA.out.2.2.1 t hlt, hn1]; rfl
                obtain ⟨bq, oq, rfl, hbq, d0, d1, d2⟩ := rowIn_q (own_rowIn HR3.out.q) hq
                obtain ⟨be, rfl, d3⟩ := own_cell HR3.out.e hen
                have HQN := Lib.hid (q_neq_self q (HA.out.2.2.2.2.1 q (List.mem_iff_getElem?.2 ⟨t, hq⟩)))
                have HRD := Lib.hid hrd
                have HD := Lib.hid (And.intro d0 (And.intro d1 (And.intro d2 d3)))
                have HN1 := Lib.hid (And.intro hn1 hq)
                clear hrd hen d0 d1 d2 d3 hn1 hq
                go_upto_region 31 with (first
                  | (go_at_call 57
                     (with_reducible refine HRD.out.mono ?_)
                     rintro e w4 ⟨rfl, f4⟩
                     have H4 := Lib.hid f4
                     clear f4)
                  | fail "no arm")
                obtain ⟨W, hW⟩ : ∃ W, W = w4.alloc (Obj.cells #[Value.string q.1, Value.int IntKind.i64 q.2.1, Value.int IntKind.i64 q.2.2] 25) := ⟨_, rfl⟩
                have hbl : Blk W w4.heap.size 25 #[Value.string q.1, Value.int IntKind.i64 q.2.1, Value.int IntKind.i64 q.2.2] := by rw [hW]; exact Blk.new _ _ _
                have hfW : Fr (fun _ => False) wr W := by rw [hW]; exact H4.out.alloc _
                rw [← hW]
                have x0 := hbl.cell 0
                have x1 := hbl.cell 1
                have x2 := hbl.cell 2
                have y0 : W.cell? ⟨bq, oq + t * 3, none⟩ = _ := (hfW.cell (p := ⟨bq, oq + t * 3, none⟩) hbq id).trans HD.out.1
                have y1 : W.cell? ⟨bq, oq + t * 3 + 1, none⟩ = _ := (hfW.cell (p := ⟨bq, oq + t * 3 + 1, none⟩) hbq id).trans HD.out.2.1
                have y2 : W.cell? ⟨bq, oq + t * 3 + 2, none⟩ = _ := (hfW.cell (p := ⟨bq, oq + t * 3 + 2, none⟩) hbq id).trans HD.out.2.2.1
                have y3 : W.cell? ⟨be, t, none⟩ = _ := (hfW.cell (p := ⟨be, t, none⟩) (World.block_lt_of_cell? wr _ HD.out.2.2.2) id).trans HD.out.2.2.2
                have hqn := HQN.out
                have HF := Lib.hid hfW
                have htE : (t : Int) < (E2.length : Int) := by have := (List.getElem?_eq_some_iff.1 (HA.out.2.2.1 t hlt)).1; omega
                have ht0 : (0 : Int) ≤ (t : Int) := by omega
                have htG : (t : Int) < (G.length : Int) := by omega
                clear hW hbl hfW
                go_quiet (fail)
                clear x0 x1 x2 y0 y1 y2 y3 hqn htE ht0 htG
                have H5 := Lib.hid (HR3.out.quiet (HF.out.drewN nq))
                generalize W.drewN nq = W5 at *
                go_wp2_with fail
                go_roundg (G.length - (t + 1))
                case measure => omega
                case rel => exact ⟨t + 1, rfl, by omega, by go_num, by rw [HN1.out.1], H5.out⟩
              · have hte : t = G.length := by omega
                subst hte
                rw [List.take_length]
                obtain ⟨yq, hyq⟩ : ∃ yq, yq = (qputsB pk0 G).x.b.length := ⟨_, rfl⟩
                have hy0 : (rputsB y ((R.map Prod.fst).take 0)).x.b.length = yq := by rw [hyq]; show y.x.b.length = _; rw [HY.out]
                rw [← hyq]
                have HR4 := Lib.hid HR3.out
                clear hyq
                go_upto_region 35 with fail
                go_loopg [13, 18] R.length (fun g av iv w3 => ∃ i : Nat, g = R.length - i ∧ i ≤ R.length ∧ iv = .int .i64 (i : Nat) ∧ av = .int .i64 ((rputsB y ((R.map Prod.fst).take i)).x.b.length : Nat) ∧ RB w1 w3 p F2 z A1 c1 G B2 c2 R C2 e2 E2)
                case atStart => exact ⟨0, rfl, Nat.zero_le _, rfl, by rw [hy0], HR4.out⟩
                case round =>
                  obtain ⟨i, rfl, hi, rfl, rfl, hrb⟩ := hrel
                  have HR5 := Lib.hid hrb
                  clear hrb hy0
                  by_cases hlt : i < R.length
                  · obtain ⟨x, hx⟩ : ∃ x, R[i]? = some x := ⟨R[i], List.getElem?_eq_getElem hlt⟩
                    have hrd := rread_any S ((rputsB y ((R.map Prod.fst).take i)).x.b.length : Nat) wr (by omega)
                    rw [HA.out.2.1 i x hx] at hrd
                    obtain ⟨n1, hn1⟩ : ∃ n1, n1 = (rputsB y ((R.map Prod.fst).take (i + 1))).x.b.length := ⟨_, rfl⟩
                    rw [← hn1] at hrd
                    have hen : (endl E2)[G.length + i]? = some (.int .i64 ((n1 : Nat) : Int)) := by unfold endl; rw [List.getElem?_map, HA.out.2.2.2.1 i hlt, hn1]; rfl
                    obtain ⟨bR, oR, rfl, hbR, d0⟩ := rowIn_rg (own_rowIn HR5.out.r) hx
                    obtain ⟨be, rfl, d3⟩ := own_cell HR5.out.e hen
                    have htE : ((G.length + i : Nat) : Int) < (E2.length : Int) := by have := (List.getElem?_eq_some_iff.1 (HA.out.2.2.2.1 i hlt)).1; omega
                    have hxm := HA.out.2.2.2.2.2 x (List.mem_iff_getElem?.2 ⟨i, hx⟩)
                    have HRD := Lib.hid hrd
                    have HD := Lib.hid (And.intro d0 d3)
                    have HN1 := Lib.hid (And.intro hn1 hxm)
                    clear hrd hen d0 d3 hn1 hx hxm
                    go_upto_region 38 with (first
                      | (go_at_call 58
                         (with_reducible refine HRD.out.mono ?_)
                         rintro e w4 ⟨Ax, cx, rfl, f4a, f4b, f4c⟩
                         unfold Rcd.cells
                         have H4 := Lib.hid (And.intro f4a (And.intro f4b f4c))
                         clear f4a f4b f4c)
                      | (refine wpList_store_part rfl 63 _ _ rfl w4.heap.size 0 (by rfl) _ (by rfl) 63 _ (Blk.new w4 63 _) (by kernel_rfl) (by simp [Value.oneCell']) (by simp) ([.string x.1.name, .int .i64 x.1.t, .int .i64 x.1.cl, .int .u32 x.1.ttl, .bool x.1.d.six, .int .u64 x.1.d.hi, .int .u64 x.1.d.lo, .string x.1.d.name, .string x.1.d.mail, .int .u32 x.1.d.n0, .int .u32 x.1.d.n1, .int .u32 x.1.d.n2, .int .u32 x.1.d.n3, .int .u32 x.1.d.n4, .slice Ax x.1.d.texts.length cx, .string x.1.d.raw]).toArray (by rfl) ?_
                         intro w5 b5 f5
                         have H5 := Lib.hid (And.intro b5 f5)
                         clear b5 f5)
                      | fail "no arm")
                    have f45 : Fr (fun _ => False) wr w5 := (H4.out.2.1.alloc _).step H5.out.2 (fun k hk => .inr (by subst hk; exact H4.out.2.1.size))
                    have f4x : Fr (fun _ => False) w4 w5 := ((Fr.refl _ _).alloc _).step H5.out.2 (fun k hk => .inr (by subst hk; exact Nat.le_refl _))
                    have hrc1 : RcIn w5 Ax x.1 := ⟨⟨HN1.out.2.1.d.hi, HN1.out.2.1.d.lo, HN1.out.2.1.d.num, H4.out.1.fr f4x (fun _ _ => id), HN1.out.2.1.d.len, HN1.out.2.1.d.raw⟩, HN1.out.2.1.t, HN1.out.2.1.cl, HN1.out.2.1.ttl⟩
                    have hrc2 : RcIn w5 x.2.1 x.1 := HN1.out.2.1.fr0 ((H1.out.then HR5.out.pd.fr).then f45)
                    have HRC := Lib.hid (And.intro (hrc1.fr0 ((Fr.refl _ _).drew)) (hrc2.fr0 ((Fr.refl (fun _ => False) w5).drew)))
                    have HSB := Lib.hid (show rsameB x.1 x.1 = true from (rsameB_iff _ _).2 rfl)
                    have hsk : ∀ wx, Fr (fun _ => False) w5 wx → wx.rangeAt w4.heap.size 0 [.string x.1.name, .int .i64 x.1.t, .int .i64 x.1.cl, .int .u32 x.1.ttl, .bool x.1.d.six, .int .u64 x.1.d.hi, .int .u64 x.1.d.lo, .string x.1.d.name, .string x.1.d.mail, .int .u32 x.1.d.n0, .int .u32 x.1.d.n1, .int .u32 x.1.d.n2, .int .u32 x.1.d.n3, .int .u32 x.1.d.n4, .slice Ax x.1.d.texts.length cx, .string x.1.d.raw] ∧ wx.rangeAt bR (oR + i * 16) [.string x.1.name, .int .i64 x.1.t, .int .i64 x.1.cl, .int .u32 x.1.ttl, .bool x.1.d.six, .int .u64 x.1.d.hi, .int .u64 x.1.d.lo, .string x.1.d.name, .string x.1.d.mail, .int .u32 x.1.d.n0, .int .u32 x.1.d.n1, .int .u32 x.1.d.n2, .int .u32 x.1.d.n3, .int .u32 x.1.d.n4, .slice x.2.1 x.1.d.texts.length x.2.2, .string x.1.d.raw] ∧ wx.cell? ⟨be, G.length + i, none⟩ = some (.int .i64 ((n1 : Nat) : Int)) := fun wx fx =>
                      ⟨range_fr fx H5.out.1.lt (blk_range H5.out.1), range_fr (f45.then fx) hbR HD.out.1, ((f45.then fx).cell (p := ⟨be, G.length + i, none⟩) (World.block_lt_of_cell? wr _ HD.out.2) id).trans HD.out.2⟩
                    have HS0 := Lib.hid (hsk w5.drew ((Fr.refl _ _).drew))
                    have HSK := Lib.hid hsk
                    have HF5 := Lib.hid f45
                    clear hrc1 hrc2 hsk f45 f4x
                    have hwr : IntKind.i64.wrap ((G.length : Int) + (i : Int)) = (G.length : Int) + (i : Int) := IntWalk.i64_in _ (by omega)
                    have hge0 : (0 : Int) ≤ (G.length : Int) + (i : Int) := by omega
                    have hltE : (G.length : Int) + (i : Int) < (E2.length : Int) := by omega
                    have htn : ((G.length : Int) + (i : Int)).toNat = G.length + i := by omega
                    have hi0 : (0 : Int) ≤ (i : Int) := by omega
                    have hiR : (i : Int) < (R.length : Int) := by omega
                    refine wp_region_held_drew (S := fun w' => w'.rangeAt w4.heap.size 0 [.string x.1.name, .int .i64 x.1.t, .int .i64 x.1.cl, .int .u32 x.1.ttl, .bool x.1.d.six, .int .u64 x.1.d.hi, .int .u64 x.1.d.lo, .string x.1.d.name, .string x.1.d.mail, .int .u32 x.1.d.n0, .int .u32 x.1.d.n1, .int .u32 x.1.d.n2, .int .u32 x.1.d.n3, .int .u32 x.1.d.n4, .slice Ax x.1.d.texts.length cx, .string x.1.d.raw] ∧ w'.rangeAt bR (oR + i * 16) [.string x.1.name, .int .i64 x.1.t, .int .i64 x.1.cl, .int .u32 x.1.ttl, .bool x.1.d.six, .int .u64 x.1.d.hi, .int .u64 x.1.d.lo, .string x.1.d.name, .string x.1.d.mail, .int .u32 x.1.d.n0, .int .u32 x.1.d.n1, .int .u32 x.1.d.n2, .int .u32 x.1.d.n3, .int .u32 x.1.d.n4, .slice x.2.1 x.1.d.texts.length x.2.2, .string x.1.d.raw] ∧ w'.cell? ⟨be, G.length + i, none⟩ = some (.int .i64 ((n1 : Nat) : Int))) (by kernel_rfl) HS0.out (fun hHeld => ?_)
                    refine wpAnyH_take (i := 0) (v := ?_) rfl (by kernel_rfl) (by kernel_rfl) (by kernel_rfl) (fun _ _ _ h => h) (Or.inl ⟨by rfl, ?_⟩) (by assumption) ?_
                    rotate_left
                    · intro w hSw
                      go_simp
                      try with_reducible rfl
                    try simp only [Act.put, List.setIfInBounds_toArray, List.set_cons_zero, List.set_cons_succ, List.getElem_toArray, List.getElem_cons_zero, List.getElem_cons_succ]
                    refine wpAnyH_take (i := 1) (v := ?_) rfl (by kernel_rfl) (by kernel_rfl) (by kernel_rfl) (fun _ _ _ h => h) (Or.inl ⟨by rfl, ?_⟩) (by assumption) ?_
                    rotate_left
                    · intro w hSw
                      go_simp
                      try with_reducible rfl
                    try simp only [Act.put, List.setIfInBounds_toArray, List.set_cons_zero, List.set_cons_succ, List.getElem_toArray, List.getElem_cons_zero, List.getElem_cons_succ]
                    refine wpAnyH_take (i := 2) (v := ?_) rfl (by kernel_rfl) (by kernel_rfl) (by kernel_rfl) (fun _ _ _ h => h) (Or.inl ⟨by rfl, ?_⟩) (by assumption) ?_
                    rotate_left
                    · intro w hSw
                      go_simp
                      try with_reducible rfl
                    try simp only [Act.put, List.setIfInBounds_toArray, List.set_cons_zero, List.set_cons_succ, List.getElem_toArray, List.getElem_cons_zero, List.getElem_cons_succ]
                    refine wpAnyH_take (i := 3) rfl (by kernel_rfl) (by kernel_rfl) (by kernel_rfl) (fun _ _ _ h => h) (yieldsIf_load_mid (by rfl) _ _ rfl w4.heap.size 0 (by rfl) [.string x.1.name, .int .i64 x.1.t, .int .i64 x.1.cl, .int .u32 x.1.ttl, .bool x.1.d.six, .int .u64 x.1.d.hi, .int .u64 x.1.d.lo, .string x.1.d.name, .string x.1.d.mail, .int .u32 x.1.d.n0, .int .u32 x.1.d.n1, .int .u32 x.1.d.n2, .int .u32 x.1.d.n3, .int .u32 x.1.d.n4, .slice Ax x.1.d.texts.length cx, .string x.1.d.raw] _ (fun w' h => h.1) Try.underlying63 rfl (by kernel_rfl)) (by assumption) ?_
                    try simp only [Act.put, List.setIfInBounds_toArray, List.set_cons_zero, List.set_cons_succ, List.getElem_toArray, List.getElem_cons_zero, List.getElem_cons_succ]
                    refine wpAnyH_take (i := 4) (v := ?_) rfl (by kernel_rfl) (by kernel_rfl) (by kernel_rfl) (fun _ _ _ h => h) (Or.inl ⟨by rfl, ?_⟩) (by assumption) ?_
                    rotate_left
                    · intro w hSw
                      go_simp
                      try with_reducible rfl
                    try simp only [Act.put, List.setIfInBounds_toArray, List.set_cons_zero, List.set_cons_succ, List.getElem_toArray, List.getElem_cons_zero, List.getElem_cons_succ]
                    refine wpAnyH_take (i := 5) (v := ?_) rfl (by kernel_rfl) (by kernel_rfl) (by kernel_rfl) (fun _ _ _ h => h) (Or.inl ⟨by rfl, ?_⟩) (by assumption) ?_
                    rotate_left
                    · intro w hSw
                      go_simp
                      try with_reducible rfl
                    try simp only [Act.put, List.setIfInBounds_toArray, List.set_cons_zero, List.set_cons_succ, List.getElem_toArray, List.getElem_cons_zero, List.getElem_cons_succ]
                    refine wpAnyH_take (i := 6) (v := ?_) rfl (by kernel_rfl) (by kernel_rfl) (by kernel_rfl) (fun _ _ _ h => h) (Or.inl ⟨by rfl, ?_⟩) (by assumption) ?_
                    rotate_left
                    · intro w hSw
                      go_simp
                      try with_reducible rfl
                    try simp only [Act.put, List.setIfInBounds_toArray, List.set_cons_zero, List.set_cons_succ, List.getElem_toArray, List.getElem_cons_zero, List.getElem_cons_succ]
                    refine wpAnyH_take (i := 7) rfl (by kernel_rfl) (by kernel_rfl) (by kernel_rfl) (fun _ _ _ h => h) (yieldsIf_load_mid (by rfl) _ _ rfl bR (oR + i * 16) (by rfl) [.string x.1.name, .int .i64 x.1.t, .int .i64 x.1.cl, .int .u32 x.1.ttl, .bool x.1.d.six, .int .u64 x.1.d.hi, .int .u64 x.1.d.lo, .string x.1.d.name, .string x.1.d.mail, .int .u32 x.1.d.n0, .int .u32 x.1.d.n1, .int .u32 x.1.d.n2, .int .u32 x.1.d.n3, .int .u32 x.1.d.n4, .slice x.2.1 x.1.d.texts.length x.2.2, .string x.1.d.raw] _ (fun w' h => h.2.1) Try.underlying63 rfl (by kernel_rfl)) (by assumption) ?_
                    try simp only [Act.put, List.setIfInBounds_toArray, List.set_cons_zero, List.set_cons_succ, List.getElem_toArray, List.getElem_cons_zero, List.getElem_cons_succ]
                    refine wpAnyH_ready (rs := [8]) (by kernel_rfl) (by simp) ?_
                    refine AllReadyH.cons rfl (fun K hK => ?_) AllReadyH.nil
                    go_simp
                    (with_reducible refine (rsame_any x.1 x.1 Ax x.2.1 cx x.2.2 w5.drew HRC.out.1 HRC.out.2).mono ?_)
                    rintro e w7 ⟨rfl, f7⟩
                    rw [HSB.out]
                    have H7 := Lib.hid f7.fromD
                    clear f7
                    refine hK.out _ _ (HSK.out _ H7.out) (fun hHeld => ?_)
                    clear hK K
                    try simp only [Act.put, List.setIfInBounds_toArray, List.set_cons_zero, List.set_cons_succ, List.getElem_toArray, List.getElem_cons_zero, List.getElem_cons_succ]
                    refine wpAnyH_take (i := 9) (v := ?_) rfl (by kernel_rfl) (by kernel_rfl) (by kernel_rfl) (fun _ _ _ h => h) (Or.inl ⟨by rfl, ?_⟩) (by assumption) ?_
                    rotate_left
                    · intro w hSw
                      go_simp
                      try with_reducible rfl
                    try simp only [Act.put, List.setIfInBounds_toArray, List.set_cons_zero, List.set_cons_succ, List.getElem_toArray, List.getElem_cons_zero, List.getElem_cons_succ]
                    refine wpAnyH_take (i := 10) (v := ?_) rfl (by kernel_rfl) (by kernel_rfl) (by kernel_rfl) (fun _ _ _ h => h) (Or.inl ⟨by rfl, ?_⟩) (by assumption) ?_
                    rotate_left
                    · intro w hSw
                      go_simp
                      try with_reducible rfl
                    try simp only [Act.put, List.setIfInBounds_toArray, List.set_cons_zero, List.set_cons_succ, List.getElem_toArray, List.getElem_cons_zero, List.getElem_cons_succ]
                    refine wpAnyH_take (i := 11) (v := ?_) rfl (by kernel_rfl) (by kernel_rfl) (by kernel_rfl) (fun _ _ _ h => h) (Or.inl ⟨by rfl, ?_⟩) (by assumption) ?_
                    rotate_left
                    · intro w hSw
                      go_simp
                      try with_reducible rfl
                    try simp only [Act.put, List.setIfInBounds_toArray, List.set_cons_zero, List.set_cons_succ, List.getElem_toArray, List.getElem_cons_zero, List.getElem_cons_succ]
                    refine wpAnyH_take (i := 12) (v := ?_) rfl (by kernel_rfl) (by kernel_rfl) (by kernel_rfl) (fun _ _ _ h => h) (Or.inl ⟨by rfl, ?_⟩) (by assumption) ?_
                    rotate_left
                    · intro w hSw
                      go_simp
                      try with_reducible rfl
                    try simp only [Act.put, List.setIfInBounds_toArray, List.set_cons_zero, List.set_cons_succ, List.getElem_toArray, List.getElem_cons_zero, List.getElem_cons_succ]
                    refine wpAnyH_take (i := 13) (v := ?_) rfl (by kernel_rfl) (by kernel_rfl) (by kernel_rfl) (fun _ _ _ h => h) (Or.inl ⟨by rfl, ?_⟩) (by assumption) ?_
                    rotate_left
                    · intro w hSw
                      go_simp
                      try with_reducible rfl
                    try simp only [Act.put, List.setIfInBounds_toArray, List.set_cons_zero, List.set_cons_succ, List.getElem_toArray, List.getElem_cons_zero, List.getElem_cons_succ]
                    refine wpAnyH_take (i := 14) (v := ?_) rfl (by kernel_rfl) (by kernel_rfl) (by kernel_rfl) (fun _ _ _ h => h) (Or.inl ⟨by rfl, ?_⟩) (by assumption) ?_
                    rotate_left
                    · intro w hSw
                      go_simp
                      try with_reducible rfl
                    try simp only [Act.put, List.setIfInBounds_toArray, List.set_cons_zero, List.set_cons_succ, List.getElem_toArray, List.getElem_cons_zero, List.getElem_cons_succ]
                    refine wpAnyH_take (i := 15) (v := ?_) rfl (by kernel_rfl) (by kernel_rfl) (by kernel_rfl) (fun _ _ _ h => h) (Or.inl ⟨by rfl, ?_⟩) (by assumption) ?_
                    rotate_left
                    · intro w hSw
                      go_simp
                      try with_reducible rfl
                    try simp only [Act.put, List.setIfInBounds_toArray, List.set_cons_zero, List.set_cons_succ, List.getElem_toArray, List.getElem_cons_zero, List.getElem_cons_succ]
                    refine wpAnyH_take (i := 16) (v := ?_) rfl (by kernel_rfl) (by kernel_rfl) (by kernel_rfl) (fun _ _ _ h => h) (Or.inl ⟨by rfl, ?_⟩) (by assumption) ?_
                    rotate_left
                    · intro w hSw
                      go_simp
                      try with_reducible rfl
                    try simp only [Act.put, List.setIfInBounds_toArray, List.set_cons_zero, List.set_cons_succ, List.getElem_toArray, List.getElem_cons_zero, List.getElem_cons_succ]
                    refine wpAnyH_take (i := 17) (v := ?_) rfl (by kernel_rfl) (by kernel_rfl) (by kernel_rfl) (fun _ _ _ h => h) (Or.inl ⟨by rfl, ?_⟩) (by assumption) ?_
                    rotate_left
                    · intro w hSw
                      go_simp
                      try with_reducible rfl
                    try simp only [Act.put, List.setIfInBounds_toArray, List.set_cons_zero, List.set_cons_succ, List.getElem_toArray, List.getElem_cons_zero, List.getElem_cons_succ]
                    refine wpAnyH_take (i := 18) (v := ?_) rfl (by kernel_rfl) (by kernel_rfl) (by kernel_rfl) (fun _ _ _ h => h) (Or.inl ⟨by rfl, ?_⟩) (by assumption) ?_
                    rotate_left
                    · intro w hSw
                      go_simp
                      try with_reducible rfl
                    try simp only [Act.put, List.setIfInBounds_toArray, List.set_cons_zero, List.set_cons_succ, List.getElem_toArray, List.getElem_cons_zero, List.getElem_cons_succ]
                    refine wpAnyH_take (i := 19) (v := ?_) rfl (by kernel_rfl) (by kernel_rfl) (by kernel_rfl) (fun _ _ _ h => h) (Or.inl ⟨by rfl, ?_⟩) (by assumption) ?_
                    rotate_left
                    · intro w hSw
                      have hc19 := hSw.2.2
                      go_simp
                      try with_reducible rfl
                    try simp only [Act.put, List.setIfInBounds_toArray, List.set_cons_zero, List.set_cons_succ, List.getElem_toArray, List.getElem_cons_zero, List.getElem_cons_succ]
                    refine wpAnyH_take (i := 20) (v := ?_) rfl (by kernel_rfl) (by kernel_rfl) (by kernel_rfl) (fun _ _ _ h => h) (Or.inl ⟨by rfl, ?_⟩) (by assumption) ?_
                    rotate_left
                    · intro w hSw
                      go_simp
                      try with_reducible rfl
                    try simp only [Act.put, List.setIfInBounds_toArray, List.set_cons_zero, List.set_cons_succ, List.getElem_toArray, List.getElem_cons_zero, List.getElem_cons_succ]
                    refine wpAnyH_take (i := 21) (v := ?_) rfl (by kernel_rfl) (by kernel_rfl) (by kernel_rfl) (fun _ _ _ h => h) (Or.inl ⟨by rfl, ?_⟩) (by assumption) ?_
                    rotate_left
                    · intro w hSw
                      go_simp
                      try with_reducible rfl
                    try simp only [Act.put, List.setIfInBounds_toArray, List.set_cons_zero, List.set_cons_succ, List.getElem_toArray, List.getElem_cons_zero, List.getElem_cons_succ]
                    refine wpAnyH_done (by kernel_rfl) ?_ _
                    clear hHeld hwr hge0 hltE htn hi0 hiR htE
                    have H8 := Lib.hid (HR5.out.quiet (HF5.out.then H7.out))
                    go_wp2_with fail
                    go_roundg (R.length - (i + 1))
                    case measure => omega
                    case rel => exact ⟨i + 1, rfl, by omega, by go_num, by rw [HN1.out.1], H8.out⟩
                  · have hie : i = R.length := by omega
                    subst hie
                    have hend : (rputsB y ((R.map Prod.fst).take R.length)).x.b.length = S.size := by
                      rw [List.take_of_length_le (by simp), HZ.out.2.2, HZ.out.1]
                    rw [hend]
                    have HF := Lib.hid (H1.out.then HR5.out.pd.fr)
                    go_wp2_with fail
                    go_ret
                    exact ⟨rfl, HF.out.below (fun _ h => h.elim) (Nat.le_refl _)⟩
  · have hb : (decide ((20 : Int) < l.length) || decide ((20 : Int) < m.length)) = true := by simp; omega
    by_cases h1 : (20 : Int) < l.length
    all_goals
      go_enter Try.func11, Try.ntmps11
      go_wp2_with (first
        | (go_at_call 28
           (with_reducible refine (lives10_any _).mono ?_)
           rintro e w1 ⟨rfl, f1⟩
           have H1 := Lib.hid f1
           clear f1)
        | fail "no arm")
      go_ret
      exact ⟨rfl, H1.out.below (fun _ h => h.elim) (Nat.le_refl _)⟩
#print axioms recordBack_walk
end Go.Proofs.Ytmnbbeeojpmneaa
