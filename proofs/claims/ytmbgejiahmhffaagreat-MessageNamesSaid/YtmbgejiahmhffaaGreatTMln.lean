/-
  LAYER 11: MessageNames, the walk.
-/
import Derived.Test.YtmbgejiahmhffaaGreatTMln0
namespace Go.Proofs.YtmbgejiahmhffaaGreat
open Go.RowKit
set_option linter.unusedVariables false
set_option linter.unusedSimpArgs false

/-- The two messages and what they have, as memory lies. -/
structure NmS (w0 w : World) (g1 M1 g2 G M2 : Nat) : Prop where
  m : Blk w M1 29 #[.int .u16 1, .bool false, .int .i64 0, .bool false, .bool false, .bool true, .bool false, .bool false, .bool false, .int .i64 0, .int .i64 1, .int .i64 1, .int .i64 0, .int .i64 0, .slice (some ⟨g1, 0, none⟩) 1 1, .slice none 0 0, .slice none 0 0, .slice none 0 0]
  q1 : RowIn w (some ⟨g1, 0, none⟩) ([exq].flatMap qcl)
  n : Blk w M2 29 #[.int .u16 1, .bool false, .int .i64 0, .bool false, .bool false, .bool true, .bool false, .bool false, .bool false, .int .i64 0, .int .i64 1, .int .i64 3, .int .i64 0, .int .i64 0, .slice (some ⟨g2, 0, none⟩) 1 1, .slice (some ⟨G, 0, none⟩) 3 3, .slice none 0 0, .slice none 0 0]
  q2 : RowIn w (some ⟨g2, 0, none⟩) ([exq].flatMap qcl)
  a : RowIn w (some ⟨G, 0, none⟩) ([xa, xa, xa].flatMap rcl)
  f : Fr (fun _ => False) w0 w
theorem NmS.fr {w0 w w' : World} {g1 M1 g2 G M2 : Nat} (h : NmS w0 w g1 M1 g2 G M2) (f : Fr (fun _ => False) w w') : NmS w0 w' g1 M1 g2 G M2 :=
  ⟨h.m.fr f id, rowIn_fr0 h.q1 f, h.n.fr f id, rowIn_fr0 h.q2 f, rowIn_fr0 h.a f, h.f.then f⟩
theorem one_row {g k : Nat} (h : rowOf (some ⟨g, 0, none⟩) k) : k = g := by
  obtain ⟨b, hb, rfl⟩ := h
  injection hb with hb
  rw [← hb]
set_option maxRecDepth 100000 in
set_option maxHeartbeats 32000000 in
theorem mnames_any (w : World) : Calls Tryz.prog 7 #[] w (EqPost w true) := by
  obtain ⟨C, hC, hmk⟩ := make_64
  have HC := Lib.hid (And.intro hC hmk)
  clear hC hmk
  go_enter Tryz.func7, Tryz.ntmps7
  go_upto_region 4 with (first
    | (go_at_call 9
       (with_reducible refine (lives11_any w).mono ?_)
       rintro e w1 ⟨rfl, f1⟩
       have H1 := Lib.hid f1
       clear f1)
    | (go_at_call 26
       (with_reducible refine (example_any w1).mono ?_)
       rintro e w2 ⟨g, rfl, r2, f2⟩
       have H2 := Lib.hid (And.intro r2 (H1.out.then f2))
       clear r2 f2)
    | (go_at_call 12
       (with_reducible refine (put_ex g w2 H2.out.1).mono ?_)
       rintro e w3 ⟨rfl, f3⟩
       have H3 := Lib.hid (H2.out.2.then f3)
       simp only [exB, Array.toArray_toList]
       clear f3)
    | fail "no arm")
  go_upto_region 5 with (first
    | (go_at_call 16
       (with_reducible refine (rd_err _ 4 w3 (by decide) (by kernel_rfl) (by decide)).mono ?_)
       rintro e w4 ⟨rfl, f_⟩
       have H4 := Lib.hid (H3.out.then f_)
       clear f_)
    | (refine wpList_store_part rfl 29 _ _ rfl w4.heap.size 0 (by rfl) _ (by rfl) 29 _ (Blk.new w4 29 _) (by kernel_rfl) (by simp [Value.oneCell']) (by simp) #[.int .u16 0, .bool false, .int .i64 0, .bool false, .bool false, .bool false, .bool false, .bool false, .bool false, .int .i64 0, .int .i64 0, .int .i64 0, .int .i64 0, .int .i64 0, .slice none 0 0, .slice none 0 0, .slice none 0 0, .slice none 0 0] (by rfl) ?_
       intro w5 bz fz
       have g_ : Fr (fun _ => False) w4 w5 := ((Fr.refl (fun _ => False) w4).alloc _).step fz (fun k hk => .inr (by subst hk; exact Nat.le_refl _))
       have H5 := Lib.hid (H4.out.then g_)
       clear bz fz g_)
    | fail "no arm")
  go_upto_region 6 with (first
    | (go_at_call 16
       (with_reducible refine (rd_err _ 8 w5 (by decide) (by kernel_rfl) (by decide)).mono ?_)
       rintro e w6 ⟨rfl, f_⟩
       have H6 := Lib.hid (H5.out.then f_)
       clear f_)
    | (refine wpList_store_part rfl 29 _ _ rfl w6.heap.size 0 (by rfl) _ (by rfl) 29 _ (Blk.new w6 29 _) (by kernel_rfl) (by simp [Value.oneCell']) (by simp) #[.int .u16 0, .bool false, .int .i64 0, .bool false, .bool false, .bool false, .bool false, .bool false, .bool false, .int .i64 0, .int .i64 0, .int .i64 0, .int .i64 0, .int .i64 0, .slice none 0 0, .slice none 0 0, .slice none 0 0, .slice none 0 0] (by rfl) ?_
       intro w7 bz fz
       have g_ : Fr (fun _ => False) w6 w7 := ((Fr.refl (fun _ => False) w6).alloc _).step fz (fun k hk => .inr (by subst hk; exact Nat.le_refl _))
       have H7 := Lib.hid (H6.out.then g_)
       clear bz fz g_)
    | fail "no arm")
  go_upto_region 7 with (first
    | (go_at_call 16
       (with_reducible refine (rd_err _ 8 w7 (by decide) (by kernel_rfl) (by decide)).mono ?_)
       rintro e w8 ⟨rfl, f_⟩
       have H8 := Lib.hid (H7.out.then f_)
       clear f_)
    | (refine wpList_store_part rfl 29 _ _ rfl w8.heap.size 0 (by rfl) _ (by rfl) 29 _ (Blk.new w8 29 _) (by kernel_rfl) (by simp [Value.oneCell']) (by simp) #[.int .u16 0, .bool false, .int .i64 0, .bool false, .bool false, .bool false, .bool false, .bool false, .bool false, .int .i64 0, .int .i64 0, .int .i64 0, .int .i64 0, .int .i64 0, .slice none 0 0, .slice none 0 0, .slice none 0 0, .slice none 0 0] (by rfl) ?_
       intro w9 bz fz
       have g_ : Fr (fun _ => False) w8 w9 := ((Fr.refl (fun _ => False) w8).alloc _).step fz (fun k hk => .inr (by subst hk; exact Nat.le_refl _))
       have H9 := Lib.hid (H8.out.then g_)
       clear bz fz g_)
    | fail "no arm")
  have hmk := HC.out.2
  have hcv : (convert 66 9 (.slice (some ⟨w9.heap.size, 0, none⟩) 65536 65536)).run Tryz.prog (w9.alloc (.cells C 5)) = .ok (.string ⟨(List.replicate 65536 (0 : UInt8)).toArray⟩) (w9.alloc (.cells C 5)) := conv_64 C HC.out.1 _ _ (fun j => (Blk.new w9 5 C).cell j)
  obtain ⟨zs, hzs⟩ : ∃ zs : ByteArray, zs = ⟨(List.replicate 65536 (0 : UInt8)).toArray⟩ := ⟨_, rfl⟩
  rw [← hzs] at hcv
  have HZS := Lib.hid (And.intro (show mreadE zs = 3 by rw [hzs]; exact err_64) (show zs.size ≤ 140737488351232 by rw [hzs]; show (List.replicate 65536 (0 : UInt8)).toArray.size ≤ _; rw [List.size_toArray, List.length_replicate]; decide))
  clear hzs
  go_upto_region 8 with (first
    | (go_at_call 16
       (with_reducible refine (rd_err zs 3 (w9.alloc (.cells C 5)) HZS.out.2 HZS.out.1 (by decide)).mono ?_)
       rintro e w10 ⟨rfl, f_⟩
       have H10 := Lib.hid (H9.out.then (((Fr.refl (fun _ => False) w9).alloc _).then f_))
       clear f_)
    | (refine wpList_store_part rfl 29 _ _ rfl w10.heap.size 0 (by rfl) _ (by rfl) 29 _ (Blk.new w10 29 _) (by kernel_rfl) (by simp [Value.oneCell']) (by simp) #[.int .u16 0, .bool false, .int .i64 0, .bool false, .bool false, .bool false, .bool false, .bool false, .bool false, .int .i64 0, .int .i64 0, .int .i64 0, .int .i64 0, .int .i64 0, .slice none 0 0, .slice none 0 0, .slice none 0 0, .slice none 0 0] (by rfl) ?_
       intro w11 bz fz
       have g_ : Fr (fun _ => False) w10 w11 := ((Fr.refl (fun _ => False) w10).alloc _).step fz (fun k hk => .inr (by subst hk; exact Nat.le_refl _))
       have H11 := Lib.hid (H10.out.then g_)
       clear bz fz g_)
    | fail "no arm")
  clear hmk hcv
  go_upto_region 10 with (first
    | (go_at_call 26
       first
         | (with_reducible refine (example_any w11).mono ?_)
           rintro e w12 ⟨g0, rfl, r_, f_⟩
           have H12 := Lib.hid (And.intro r_ (H11.out.then f_))
           clear r_ f_
         | (with_reducible refine (example_any w13).mono ?_)
           rintro e w14 ⟨g1, rfl, r_, f_⟩
           have H14 := Lib.hid (And.intro r_ (H13.out.then f_))
           clear r_ f_)
    | (go_at_call 12
       (with_reducible refine (put_exM 18 ([], 3) (by kernel_rfl) g0 w12 H12.out.1).mono ?_)
       rintro e w13 ⟨rfl, f_⟩
       have H13 := Lib.hid (H12.out.2.then f_)
       clear f_)
    | (refine wpList_store_part rfl 29 _ _ rfl w14.heap.size 0 (by rfl) _ (by rfl) 29 _ (Blk.new w14 29 _) (by kernel_rfl) (by simp [Value.oneCell']) (by simp) #[.int .u16 1, .bool false, .int .i64 0, .bool false, .bool false, .bool true, .bool false, .bool false, .bool false, .int .i64 0, .int .i64 1, .int .i64 0, .int .i64 0, .int .i64 0, .slice (some ⟨g1, 0, none⟩) 1 1, .slice none 0 0, .slice none 0 0, .slice none 0 0] (by rfl) ?_
       intro w15 bz fz
       have g_ : Fr (fun _ => False) w14 w15 := ((Fr.refl (fun _ => False) w14).alloc _).step fz (fun k hk => .inr (by subst hk; exact Nat.le_refl _))
       have H15 := Lib.hid (And.intro bz (And.intro (rowIn_fr0 H14.out.1 g_) (And.intro (H14.out.2.then g_) (And.intro (row_lt H14.out.1) H14.out.2.size))))
       clear bz fz g_)
    | fail "no arm")
  go_upto_region 13 with (first
    | (refine wpList_store_one rfl 3 _ _ rfl w14.heap.size 11 (by rfl) (.int .i64 1) (by rfl) (by rfl) 29 _ H15.out.1 (by kernel_rfl) (by rfl) (by simp) #[.int .u16 1, .bool false, .int .i64 0, .bool false, .bool false, .bool true, .bool false, .bool false, .bool false, .int .i64 0, .int .i64 1, .int .i64 1, .int .i64 0, .int .i64 0, .slice (some ⟨g1, 0, none⟩) 1 1, .slice none 0 0, .slice none 0 0, .slice none 0 0] (by rfl) ?_
       intro w16 bz fz
       have H16 := Lib.hid (And.intro bz (And.intro (rowIn_fr H15.out.2.1 fz (fun k hk => by have := one_row hk; have := H15.out.2.2.2.1; omega)) (H15.out.2.2.1.step fz (fun k hk => .inr (by subst hk; exact H15.out.2.2.2.2)))))
       clear bz fz)
    | (refine wpList_store_part rfl 55 _ _ rfl w16.heap.size 0 (by rfl) _ (by rfl) 55 _ (Blk.new w16 55 _) (by kernel_rfl) (by simp [Value.oneCell']) (by simp) #[.string ⟨#[1, 97]⟩, .int .i64 1, .int .i64 1, .int .u32 0, .bool false, .int .u64 0, .int .u64 7, .string ⟨#[]⟩, .string ⟨#[]⟩, .int .u32 0, .int .u32 0, .int .u32 0, .int .u32 0, .int .u32 0, .slice none 0 0, .string ⟨#[]⟩] (by rfl) ?_
       intro w17 bz fz
       have g_ : Fr (fun _ => False) w16 w17 := ((Fr.refl (fun _ => False) w16).alloc _).step fz (fun k hk => .inr (by subst hk; exact Nat.le_refl _))
       have H17 := Lib.hid (And.intro bz (And.intro (H16.out.1.fr g_ id) (And.intro (rowIn_fr0 H16.out.2.1 g_) (H16.out.2.2.then g_))))
       clear bz fz g_)
    | (go_at_call 26
       (with_reducible refine (example_any w17).mono ?_)
       rintro e w18 ⟨g2, rfl, r_, f_⟩
       have H18 := Lib.hid (And.intro r_ (And.intro (H17.out.1.fr f_ id) (And.intro (H17.out.2.1.fr f_ id) (And.intro (rowIn_fr0 H17.out.2.2.1 f_) (H17.out.2.2.2.then f_)))))
       clear r_ f_)
    | (refine wpList_store_part rfl 29 _ _ rfl w18.heap.size 0 (by rfl) _ (by rfl) 29 _ (Blk.new w18 29 _) (by kernel_rfl) (by simp [Value.oneCell']) (by simp) #[.int .u16 1, .bool false, .int .i64 0, .bool false, .bool false, .bool true, .bool false, .bool false, .bool false, .int .i64 0, .int .i64 1, .int .i64 0, .int .i64 0, .int .i64 0, .slice (some ⟨g2, 0, none⟩) 1 1, .slice none 0 0, .slice none 0 0, .slice none 0 0] (by rfl) ?_
       intro w19 bz fz
       have g_ : Fr (fun _ => False) w18 w19 := ((Fr.refl (fun _ => False) w18).alloc _).step fz (fun k hk => .inr (by subst hk; exact Nat.le_refl _))
       have H19 := Lib.hid (And.intro bz (And.intro (rowIn_fr0 H18.out.1 g_) (And.intro (H18.out.2.1.fr g_ id) (And.intro (H18.out.2.2.1.fr g_ id) (And.intro (rowIn_fr0 H18.out.2.2.2.1 g_) (H18.out.2.2.2.2.then g_))))))
       have HNE := Lib.hid (And.intro (row_lt H18.out.1) (And.intro (show w14.heap.size < w18.heap.size from H18.out.2.2.1.lt) (And.intro (row_lt H18.out.2.2.2.1) (And.intro H18.out.2.2.2.2.size (show w16.heap.size < w18.heap.size from H18.out.2.1.lt)))))
       clear bz fz g_)
    | fail "no arm")
  go_upto_region 14 with (first
    | (refine wpList_load_blk rfl 55 _ rfl w16.heap.size (by rfl) 55 _ _ H19.out.2.2.1 Tryz.underlying55 rfl (by kernel_rfl) ?_)
    | (refine wpList_store_one rfl 27 _ _ rfl w18.heap.size 15 (by rfl) (.slice (some ⟨w19.heap.size, 0, none⟩) 3 3) (by rfl) (by rfl) 29 _ (H19.out.1.alloc _) (by kernel_rfl) (by rfl) (by simp) #[.int .u16 1, .bool false, .int .i64 0, .bool false, .bool false, .bool true, .bool false, .bool false, .bool false, .int .i64 0, .int .i64 1, .int .i64 0, .int .i64 0, .int .i64 0, .slice (some ⟨g2, 0, none⟩) 1 1, .slice (some ⟨w19.heap.size, 0, none⟩) 3 3, .slice none 0 0, .slice none 0 0] (by rfl) ?_
       intro w20 bz fz
       have hlt := H19.out.1.lt
       have bG : Blk w20 w19.heap.size 55 ([xa, xa, xa].flatMap rcl).toArray := (Blk.new w19 55 #[.string ⟨#[1, 97]⟩, .int .i64 1, .int .i64 1, .int .u32 0, .bool false, .int .u64 0, .int .u64 7, .string ⟨#[]⟩, .string ⟨#[]⟩, .int .u32 0, .int .u32 0, .int .u32 0, .int .u32 0, .int .u32 0, .slice none 0 0, .string ⟨#[]⟩, .string ⟨#[1, 97]⟩, .int .i64 1, .int .i64 1, .int .u32 0, .bool false, .int .u64 0, .int .u64 7, .string ⟨#[]⟩, .string ⟨#[]⟩, .int .u32 0, .int .u32 0, .int .u32 0, .int .u32 0, .int .u32 0, .slice none 0 0, .string ⟨#[]⟩, .string ⟨#[1, 97]⟩, .int .i64 1, .int .i64 1, .int .u32 0, .bool false, .int .u64 0, .int .u64 7, .string ⟨#[]⟩, .string ⟨#[]⟩, .int .u32 0, .int .u32 0, .int .u32 0, .int .u32 0, .int .u32 0, .slice none 0 0, .string ⟨#[]⟩]).fr fz (by omega)
       have fa : Fr (fun _ => False) w19 (w19.alloc (.cells #[.string ⟨#[1, 97]⟩, .int .i64 1, .int .i64 1, .int .u32 0, .bool false, .int .u64 0, .int .u64 7, .string ⟨#[]⟩, .string ⟨#[]⟩, .int .u32 0, .int .u32 0, .int .u32 0, .int .u32 0, .int .u32 0, .slice none 0 0, .string ⟨#[]⟩, .string ⟨#[1, 97]⟩, .int .i64 1, .int .i64 1, .int .u32 0, .bool false, .int .u64 0, .int .u64 7, .string ⟨#[]⟩, .string ⟨#[]⟩, .int .u32 0, .int .u32 0, .int .u32 0, .int .u32 0, .int .u32 0, .slice none 0 0, .string ⟨#[]⟩, .string ⟨#[1, 97]⟩, .int .i64 1, .int .i64 1, .int .u32 0, .bool false, .int .u64 0, .int .u64 7, .string ⟨#[]⟩, .string ⟨#[]⟩, .int .u32 0, .int .u32 0, .int .u32 0, .int .u32 0, .int .u32 0, .slice none 0 0, .string ⟨#[]⟩] 55)) := (Fr.refl (fun _ => False) w19).alloc _
       have H20 := Lib.hid (And.intro bz (And.intro (rowIn_fr (rowIn_fr0 H19.out.2.1 fa) fz (fun k hk => by have := one_row hk; have := HNE.out.1; omega)) (And.intro (show RowIn w20 (some ⟨w19.heap.size, 0, none⟩) ([xa, xa, xa].flatMap rcl) from fun _ => ⟨w19.heap.size, 0, rfl, bG.lt, fun i x hx => by have := (blk_rg0 bG) i x hx; exact this⟩) (And.intro ((H19.out.2.2.2.1.fr fa id).fr fz (by have := HNE.out.2.1; omega)) (And.intro (rowIn_fr (rowIn_fr0 H19.out.2.2.2.2.1 fa) fz (fun k hk => by have := one_row hk; have := HNE.out.2.2.1; omega)) ((H19.out.2.2.2.2.2.then fa).step fz (fun k hk => .inr (by subst hk; exact HNE.out.2.2.2.1))))))))
       have HNG := Lib.hid hlt
       clear bz fz hlt bG fa)
    | fail "no arm")
  go_upto_region 15 with (first
    | (refine wpList_store_one rfl 3 _ _ rfl w18.heap.size 11 (by rfl) (.int .i64 3) (by rfl) (by rfl) 29 _ H20.out.1 (by kernel_rfl) (by rfl) (by simp) #[.int .u16 1, .bool false, .int .i64 0, .bool false, .bool false, .bool true, .bool false, .bool false, .bool false, .int .i64 0, .int .i64 1, .int .i64 3, .int .i64 0, .int .i64 0, .slice (some ⟨g2, 0, none⟩) 1 1, .slice (some ⟨w19.heap.size, 0, none⟩) 3 3, .slice none 0 0, .slice none 0 0] (by rfl) ?_
       intro w21 bz fz
       have H21 := Lib.hid (NmS.mk (H20.out.2.2.2.1.fr fz (by have := HNE.out.2.1; omega)) (rowIn_fr H20.out.2.2.2.2.1 fz (fun k hk => by have := one_row hk; have := HNE.out.2.2.1; omega)) bz (rowIn_fr H20.out.2.1 fz (fun k hk => by have := one_row hk; have := HNE.out.1; omega)) (rowIn_fr H20.out.2.2.1 fz (fun k hk => by have := one_row hk; have := HNG.out; omega)) (H20.out.2.2.2.2.2.step fz (fun k hk => .inr (by subst hk; exact HNE.out.2.2.2.1))) : NmS w w21 g1 w14.heap.size g2 w19.heap.size w18.heap.size)
       clear bz fz)
    | fail "no arm")
  go_upto_region 17 with (first
    | (refine wpList_load_blk rfl 29 _ rfl w18.heap.size (by rfl) 29 _ _ H21.out.n Tryz.underlying29 rfl (by kernel_rfl) ?_)
    | (go_at_call 15
       (with_reducible refine (cut_60 g2 w19.heap.size w21 H21.out.q2 H21.out.a).mono ?_)
       rintro e w22 ⟨rfl, f_⟩
       have H22 := Lib.hid (H21.out.fr f_)
       clear f_)
    | (go_at_call 16
       (with_reducible refine (read_t w22).mono ?_)
       rintro e w23 ⟨f_, h, Aq, nq, cq, Aa, ca, Ab, nb, cb, Ac, nc, cc, rfl⟩
       have H23 := Lib.hid (H22.out.fr f_)
       clear f_)
    | (refine wpList_store_part rfl 29 _ _ rfl w23.heap.size 0 (by rfl) _ (by rfl) 29 _ (Blk.new w23 29 _) (by kernel_rfl) (by simp [Value.oneCell']) (by simp) #[.int .u16 h.id, .bool h.resp, .int .i64 h.op, .bool h.aa, .bool true, .bool h.rd, .bool h.ra, .bool h.ad, .bool h.cd, .int .i64 h.rc, .int .i64 h.c0, .int .i64 h.c1, .int .i64 h.c2, .int .i64 h.c3, .slice Aq nq cq, .slice Aa 2 ca, .slice Ab nb cb, .slice Ac nc cc] (by rfl) ?_
       intro w24 bz fz
       have g_ : Fr (fun _ => False) w23 w24 := ((Fr.refl (fun _ => False) w23).alloc _).step fz (fun k hk => .inr (by subst hk; exact Nat.le_refl _))
       have H24 := Lib.hid (And.intro bz (H23.out.fr g_))
       clear bz fz g_)
    | fail "no arm")
  go_upto_region 19 with (first
    | (refine wpList_load_blk rfl 29 _ rfl w18.heap.size (by rfl) 29 _ _ H24.out.2.n Tryz.underlying29 rfl (by kernel_rfl) ?_)
    | (refine wpList_load_blk rfl 29 _ rfl w18.heap.size (by rfl) 29 _ _ H25.out.2.n Tryz.underlying29 rfl (by kernel_rfl) ?_)
    | (go_at_call 15
       first
         | (with_reducible refine (cut_18 g2 w19.heap.size w24 H24.out.2.q2 H24.out.2.a).mono ?_)
           rintro e w25 ⟨rfl, f_⟩
           have H25 := Lib.hid (And.intro (H24.out.1.fr f_ id) (H24.out.2.fr f_))
           clear f_
         | (with_reducible refine (cut_99 g2 w19.heap.size w25 H25.out.2.q2 H25.out.2.a).mono ?_)
           rintro e w26 ⟨rfl, f_⟩
           have H26 := Lib.hid (And.intro (H25.out.1.fr f_ id) (H25.out.2.fr f_))
           clear f_)
    | fail "no arm")
  simp only [List.append_eq, List.cons_append, List.nil_append]
  go_wp2_with (first
    | (refine wpList_load_mid_g (by rfl) 29 _ rfl w14.heap.size 0 (by rfl) [.int .u16 1, .bool false, .int .i64 0, .bool false, .bool false, .bool true, .bool false, .bool false, .bool false, .int .i64 0, .int .i64 1, .int .i64 1, .int .i64 0, .int .i64 0, .slice (some ⟨g1, 0, none⟩) 1 1, .slice none 0 0, .slice none 0 0, .slice none 0 0] _ (blk_rg0 H26.out.2.m) Tryz.underlying29 rfl (by kernel_rfl) ?_)
    | (go_at_call 11
       (with_reducible refine (check_m g1 w26 H26.out.2.q1).mono ?_)
       rintro e w27 ⟨rfl, f_⟩
       have H27 := Lib.hid (H26.out.2.fr f_)
       have a4 : w27.cell? ⟨w23.heap.size, 4, none⟩ = some (.bool true) := (H26.out.1.fr f_ id).cell 4
       have a15 : w27.cell? ⟨w23.heap.size, 15, none⟩ = some (.slice Aa 2 ca) := (H26.out.1.fr f_ id).cell 15
       have n15 : w27.cell? ⟨w18.heap.size, 15, none⟩ = some (.slice (some ⟨w19.heap.size, 0, none⟩) 3 3) := H27.out.n.cell 15
       clear f_)
    | (refine wpList_load_mid_g (by rfl) 29 _ rfl w18.heap.size 0 (by rfl) [.int .u16 1, .bool false, .int .i64 0, .bool false, .bool false, .bool true, .bool false, .bool false, .bool false, .int .i64 0, .int .i64 1, .int .i64 3, .int .i64 0, .int .i64 0, .slice (some ⟨g2, 0, none⟩) 1 1, .slice (some ⟨w19.heap.size, 0, none⟩) 3 3, .slice none 0 0, .slice none 0 0] _ (blk_rg0 H27.out.n) Tryz.underlying29 rfl (by kernel_rfl) ?_)
    | (go_at_call 22
       first
         | (with_reducible refine (size_n g2 w19.heap.size w27 H27.out.q2 H27.out.a).mono ?_)
           rintro e w28 ⟨rfl, f_⟩
           have H28 := Lib.hid (H27.out.fr f_)
           clear f_ a4 a15 n15
         | (with_reducible refine (size_m g1 w28 H28.out.q1).mono ?_)
           rintro e w29 ⟨rfl, f_⟩
           have H29 := Lib.hid (H28.out.fr f_)
           clear f_)
    | (refine wpList_load_mid_g (by rfl) 29 _ rfl w14.heap.size 0 (by rfl) [.int .u16 1, .bool false, .int .i64 0, .bool false, .bool false, .bool true, .bool false, .bool false, .bool false, .int .i64 0, .int .i64 1, .int .i64 1, .int .i64 0, .int .i64 0, .slice (some ⟨g1, 0, none⟩) 1 1, .slice none 0 0, .slice none 0 0, .slice none 0 0] _ (blk_rg0 H28.out.m) Tryz.underlying29 rfl (by kernel_rfl) ?_)
    | (refine wpList_load_mid_g (by rfl) 29 _ rfl w18.heap.size 0 (by rfl) [.int .u16 1, .bool false, .int .i64 0, .bool false, .bool false, .bool true, .bool false, .bool false, .bool false, .int .i64 0, .int .i64 1, .int .i64 3, .int .i64 0, .int .i64 0, .slice (some ⟨g2, 0, none⟩) 1 1, .slice (some ⟨w19.heap.size, 0, none⟩) 3 3, .slice none 0 0, .slice none 0 0] _ (blk_rg0 H29.out.n) Tryz.underlying29 rfl (by kernel_rfl) ?_)
    | (go_at_call 24
       first
         | (with_reducible refine (same_nn g2 w19.heap.size w29 H29.out.q2 H29.out.a).mono ?_)
           rintro e w30 ⟨rfl, f_⟩
           have H30 := Lib.hid (H29.out.fr f_)
           clear f_
         | (with_reducible refine (same_mn g1 g2 w19.heap.size w30 H30.out.q1 H30.out.q2 H30.out.a).mono ?_)
           rintro e w31 ⟨rfl, f_⟩
           have H31 := Lib.hid (H30.out.fr f_)
           clear f_)
    | (refine wpList_load_mid_g (by rfl) 29 _ rfl w14.heap.size 0 (by rfl) [.int .u16 1, .bool false, .int .i64 0, .bool false, .bool false, .bool true, .bool false, .bool false, .bool false, .int .i64 0, .int .i64 1, .int .i64 1, .int .i64 0, .int .i64 0, .slice (some ⟨g1, 0, none⟩) 1 1, .slice none 0 0, .slice none 0 0, .slice none 0 0] _ (blk_rg0 H30.out.m) Tryz.underlying29 rfl (by kernel_rfl) ?_)
    | (refine wpList_load_mid_g (by rfl) 29 _ rfl w18.heap.size 0 (by rfl) [.int .u16 1, .bool false, .int .i64 0, .bool false, .bool false, .bool true, .bool false, .bool false, .bool false, .int .i64 0, .int .i64 1, .int .i64 3, .int .i64 0, .int .i64 0, .slice (some ⟨g2, 0, none⟩) 1 1, .slice (some ⟨w19.heap.size, 0, none⟩) 3 3, .slice none 0 0, .slice none 0 0] _ (blk_rg0 H30.out.n) Tryz.underlying29 rfl (by kernel_rfl) ?_)
    | fail "no arm")
  go_ret
  exact ⟨rfl, H31.out.f⟩
theorem messageNames_walk (w : World) : Calls Tryz.prog 7 #[] w fun e w' => e = .returned (.bool true) ∧ Below w.heap.size w w' :=
  (mnames_any w).mono fun e w' ⟨h1, h2⟩ => ⟨h1, h2.below (fun k hk => hk.elim) (Nat.le_refl _)⟩
end Go.Proofs.YtmbgejiahmhffaaGreat
