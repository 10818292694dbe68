/-
  LAYER 25: MatchNames, walked.
-/
import Derived.Test.YtncfdfgcnblicaaCMna
namespace Go.Proofs.Ytncfdfgcnblicaa
open Go.RowKit
set_option linter.unusedVariables false
set_option linter.unusedSimpArgs false

set_option maxRecDepth 100000 in
set_option maxHeartbeats 1000000 in
theorem final_any (h : Hd) (Aq Aa Ab Ac : Option Addr) (nq cq na ca nb cb nc cc : Nat) (w : World) :
    Calls Try.prog 20 #[.agg #[.int .u16 h.id, .bool h.resp, .int .i64 h.op, .bool h.aa, .bool h.tc, .bool h.rd, .bool h.ra, .bool h.ad, .bool h.cd, .int .i64 h.rc, .int .i64 h.c0, .int .i64 h.c1, .int .i64 h.c2, .int .i64 h.c3, .slice Aq nq cq, .slice Aa na ca, .slice Ab nb cb, .slice Ac nc cc]] w (EqPost w ((h.rc == 0) || (h.rc == 3))) := by
  have hf : Fr (fun _ => False) w (w.alloc (.cells #[.int .u16 h.id, .bool h.resp, .int .i64 h.op, .bool h.aa, .bool h.tc, .bool h.rd, .bool h.ra, .bool h.ad, .bool h.cd, .int .i64 h.rc, .int .i64 h.c0, .int .i64 h.c1, .int .i64 h.c2, .int .i64 h.c3, .slice Aq nq cq, .slice Aa na ca, .slice Ab nb cb, .slice Ac nc cc] 37)) := (Fr.refl _ _).alloc _
  by_cases h0 : h.rc = 0
  · have e0 : (h.rc == 0) = true := by simp [h0]
    have H0 := Lib.hid h0
    clear h0
    go_enter Try.func20, Try.ntmps20
    go_wp2_with fail
    go_ret
    exact ⟨ret_bool (by rw [e0]; rfl), hf⟩
  · have e0 : (h.rc == 0) = false := by simp [h0]
    have H0 := Lib.hid h0
    clear h0
    go_enter Try.func20, Try.ntmps20
    go_wp2_with fail
    go_ret
    exact ⟨ret_bool (by rw [e0]; rfl), hf⟩
theorem final3 (g ca gb : Nat) (Aa : Option Addr) (w : World) : Calls Try.prog 20 #[.agg #[.int .u16 7, .bool true, .int .i64 1, .bool false, .bool false, .bool true, .bool false, .bool false, .bool false, .int .i64 3, .int .i64 1, .int .i64 0, .int .i64 0, .int .i64 0, .slice (some ⟨g, 0, none⟩) 1 1, .slice Aa 3 ca, .slice (some ⟨gb, 0, none⟩) 3 3, .slice none 0 0]] w (EqPost w true) :=
  final_any h25n (some ⟨g, 0, none⟩) Aa (some ⟨gb, 0, none⟩) none 1 1 3 ca 3 3 0 0 w
theorem final2 (w : World) : Calls Try.prog 20 #[.agg #[.int .u16 0, .bool false, .int .i64 0, .bool false, .bool false, .bool false, .bool false, .bool false, .bool false, .int .i64 2, .int .i64 0, .int .i64 0, .int .i64 0, .int .i64 0, .slice none 0 0, .slice none 0 0, .slice none 0 0, .slice none 0 0]] w (EqPost w false) :=
  final_any ⟨0, false, 0, false, false, false, false, false, false, 2, 0, 0, 0, 0⟩ none none none none 0 0 0 0 0 0 0 0 w
theorem replyG8 (x : UInt8) (w : World) : Calls Try.prog 11 #[.int .u16 8, .agg #[.string ⟨#[1, x]⟩, .int .i64 1, .int .i64 1]] w fun e w' => ∃ g, e = .returned (.agg #[.int .u16 8, .bool true, .int .i64 0, .bool false, .bool false, .bool true, .bool false, .bool false, .bool false, .int .i64 0, .int .i64 1, .int .i64 0, .int .i64 0, .int .i64 0, .slice (some ⟨g, 0, none⟩) 1 1, .slice none 0 0, .slice none 0 0, .slice none 0 0]) ∧ Blk w' g 25 #[.string ⟨#[1, x]⟩, .int .i64 1, .int .i64 1] ∧ w.heap.size ≤ g ∧ Fr (fun _ => False) w w' := replyG 8 x w
theorem replyG7 (x : UInt8) (w : World) : Calls Try.prog 11 #[.int .u16 7, .agg #[.string ⟨#[1, x]⟩, .int .i64 1, .int .i64 1]] w fun e w' => ∃ g, e = .returned (.agg #[.int .u16 7, .bool true, .int .i64 0, .bool false, .bool false, .bool true, .bool false, .bool false, .bool false, .int .i64 0, .int .i64 1, .int .i64 0, .int .i64 0, .int .i64 0, .slice (some ⟨g, 0, none⟩) 1 1, .slice none 0 0, .slice none 0 0, .slice none 0 0]) ∧ Blk w' g 25 #[.string ⟨#[1, x]⟩, .int .i64 1, .int .i64 1] ∧ w.heap.size ≤ g ∧ Fr (fun _ => False) w w' := replyG 7 x w
theorem same_y (w : World) : Calls Try.prog 21 #[.agg #[.string ⟨#[1, 97]⟩, .int .i64 1, .int .i64 1], .agg #[.string ⟨#[1, 65]⟩, .int .i64 1, .int .i64 1]] w (EqPost w true) := by
  have := msame_any (⟨#[1, 97]⟩, 1, 1) (⟨#[1, 65]⟩, 1, 1) w (by unfold i64ok'; decide) (by unfold i64ok'; decide)
  rwa [sq25] at this
theorem same_n (w : World) : Calls Try.prog 21 #[.agg #[.string ⟨#[1, 97]⟩, .int .i64 1, .int .i64 1], .agg #[.string ⟨#[1, 98]⟩, .int .i64 1, .int .i64 1]] w (EqPost w false) := by
  have := msame_any (⟨#[1, 97]⟩, 1, 1) (⟨#[1, 98]⟩, 1, 1) w (by unfold i64ok'; decide) (by unfold i64ok'; decide)
  rwa [sq25b] at this
theorem own32 {w : World} {g : Nat} (h : Blk w g 63 #[.string ⟨#[]⟩, .int .i64 41, .int .i64 1, .int .u32 0, .bool false, .int .u64 0, .int .u64 0, .string ⟨#[]⟩, .string ⟨#[]⟩, .int .u32 0, .int .u32 0, .int .u32 0, .int .u32 0, .int .u32 0, .slice none 0 0, .string ⟨#[]⟩, .string ⟨#[]⟩, .int .i64 1, .int .i64 3, .int .u32 0, .bool false, .int .u64 0, .int .u64 0, .string ⟨#[]⟩, .string ⟨#[]⟩, .int .u32 0, .int .u32 0, .int .u32 0, .int .u32 0, .int .u32 0, .slice none 0 0, .string ⟨#[]⟩]) : w.ownsRow 0 63 16 (.slice (some ⟨g, 0, none⟩) 2 2) 2 [.string ⟨#[]⟩, .int .i64 41, .int .i64 1, .int .u32 0, .bool false, .int .u64 0, .int .u64 0, .string ⟨#[]⟩, .string ⟨#[]⟩, .int .u32 0, .int .u32 0, .int .u32 0, .int .u32 0, .int .u32 0, .slice none 0 0, .string ⟨#[]⟩, .string ⟨#[]⟩, .int .i64 1, .int .i64 3, .int .u32 0, .bool false, .int .u64 0, .int .u64 0, .string ⟨#[]⟩, .string ⟨#[]⟩, .int .u32 0, .int .u32 0, .int .u32 0, .int .u32 0, .int .u32 0, .slice none 0 0, .string ⟨#[]⟩] :=
  ⟨rfl, .inr ⟨g, 2, _, rfl, Nat.zero_le _, h, Nat.le_refl _, by simp only [maxLen]; omega, rfl, rfl⟩⟩
theorem new16 (w : World) {cs : List Value} : ∀ j v, cs[j]? = some v → (w.alloc (.cells cs.toArray 63)).cell? ((⟨w.heap.size, 0, none⟩ : Addr).add j) = some v := fun j v hv => by
  rw [add_off, Nat.zero_add, (Blk.new w 63 cs.toArray).cell j]
  simpa using hv
set_option maxRecDepth 100000 in
set_option maxHeartbeats 8000000 in
theorem names25 (w0 : World) : Calls Try.prog 5 #[] w0 (EqPost w0 true) := by
  go_enter Try.func5, Try.ntmps5
  go_upto_region 3 with (first
    | (go_at_call 6
       (with_reducible refine (lives25_any w0).mono ?_)
       rintro e w1 ⟨rfl, f1⟩
       have Gw1 := Lib.hid f1
       clear f1)
    | fail "no arm")
  go_upto_region 6 with (first
    | (go_at_call 19
       (with_reducible refine (host1 97 w1.heap.size (w1.alloc (.cells #[.string ⟨#[97]⟩] 9)) (Blk.new _ _ _)).mono ?_)
       rintro e w2 ⟨rfl, f⟩
       have Gw2 := Lib.hid (Gw1.out.then (((Fr.refl (fun _ => False) w1).alloc _).then f))
       clear f)
    | (go_at_call 18
       (with_reducible refine (ask_any ⟨#[1, 97]⟩ w2).mono ?_)
       rintro e w3 ⟨rfl, f⟩
       have Gw3 := Lib.hid (Gw2.out.then f)
       clear f)
    | (go_at_call 19
       (with_reducible refine (host1 97 w3.heap.size (w3.alloc (.cells #[.string ⟨#[97]⟩] 9)) (Blk.new _ _ _)).mono ?_)
       rintro e w4 ⟨rfl, f⟩
       have Gw4 := Lib.hid (Gw3.out.then (((Fr.refl (fun _ => False) w3).alloc _).then f))
       clear f)
    | (go_at_call 18
       (with_reducible refine (ask_any ⟨#[1, 97]⟩ w4).mono ?_)
       rintro e w5 ⟨rfl, f⟩
       have Gw5 := Lib.hid (Gw4.out.then f)
       clear f)
    | (go_at_call 10
       (with_reducible refine (books25 w5.heap.size (w5.alloc (.cells #[.int .i64 0, .int .u16 0, .bool false, .int .i64 0, .bool false, .bool false, .bool false, .bool false, .bool false, .bool false, .int .i64 0, .int .i64 0, .int .i64 0, .int .i64 0, .int .i64 0, .string ⟨#[1, 97]⟩, .int .i64 1, .int .i64 1] 69)) (Blk.new _ _ _)).mono ?_)
       rintro e w6 ⟨⟨b, r, rfl, ⟨A', c', hk⟩, _⟩, f⟩
       have HK := Lib.hid hk
       have Gw6 := Lib.hid (Gw5.out.then (((Fr.refl (fun _ => False) w5).alloc _).then f))
       have Kw6 := Lib.hid (Fr.refl (fun _ => False) w6)
       clear hk f)
    | fail "no arm")
  go_upto_region 7 with (first
    | (go_at_call 19
       (with_reducible refine (host1 97 w6.heap.size (w6.alloc (.cells #[.string ⟨#[97]⟩] 9)) (Blk.new _ _ _)).mono ?_)
       rintro e w7 ⟨rfl, f⟩
       have Gw7 := Lib.hid (Gw6.out.then (((Fr.refl (fun _ => False) w6).alloc _).then f))
       have Kw7 := Lib.hid (Kw6.out.then (((Fr.refl (fun _ => False) w6).alloc _).then f))
       clear f)
    | (go_at_call 18
       (with_reducible refine (ask_any ⟨#[1, 97]⟩ w7).mono ?_)
       rintro e w8 ⟨rfl, f⟩
       have Gw8 := Lib.hid (Gw7.out.then f)
       have Kw8 := Lib.hid (Kw7.out.then f)
       clear f)
    | (go_at_call 11
       (with_reducible refine (replyG8 97 w8).mono ?_)
       rintro e w9 ⟨ga, rfl, b, k, f⟩
       have Gw9 := Lib.hid (Gw8.out.then f)
       have Kw9 := Lib.hid (Kw8.out.then f)
       have Rw9 := Lib.hid b
       clear b k f)
    | (go_at_call 12
       (with_reducible refine (mG8 b A' c' ga w9 (HK.out.fr0 Kw9.out) Rw9.out).mono ?_)
       rintro e w10 ⟨rfl, f⟩
       have Gw10 := Lib.hid (Gw9.out.then f)
       have Kw10 := Lib.hid (Kw9.out.then f)
       have Qw10 := Lib.hid f
       clear f)
    | (refine wpList_store_part rfl 28 _ _ rfl w10.heap.size 0 (by rfl) _ (by rfl) 28 _ (Blk.new w10 28 _) (by kernel_rfl) (by simp [Value.oneCell']) (by simp) #[.int .u16 0, .string ⟨#[]⟩, .int .i64 0, .int .i64 0, .int .i64 0, .int .i64 0, .int .i64 0, .slice none 0 0] (by rfl) ?_
       intro w11 b3 f3
       have Qw11 := Lib.hid (((Fr.refl (fun _ => False) w10).alloc _).step f3 (fun k hk => .inr (by subst hk; exact Nat.le_refl _)))
       have Gw11 := Lib.hid (Gw10.out.then Qw11.out)
       have Kw11 := Lib.hid (Kw10.out.then Qw11.out)
       clear b3 f3)
    | fail "no arm")
  go_upto_region 8 with (first
    | (go_at_call 19
       (with_reducible refine (host1 98 w11.heap.size (w11.alloc (.cells #[.string ⟨#[98]⟩] 9)) (Blk.new _ _ _)).mono ?_)
       rintro e w12 ⟨rfl, f⟩
       have Gw12 := Lib.hid (Gw11.out.then (((Fr.refl (fun _ => False) w11).alloc _).then f))
       have Kw12 := Lib.hid (Kw11.out.then (((Fr.refl (fun _ => False) w11).alloc _).then f))
       clear f)
    | (go_at_call 18
       (with_reducible refine (ask_any ⟨#[1, 98]⟩ w12).mono ?_)
       rintro e w13 ⟨rfl, f⟩
       have Gw13 := Lib.hid (Gw12.out.then f)
       have Kw13 := Lib.hid (Kw12.out.then f)
       clear f)
    | (go_at_call 11
       (with_reducible refine (replyG7 98 w13).mono ?_)
       rintro e w14 ⟨gb, rfl, b, k, f⟩
       have Gw14 := Lib.hid (Gw13.out.then f)
       have Kw14 := Lib.hid (Kw13.out.then f)
       have Rw14 := Lib.hid b
       clear b k f)
    | (go_at_call 12
       (with_reducible refine (mGb b A' c' gb w14 (HK.out.fr0 Kw14.out) Rw14.out).mono ?_)
       rintro e w15 ⟨rfl, f⟩
       have Gw15 := Lib.hid (Gw14.out.then f)
       have Kw15 := Lib.hid (Kw14.out.then f)
       have Qw15 := Lib.hid f
       clear f)
    | (refine wpList_store_part rfl 28 _ _ rfl w15.heap.size 0 (by rfl) _ (by rfl) 28 _ (Blk.new w15 28 _) (by kernel_rfl) (by simp [Value.oneCell']) (by simp) #[.int .u16 0, .string ⟨#[]⟩, .int .i64 0, .int .i64 0, .int .i64 0, .int .i64 0, .int .i64 0, .slice none 0 0] (by rfl) ?_
       intro w16 b3 f3
       have Qw16 := Lib.hid (((Fr.refl (fun _ => False) w15).alloc _).step f3 (fun k hk => .inr (by subst hk; exact Nat.le_refl _)))
       have Gw16 := Lib.hid (Gw15.out.then Qw16.out)
       have Kw16 := Lib.hid (Kw15.out.then Qw16.out)
       clear b3 f3)
    | fail "no arm")
  go_upto_region 9 with (first
    | (go_at_call 19
       (with_reducible refine (host1 97 w16.heap.size (w16.alloc (.cells #[.string ⟨#[97]⟩] 9)) (Blk.new _ _ _)).mono ?_)
       rintro e w17 ⟨rfl, f⟩
       have Gw17 := Lib.hid (Gw16.out.then (((Fr.refl (fun _ => False) w16).alloc _).then f))
       have Kw17 := Lib.hid (Kw16.out.then (((Fr.refl (fun _ => False) w16).alloc _).then f))
       clear f)
    | (go_at_call 18
       (with_reducible refine (ask_any ⟨#[1, 97]⟩ w17).mono ?_)
       rintro e w18 ⟨rfl, f⟩
       have Gw18 := Lib.hid (Gw17.out.then f)
       have Kw18 := Lib.hid (Kw17.out.then f)
       clear f)
    | (go_at_call 11
       (with_reducible refine (replyG7 97 w18).mono ?_)
       rintro e w19 ⟨gd, rfl, b, k, f⟩
       have Gw19 := Lib.hid (Gw18.out.then f)
       have Kw19 := Lib.hid (Kw18.out.then f)
       have Rw19 := Lib.hid b
       clear b k f)
    | (refine wpList_store_part rfl 37 _ _ rfl w19.heap.size 0 (by rfl) _ (by rfl) 37 _ (Blk.new w19 37 _) (by kernel_rfl) (by simp [Value.oneCell']) (by simp) #[.int .u16 7, .bool true, .int .i64 0, .bool false, .bool false, .bool true, .bool false, .bool false, .bool false, .int .i64 0, .int .i64 1, .int .i64 0, .int .i64 0, .int .i64 0, .slice (some ⟨gd, 0, none⟩) 1 1, .slice none 0 0, .slice none 0 0, .slice none 0 0] (by rfl) ?_
       intro w20 b3 f3
       have Qw20 := Lib.hid (((Fr.refl (fun _ => False) w19).alloc _).step f3 (fun k hk => .inr (by subst hk; exact Nat.le_refl _)))
       have Gw20 := Lib.hid (Gw19.out.then Qw20.out)
       have Kw20 := Lib.hid (Kw19.out.then Qw20.out)
       have z2 := b3.cell 2
       have zf := b3.frozen 2
       have Bw20 := Lib.hid (And.intro b3 (And.intro (Rw19.out.fr Qw20.out id) (Nat.lt_of_lt_of_le (Rw19.out.lt) (Nat.le_refl _))))
       clear b3 f3)
    | fail "no arm")
  obtain ⟨M, hM⟩ : ∃ M, M = w19.heap.size := ⟨_, rfl⟩
  have hMw : w0.heap.size ≤ M ∧ w6.heap.size ≤ M := ⟨by rw [hM]; exact Gw19.out.size, by rw [hM]; exact Kw19.out.size⟩
  rw [← hM] at Bw20 z2 zf
  rw [← hM]
  clear hM
  obtain ⟨hM1, hM2⟩ := hMw
  have hgM := Bw20.out.2.2
  go_upto_region 10 with fail
  obtain ⟨x1, hx1⟩ : ∃ x, x = w20.setCell ⟨M, 2, none⟩ (.int .i64 1) := ⟨_, rfl⟩
  have f1 : Fr (· = M) w20 x1 := by rw [hx1]; exact (Fr.refl (· = M) _).setCell (p := ⟨M, 2, none⟩) (fun _ => rfl) _
  have b1 : Blk x1 M 37 #[.int .u16 7, .bool true, .int .i64 1, .bool false, .bool false, .bool true, .bool false, .bool false, .bool false, .int .i64 0, .int .i64 1, .int .i64 0, .int .i64 0, .int .i64 0, .slice (some ⟨gd, 0, none⟩) 1 1, .slice none 0 0, .slice none 0 0, .slice none 0 0] := by rw [hx1]; exact Bw20.out.1.set_ 2 (.int .i64 1)
  rw [← hx1]
  have Gx1 := Lib.hid (Gw20.out.step f1 (fun k hk => .inr (by omega)))
  have Kx1 := Lib.hid (Kw20.out.step f1 (fun k hk => .inr (by omega)))
  have Bx1 := Lib.hid (And.intro b1 (Bw20.out.2.1.fr f1 (by omega)))
  clear hx1 f1 b1 z2 zf
  go_upto_region 11 with (first
    | (refine wpList_load_blk rfl 37 _ rfl M (by rfl) 37 _ _ Bx1.out.1 Try.underlying37 rfl (by kernel_rfl) ?_)
    | (go_at_call 12
       (with_reducible refine (mGo b A' c' gd x1 (HK.out.fr0 Kx1.out) Bx1.out.2).mono ?_)
       rintro e w21 ⟨rfl, f⟩
       have Gw21 := Lib.hid (Gx1.out.then f)
       have Kw21 := Lib.hid (Kx1.out.then f)
       have Qw21 := Lib.hid f
       clear f)
    | (refine wpList_store_part rfl 28 _ _ rfl w21.heap.size 0 (by rfl) _ (by rfl) 28 _ (Blk.new w21 28 _) (by kernel_rfl) (by simp [Value.oneCell']) (by simp) #[.int .u16 0, .string ⟨#[]⟩, .int .i64 0, .int .i64 0, .int .i64 0, .int .i64 0, .int .i64 0, .slice none 0 0] (by rfl) ?_
       intro w22 b3 f3
       have Qw22 := Lib.hid (((Fr.refl (fun _ => False) w21).alloc _).step f3 (fun k hk => .inr (by subst hk; exact Nat.le_refl _)))
       have Gw22 := Lib.hid (Gw21.out.then Qw22.out)
       have Kw22 := Lib.hid (Kw21.out.then Qw22.out)
       clear b3 f3)
    | fail "no arm")
  have Bw22 := Lib.hid ((Bx1.out.1.fr Qw21.out id).fr Qw22.out id)
  have Lw22 := Lib.hid (Fr.refl (fun _ => False) w22)
  go_upto_region 12 with (first
    | (go_at_call 19
       (with_reducible refine (host1 97 w22.heap.size (w22.alloc (.cells #[.string ⟨#[97]⟩] 9)) (Blk.new _ _ _)).mono ?_)
       rintro e w23 ⟨rfl, f⟩
       have Gw23 := Lib.hid (Gw22.out.then (((Fr.refl (fun _ => False) w22).alloc _).then f))
       have Kw23 := Lib.hid (Kw22.out.then (((Fr.refl (fun _ => False) w22).alloc _).then f))
       have Lw23 := Lib.hid (Lw22.out.then (((Fr.refl (fun _ => False) w22).alloc _).then f))
       clear f)
    | (go_at_call 18
       (with_reducible refine (ask_any ⟨#[1, 97]⟩ w23).mono ?_)
       rintro e w24 ⟨rfl, f⟩
       have Gw24 := Lib.hid (Gw23.out.then f)
       have Kw24 := Lib.hid (Kw23.out.then f)
       have Lw24 := Lib.hid (Lw23.out.then f)
       clear f)
    | (go_at_call 11
       (with_reducible refine (replyG7 97 w24).mono ?_)
       rintro e w25 ⟨gf, rfl, b, k, f⟩
       have Gw25 := Lib.hid (Gw24.out.then f)
       have Kw25 := Lib.hid (Kw24.out.then f)
       have Lw25 := Lib.hid (Lw24.out.then f)
       have Rw25 := Lib.hid b
       clear b k f)
    | (go_at_call 12
       (with_reducible refine (mGn gf w25).mono ?_)
       rintro e w26 ⟨rfl, f⟩
       have Gw26 := Lib.hid (Gw25.out.then f)
       have Kw26 := Lib.hid (Kw25.out.then f)
       have Lw26 := Lib.hid (Lw25.out.then f)
       have Qw26 := Lib.hid f
       clear f)
    | (refine wpList_store_part rfl 28 _ _ rfl w26.heap.size 0 (by rfl) _ (by rfl) 28 _ (Blk.new w26 28 _) (by kernel_rfl) (by simp [Value.oneCell']) (by simp) #[.int .u16 0, .string ⟨#[]⟩, .int .i64 0, .int .i64 0, .int .i64 0, .int .i64 0, .int .i64 0, .slice none 0 0] (by rfl) ?_
       intro w27 b3 f3
       have Qw27 := Lib.hid (((Fr.refl (fun _ => False) w26).alloc _).step f3 (fun k hk => .inr (by subst hk; exact Nat.le_refl _)))
       have Gw27 := Lib.hid (Gw26.out.then Qw27.out)
       have Kw27 := Lib.hid (Kw26.out.then Qw27.out)
       have Lw27 := Lib.hid (Lw26.out.then Qw27.out)
       clear b3 f3)
    | fail "no arm")
  have hb12 := Bw22.out.fr Lw27.out id
  have HM12 := Lib.hid (And.intro hb12 (And.intro Gw27.out hM1))
  clear hb12
  go_upto_region 13 with (first
    | (refine wpList_store_part rfl 63 _ _ rfl w27.heap.size 0 (by rfl) _ (by rfl) 63 _ (Blk.new w27 63 _) (by kernel_rfl) (by simp [Value.oneCell']) (by simp) #[.string ⟨#[]⟩, .int .i64 6, .int .i64 1, .int .u32 0, .bool false, .int .u64 0, .int .u64 0, .string ⟨#[]⟩, .string ⟨#[]⟩, .int .u32 0, .int .u32 0, .int .u32 0, .int .u32 0, .int .u32 0, .slice none 0 0, .string ⟨#[]⟩] (by rfl) ?_
       intro y1 b3 f3
       have f := ((Fr.refl (fun _ => False) w27).alloc (.cells #[.string ⟨#[]⟩, .int .i64 0, .int .i64 0, .int .u32 0, .bool false, .int .u64 0, .int .u64 0, .string ⟨#[]⟩, .string ⟨#[]⟩, .int .u32 0, .int .u32 0, .int .u32 0, .int .u32 0, .int .u32 0, .slice none 0 0, .string ⟨#[]⟩] 63)).step f3 (fun k hk => .inr (by subst hk; exact Nat.le_refl _))
       have Y1 := Lib.hid (And.intro (HM12.out.1.fr f id) (And.intro b3 (And.intro (HM12.out.2.1.then f) HM12.out.1.lt)))
       clear b3 f3 f)
    | fail "no arm")
  obtain ⟨S, hS⟩ : ∃ S, S = w27.heap.size := ⟨_, rfl⟩
  rw [← hS] at Y1
  rw [← hS]
  clear hS
  have hMS : M < S := Y1.out.2.2.2
  have hSl := Y1.out.2.1.lt
  have hMl := Y1.out.1.lt
  have z15 := Y1.out.1.cell 15
  have zf15 := Y1.out.1.frozen 15
  go_upto_region 14 with fail
  have Yy1 := Y1
  clear Y1 z15 zf15
  obtain ⟨ra, hra⟩ : ∃ x, x = y1.heap.size := ⟨_, rfl⟩
  rw [← hra]
  obtain ⟨y2, hy2⟩ : ∃ x, x = y1.setCell ⟨M, 15, none⟩ (.slice (some ⟨ra, 0, none⟩) 2 2) := ⟨_, rfl⟩
  have fy2 : Fr (· = M) y1 y2 := by rw [hy2]; exact (Fr.refl (· = M) _).setCell (p := ⟨M, 15, none⟩) (fun _ => rfl) _
  have my2 : Blk y2 M 37 #[.int .u16 7, .bool true, .int .i64 1, .bool false, .bool false, .bool true, .bool false, .bool false, .bool false, .int .i64 0, .int .i64 1, .int .i64 0, .int .i64 0, .int .i64 0, .slice (some ⟨gd, 0, none⟩) 1 1, .slice (some ⟨ra, 0, none⟩) 2 2, .slice none 0 0, .slice none 0 0] := by rw [hy2]; exact Yy1.out.1.set_ 15 (.slice (some ⟨ra, 0, none⟩) 2 2)
  have sy2 : y2.heap.size = y1.heap.size := by rw [hy2]; simp [World.setCell]
  rw [← hy2]
  obtain ⟨y3, hy3⟩ : ∃ x, x = y2.alloc (.cells #[.string ⟨#[]⟩, .int .i64 41, .int .i64 1, .int .u32 0, .bool false, .int .u64 0, .int .u64 0, .string ⟨#[]⟩, .string ⟨#[]⟩, .int .u32 0, .int .u32 0, .int .u32 0, .int .u32 0, .int .u32 0, .slice none 0 0, .string ⟨#[]⟩, .string ⟨#[]⟩, .int .i64 1, .int .i64 3, .int .u32 0, .bool false, .int .u64 0, .int .u64 0, .string ⟨#[]⟩, .string ⟨#[]⟩, .int .u32 0, .int .u32 0, .int .u32 0, .int .u32 0, .int .u32 0, .slice none 0 0, .string ⟨#[]⟩] 63) := ⟨_, rfl⟩
  have fy3 : Fr (fun _ => False) y2 y3 := by rw [hy3]; exact (Fr.refl _ _).alloc _
  have ry3 : Blk y3 ra 63 #[.string ⟨#[]⟩, .int .i64 41, .int .i64 1, .int .u32 0, .bool false, .int .u64 0, .int .u64 0, .string ⟨#[]⟩, .string ⟨#[]⟩, .int .u32 0, .int .u32 0, .int .u32 0, .int .u32 0, .int .u32 0, .slice none 0 0, .string ⟨#[]⟩, .string ⟨#[]⟩, .int .i64 1, .int .i64 3, .int .u32 0, .bool false, .int .u64 0, .int .u64 0, .string ⟨#[]⟩, .string ⟨#[]⟩, .int .u32 0, .int .u32 0, .int .u32 0, .int .u32 0, .int .u32 0, .slice none 0 0, .string ⟨#[]⟩] := by rw [hy3, hra, ← sy2]; exact Blk.new y2 63 #[.string ⟨#[]⟩, .int .i64 41, .int .i64 1, .int .u32 0, .bool false, .int .u64 0, .int .u64 0, .string ⟨#[]⟩, .string ⟨#[]⟩, .int .u32 0, .int .u32 0, .int .u32 0, .int .u32 0, .int .u32 0, .slice none 0 0, .string ⟨#[]⟩, .string ⟨#[]⟩, .int .i64 1, .int .i64 3, .int .u32 0, .bool false, .int .u64 0, .int .u64 0, .string ⟨#[]⟩, .string ⟨#[]⟩, .int .u32 0, .int .u32 0, .int .u32 0, .int .u32 0, .int .u32 0, .slice none 0 0, .string ⟨#[]⟩]
  rw [← hy3]
  have hraM : M < ra ∧ S < ra := by rw [hra]; exact ⟨hMl, hSl⟩
  have Yy3 := Lib.hid (And.intro (my2.fr fy3 id) (And.intro ((Yy1.out.2.1.fr fy2 (by omega)).fr fy3 id) (And.intro ((Yy1.out.2.2.1.step fy2 (fun k hk => .inr (by omega))).then fy3) ry3)))
  clear hy2 fy2 my2 sy2 hra hy3 fy3 ry3 Yy1 hSl hMl
  have hSl := Yy3.out.2.1.lt
  have hMl := Yy3.out.1.lt
  have hral := Yy3.out.2.2.2.lt
  have z16 := Yy3.out.1.cell 16
  have zf16 := Yy3.out.1.frozen 16
  go_upto_region 15 with (first
    | (refine wpList_load_blk rfl 63 _ rfl S (by rfl) 63 _ _ Yy3.out.2.1 Try.underlying63 rfl (by kernel_rfl) ?_)
    | fail "no arm")
  clear z16 zf16
  obtain ⟨rb, hrb⟩ : ∃ x, x = y3.heap.size := ⟨_, rfl⟩
  rw [← hrb]
  obtain ⟨y4, hy4⟩ : ∃ x, x = y3.setCell ⟨M, 16, none⟩ (.slice (some ⟨rb, 0, none⟩) 3 3) := ⟨_, rfl⟩
  have fy4 : Fr (· = M) y3 y4 := by rw [hy4]; exact (Fr.refl (· = M) _).setCell (p := ⟨M, 16, none⟩) (fun _ => rfl) _
  have my4 : Blk y4 M 37 #[.int .u16 7, .bool true, .int .i64 1, .bool false, .bool false, .bool true, .bool false, .bool false, .bool false, .int .i64 0, .int .i64 1, .int .i64 0, .int .i64 0, .int .i64 0, .slice (some ⟨gd, 0, none⟩) 1 1, .slice (some ⟨ra, 0, none⟩) 2 2, .slice (some ⟨rb, 0, none⟩) 3 3, .slice none 0 0] := by rw [hy4]; exact Yy3.out.1.set_ 16 (.slice (some ⟨rb, 0, none⟩) 3 3)
  have sy4 : y4.heap.size = y3.heap.size := by rw [hy4]; simp [World.setCell]
  rw [← hy4]
  obtain ⟨y5, hy5⟩ : ∃ x, x = y4.alloc (.cells #[.string ⟨#[]⟩, .int .i64 2, .int .i64 1, .int .u32 0, .bool false, .int .u64 0, .int .u64 0, .string ⟨#[]⟩, .string ⟨#[]⟩, .int .u32 0, .int .u32 0, .int .u32 0, .int .u32 0, .int .u32 0, .slice none 0 0, .string ⟨#[]⟩, .string ⟨#[]⟩, .int .i64 6, .int .i64 1, .int .u32 0, .bool false, .int .u64 0, .int .u64 0, .string ⟨#[]⟩, .string ⟨#[]⟩, .int .u32 0, .int .u32 0, .int .u32 0, .int .u32 0, .int .u32 0, .slice none 0 0, .string ⟨#[]⟩, .string ⟨#[]⟩, .int .i64 6, .int .i64 1, .int .u32 0, .bool false, .int .u64 0, .int .u64 0, .string ⟨#[]⟩, .string ⟨#[]⟩, .int .u32 0, .int .u32 0, .int .u32 0, .int .u32 0, .int .u32 0, .slice none 0 0, .string ⟨#[]⟩] 63) := ⟨_, rfl⟩
  have fy5 : Fr (fun _ => False) y4 y5 := by rw [hy5]; exact (Fr.refl _ _).alloc _
  have ry5 : Blk y5 rb 63 #[.string ⟨#[]⟩, .int .i64 2, .int .i64 1, .int .u32 0, .bool false, .int .u64 0, .int .u64 0, .string ⟨#[]⟩, .string ⟨#[]⟩, .int .u32 0, .int .u32 0, .int .u32 0, .int .u32 0, .int .u32 0, .slice none 0 0, .string ⟨#[]⟩, .string ⟨#[]⟩, .int .i64 6, .int .i64 1, .int .u32 0, .bool false, .int .u64 0, .int .u64 0, .string ⟨#[]⟩, .string ⟨#[]⟩, .int .u32 0, .int .u32 0, .int .u32 0, .int .u32 0, .int .u32 0, .slice none 0 0, .string ⟨#[]⟩, .string ⟨#[]⟩, .int .i64 6, .int .i64 1, .int .u32 0, .bool false, .int .u64 0, .int .u64 0, .string ⟨#[]⟩, .string ⟨#[]⟩, .int .u32 0, .int .u32 0, .int .u32 0, .int .u32 0, .int .u32 0, .slice none 0 0, .string ⟨#[]⟩] := by rw [hy5, hrb, ← sy4]; exact Blk.new y4 63 #[.string ⟨#[]⟩, .int .i64 2, .int .i64 1, .int .u32 0, .bool false, .int .u64 0, .int .u64 0, .string ⟨#[]⟩, .string ⟨#[]⟩, .int .u32 0, .int .u32 0, .int .u32 0, .int .u32 0, .int .u32 0, .slice none 0 0, .string ⟨#[]⟩, .string ⟨#[]⟩, .int .i64 6, .int .i64 1, .int .u32 0, .bool false, .int .u64 0, .int .u64 0, .string ⟨#[]⟩, .string ⟨#[]⟩, .int .u32 0, .int .u32 0, .int .u32 0, .int .u32 0, .int .u32 0, .slice none 0 0, .string ⟨#[]⟩, .string ⟨#[]⟩, .int .i64 6, .int .i64 1, .int .u32 0, .bool false, .int .u64 0, .int .u64 0, .string ⟨#[]⟩, .string ⟨#[]⟩, .int .u32 0, .int .u32 0, .int .u32 0, .int .u32 0, .int .u32 0, .slice none 0 0, .string ⟨#[]⟩]
  rw [← hy5]
  have hrbM : M < rb ∧ ra < rb := by rw [hrb]; exact ⟨hMl, hral⟩
  have Yy5 := Lib.hid (And.intro (my4.fr fy5 id) (And.intro ((Yy3.out.2.2.2.fr fy4 (by omega)).fr fy5 id) (And.intro ((Yy3.out.2.2.1.step fy4 (fun k hk => .inr (by omega))).then fy5) ry5)))
  clear hy4 fy4 my4 sy4 hrb hy5 fy5 ry5 Yy3 hSl hMl hral
  have z9 := Yy5.out.1.cell 9
  have zf9 := Yy5.out.1.frozen 9
  go_upto_region 16 with fail
  obtain ⟨y6, hy6⟩ : ∃ x, x = y5.setCell ⟨M, 9, none⟩ (.int .i64 3) := ⟨_, rfl⟩
  have fy6 : Fr (· = M) y5 y6 := by rw [hy6]; exact (Fr.refl (· = M) _).setCell (p := ⟨M, 9, none⟩) (fun _ => rfl) _
  have Yy6 := Lib.hid (And.intro (show Blk y6 M 37 #[.int .u16 7, .bool true, .int .i64 1, .bool false, .bool false, .bool true, .bool false, .bool false, .bool false, .int .i64 3, .int .i64 1, .int .i64 0, .int .i64 0, .int .i64 0, .slice (some ⟨gd, 0, none⟩) 1 1, .slice (some ⟨ra, 0, none⟩) 2 2, .slice (some ⟨rb, 0, none⟩) 3 3, .slice none 0 0] by rw [hy6]; exact Yy5.out.1.set_ 9 (.int .i64 3)) (And.intro (Yy5.out.2.1.fr fy6 (by omega)) (And.intro (Yy5.out.2.2.1.step fy6 (fun k hk => .inr (by omega))) (Yy5.out.2.2.2.fr fy6 (by omega)))))
  rw [← hy6]
  clear hy6 fy6 z9 zf9 Yy5
  go_upto_region 17 with (first
    | (refine wpList_load_blk rfl 37 _ rfl M (by rfl) 37 _ _ Yy6.out.1 Try.underlying37 rfl (by kernel_rfl) ?_)
    | (go_at_call 16
       (with_reducible refine (told2_ gd ra rb y6 Yy6.out.2.1 Yy6.out.2.2.2).mono ?_)
       rintro e y7 ⟨A1, c1, A2, c2, rfl, f⟩
       have Yy7 := Lib.hid (And.intro (Yy6.out.1.fr f id) (And.intro (Yy6.out.2.1.fr f id) (And.intro (Yy6.out.2.2.1.then f) (Yy6.out.2.2.2.fr f id))))
       clear f)
    | fail "no arm")
  obtain ⟨i0, hi, hz0, hz1, hz2⟩ := info_parts Try.infoRcd25
  have HI := Lib.hid (And.intro hi (And.intro hz0 (And.intro hz1 hz2)))
  clear hi hz0 hz1 hz2
  have z15 := Yy7.out.1.cell 15
  have zf15 := Yy7.out.1.frozen 15
  have hMl := Yy7.out.1.lt
  go_upto_region 18 with (first
    | (at_builtin; refine wpList_append_src rfl (.tmp 95) (.tmp 97) _ _ rfl 63 i0 _ 16 160 Try.underlying35 HI.out.1 HI.out.2.1 HI.out.2.2.1 HI.out.2.2.2 rfl (by decide) (some ⟨ra, 0, none⟩) 2 2 [.string ⟨#[]⟩, .int .i64 41, .int .i64 1, .int .u32 0, .bool false, .int .u64 0, .int .u64 0, .string ⟨#[]⟩, .string ⟨#[]⟩, .int .u32 0, .int .u32 0, .int .u32 0, .int .u32 0, .int .u32 0, .slice none 0 0, .string ⟨#[]⟩, .string ⟨#[]⟩, .int .i64 1, .int .i64 3, .int .u32 0, .bool false, .int .u64 0, .int .u64 0, .string ⟨#[]⟩, .string ⟨#[]⟩, .int .u32 0, .int .u32 0, .int .u32 0, .int .u32 0, .int .u32 0, .slice none 0 0, .string ⟨#[]⟩] (by rfl) ((own32 Yy7.out.2.1).alloc _) _ 1 [.string ⟨#[]⟩, .int .i64 1, .int .i64 1, .int .u32 0, .bool false, .int .u64 0, .int .u64 0, .string ⟨#[]⟩, .string ⟨#[]⟩, .int .u32 0, .int .u32 0, .int .u32 0, .int .u32 0, .int .u32 0, .slice none 0 0, .string ⟨#[]⟩] (by rfl)
         (Src.ofSlice _ Try.underlying35 ⟨y7.heap.size, 0, none⟩ 1 1 [.string ⟨#[]⟩, .int .i64 1, .int .i64 1, .int .u32 0, .bool false, .int .u64 0, .int .u64 0, .string ⟨#[]⟩, .string ⟨#[]⟩, .int .u32 0, .int .u32 0, .int .u32 0, .int .u32 0, .int .u32 0, .slice none 0 0, .string ⟨#[]⟩] rfl (new16 _) (by simp [Value.oneCell'])) (by simp only [maxLen]; omega) (by omega) ?_
       intro A7 c7 y8 o1 o2 o3
       have hrg : ∀ k, rowOf (some (⟨ra, 0, none⟩ : Addr)) k → k = ra := fun k ⟨a, ha, hk⟩ => by injection ha with ha; subst ha; exact hk.symm
       have hA7 : ∀ k, rowOf A7 k → ¬ (k = M) := fun k hk => by
         rcases o3 k hk with h | h
         · have := hrg k h; omega
         · rw [World.size_alloc] at h; omega
       have f8 : Fr (· = ra) y7 y8 := ((Fr.refl (· = ra) y7).alloc _).then (o2.mono (fun k _ h => hrg k h))
       have Yy8 := Lib.hid (And.intro (Yy7.out.1.fr f8 (by omega)) (And.intro o1 (And.intro (Yy7.out.2.2.1.step f8 (fun k hk => .inr (by omega))) (And.intro (Yy7.out.2.2.2.fr f8 (by omega)) hA7))))
       have z15 := Yy8.out.1.cell 15
       have zf15 := Yy8.out.1.frozen 15
       clear o1 o2 o3 hrg hA7 f8)
    | fail "no arm")
  obtain ⟨y9, hy9⟩ : ∃ x, x = y8.setCell ⟨M, 15, none⟩ (.slice A7 3 c7) := ⟨_, rfl⟩
  have fy9 : Fr (· = M) y8 y9 := by rw [hy9]; exact (Fr.refl (· = M) _).setCell (p := ⟨M, 15, none⟩) (fun _ => rfl) _
  have Yy9 := Lib.hid (And.intro (show Blk y9 M 37 #[.int .u16 7, .bool true, .int .i64 1, .bool false, .bool false, .bool true, .bool false, .bool false, .bool false, .int .i64 3, .int .i64 1, .int .i64 0, .int .i64 0, .int .i64 0, .slice (some ⟨gd, 0, none⟩) 1 1, .slice A7 3 c7, .slice (some ⟨rb, 0, none⟩) 3 3, .slice none 0 0] by rw [hy9]; exact Yy8.out.1.set_ 15 (.slice A7 3 c7)) (And.intro (show y9.ownsRow 0 63 16 (.slice A7 3 c7) 3 [.string ⟨#[]⟩, .int .i64 41, .int .i64 1, .int .u32 0, .bool false, .int .u64 0, .int .u64 0, .string ⟨#[]⟩, .string ⟨#[]⟩, .int .u32 0, .int .u32 0, .int .u32 0, .int .u32 0, .int .u32 0, .slice none 0 0, .string ⟨#[]⟩, .string ⟨#[]⟩, .int .i64 1, .int .i64 3, .int .u32 0, .bool false, .int .u64 0, .int .u64 0, .string ⟨#[]⟩, .string ⟨#[]⟩, .int .u32 0, .int .u32 0, .int .u32 0, .int .u32 0, .int .u32 0, .slice none 0 0, .string ⟨#[]⟩, .string ⟨#[]⟩, .int .i64 1, .int .i64 1, .int .u32 0, .bool false, .int .u64 0, .int .u64 0, .string ⟨#[]⟩, .string ⟨#[]⟩, .int .u32 0, .int .u32 0, .int .u32 0, .int .u32 0, .int .u32 0, .slice none 0 0, .string ⟨#[]⟩] from own_fr Yy8.out.2.1 fy9 Yy8.out.2.2.2.2) (And.intro (Yy8.out.2.2.1.step fy9 (fun k hk => .inr (by omega))) (Yy8.out.2.2.2.1.fr fy9 (by omega)))))
  rw [← hy9]
  clear hy9 fy9 z15 zf15
  go_wp2_with (first
    | (refine wpList_load_blk rfl 37 _ rfl M (by rfl) 37 _ _ Yy9.out.1 Try.underlying37 rfl (by kernel_rfl) ?_)
    | (go_at_call 16
       (with_reducible refine (told3_ gd c7 rb A7 y9 Yy9.out.2.1 Yy9.out.2.2.2).mono ?_)
       rintro e v1 ⟨A3, c3, A4, c4, rfl, f⟩
       have Gv1 := Lib.hid (Yy9.out.2.2.1.then f)
       have Bv1 := Lib.hid (Yy9.out.1.fr f id)
       clear f)
    | (go_at_call 6
       (with_reducible refine (lives25_any v1).mono ?_)
       rintro e v2 ⟨rfl, f⟩
       have Gv2 := Lib.hid (Gv1.out.then f)
       have Bv2 := Lib.hid (Bv1.out.fr f id)
       clear f)
    | (refine wpList_load_blkg (by first | rfl | (simp [Region.wanted, yielded]; done)) 37 _ rfl M (by rfl) 37 _ _ Bv2.out Try.underlying37 rfl (by kernel_rfl) ?_)
    | (go_at_call 20
       (with_reducible refine (final3 gd c7 rb A7 v2).mono ?_)
       rintro e v3 ⟨rfl, f⟩
       have Gv3 := Lib.hid (Gv2.out.then f)
       clear f)
    | (go_at_call 20
       (with_reducible refine (final2 v3).mono ?_)
       rintro e v4 ⟨rfl, f⟩
       have Gv4 := Lib.hid (Gv3.out.then f)
       clear f)
    | (go_at_call 19
       (with_reducible refine (host1 97 v4.heap.size (v4.alloc (.cells #[.string ⟨#[97]⟩] 9)) (Blk.new _ _ _)).mono ?_)
       rintro e v5 ⟨rfl, f⟩
       have Gv5 := Lib.hid (Gv4.out.then (((Fr.refl (fun _ => False) v4).alloc _).then f))
       clear f)
    | (go_at_call 18
       (with_reducible refine (ask_any ⟨#[1, 97]⟩ v5).mono ?_)
       rintro e v6 ⟨rfl, f⟩
       have Gv6 := Lib.hid (Gv5.out.then f)
       clear f)
    | (go_at_call 19
       (with_reducible refine (host1 65 v6.heap.size (v6.alloc (.cells #[.string ⟨#[65]⟩] 9)) (Blk.new _ _ _)).mono ?_)
       rintro e v7 ⟨rfl, f⟩
       have Gv7 := Lib.hid (Gv6.out.then (((Fr.refl (fun _ => False) v6).alloc _).then f))
       clear f)
    | (go_at_call 18
       (with_reducible refine (ask_any ⟨#[1, 65]⟩ v7).mono ?_)
       rintro e v8 ⟨rfl, f⟩
       have Gv8 := Lib.hid (Gv7.out.then f)
       clear f)
    | (go_at_call 21
       (with_reducible refine (same_y v8).mono ?_)
       rintro e v9 ⟨rfl, f⟩
       have Gv9 := Lib.hid (Gv8.out.then f)
       clear f)
    | (go_at_call 19
       (with_reducible refine (host1 97 v9.heap.size (v9.alloc (.cells #[.string ⟨#[97]⟩] 9)) (Blk.new _ _ _)).mono ?_)
       rintro e v10 ⟨rfl, f⟩
       have Gv10 := Lib.hid (Gv9.out.then (((Fr.refl (fun _ => False) v9).alloc _).then f))
       clear f)
    | (go_at_call 18
       (with_reducible refine (ask_any ⟨#[1, 97]⟩ v10).mono ?_)
       rintro e v11 ⟨rfl, f⟩
       have Gv11 := Lib.hid (Gv10.out.then f)
       clear f)
    | (go_at_call 19
       (with_reducible refine (host1 98 v11.heap.size (v11.alloc (.cells #[.string ⟨#[98]⟩] 9)) (Blk.new _ _ _)).mono ?_)
       rintro e v12 ⟨rfl, f⟩
       have Gv12 := Lib.hid (Gv11.out.then (((Fr.refl (fun _ => False) v11).alloc _).then f))
       clear f)
    | (go_at_call 18
       (with_reducible refine (ask_any ⟨#[1, 98]⟩ v12).mono ?_)
       rintro e v13 ⟨rfl, f⟩
       have Gv13 := Lib.hid (Gv12.out.then f)
       clear f)
    | (go_at_call 21
       (with_reducible refine (same_n v13).mono ?_)
       rintro e v14 ⟨rfl, f⟩
       have Gv14 := Lib.hid (Gv13.out.then f)
       clear f)
    | fail "no arm")
  go_ret
  exact ⟨rfl, Gv14.out⟩
theorem matchNames_walk (w : World) : Calls Try.prog 5 #[] w fun e w' => e = .returned (.bool true) ∧ Below w.heap.size w w' :=
  (names25 w).mono fun e w' ⟨h1, h2⟩ => ⟨h1, h2.below (fun k hk => hk.elim) (Nat.le_refl _)⟩
end Go.Proofs.Ytncfdfgcnblicaa
