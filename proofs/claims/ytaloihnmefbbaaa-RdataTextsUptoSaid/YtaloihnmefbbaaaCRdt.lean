/-
  LAYER 9: RdataTexts.
-/
import Derived.Test.YtaloihnmefbbaaaBunH
import Derived.Deep.RegionWith
namespace Go.Proofs.Ytaloihnmefbbaaa
set_option linter.unusedVariables false
set_option linter.unusedSimpArgs false
open Go.RowKit

def txtD (l : List ByteArray) : Dt := ⟨false, 0, 0, ⟨#[]⟩, ⟨#[]⟩, 0, 0, 0, 0, 0, l, ⟨#[]⟩⟩
def rawD (s : ByteArray) : Dt := ⟨false, 0, 0, ⟨#[]⟩, ⟨#[]⟩, 0, 0, 0, 0, 0, [], s⟩
theorem zero_num (i : Nat) (l : List ByteArray) (s : ByteArray) : Dt.num ⟨false, 0, 0, ⟨#[]⟩, ⟨#[]⟩, 0, 0, 0, 0, 0, l, s⟩ i = 0 := by
  unfold Dt.num
  split <;> rfl
theorem txt_bare {l : List ByteArray} (h : l ≠ []) : (txtD l).bare (whatN 16) :=
  ⟨fun _ => rfl, fun _ => rfl, fun _ => rfl, ⟨fun _ => h, fun _ => rfl⟩, fun _ => ⟨rfl, rfl, rfl⟩, (fun h => absurd h (by decide)), fun i _ _ => zero_num i _ _, (fun h => absurd h (by decide))⟩
theorem raw_bare (s : ByteArray) : (rawD s).bare (whatN 9999) :=
  ⟨fun _ => rfl, fun _ => rfl, (fun h => absurd h (by decide)), ⟨(fun h => absurd h (by decide)), (fun h => absurd rfl h)⟩, fun _ => ⟨rfl, rfl, rfl⟩, (fun h => absurd h (by decide)), fun i _ _ => zero_num i _ _, (fun h => absurd h (by decide))⟩
theorem txt_size (l : List ByteArray) : (txtD l).size (whatN 16) = textsLen l := by
  show 0 + 0 * 0 + 0 + 0 + 0 + textsLen l = textsLen l
  omega
theorem raw_size (s : ByteArray) : (rawD s).size (whatN 9999) = s.size := by
  show 0 + 0 * 0 + s.size + 0 + 0 + 0 = s.size
  omega
theorem txt_check {l : List ByteArray} (h : l ≠ []) (hx : ∀ x ∈ l, x.size ≤ 255) (hs : textsLen l ≤ 65535) : dcheck 16 (txtD l) = 0 :=
  dcheck_intro (by decide) (txt_bare h) ckE9 ckE9 hx (by rw [txt_size]; exact hs)
theorem raw_check {s : ByteArray} (hs : s.size ≤ 65535) : dcheck 9999 (rawD s) = 0 :=
  dcheck_intro (by decide) (raw_bare s) ckE9 ckE9 (fun x hx => by cases hx) (by rw [raw_size]; exact hs)
theorem txt_long {l : List ByteArray} (h : l ≠ []) (hx : ∃ x ∈ l, 255 < x.size) : dcheck 16 (txtD l) = 3 := by
  have h0 : dcheck0 16 (txtD l) = 3 := by
    unfold dcheck0
    rw [if_pos ⟨by decide, by decide, txt_bare h⟩, if_neg (by simp [txtD, ckE9]), if_neg (by simp [txtD, ckE9]), if_pos (show ∃ x, x ∈ (txtD l).texts ∧ 255 < x.size from hx)]
  unfold dcheck
  rw [if_pos (by rw [h0]; decide), h0]
theorem txt_put (l : List ByteArray) : (dputB ⟨⟨[], 65535, 0⟩, fun _ => none⟩ (whatN 16) (txtD l)).x.b = textsL l := by
  show ((([] ++ []) ++ ([] : List UInt8)) ++ textsL l) ++ [] = textsL l
  simp
theorem raw_put (s : ByteArray) : (dputB ⟨⟨[], 65535, 0⟩, fun _ => none⟩ (whatN 9999) (rawD s)).x.b = s.data.toList := by
  show ((([] ++ []) ++ ([] : List UInt8)) ++ []) ++ s.data.toList = s.data.toList
  simp
theorem txt_light (l : List ByteArray) : (txtD l).light = textsLen l := by
  show 0 + 0 + 0 + textsLen l = _
  omega
theorem raw_light (s : ByteArray) : (rawD s).light = s.size := by
  show s.size + 0 + 0 + 0 = _
  omega
theorem txt_in {w : World} {A : Option Addr} {l : List ByteArray} (h : Strs w A l) (hl : l.length ≤ 1000000000) : DtIn w A (txtD l) := ⟨(by decide : (0 : Nat) < 18446744073709551616), (by decide : (0 : Nat) < 18446744073709551616), fun i => by unfold txtD; rw [zero_num]; decide, h, hl, (by decide : (0 : Nat) ≤ 1000000000000)⟩
theorem raw_in (w : World) {s : ByteArray} (hl : s.size ≤ 1000000000000) : DtIn w none (rawD s) := ⟨(by decide : (0 : Nat) < 18446744073709551616), (by decide : (0 : Nat) < 18446744073709551616), fun i => by unfold rawD; rw [zero_num]; decide, Strs.nil _ _, by show (0 : Nat) ≤ _; omega, hl⟩

theorem check_txt (l : List ByteArray) (A : Option Addr) (cap : Nat) (W : World) (h : DtIn W A (txtD l)) :
    Calls Try.prog 23 #[.int .i64 16, .agg #[.bool false, .int .u64 0, .int .u64 0, .string ⟨#[]⟩, .string ⟨#[]⟩, .int .u32 0, .int .u32 0, .int .u32 0, .int .u32 0, .int .u32 0, .slice A l.length cap, .string ⟨#[]⟩]] W (IntPost W (dcheckB 16 (txtD l))) := dCheck_any 16 (txtD l) A cap W h (by decide)
theorem size_txt (l : List ByteArray) (A : Option Addr) (cap : Nat) (W : World) (h : DtIn W A (txtD l)) :
    Calls Try.prog 26 #[.int .i64 16, .agg #[.bool false, .int .u64 0, .int .u64 0, .string ⟨#[]⟩, .string ⟨#[]⟩, .int .u32 0, .int .u32 0, .int .u32 0, .int .u32 0, .int .u32 0, .slice A l.length cap, .string ⟨#[]⟩]] W (IntPost W (dsizeB 16 (txtD l))) := dSize_any 16 (txtD l) A cap W h (by decide)
theorem put_txt {w0 w : World} {p : Nat} {F : Nat → Prop} {y : Pk} (h : PD w0 w p F y) (l : List ByteArray) (A : Option Addr) (cap : Nat) (hfit : y.fit) (hd : DtIn w0 A (txtD l)) :
    Calls Try.prog 24 #[.pointer (some ⟨p, 0, none⟩), .int .i64 16, .agg #[.bool false, .int .u64 0, .int .u64 0, .string ⟨#[]⟩, .string ⟨#[]⟩, .int .u32 0, .int .u32 0, .int .u32 0, .int .u32 0, .int .u32 0, .slice A l.length cap, .string ⟨#[]⟩]] w
      fun e w' => e = .returned (.int .i64 (dputR y 16 (txtD l)).2) ∧ ∃ F', PD w0 w' p F' (dputR y 16 (txtD l)).1 ∧ Fr F w w' ∧ ∀ k, F' k → F k ∨ w.heap.size ≤ k := dput_pd h 16 (txtD l) A cap hfit hd (by decide)
theorem put_raw {w0 w : World} {p : Nat} {F : Nat → Prop} {y : Pk} (h : PD w0 w p F y) (s : ByteArray) (hfit : y.fit) (hs : s.size ≤ 1000000000000) :
    Calls Try.prog 24 #[.pointer (some ⟨p, 0, none⟩), .int .i64 9999, .agg #[.bool false, .int .u64 0, .int .u64 0, .string ⟨#[]⟩, .string ⟨#[]⟩, .int .u32 0, .int .u32 0, .int .u32 0, .int .u32 0, .int .u32 0, .slice none 0 0, .string s]] w
      fun e w' => e = .returned (.int .i64 (dputR y 9999 (rawD s)).2) ∧ ∃ F', PD w0 w' p F' (dputR y 9999 (rawD s)).1 ∧ Fr F w w' ∧ ∀ k, F' k → F k ∨ w.heap.size ≤ k := dput_pd h 9999 (rawD s) none 0 hfit (raw_in w0 hs) (by decide)
theorem read_raw (s : ByteArray) (w : World) (hs : s.size ≤ 1500) :
    Calls Try.prog 25 #[.string s, .int .i64 0, .int .i64 s.size, .int .i64 9999] w fun e w' => ∃ A cap, e = .returned (.tuple #[.agg #[.bool false, .int .u64 0, .int .u64 0, .string ⟨#[]⟩, .string ⟨#[]⟩, .int .u32 0, .int .u32 0, .int .u32 0, .int .u32 0, .int .u32 0, .slice A 0 cap, .string s], .int .i64 0]) ∧ Fr (fun _ => False) w w' := by
  have hlen : s.data.toList.length = s.size := by rw [Array.length_toList]; rfl
  have h := read_any s 0 s.size 9999 w (by omega) (by decide)
  have hr := raw_reads s.data.toList 0 s.size (Nat.zero_le _) (by omega) (by omega) 9999 (by decide) (by decide)
  have he : (⟨((s.data.toList.drop 0).take (s.size - 0)).toArray⟩ : ByteArray) = s := by
    rw [List.drop_zero, Nat.sub_zero, List.take_of_length_le (by omega)]
    first | done | exact back_arr s
  rw [he] at hr
  have hr' : dreadC s 0 s.size 9999 = (rawD s, 0) := by
    rw [dreadC_eq]
    exact hr
  rw [hr'] at h
  refine h.mono ?_
  rintro e w' ⟨A, cap, rfl, _, hf, _⟩
  exact ⟨A, cap, rfl, hf⟩
theorem conv1 (k : Nat) (hk : k ≤ 255) (w : World) :
    (convert 52 9 (.slice (some ⟨w.heap.size, 0, none⟩) 1 1)).run Try.prog (w.alloc (.cells #[.int .u8 (k : Int)] 5)) = .ok (.string ⟨(octs k 1).toArray⟩) (w.alloc (.cells #[.int .u8 (k : Int)] 5)) :=
  conv_octs k 1 (by decide) #[.int .u8 (k : Int)] (by simp [u8s, octs]; omega) w
theorem textsL_snoc : ∀ (l : List ByteArray) (x : ByteArray), textsL (l ++ [x]) = textsL l ++ (octs x.size 1 ++ x.data.toList)
  | [], x => by simp [textsL]
  | a :: r, x => by simp [textsL, textsL_snoc r x]

set_option maxRecDepth 100000 in
set_option maxHeartbeats 16000000 in
theorem rdataTexts_walk (l : List ByteArray) (A : Option Addr) (cap : Nat) (raw : ByteArray) (w : World) (hl : Strs w A l ∧ textsLen l ≤ 1048576) (hr : raw.size ≤ 1048576) :
    Calls Try.prog 5 #[.slice A l.length cap, .string raw] w fun e w' => e = .returned (.bool true) ∧ Below w.heap.size w w' := by
  have hll := texts_len_le l
  have hl1 : l.length ≤ 1048576 := by omega
  have HL := Lib.hid hl
  clear hl hll
  by_cases h0 : l.length = 0
  · have h0' : ((l.length : Int) == 0) = true := by simp [h0]
    go_enter Try.func5, Try.ntmps5
    go_wp2_with fail
    refine (lives9_any _).mono ?_
    rintro e w1 ⟨rfl, f1⟩
    go_wp2_with fail
    go_ret
    exact ⟨rfl, f1.below (fun _ h => h.elim) (Nat.le_refl _)⟩
  have hne : l ≠ [] := fun h => h0 (by rw [h]; rfl)
  have h0' : ((l.length : Int) == 0) = false := by rw [beq_eq_false_iff_ne]; omega
  by_cases h1 : 20 < l.length
  · go_enter Try.func5, Try.ntmps5
    go_wp2_with fail
    refine (lives9_any _).mono ?_
    rintro e w1 ⟨rfl, f1⟩
    go_wp2_with fail
    go_ret
    exact ⟨rfl, f1.below (fun _ h => h.elim) (Nat.le_refl _)⟩
  by_cases h2 : 1500 < raw.size
  · go_enter Try.func5, Try.ntmps5
    go_wp2_with fail
    refine (lives9_any _).mono ?_
    rintro e w1 ⟨rfl, f1⟩
    go_wp2_with fail
    go_ret
    exact ⟨rfl, f1.below (fun _ h => h.elim) (Nat.le_refl _)⟩
  have HNE := Lib.hid hne
  clear hne
  go_enter Try.func5, Try.ntmps5
  go_wp2_with fail
  refine (lives9_any _).mono ?_
  rintro e w1 ⟨rfl, f1⟩
  have H1 := Lib.hid (And.intro f1 (HL.out.1.fr0 f1))
  clear f1
  go_wp2_with fail
  go_loopg [5, 6] l.length (fun g v i wr => ∃ (k : Nat) (S : ByteArray), g = l.length - k ∧ k ≤ l.length ∧ i = .int .i64 k ∧ v = .string S ∧ S = ⟨(textsL (l.take k)).toArray⟩ ∧ (∀ x ∈ l.take k, x.size ≤ 255) ∧ Fr (fun _ => False) w1 wr)
  case atStart => exact ⟨0, ⟨#[]⟩, rfl, Nat.zero_le _, rfl, rfl, rfl, fun x hx => by simp at hx, Fr.refl _ _⟩
  case round =>
    obtain ⟨k, S, hg, hk, rfl, rfl, hS, hx, hf⟩ := hrel
    have hsz : S.size ≤ 5120 := by
      have h1 := textsLen_le hx
      have h2 : (l.take k).length ≤ 20 := by rw [List.length_take]; omega
      rw [hS]
      show (textsL (l.take k)).toArray.size ≤ 5120
      rw [List.size_toArray, textsL_length]
      omega
    have HG := Lib.hid (And.intro hg (And.intro hx (And.intro hf hS)))
    clear hg hx hf hS
    by_cases hlt : k < l.length
    · obtain ⟨x, hx⟩ : ∃ x, l[k]? = some x := ⟨l[k], List.getElem?_eq_getElem hlt⟩
      obtain ⟨b, off, hA, hbl, hcs⟩ := (HL.out.1.fr0 (H1.out.1.then HG.out.2.2.1)).form.resolve_left (fun e => by rw [e] at hlt; simp at hlt)
      subst hA
      have hc := hcs k x hx
      have hc2 : ∀ o, (wr.alloc o).cell? ⟨b, off + k, none⟩ = some (.string x) := fun o => (World.cell?_alloc_lt _ _ _ (World.block_lt_of_cell? wr _ hc)).trans hc
      have hts : l.take (k + 1) = l.take k ++ [x] := by
        rw [List.take_add_one, hx]
        rfl
      have HX := Lib.hid (And.intro hx hts)
      clear hcs hx hts hbl
      by_cases h255 : 255 < x.size
      · go_wp2_with (first
          | (go_at_call 23
             (with_reducible refine (check_txt l (some ⟨b, off, none⟩) cap _ (txt_in (HL.out.1.fr0 (H1.out.1.then HG.out.2.2.1)) (by omega))).mono ?_)
             rintro e w3 ⟨rfl, f3⟩
             rw [dcheckB_eq, txt_long HNE.out ⟨x, List.mem_of_getElem? HX.out.1, h255⟩]
             have H3 := Lib.hid f3
             clear f3))
        go_ret
        exact ⟨rfl, (H1.out.1.then (HG.out.2.2.1.then H3.out)).below (fun _ h => h.elim) (Nat.le_refl _)⟩
      · have hwr : IntKind.u8.wrap (x.size : Int) = (x.size : Int) := IntWalk.u8_in _ (by omega)
        obtain ⟨C, hC⟩ : ∃ C : ByteArray, C = ⟨(octs x.size 1).toArray⟩ := ⟨_, rfl⟩
        have hcv : ∀ W : World, (convert 52 9 (.slice (some ⟨W.heap.size, 0, none⟩) 1 1)).run Try.prog ((W.alloc (.cells #[.int .u8 (x.size : Int)] 5)).drew) = .ok (.string C) ((W.alloc (.cells #[.int .u8 (x.size : Int)] 5)).drew) := fun W => by
          rw [hC]
          exact conv1 x.size (by omega) W.drew
        have hcl : C.size ≤ 1 := by
          rw [hC]
          show (octs x.size 1).toArray.size ≤ 1
          rw [List.size_toArray, octs_length]
          exact Nat.le_refl _
        have HC := Lib.hid hC
        clear hC
        go_wp2_with fail
        go_region_with fail
        all_goals
          go_wp2_with fail
          go_roundg (l.length - (k + 1))
          case rel =>
            refine ⟨k + 1, S ++ C ++ x, rfl, hlt, by go_num, rfl, ?_, ?_, (HG.out.2.2.1.alloc _).drew⟩
            · rw [HX.out.2, textsL_snoc, HG.out.2.2.2, HC.out, str_app2, str_app, List.append_assoc]
            · intro z hz
              rw [HX.out.2] at hz
              rcases List.mem_append.1 hz with h | h
              · exact HG.out.2.1 z h
              · rw [List.mem_singleton] at h
                subst h
                omega
          case measure => rw [HG.out.1]; omega
    · have hke : k = l.length := by omega
      subst hke
      have hall : ∀ x ∈ l, x.size ≤ 255 := by
        have := HG.out.2.1
        rwa [List.take_length] at this
      have hS : S = ⟨(textsL l).toArray⟩ := by
        have := HG.out.2.2.2
        rwa [List.take_length] at this
      have htl := textsLen_le hall
      have hsl : S.size = textsLen l := by
        rw [hS]
        show (textsL l).toArray.size = _
        rw [List.size_toArray, textsL_length]
      have hck := txt_check HNE.out hall (by omega)
      have hckr := raw_check (s := raw) (by omega)
      have hrt : dputR ⟨⟨[], 65535, 0⟩, fun _ => none⟩ 16 (txtD l) = (dputB ⟨⟨[], 65535, 0⟩, fun _ => none⟩ (whatN 16) (txtD l), 0) := by
        rw [dputR_good UG.start (txt_in HL.out.1 (by omega)).ok (by rw [txt_light]; omega), if_neg (by simp [hck])]
      have hrr : dputR ⟨⟨[], 65535, 0⟩, fun _ => none⟩ 9999 (rawD raw) = (dputB ⟨⟨[], 65535, 0⟩, fun _ => none⟩ (whatN 9999) (rawD raw), 0) := by
        rw [dputR_good UG.start (raw_in w (by omega)).ok (by rw [raw_light]; omega), if_neg (by simp [hckr])]
      have hds : dsizeB 16 (txtD l) = (S.size : Nat) := by
        have h0 : dcheckB0 16 (txtD l) = 0 := by
          rw [dcheckB0_eq]
          unfold dcheck at hck
          split at hck
          · exact absurd hck (by assumption)
          · exact Classical.not_not.1 (by assumption)
        unfold dsizeB
        rw [if_pos h0, txt_size, hsl]
      have htx : (⟨(dputB ⟨⟨[], 65535, 0⟩, fun _ => none⟩ (whatN 16) (txtD l)).x.b.toArray⟩ : ByteArray) = S := by rw [txt_put, hS]
      have hrx : (⟨(dputB ⟨⟨[], 65535, 0⟩, fun _ => none⟩ (whatN 9999) (rawD raw)).x.b.toArray⟩ : ByteArray) = raw := by rw [raw_put]
      have HR := Lib.hid (And.intro hrt (And.intro hrr (And.intro hds (And.intro htx hrx))))
      have HF := Lib.hid (H1.out.1.then HG.out.2.2.1)
      clear hall hS htl hsl hck hckr hrt hrr hds htx hrx
      go_wp2_with (first
        | (go_at_call 12
           (with_reducible refine (pnew_pd wr).mono ?_)
           rintro e w4 ⟨p, F, rfl, g1⟩
           have H4 := Lib.hid g1
           clear g1)
        | (go_at_call 12
           (with_reducible refine (pnew_pd w4).mono ?_)
           rintro e w5 ⟨q, G, rfl, g1⟩
           have H5 := Lib.hid (PD2.make H4.out g1)
           clear g1)
        | (go_at_call 24
           (with_reducible refine (put_txt H5.out.p l A cap (UG.start.fit (by decide)) (txt_in (HL.out.1.fr0 HF.out) (by omega))).mono ?_)
           rintro e w6 ⟨rfl, F6, g1, g2, g3⟩
           rw [HR.out.1] at g1 ⊢
           have H6 := Lib.hid (H5.out.stepP g1 g2 g3)
           clear g1 g2 g3)
        | (go_at_call 24
           (with_reducible refine (put_raw H6.out.q raw (UG.start.fit (by decide)) (by omega)).mono ?_)
           rintro e w7 ⟨rfl, G7, g1, g2, g3⟩
           rw [HR.out.2.1] at g1 ⊢
           have H7 := Lib.hid (H6.out.stepQ g1 g2 g3)
           clear g1 g2 g3)
        | (go_at_call 25
           (with_reducible refine (read_raw raw _ (by omega)).mono ?_)
           rintro e w8 ⟨A8, cap8, rfl, f8⟩
           have H8 := Lib.hid (H7.out.quiet f8)
           clear f8)
        | (refine wpList_store_part rfl 30 _ _ rfl w8.heap.size 0 (by rfl) _ (by rfl) 30 _ (Blk.new _ _ _) (by kernel_rfl) (by simp [Value.oneCell']) (by simp) #[.bool false, .int .u64 0, .int .u64 0, .string ⟨#[]⟩, .string ⟨#[]⟩, .int .u32 0, .int .u32 0, .int .u32 0, .int .u32 0, .int .u32 0, .slice A8 0 cap8, .string raw] (by rfl) ?_
           intro w9 b9 f9
           have m11 := b9.cell 11
           simp only [List.getElem?_toArray, List.getElem?_cons_zero, List.getElem?_cons_succ] at m11
           have H9 := Lib.hid (And.intro (H8.out.quiet (((Fr.refl (fun _ => False) w8).alloc _).new f9 (fun i hi => by subst hi; exact Nat.le_refl _))) b9)
           clear b9 f9)
        | (go_at_call 15
           (with_reducible refine (text_pd H9.out.1.p).mono ?_)
           rintro e w' ⟨rfl, rfl⟩
           rw [HR.out.2.2.2.1])
        | (go_at_call 26
           (with_reducible refine (size_txt l A cap w9 (txt_in (HL.out.1.fr0 (HF.out.then H9.out.1.p.fr)) (by omega))).mono ?_)
           rintro e w10 ⟨rfl, f10⟩
           rw [HR.out.2.2.1]
           have H10 := Lib.hid (And.intro (H9.out.1.quiet f10) (H9.out.2.fr f10 id))
           have m11 := H10.out.2.cell 11
           simp only [List.getElem?_toArray, List.getElem?_cons_zero, List.getElem?_cons_succ] at m11
           clear f10)
        | (go_at_call 15
           (with_reducible refine (text_pd H10.out.1.q).mono ?_)
           rintro e w' ⟨rfl, rfl⟩
           rw [HR.out.2.2.2.2]))
      go_ret
      exact ⟨rfl, (HF.out.then H10.out.1.p.fr).below (fun _ h => h.elim) (Nat.le_refl _)⟩
end Go.Proofs.Ytaloihnmefbbaaa
