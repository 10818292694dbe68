import Derived.Test.YtbemackcdccpaaaOct
namespace Go.Proofs.Ytbemackcdccpaaa
open Go.RowKit

theorem octs_length (v n : Nat) : (octs v n).length = n := by induction n with
  | zero => rfl
  | succ n ih => simp [octs, ih]

theorem WrPost.pre {w w1 w' : World} {p : Nat} {F : Nat → Prop} {r : Wst × Int} {e : Ending} (h : WrPost w1 p F r e w') (hf : Fr (fun _ => False) w w1) : WrPost w p F r e w' := by
  obtain ⟨he, F', h1, h2, h3⟩ := h
  exact ⟨he, F', h1, (hf.mono (fun _ _ h => h.elim)).then h2, fun k hk => (h3 k hk).imp id fun h => Nat.le_trans hf.size h⟩

def Wst.number (x : Wst) (v n : Int) : Wst × Int :=
  if x.e ≠ 0 then (x, x.e) else if fitsB v n then x.put (octs v.toNat n.toNat) else (x, 2)

set_option maxRecDepth 100000 in
set_option maxHeartbeats 400000 in
theorem text_any (p : Nat) (F : Nat → Prop) (x : Wst) (w : World) (h : Wr w p F x) :
    Calls Try.prog 34 #[.pointer (some ⟨p, 0, none⟩)] w fun e w' => e = .returned (.string ⟨x.b.toArray⟩) ∧ w = w' := by
  obtain ⟨A, cap, h1, h2, h3, h4, h5, h6⟩ := h
  have c2 : w.cell? ⟨p, 0, none⟩ = some (.slice A x.b.length cap) := h1.cell 0
  have hconv := run_conv_row (P := Try.prog) Try.underlying78 Try.underlying5 Try.underlying9 h2
  clear h1 h2 h3 h4 h5 h6
  go_enter Try.func34, Try.ntmps34
  go_wp2
  go_ret
  exact ⟨rfl, rfl⟩

set_option maxRecDepth 100000 in
set_option maxHeartbeats 400000 in
theorem number_any (p : Nat) (F : Nat → Prop) (x : Wst) (v n : Int) (w : World) (h : Wr w p F x) (h0 : 0 ≤ v) (h1 : v < 4294967296) (hs : x.b.length + 4 ≤ 140737488355328) :
    Calls Try.prog 28 #[.pointer (some ⟨p, 0, none⟩), .int .u32 v, .int .i64 n] w (WrPost w p F (x.number v n)) := by
  have H := Lib.hid h
  clear h
  by_cases he : x.e = 0
  · have he' : (x.e != 0) = false := by simp [he]
    have HE := Lib.hid he
    clear he
    by_cases hf : fitsB v n = true
    · have hb : 1 ≤ n ∧ n ≤ 4 := by simp only [fitsB, decide_eq_true_eq] at hf; omega
      obtain ⟨b1, b2⟩ := hb
      have hp : x.number v n = x.put (octs v.toNat n.toNat) := by simp [Wst.number, HE.out, hf]
      rw [hp]
      clear hp
      have Hf := Lib.hid hf
      have hconv : ∀ w : World, (convert 78 9 (.slice (some ⟨w.heap.size, 0, none⟩) n.toNat n.toNat)).run Try.prog (w.alloc (.cells (u8s (octs v.toNat n.toNat)).toArray 5)) = .ok (.string ⟨(octs v.toNat n.toNat).toArray⟩) (w.alloc (.cells (u8s (octs v.toNat n.toNat)).toArray 5)) := by
        intro w
        have hl : (u8s (octs v.toNat n.toNat)).length = n.toNat := by rw [u8s_length, octs_length]
        have ho := own_of_blk (w := w.alloc (.cells (u8s (octs v.toNat n.toNat)).toArray 5)) (Blk.new w 5 (u8s (octs v.toNat n.toNat)).toArray) (by rw [hl]; simp only [maxLen]; omega)
        rw [u8s_length] at ho
        have := run_conv_row (P := Try.prog) Try.underlying78 Try.underlying5 Try.underlying9 ho
        rwa [octs_length] at this
      go_enter Try.func28, Try.ntmps28
      go_wp2_with (first
        | (go_at_call 36; refine (err_any p F x _ H.out).mono ?_; rintro e w' ⟨rfl, rfl⟩)
        | (go_at_call 77; refine (fits_any v n _ h0 h1).mono ?_; rintro e w' ⟨rfl, rfl⟩)
        | (go_at_call 78; refine (cut_any v n _ h0 h1 b1 b2).mono ?_; rintro e w' ⟨rfl, rfl⟩))
      refine (put_any p F x _ _ (H.out.fr (S := fun _ => False) ((Fr.refl _ _).alloc _) (fun _ _ h => h)) (by
        show _ + (octs v.toNat n.toNat).toArray.size ≤ _
        rw [List.size_toArray, octs_length]; omega)).mono ?_
      intro e w' hP
      have hP' := hP.pre ((Fr.refl _ _).alloc _)
      clear hP
      obtain ⟨rfl, hP'⟩ := hP'
      have HP := Lib.hid hP'
      clear hP'
      go_wp2
      go_ret
      exact ⟨rfl, HP.out⟩
    · have hf' : fitsB v n = false := by simpa using hf
      have hp : x.number v n = (x, 2) := by simp [Wst.number, HE.out, hf']
      rw [hp]
      clear hp hf
      go_enter Try.func28, Try.ntmps28
      go_wp2_with (first
        | (go_at_call 36; refine (err_any p F x _ H.out).mono ?_; rintro e w' ⟨rfl, rfl⟩)
        | (go_at_call 77; refine (fits_any v n _ h0 h1).mono ?_; rintro e w' ⟨rfl, rfl⟩))
      go_ret
      exact ⟨rfl, F, H.out, Fr.refl _ _, fun _ hk => .inl hk⟩
  · have he' : (x.e != 0) = true := by simp [he]
    have hp : x.number v n = (x, x.e) := by simp [Wst.number, he]
    rw [hp]
    clear hp
    go_enter Try.func28, Try.ntmps28
    go_wp2_with (first | (go_at_call 36; refine (err_any p F x _ H.out).mono ?_; rintro e w' ⟨rfl, rfl⟩))
    go_ret
    exact ⟨rfl, F, H.out, Fr.refl _ _, fun _ hk => .inl hk⟩

def Wst.patch (x : Wst) (at_ v n : Int) : Wst × Int :=
  if x.e ≠ 0 then (x, x.e) else if fitsB v n = true ∧ 0 ≤ at_ ∧ at_ ≤ x.b.length - n then
    ({ x with b := x.b.take at_.toNat ++ (octs v.toNat n.toNat ++ x.b.drop (at_.toNat + n.toNat)) }, 0) else (x, 2)

theorem take_splice {α : Type} (L O : List α) (k n : Nat) (h : k + O.length ≤ n) (hn : n ≤ L.length) :
    (L.take k ++ (O ++ L.drop (k + O.length))).take n = (L.take n).take k ++ (O ++ (L.take n).drop (k + O.length)) := by
  apply List.ext_getElem?
  intro i
  simp only [List.getElem?_take, List.getElem?_append, List.length_take, List.getElem?_drop]
  have e1 : min k L.length = k := by omega
  have e2 : min k (min n L.length) = k := by omega
  rw [e1, e2]
  by_cases h1 : i < k
  · simp [h1, show i < n by omega]
  · by_cases h2 : i - k < O.length
    · simp [h1, h2, show i < n by omega]
    · by_cases h3 : i < n
      · simp [h1, h2, h3, show k + O.length + (i - k - O.length) < n by omega]
      · simp [h1, h2, h3, show ¬ k + O.length + (i - k - O.length) < n by omega]

theorem patch_fits {p : Nat} {F : Nat → Prop} {x : Wst} {w : World} {g cap : Nat} {cur : Array Value} {k m : Nat} {O : List UInt8}
    (h1 : Blk w p 102 #[.slice (some ⟨g, 0, none⟩) x.b.length cap, .int .i64 x.most, .int .i64 x.e])
    (h2 : w.ownsRow 0 5 1 (.slice (some ⟨g, 0, none⟩) x.b.length cap) x.b.length (u8s x.b)) (h3 : F p) (h4 : ∀ k, rowOf (some (⟨g, 0, none⟩ : Addr)) k → F k) (h5 : ∀ k, F k → k < w.heap.size)
    (h6 : 0 ≤ x.most) (h7 : x.most ≤ 9223372036854775807) (hO : O.length = m) (hfit : k + m ≤ x.b.length)
    (hg : w.heap[g]? = some (.cells cur 5 (0, 0))) (hcap : x.b.length ≤ cap) (hcs : cur.size = cap) (htk : cur.toList.take x.b.length = u8s x.b) (o : Obj) :
    WrPost w p F ({ x with b := x.b.take k ++ (O ++ x.b.drop (k + m)) }, 0) (.returned (.int .i64 0))
      ((w.alloc o).drew.setRow g (cur.toList.take k ++ (u8s O ++ cur.toList.drop (k + (u8s O).length))).toArray) := by
  have hFg : F g := h4 g ⟨_, rfl, rfl⟩
  have hpg : p ≠ g := h1.ne_ (t' := 5) (cs' := cur) hg (by decide)
  have hb0 : Blk (w.alloc o).drew g 5 cur := Blk.alloc (w := w) hg o
  have hf : Fr F w ((w.alloc o).drew.setRow g (cur.toList.take k ++ (u8s O ++ cur.toList.drop (k + (u8s O).length))).toArray) := (((Fr.refl _ w).alloc o).drew).setRow (fun _ => hFg) _
  have hl : (x.b.take k ++ (O ++ x.b.drop (k + m))).length = x.b.length := by simp [hO]; omega
  have hcl : cur.toList.length = cap := by simpa using hcs
  have hc9 := own_cap h2
  refine ⟨rfl, F, ⟨some ⟨g, 0, none⟩, cap, ?_, ?_, h3, h4, fun k hk => Nat.lt_of_lt_of_le (h5 k hk) hf.size, h6, h7⟩, hf, fun _ hk => .inl hk⟩
  · rw [hl]
    exact (setRow_other _ g p _ hpg).trans (h1.alloc o)
  · refine ⟨by simp [u8s_length], .inr ⟨g, cap, _, by rw [hl], Nat.zero_le _, setRow_heap _ g cur _ 5 (0, 0) hb0, by rw [hl]; exact hcap, hc9.2, ?_, ?_⟩⟩
    · simp [u8s_length, hO]; omega
    · dsimp only
      rw [hl, Nat.mul_one, take_splice _ _ _ _ (by rw [u8s_length]; omega) (by rw [hcl]; exact hcap), htk, u8s_take, u8s_drop, u8s_length, hO, ← u8s_append, ← u8s_append]

set_option maxRecDepth 100000 in
set_option maxHeartbeats 400000 in
theorem patch_any (p : Nat) (F : Nat → Prop) (x : Wst) (at_ v n : Int) (w : World) (h : Wr w p F x) (h0 : 0 ≤ v) (h1 : v < 4294967296) (ha : at_ ≤ 9223372036854775807)  (hb : -9223372036854775808 ≤ at_)
    (hs : x.b.length ≤ 140737488355328) :
    Calls Try.prog 32 #[.pointer (some ⟨p, 0, none⟩), .int .i64 at_, .int .u32 v, .int .i64 n] w (WrPost w p F (x.patch at_ v n)) := by
  have H := Lib.hid h
  obtain ⟨A, cap, g1, g2, g3, g4, g5, g6⟩ := h
  have c0 : w.cell? ⟨p, 0, none⟩ = some (.slice A x.b.length cap) := g1.cell 0
  have G1 := Lib.hid g1
  have G2 := Lib.hid g2
  have G3 := Lib.hid (And.intro g3 (And.intro g4 (And.intro g5 g6)))
  clear g1 g2 g3 g4 g5 g6
  by_cases he : x.e = 0
  · have he' : (x.e != 0) = false := by simp [he]
    have HE := Lib.hid he
    clear he
    by_cases hf : fitsB v n = true
    · have hb : 1 ≤ n ∧ n ≤ 4 := by simp only [fitsB, decide_eq_true_eq] at hf; omega
      obtain ⟨b1, b2⟩ := hb
      have Hf := Lib.hid hf
      by_cases d1 : at_ < 0
      · have hp : x.patch at_ v n = (x, 2) := by simp [Wst.patch, HE.out, hf]; omega
        rw [hp]
        clear hp
        go_enter Try.func32, Try.ntmps32
        go_wp2_with (first
          | (go_at_call 36; refine (err_any p F x _ H.out).mono ?_; rintro e w' ⟨rfl, rfl⟩)
          | (go_at_call 77; refine (fits_any v n _ h0 h1).mono ?_; rintro e w' ⟨rfl, rfl⟩))
        go_ret
        exact ⟨rfl, F, H.out, Fr.refl _ _, fun _ hk => .inl hk⟩
      · by_cases d2 : at_ ≤ x.b.length - n
        · obtain ⟨k, rfl⟩ := Int.eq_ofNat_of_zero_le (Int.not_lt.1 d1)
          clear d1
          go_enter Try.func32, Try.ntmps32
          go_wp2_with (first
            | (go_at_call 36; refine (err_any p F x _ H.out).mono ?_; rintro e w' ⟨rfl, rfl⟩)
            | (go_at_call 77; refine (fits_any v n _ h0 h1).mono ?_; rintro e w' ⟨rfl, rfl⟩))
          have hlen := (octs_length v.toNat n.toNat)
          obtain ⟨g, cur, rfl, hg, hcap, hcs, htk⟩ : ∃ g cur, A = some ⟨g, 0, none⟩ ∧ w.heap[g]? = some (.cells cur 5 (0, 0)) ∧ x.b.length ≤ cap ∧ cur.size = cap ∧ cur.toList.take x.b.length = u8s x.b := by
            rcases G2.out.2 with ⟨hv, h0⟩ | ⟨g, cp, cur, hv, _, hg, q1, q2, q3, q4⟩
            · omega
            · injection hv with hA _ hc
              subst hc
              exact ⟨g, cur, hA, hg, q1, by simpa using q3, by simpa using q4⟩
          have hpl : p < w.heap.size := G1.out.lt
          have hgl : g < w.heap.size := own_lt G2.out ⟨_, rfl, rfl⟩
          have HG := Lib.hid hg
          have HL := Lib.hid hlen
          have HC := Lib.hid hcs
          clear hg hlen hcs
          have HK : Hid (∀ o, (w.alloc o).drew.cell? ⟨p, 0, none⟩ = some (.slice (some ⟨g, 0, none⟩) x.b.length cap)) := fun o => (World.cell?_alloc_lt w o ⟨p, 0, none⟩ hpl).trans c0
          have HGW : Hid (∀ o, (w.alloc o).drew.heap[g]? = some (.cells cur 5 (0, 0))) := fun o => (Below.heap_alloc w o g hgl).trans HG.out
          have hpg : p ≠ g := G1.out.ne_ (t' := 5) HG.out (by decide)
          have HK2 : Hid (∀ o cs, ((w.alloc o).drew.setRow g cs).cell? ⟨p, 0, none⟩ = some (.slice (some ⟨g, 0, none⟩) x.b.length cap)) := fun o cs => (cell_setRow_other _ g cs _ hpg).trans (HK.out o)
          have HN : Hid ((u8s (octs v.toNat n.toNat)).length = Nat.min n.toNat (x.b.length - k)) := by
            show _ = _
            rw [u8s_length, HL.out]; exact (Nat.min_eq_left (by omega)).symm
          have HS : Hid (∀ j u, (u8s (octs v.toNat n.toNat))[j]? = some u → (w.alloc (.cells (u8s (octs v.toNat n.toNat)).toArray 5)).drew.cell? ((⟨w.heap.size, 0, none⟩ : Addr).add j) = some u) :=
            (own_of_blk (Blk.new w 5 _) (by rw [u8s_length, HL.out]; simp only [maxLen]; omega)).cells (g := w.heap.size) rfl
          have HF : Hid (k + (u8s (octs v.toNat n.toNat)).length ≤ cur.size) := by
            show _ ≤ _
            rw [u8s_length, HL.out, HC.out]; omega
          have q0 : (0 : Int) ≤ (k : Int) := by omega
          have q1 : (k : Int) ≤ (x.b.length : Int) := by omega
          have q2 : ¬ cap = k := by omega
          have q3 : k ≤ x.b.length := by omega
          go_region_held3 (fun w' => w'.cell? ⟨p, 0, none⟩ = some (.slice (some ⟨g, 0, none⟩) x.b.length cap)) (first | assumption | exact HK.out _ | exact HK2.out _ _)
            (first
              | ((refine step_copy_row rfl (.tmp 39) (.tmp 42) _ _ rfl 5 Try.underlying78 (by kernel_rfl) g k (x.b.length - k) (cap - k) ⟨w.heap.size, 0, none⟩ n.toNat n.toNat (by simp [Act.eval]) (by simp [Act.eval]) cur 5 (HGW.out _) (u8s (octs v.toNat n.toNat)) HN.out HS.out HF.out (u8s_one _) ?_))
              | (go_at_call 78; refine (cut_any v n _ h0 h1 b1 b2).mono ?_; rintro e w' ⟨rfl, rfl⟩))
          go_wp2
          go_ret
          have hfit : k + n.toNat ≤ x.b.length := by omega
          have hp : x.patch (k : Int) v n = ({ x with b := x.b.take k ++ (octs v.toNat n.toNat ++ x.b.drop (k + n.toNat)) }, 0) := by
            unfold Wst.patch
            rw [if_neg (by simpa using HE.out), if_pos ⟨Hf.out, q0, d2⟩]
            rfl
          rw [hp]
          exact patch_fits G1.out G2.out G3.out.1 G3.out.2.1 G3.out.2.2.1 G3.out.2.2.2.1 G3.out.2.2.2.2 HL.out hfit HG.out hcap HC.out htk _
        · have hp : x.patch at_ v n = (x, 2) := by simp [Wst.patch, HE.out, hf]; omega
          rw [hp]
          clear hp
          go_enter Try.func32, Try.ntmps32
          go_wp2_with (first
            | (go_at_call 36; refine (err_any p F x _ H.out).mono ?_; rintro e w' ⟨rfl, rfl⟩)
            | (go_at_call 77; refine (fits_any v n _ h0 h1).mono ?_; rintro e w' ⟨rfl, rfl⟩))
          go_ret
          exact ⟨rfl, F, H.out, Fr.refl _ _, fun _ hk => .inl hk⟩
    · have hf' : fitsB v n = false := by simpa using hf
      have hp : x.patch at_ v n = (x, 2) := by simp [Wst.patch, HE.out, hf']
      rw [hp]
      clear hp hf
      go_enter Try.func32, Try.ntmps32
      go_wp2_with (first
        | (go_at_call 36; refine (err_any p F x _ H.out).mono ?_; rintro e w' ⟨rfl, rfl⟩)
        | (go_at_call 77; refine (fits_any v n _ h0 h1).mono ?_; rintro e w' ⟨rfl, rfl⟩))
      go_ret
      exact ⟨rfl, F, H.out, Fr.refl _ _, fun _ hk => .inl hk⟩
  · have he' : (x.e != 0) = true := by simp [he]
    have hp : x.patch at_ v n = (x, x.e) := by simp [Wst.patch, he]
    rw [hp]
    clear hp
    go_enter Try.func32, Try.ntmps32
    go_wp2_with (first | (go_at_call 36; refine (err_any p F x _ H.out).mono ?_; rintro e w' ⟨rfl, rfl⟩))
    go_ret
    exact ⟨rfl, F, H.out, Fr.refl _ _, fun _ hk => .inl hk⟩
end Go.Proofs.Ytbemackcdccpaaa
