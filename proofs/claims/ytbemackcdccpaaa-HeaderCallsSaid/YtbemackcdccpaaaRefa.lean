/-
  THE CONTRACTS OF THE REFERENCE's WRITER (chapter 3): the same state as the program's.
-/
import Derived.Test.YtbemackcdccpaaaOctb
namespace Go.Proofs.Ytbemackcdccpaaa
open Go.RowKit

/-- The reference's writer lies at block p. -/
def RWr (w : World) (p : Nat) (x : Wst) : Prop :=
  Blk w p 38 #[.string ⟨x.b.toArray⟩, .int .i64 x.most, .int .i64 x.e] ∧ 0 ≤ x.most ∧ x.most ≤ 9223372036854775807

theorem RWr.fr {w w' : World} {p : Nat} {S : Nat → Prop} {x : Wst} (h : RWr w p x) (hf : Fr S w w') (hd : ¬ S p) : RWr w' p x := ⟨h.1.fr hf hd, h.2⟩

def RWrPost (w : World) (p : Nat) (r : Wst × Int) (e : Ending) (w' : World) : Prop :=
  e = .returned (.int .i64 r.2) ∧ RWr w' p r.1 ∧ Fr (· = p) w w'

set_option maxHeartbeats 400000 in
theorem rnew_any (m : Int) (w : World) :
    Calls Try.prog 26 #[.int .i64 m] w fun e w' => e = .returned (.pointer (some ⟨w.heap.size, 0, none⟩)) ∧ w.alloc (.cells #[.string ⟨#[]⟩, .int .i64 (max 0 m), .int .i64 0] 38) = w' := by
  go_enter Try.func26, Try.ntmps26
  go_wp2
  all_goals (go_ret; exact ⟨rfl, by congr <;> omega⟩)

theorem RWr.new (m : Int) (hm : m ≤ 9223372036854775807) (w : World) : RWr (w.alloc (.cells #[.string ⟨#[]⟩, .int .i64 (max 0 m), .int .i64 0] 38)) w.heap.size ⟨[], max 0 m, 0⟩ :=
  ⟨Blk.new _ _ _, by dsimp only; omega, by dsimp only; omega⟩

set_option maxRecDepth 100000 in
set_option maxHeartbeats 1000000 in
theorem rocts_no (v n : Int) (w : World) (h0 : 0 ≤ v) (h1 : v < 4294967296) (hf : fitsB v n = false) :
    Calls Try.prog 79 #[.int .u32 v, .int .i64 n] w fun e w' => e = .returned (.tuple #[.string ⟨#[]⟩, .bool false]) ∧ w = w' := by
  by_cases a1 : n < 1
  · clear hf
    go_enter Try.func79, Try.ntmps79
    go_wp2
    go_ret2
    exact ⟨rfl, rfl⟩
  · by_cases a2 : n ≤ 4
    · rcases (show n = 1 ∨ n = 2 ∨ n = 3 ∨ n = 4 by omega) with rfl | rfl | rfl | rfl
      all_goals
        have hv : fitsB v _ = false := hf
        simp [fitsB] at hv
      · clear hf
        go_enter Try.func79, Try.ntmps79
        go_wp2
        go_ret2
        exact ⟨rfl, rfl⟩
      · clear hf
        go_enter Try.func79, Try.ntmps79
        go_wp2
        go_ret2
        exact ⟨rfl, rfl⟩
      · clear hf
        go_enter Try.func79, Try.ntmps79
        go_wp2
        go_ret2
        exact ⟨rfl, rfl⟩
      · omega
    · clear hf
      go_enter Try.func79, Try.ntmps79
      go_wp2
      go_ret2
      exact ⟨rfl, rfl⟩

theorem conv_octs (v n : Nat) (hn : n ≤ 4) (cs : Array Value) (hcs : (u8s (octs v n)).toArray = cs) (w : World) :
    (convert 78 9 (.slice (some ⟨w.heap.size, 0, none⟩) n n)).run Try.prog (w.alloc (.cells cs 5)) = .ok (.string ⟨(octs v n).toArray⟩) (w.alloc (.cells cs 5)) := by
  subst hcs
  have hl : (u8s (octs v n)).length = n := by rw [u8s_length, octs_length]
  have ho := own_of_blk (w := w.alloc (.cells (u8s (octs v n)).toArray 5)) (Blk.new w 5 (u8s (octs v n)).toArray) (by rw [hl]; simp only [maxLen]; omega)
  rw [u8s_length] at ho
  have := run_conv_row (P := Try.prog) Try.underlying78 Try.underlying5 Try.underlying9 ho
  rwa [octs_length] at this

theorem rcut_eq1 (v : Int) (h0 : 0 ≤ v) : (u8s (octs v.toNat 1)).toArray = #[.int .u8 (v % 256)] := by
  simp [u8s, octs]
  omega

set_option maxRecDepth 100000 in
set_option maxHeartbeats 1000000 in
theorem rocts_yes1 (v : Int) (w : World) (h0 : 0 ≤ v) (h1 : v < 256) :
    Calls Try.prog 79 #[.int .u32 v, .int .i64 1] w fun e w' => e = .returned (.tuple #[.string ⟨(octs v.toNat 1).toArray⟩, .bool true]) ∧ w.alloc (.cells (u8s (octs v.toNat 1)).toArray 5) = w' := by
  have hmk : ∀ w, (Instr.makeSlice 78 (.int .i64 1) (.int .i64 1)).run Try.prog w = .ok (.slice (some ⟨w.heap.size, 0, none⟩) 1 1) (w.alloc (.cells #[.int .u8 0] 5)) := fun _ => by kernel_rfl
  have hcv := conv_octs v.toNat 1 (by decide) _ (rcut_eq1 v h0)
  rw [rcut_eq1 v h0]
  obtain ⟨s, hs⟩ : ∃ s, s = (octs v.toNat 1).toArray := ⟨_, rfl⟩
  rw [← hs] at hcv ⊢
  clear hs
  go_enter Try.func79, Try.ntmps79
  go_wp2
  go_rounds 2
  go_ret2
  exact ⟨rfl, rfl⟩

theorem rcut_eq2 (v : Int) (h0 : 0 ≤ v) : (u8s (octs v.toNat 2)).toArray = #[.int .u8 (v / 256 % 256), .int .u8 (v % 256)] := by
  simp [u8s, octs]
  omega

set_option maxRecDepth 100000 in
set_option maxHeartbeats 1000000 in
theorem rocts_yes2 (v : Int) (w : World) (h0 : 0 ≤ v) (h1 : v < 65536) :
    Calls Try.prog 79 #[.int .u32 v, .int .i64 2] w fun e w' => e = .returned (.tuple #[.string ⟨(octs v.toNat 2).toArray⟩, .bool true]) ∧ w.alloc (.cells (u8s (octs v.toNat 2)).toArray 5) = w' := by
  have hmk : ∀ w, (Instr.makeSlice 78 (.int .i64 2) (.int .i64 2)).run Try.prog w = .ok (.slice (some ⟨w.heap.size, 0, none⟩) 2 2) (w.alloc (.cells #[.int .u8 0, .int .u8 0] 5)) := fun _ => by kernel_rfl
  have hcv := conv_octs v.toNat 2 (by decide) _ (rcut_eq2 v h0)
  rw [rcut_eq2 v h0]
  obtain ⟨s, hs⟩ : ∃ s, s = (octs v.toNat 2).toArray := ⟨_, rfl⟩
  rw [← hs] at hcv ⊢
  clear hs
  go_enter Try.func79, Try.ntmps79
  go_wp2
  go_rounds 3
  go_ret2
  exact ⟨rfl, rfl⟩

theorem rcut_eq3 (v : Int) (h0 : 0 ≤ v) : (u8s (octs v.toNat 3)).toArray = #[.int .u8 (v / 256 / 256 % 256), .int .u8 (v / 256 % 256), .int .u8 (v % 256)] := by
  simp [u8s, octs]
  omega

set_option maxRecDepth 100000 in
set_option maxHeartbeats 1000000 in
theorem rocts_yes3 (v : Int) (w : World) (h0 : 0 ≤ v) (h1 : v < 16777216) :
    Calls Try.prog 79 #[.int .u32 v, .int .i64 3] w fun e w' => e = .returned (.tuple #[.string ⟨(octs v.toNat 3).toArray⟩, .bool true]) ∧ w.alloc (.cells (u8s (octs v.toNat 3)).toArray 5) = w' := by
  have hmk : ∀ w, (Instr.makeSlice 78 (.int .i64 3) (.int .i64 3)).run Try.prog w = .ok (.slice (some ⟨w.heap.size, 0, none⟩) 3 3) (w.alloc (.cells #[.int .u8 0, .int .u8 0, .int .u8 0] 5)) := fun _ => by kernel_rfl
  have hcv := conv_octs v.toNat 3 (by decide) _ (rcut_eq3 v h0)
  rw [rcut_eq3 v h0]
  obtain ⟨s, hs⟩ : ∃ s, s = (octs v.toNat 3).toArray := ⟨_, rfl⟩
  rw [← hs] at hcv ⊢
  clear hs
  go_enter Try.func79, Try.ntmps79
  go_wp2
  go_rounds 4
  go_ret2
  exact ⟨rfl, rfl⟩

theorem rcut_eq4 (v : Int) (h0 : 0 ≤ v) : (u8s (octs v.toNat 4)).toArray = #[.int .u8 (v / 256 / 256 / 256 % 256), .int .u8 (v / 256 / 256 % 256), .int .u8 (v / 256 % 256), .int .u8 (v % 256)] := by
  simp [u8s, octs]
  omega

set_option maxRecDepth 100000 in
set_option maxHeartbeats 1000000 in
theorem rocts_yes4 (v : Int) (w : World) (h0 : 0 ≤ v) (h1 : v < 4294967296) :
    Calls Try.prog 79 #[.int .u32 v, .int .i64 4] w fun e w' => e = .returned (.tuple #[.string ⟨(octs v.toNat 4).toArray⟩, .bool true]) ∧ w.alloc (.cells (u8s (octs v.toNat 4)).toArray 5) = w' := by
  have hmk : ∀ w, (Instr.makeSlice 78 (.int .i64 4) (.int .i64 4)).run Try.prog w = .ok (.slice (some ⟨w.heap.size, 0, none⟩) 4 4) (w.alloc (.cells #[.int .u8 0, .int .u8 0, .int .u8 0, .int .u8 0] 5)) := fun _ => by kernel_rfl
  have hcv := conv_octs v.toNat 4 (by decide) _ (rcut_eq4 v h0)
  rw [rcut_eq4 v h0]
  obtain ⟨s, hs⟩ : ∃ s, s = (octs v.toNat 4).toArray := ⟨_, rfl⟩
  rw [← hs] at hcv ⊢
  clear hs
  go_enter Try.func79, Try.ntmps79
  go_wp2
  go_rounds 5
  go_ret2
  exact ⟨rfl, rfl⟩

theorem rocts_yes (v n : Int) (w : World) (h0 : 0 ≤ v) (hf : fitsB v n = true) :
    Calls Try.prog 79 #[.int .u32 v, .int .i64 n] w fun e w' => e = .returned (.tuple #[.string ⟨(octs v.toNat n.toNat).toArray⟩, .bool true]) ∧ w.alloc (.cells (u8s (octs v.toNat n.toNat)).toArray 5) = w' := by
  have hb : 1 ≤ n ∧ n ≤ 4 := by simp only [fitsB, decide_eq_true_eq] at hf; omega
  rcases (show n = 1 ∨ n = 2 ∨ n = 3 ∨ n = 4 by omega) with rfl | rfl | rfl | rfl
  · exact rocts_yes1 v w h0 (by simp only [fitsB, decide_eq_true_eq] at hf; exact hf.2.2)
  · exact rocts_yes2 v w h0 (by simp only [fitsB, decide_eq_true_eq] at hf; exact hf.2.2)
  · exact rocts_yes3 v w h0 (by simp only [fitsB, decide_eq_true_eq] at hf; exact hf.2.2)
  · exact rocts_yes4 v w h0 (by simp only [fitsB, decide_eq_true_eq] at hf; exact hf.2.2)

theorem rput_long {p : Nat} {x : Wst} {w : World} (h : RWr w p x) (nq : Nat) :
    RWrPost w p ({ x with e := 3 }, 3) (.returned (.int .i64 3)) ((w.drewN nq).setCell ⟨p, 2, none⟩ (.int .i64 3)) :=
  ⟨rfl, ⟨(h.1.drewN nq).set_ 2 _, h.2⟩, Fr.setCell (S := (· = p)) ((Fr.refl _ w).drewN nq) (p := ⟨p, 2, none⟩) (fun _ => rfl) _⟩

theorem rput_fits {p : Nat} {x : Wst} {w : World} (h : RWr w p x) (nq : Nat) (s : ByteArray) :
    RWrPost w p ({ x with b := x.b ++ s.data.toList }, 0) (.returned (.int .i64 0)) ((w.drewN nq).setCell ⟨p, 0, none⟩ (.string (⟨x.b.toArray⟩ ++ s))) := by
  refine ⟨rfl, ⟨?_, h.2⟩, Fr.setCell (S := (· = p)) ((Fr.refl _ w).drewN nq) (p := ⟨p, 0, none⟩) (fun _ => rfl) _⟩
  have := (h.1.drewN nq).set_ 0 (.string (⟨x.b.toArray⟩ ++ s))
  rw [str_app] at this ⊢
  simpa using this

set_option maxRecDepth 100000 in
set_option maxHeartbeats 400000 in
theorem rput_any (p : Nat) (x : Wst) (s : ByteArray) (w : World) (h : RWr w p x) (hs : x.b.length + s.size ≤ 140737488355328) :
    Calls Try.prog 31 #[.pointer (some ⟨p, 0, none⟩), .string s] w (RWrPost w p (x.put s.data.toList)) := by
  have H := Lib.hid h
  obtain ⟨h1, h6, h7⟩ := h
  have c0 : w.cell? ⟨p, 0, none⟩ = some (.string ⟨x.b.toArray⟩) := h1.cell 0
  have c1 : w.cell? ⟨p, 1, none⟩ = some (.int .i64 x.most) := h1.cell 1
  have c2 : w.cell? ⟨p, 2, none⟩ = some (.int .i64 x.e) := h1.cell 2
  have f0 := h1.frozen 0
  have f2 := h1.frozen 2
  clear h1
  have hsz : s.data.toList.length = s.size := by simp
  have Hsz := Lib.hid hsz
  have hbz : (⟨x.b.toArray⟩ : ByteArray).size = x.b.length := by simp [ByteArray.size]
  clear hsz
  by_cases he : x.e = 0
  · have he' : (x.e != 0) = false := by simp [he]
    have HE := Lib.hid he
    by_cases hl : x.most - x.b.length < s.size
    · have hp : x.put s.data.toList = ({ x with e := 3 }, 3) := by simp [Wst.put, he, Hsz.out, hl]
      rw [hp]
      clear hp
      go_enter Try.func31, Try.ntmps31
      go_wp2
      go_quiet (fail)
      go_wp2
      go_ret
      exact rput_long H.out nq
    · have hp : x.put s.data.toList = ({ x with b := x.b ++ s.data.toList }, 0) := by simp [Wst.put, he, Hsz.out, hl]
      rw [hp]
      clear hp
      go_enter Try.func31, Try.ntmps31
      go_wp2
      go_quiet (fail)
      go_wp2
      go_ret
      exact rput_fits H.out nq s
  · have he' : (x.e != 0) = true := by simp [he]
    have hp : x.put s.data.toList = (x, x.e) := by simp [Wst.put, he]
    rw [hp]
    clear hp
    go_enter Try.func31, Try.ntmps31
    go_wp2
    go_ret
    exact ⟨rfl, H.out, Fr.refl _ _⟩

theorem RWrPost.pre {w w1 w' : World} {p : Nat} {r : Wst × Int} {e : Ending} (h : RWrPost w1 p r e w') (hf : Fr (fun _ => False) w w1) : RWrPost w p r e w' :=
  ⟨h.1, h.2.1, (hf.mono (fun _ _ h => h.elim)).then h.2.2⟩

set_option maxRecDepth 100000 in
set_option maxHeartbeats 400000 in
theorem rnumber_any (p : Nat) (x : Wst) (v n : Int) (w : World) (h : RWr w p x) (h0 : 0 ≤ v) (h1 : v < 4294967296) (hs : x.b.length + 4 ≤ 140737488355328) :
    Calls Try.prog 29 #[.pointer (some ⟨p, 0, none⟩), .int .u32 v, .int .i64 n] w (RWrPost w p (x.number v n)) := by
  have H := Lib.hid h
  have c2 : w.cell? ⟨p, 2, none⟩ = some (.int .i64 x.e) := h.1.cell 2
  clear h
  by_cases he : x.e = 0
  · have he' : (x.e != 0) = false := by simp [he]
    have HE := Lib.hid he
    clear he
    by_cases hf : fitsB v n = true
    · have hb : 1 ≤ n ∧ n ≤ 4 := by simp only [fitsB, decide_eq_true_eq] at hf; omega
      obtain ⟨b1, b2⟩ := hb
      have hp : x.number v n = x.put (octs v.toNat n.toNat) := by simp [Wst.number, HE.out, hf]
      rw [hp]
      clear hp
      have Hf := Lib.hid hf
      clear hf
      go_enter Try.func29, Try.ntmps29
      go_wp2_with (first
        | (go_at_call 79; refine (rocts_yes v n _ h0 Hf.out).mono ?_; rintro e w' ⟨rfl, rfl⟩))
      refine (rput_any p x _ _ (H.out.fr (S := fun _ => False) ((Fr.refl _ _).alloc _) (fun h => h)) (by
        show _ + (octs v.toNat n.toNat).toArray.size ≤ _
        rw [List.size_toArray, octs_length]; omega)).mono ?_
      intro e w' hP
      have hP' := hP.pre ((Fr.refl _ _).alloc _)
      clear hP
      obtain ⟨rfl, hP'⟩ := hP'
      have HP := Lib.hid hP'
      clear hP'
      go_wp2
      go_ret
      exact ⟨rfl, HP.out⟩
    · have hf' : fitsB v n = false := by simpa using hf
      have hp : x.number v n = (x, 2) := by simp [Wst.number, HE.out, hf']
      rw [hp]
      clear hp hf
      have Hf := Lib.hid hf'
      clear hf'
      go_enter Try.func29, Try.ntmps29
      go_wp2_with (first
        | (go_at_call 79; refine (rocts_no v n _ h0 h1 Hf.out).mono ?_; rintro e w' ⟨rfl, rfl⟩))
      go_ret
      exact ⟨rfl, H.out, Fr.refl _ _⟩
  · have he' : (x.e != 0) = true := by simp [he]
    have hp : x.number v n = (x, x.e) := by simp [Wst.number, he]
    rw [hp]
    clear hp
    go_enter Try.func29, Try.ntmps29
    go_wp2
    go_ret
    exact ⟨rfl, H.out, Fr.refl _ _⟩

theorem rpatch_fits {p : Nat} {x : Wst} {w W2 : World} {k : Nat} {v n : Int} (h : RWr w p x) (he : x.e = 0) (hf : fitsB v n = true) (hk : (k : Int) ≤ x.b.length - n) (hn : 1 ≤ n) (hfr : Fr (fun _ => False) w W2) :
    RWrPost w p (x.patch k v n) (.returned (.int .i64 0))
      (W2.setCell ⟨p, 0, none⟩ (.string ((⟨x.b.toArray⟩ : ByteArray).extract 0 k ++ ⟨(octs v.toNat n.toNat).toArray⟩ ++ (⟨x.b.toArray⟩ : ByteArray).extract ((k : Int) + n).toNat x.b.length))) := by
  have hp : x.patch (k : Int) v n = ({ x with b := x.b.take k ++ (octs v.toNat n.toNat ++ x.b.drop (k + n.toNat)) }, 0) := by
    unfold Wst.patch
    rw [if_neg (by simpa using he), if_pos ⟨hf, by omega, hk⟩]
    rfl
  rw [hp, str_sub, str_sub, str_app2, str_app2]
  have e1 : (x.b.drop 0).take (k - 0) = x.b.take k := by simp
  have e2 : (x.b.drop ((k : Int) + n).toNat).take (x.b.length - ((k : Int) + n).toNat) = x.b.drop (k + n.toNat) := by
    rw [show ((k : Int) + n).toNat = k + n.toNat from by omega]
    exact List.take_of_length_le (by simp)
  rw [e1, e2, List.append_assoc]
  have hb := h.1.fr hfr (fun h => h)
  refine ⟨rfl, ⟨?_, h.2⟩, Fr.setCell (S := (· = p)) (hfr.mono fun _ _ h => h.elim) (p := ⟨p, 0, none⟩) (fun _ => rfl) _⟩
  have := hb.set_ 0 (.string ⟨(x.b.take k ++ (octs v.toNat n.toNat ++ x.b.drop (k + n.toNat))).toArray⟩)
  simpa using this

set_option maxRecDepth 100000 in
set_option maxHeartbeats 1000000 in
theorem rpatch_any (p : Nat) (x : Wst) (at_ v n : Int) (w : World) (h : RWr w p x) (h0 : 0 ≤ v) (h1 : v < 4294967296) (ha : at_ ≤ 9223372036854775807) (hb : -9223372036854775808 ≤ at_)
    (hs : x.b.length ≤ 140737488355328) :
    Calls Try.prog 33 #[.pointer (some ⟨p, 0, none⟩), .int .i64 at_, .int .u32 v, .int .i64 n] w (RWrPost w p (x.patch at_ v n)) := by
  have H := Lib.hid h
  have c0 : w.cell? ⟨p, 0, none⟩ = some (.string ⟨x.b.toArray⟩) := h.1.cell 0
  have c2 : w.cell? ⟨p, 2, none⟩ = some (.int .i64 x.e) := h.1.cell 2
  have f0 := h.1.frozen 0
  have hpl : p < w.heap.size := h.1.lt
  have hbz : (⟨x.b.toArray⟩ : ByteArray).size = x.b.length := by simp [ByteArray.size]
  clear h
  by_cases he : x.e = 0
  · have he' : (x.e != 0) = false := by simp [he]
    have HE := Lib.hid he
    clear he
    by_cases hf : fitsB v n = true
    · have hb : 1 ≤ n ∧ n ≤ 4 := by simp only [fitsB, decide_eq_true_eq] at hf; omega
      obtain ⟨b1, b2⟩ := hb
      have Hf := Lib.hid hf
      have d0 : ∀ o, (w.alloc o).cell? ⟨p, 0, none⟩ = some (.string ⟨x.b.toArray⟩) := fun o => (World.cell?_alloc_lt w o ⟨p, 0, none⟩ hpl).trans c0
      have e0 : ∀ o, (w.alloc o).frozen? ⟨p, 0, none⟩ = false := fun o => (World.frozen?_alloc_old w o ⟨p, 0, none⟩ (by show p ≠ _; omega)).trans f0
      by_cases d1 : at_ < 0
      · have hp : x.patch at_ v n = (x, 2) := by simp [Wst.patch, HE.out, hf]; omega
        rw [hp]
        clear hp hf
        go_enter Try.func33, Try.ntmps33
        go_wp2_with (first
          | (go_at_call 79; refine (rocts_yes v n _ h0 Hf.out).mono ?_; rintro e w' ⟨rfl, rfl⟩))
        go_ret
        exact ⟨rfl, H.out.fr (S := fun _ => False) ((Fr.refl _ _).alloc _) id, (Fr.refl _ _).alloc _⟩
      · by_cases d2 : at_ ≤ x.b.length - n
        · obtain ⟨k, rfl⟩ := Int.eq_ofNat_of_zero_le (Int.not_lt.1 d1)
          clear d1 hf
          go_enter Try.func33, Try.ntmps33
          go_wp2_with (first
            | (go_at_call 79; refine (rocts_yes v n _ h0 Hf.out).mono ?_; rintro e w' ⟨rfl, rfl⟩))
          have q0 : (0 : Int) ≤ (k : Int) := by omega
          have q1 : (k : Int) ≤ (x.b.length : Int) := by omega
          have q2 : IntKind.i64.wrap ((k : Int) + n) = (k : Int) + n := IntWalk.i64_in _ (by omega)
          have q3 : 0 ≤ (k : Int) + n := by omega
          have q4 : (k : Int) + n ≤ (x.b.length : Int) := by omega
          have q5 : (⟨x.b.toArray⟩ : ByteArray).size ≤ 140737488355328 := by omega
          have hO : (⟨(octs v.toNat n.toNat).toArray⟩ : ByteArray).size ≤ 4 := by
            show (octs v.toNat n.toNat).toArray.size ≤ _
            rw [List.size_toArray, octs_length]; omega
          generalize hOe : (⟨(octs v.toNat n.toNat).toArray⟩ : ByteArray) = O at *
          generalize hSe : (⟨x.b.toArray⟩ : ByteArray) = S0 at *
          have HOe := Lib.hid hOe
          have HSe := Lib.hid hSe
          clear hOe hSe
          have cW := d0 (.cells (u8s (octs v.toNat n.toNat)).toArray 5)
          have fW := e0 (.cells (u8s (octs v.toNat n.toNat)).toArray 5)
          have HF : Hid (Fr (fun _ => False) w (w.alloc (.cells (u8s (octs v.toNat n.toNat)).toArray 5))) := (Fr.refl _ _).alloc _
          clear d0 e0 c0 f0
          generalize w.alloc (.cells (u8s (octs v.toNat n.toNat)).toArray 5) = W at *
          have ha1 : ∀ w, (Op.stringOp .add (S0.extract 0 k) O).run Try.prog w = .ok (.string (S0.extract 0 k ++ O)) w := fun w => run_string_add_sum w _ _ (by simp only [ByteArray.size_extract]; omega)
          have ha2 : ∀ w, (Op.stringOp .add (S0.extract 0 k ++ O) (S0.extract ((k : Int) + n).toNat x.b.length)).run Try.prog w = .ok (.string (S0.extract 0 k ++ O ++ S0.extract ((k : Int) + n).toNat x.b.length)) w := fun w => run_string_add_sum w _ _ (by simp only [ByteArray.size_append, ByteArray.size_extract]; omega)
          go_still_tail 20, (by kernel_rfl)
          change wpList _ _ _ _ _ W.drew
          have cW2 : W.drew.cell? ⟨p, 0, none⟩ = some (.string S0) := cW
          have fW2 : W.drew.frozen? ⟨p, 0, none⟩ = false := fW
          have HF2 : Hid (Fr (fun _ => False) w W.drew) := HF.out.drew
          clear cW fW HF
          generalize W.drew = W2 at *
          go_wp2
          go_ret
          rw [← HOe.out, ← HSe.out]
          exact rpatch_fits H.out HE.out Hf.out d2 b1 HF2.out
        · have hp : x.patch at_ v n = (x, 2) := by simp [Wst.patch, HE.out, hf]; omega
          rw [hp]
          clear hp hf
          go_enter Try.func33, Try.ntmps33
          go_wp2_with (first
            | (go_at_call 79; refine (rocts_yes v n _ h0 Hf.out).mono ?_; rintro e w' ⟨rfl, rfl⟩))
          go_ret
          exact ⟨rfl, H.out.fr (S := fun _ => False) ((Fr.refl _ _).alloc _) id, (Fr.refl _ _).alloc _⟩
    · have hf' : fitsB v n = false := by simpa using hf
      have hp : x.patch at_ v n = (x, 2) := by simp [Wst.patch, HE.out, hf']
      rw [hp]
      clear hp hf
      have Hf := Lib.hid hf'
      clear hf'
      go_enter Try.func33, Try.ntmps33
      go_wp2_with (first
        | (go_at_call 79; refine (rocts_no v n _ h0 h1 Hf.out).mono ?_; rintro e w' ⟨rfl, rfl⟩))
      go_ret
      exact ⟨rfl, H.out, Fr.refl _ _⟩
  · have he' : (x.e != 0) = true := by simp [he]
    have hp : x.patch at_ v n = (x, x.e) := by simp [Wst.patch, he]
    rw [hp]
    clear hp
    go_enter Try.func33, Try.ntmps33
    go_wp2
    go_ret
    exact ⟨rfl, H.out, Fr.refl _ _⟩
end Go.Proofs.Ytbemackcdccpaaa
