/-
  TEXTS OF THIS CLAIM, TOGETHER: Bka, Bkf, Bkn, Msa, Mal, Mcl, Mrp, Mrw.
-/
import Derived.Test.YtncfdfgcnblicaaBunN
import Derived.Test.YtncfdfgcnblicaaBunK
/-
  LAYER 24: pending.New; a first question added to a book.
-/
namespace Go.Proofs.Ytncfdfgcnblicaa
open Go.RowKit Go.Maps Go.ChangeMaps Go.WideMaps
set_option linter.unusedVariables false
set_option linter.unusedSimpArgs false

/-- A book without a question. -/
def BkE (w : World) (p : Nat) (most wt : Int) : Prop := Blk w p 105 #[.int .i64 most, .int .i64 wt, .map none, .slice none 0 0, .map none, .slice none 0 0, .func (.func 51) #[] #[]]
/-- A book with one question. -/
def BkO (w : World) (p : Nat) (most wt : Int) (q : Pn) (A : Option Addr) (cap : Nat) : Prop :=
  ∃ b1 K1 c1 b2 K2 c2 n1 n2, Blk w p 105 #[.int .i64 most, .int .i64 wt, .map (some b1), .slice K1 1 c1, .map (some b2), .slice K2 1 c2, .func (.func 51) #[] #[]] ∧
    VMap w 9 b1 n1 (putM (fun _ => none) (.string (keyQ q.q.1 q.q.2.1 q.q.2.2)) (.agg #[.int .u16 (q.id : Nat), .string q.q.1, .int .i64 q.q.2.1, .int .i64 q.q.2.2, .int .i64 q.sv, .int .i64 q.tr, .int .i64 q.dl, .slice A q.ws.length cap])) ∧ VMap w 22 b2 n2 (putM (fun _ => none) (.int .u16 (q.id : Nat)) (.string ⟨(keyQ q.q.1 q.q.2.1 q.q.2.2).toArray⟩)) ∧
    PnIn w A q ∧ (A = none → q.ws = []) ∧ (A = none → cap = 0)
theorem BkO.fr0 {w w' : World} {p : Nat} {most wt : Int} {q : Pn} {A : Option Addr} {cap : Nat} (h : BkO w p most wt q A cap) (f : Fr (fun _ => False) w w') : BkO w' p most wt q A cap := by
  obtain ⟨b1, K1, c1, b2, K2, c2, n1, n2, g1, g2, g3, g4, g5, g6⟩ := h
  exact ⟨b1, K1, c1, b2, K2, c2, n1, n2, g1.fr f id, g2.fr f id, g3.fr f id, g4.fr0 f, g5, g6⟩
/-- A book of one question that lies in new blocks: it stays whatever is turned of what was there. -/
def BkK (w w' : World) (p : Nat) (most wt : Int) (q : Pn) (A : Option Addr) (cap : Nat) : Prop :=
  ∀ (S : Nat → Prop) (w'' : World), Fr S w' w'' → ¬ S p → (∀ k, S k → k < w.heap.size) → BkO w'' p most wt q A cap
set_option maxRecDepth 100000 in
set_option maxHeartbeats 2000000 in
theorem bnew_any (most wt : Int) (w : World) (h1 : 1 ≤ most) (h2 : most ≤ 256) (h3 : 1 ≤ wt) (h4 : wt ≤ 64) :
    Calls Try.prog 24 #[.int .i64 most, .int .i64 wt] w fun e w' => e = .returned (.tuple #[.pointer (some ⟨w.heap.size, 0, none⟩), .int .i64 0]) ∧ BkE w' w.heap.size most wt ∧ Fr (fun _ => False) w w' := by
  go_enter Try.func24, Try.ntmps24
  go_wp2_with fail
  go_ret2
  exact ⟨rfl, Blk.new _ _ _, (Fr.refl _ _).alloc _⟩
/-- While a first question is added. -/
structure AddS (w W : World) (p : Nat) (most wt : Int) (q : Pn) (A : Option Addr) (cap : Nat) : Prop where
  bk : BkE W p most wt
  bx : Blk W w.heap.size 28 #[.int .u16 (q.id : Nat), .string q.q.1, .int .i64 q.q.2.1, .int .i64 q.q.2.2, .int .i64 q.sv, .int .i64 q.tr, .int .i64 q.dl, .slice A q.ws.length cap]
  fr : Fr (fun _ => False) w W
theorem AddS.fr0 {w W W' : World} {p : Nat} {most wt : Int} {q : Pn} {A : Option Addr} {cap : Nat} (h : AddS w W p most wt q A cap) (f : Fr (fun _ => False) W W') : AddS w W' p most wt q A cap :=
  ⟨Blk.fr h.bk f id, h.bx.fr f id, h.fr.then f⟩
section
variable {w W : World} {p : Nat} {most wt : Int} {q : Pn} {A : Option Addr} {cap : Nat}
theorem AddS.rg (h : AddS w W p most wt q A cap) : W.rangeAt w.heap.size 0 [.int .u16 (q.id : Nat), .string q.q.1, .int .i64 q.q.2.1, .int .i64 q.q.2.2, .int .i64 q.sv, .int .i64 q.tr, .int .i64 q.dl, .slice A q.ws.length cap] := fun j v hv => by rw [Nat.zero_add, h.bx.cell j, List.getElem?_toArray]; exact hv
theorem AddS.c0 (h : AddS w W p most wt q A cap) : W.cell? ⟨p, 0, none⟩ = some (.int .i64 most) := h.bk.cell 0
theorem AddS.c1 (h : AddS w W p most wt q A cap) : W.cell? ⟨p, 1, none⟩ = some (.int .i64 wt) := h.bk.cell 1
theorem AddS.c2 (h : AddS w W p most wt q A cap) : W.cell? ⟨p, 2, none⟩ = some (.map none) := h.bk.cell 2
theorem AddS.c3 (h : AddS w W p most wt q A cap) : W.cell? ⟨p, 3, none⟩ = some (.slice none 0 0) := h.bk.cell 3
theorem AddS.c4 (h : AddS w W p most wt q A cap) : W.cell? ⟨p, 4, none⟩ = some (.map none) := h.bk.cell 4
theorem AddS.c6 (h : AddS w W p most wt q A cap) : W.cell? ⟨p, 6, none⟩ = some (.func (.func 51) #[] #[]) := h.bk.cell 6
theorem AddS.qq (h : AddS w W p most wt q A cap) : W.cell? ⟨w.heap.size, 1, none⟩ = some (.string q.q.1) ∧ W.cell? ⟨w.heap.size, 2, none⟩ = some (.int .i64 q.q.2.1) ∧ W.cell? ⟨w.heap.size, 3, none⟩ = some (.int .i64 q.q.2.2) := ⟨h.bx.cell 1, h.bx.cell 2, h.bx.cell 3⟩
theorem AddS.ii (h : AddS w W p most wt q A cap) : W.cell? ⟨w.heap.size, 0, none⟩ = some (.int .u16 (q.id : Nat)) := h.bx.cell 0
end
set_option maxRecDepth 100000 in
set_option maxHeartbeats 8000000 in
theorem badd_no (p : Nat) (most wt : Int) (q : Pn) (A : Option Addr) (cap : Nat) (w : World) (hb : BkE w p most wt) (hq : PnIn w A q) (hw : i64k wt) (hm : q.may wt = false) :
    Calls Try.prog 26 #[.pointer (some ⟨p, 0, none⟩), .agg #[.int .u16 (q.id : Nat), .string q.q.1, .int .i64 q.q.2.1, .int .i64 q.q.2.2, .int .i64 q.sv, .int .i64 q.tr, .int .i64 q.dl, .slice A q.ws.length cap]] w fun e w' => e = .returned (.int .i64 2) ∧ Fr (fun _ => False) w w' := by
  obtain ⟨W, hW⟩ : ∃ W, W = w.alloc (.cells #[.int .u16 (q.id : Nat), .string q.q.1, .int .i64 q.q.2.1, .int .i64 q.q.2.2, .int .i64 q.sv, .int .i64 q.tr, .int .i64 q.dl, .slice A q.ws.length cap] 28) := ⟨_, rfl⟩
  have hf : Fr (fun _ => False) w W := by rw [hW]; exact (Fr.refl _ _).alloc _
  have HS0 := Lib.hid (AddS.mk (Blk.fr hb hf id) (by rw [hW]; exact Blk.new w 28 #[.int .u16 (q.id : Nat), .string q.q.1, .int .i64 q.q.2.1, .int .i64 q.q.2.2, .int .i64 q.sv, .int .i64 q.tr, .int .i64 q.dl, .slice A q.ws.length cap]) hf : AddS w W p most wt q A cap)
  have HP := Lib.hid (And.intro ((hq.fr0 hf).fr0 ((Fr.refl _ W).drew)) hw)
  have HM := Lib.hid hm
  have HW := Lib.hid hW
  clear hf hb hq hw hm hW
  go_enter Try.func26, Try.ntmps26
  go_upto_region 1 with fail
  rw [← HW.out]
  clear HW
  go_upto_region 3 with fail
  refine wp_region_held_drew (S := fun w' => AddS w w' p most wt q A cap) (by kernel_rfl) (HS0.out.fr0 ((Fr.refl _ _).drew)) (fun hHeld => ?_)
  refine wpAnyH_take (i := 0) rfl (by kernel_rfl) (by kernel_rfl) (by kernel_rfl) (fun _ _ _ h => h) (yieldsIf_load_mid (by rfl) _ _ rfl w.heap.size 0 (by rfl) [.int .u16 (q.id : Nat), .string q.q.1, .int .i64 q.q.2.1, .int .i64 q.q.2.2, .int .i64 q.sv, .int .i64 q.tr, .int .i64 q.dl, .slice A q.ws.length cap] _ (fun w' h => h.rg) Try.underlying28 rfl (by kernel_rfl)) (by assumption) ?_
  try simp only [Act.put, List.setIfInBounds_toArray, List.set_cons_zero, List.set_cons_succ, List.getElem_toArray, List.getElem_cons_zero, List.getElem_cons_succ]
  refine wpAnyH_take (i := 1) (v := ?_) rfl (by kernel_rfl) (by kernel_rfl) (by kernel_rfl) (fun _ _ _ h => h) (Or.inl ⟨by rfl, ?_⟩) (by assumption) ?_
  rotate_left
  · intro w hSw
    go_simp
    try with_reducible rfl
  try simp only [Act.put, List.setIfInBounds_toArray, List.set_cons_zero, List.set_cons_succ, List.getElem_toArray, List.getElem_cons_zero, List.getElem_cons_succ]
  refine wpAnyH_take (i := 2) (v := ?_) rfl (by kernel_rfl) (by kernel_rfl) (by kernel_rfl) (fun _ _ _ h => h) (Or.inl ⟨by rfl, ?_⟩) (by assumption) ?_
  rotate_left
  · intro w hSw
    go_simp
    try with_reducible rfl
  try simp only [Act.put, List.setIfInBounds_toArray, List.set_cons_zero, List.set_cons_succ, List.getElem_toArray, List.getElem_cons_zero, List.getElem_cons_succ]
  refine wpAnyH_take (i := 3) (v := ?_) rfl (by kernel_rfl) (by kernel_rfl) (by kernel_rfl) (fun _ _ _ h => h) (Or.inl ⟨by rfl, ?_⟩) (by assumption) ?_
  rotate_left
  · intro w hSw
    go_simp
    try with_reducible rfl
  try simp only [Act.put, List.setIfInBounds_toArray, List.set_cons_zero, List.set_cons_succ, List.getElem_toArray, List.getElem_cons_zero, List.getElem_cons_succ]
  refine wpAnyH_take (i := 4) (v := ?_) rfl (by kernel_rfl) (by kernel_rfl) (by kernel_rfl) (fun _ _ _ h => h) (Or.inl ⟨by rfl, ?_⟩) (by assumption) ?_
  rotate_left
  · intro w hSw
    have hc0 := AddS.c1 hSw
    go_simp
    try with_reducible rfl
  try simp only [Act.put, List.setIfInBounds_toArray, List.set_cons_zero, List.set_cons_succ, List.getElem_toArray, List.getElem_cons_zero, List.getElem_cons_succ]
  refine wpAnyH_ready (rs := [5]) (by kernel_rfl) (by simp) ?_
  refine AllReadyH.cons rfl (fun K hK => ?_) AllReadyH.nil
  go_simp
  (with_reducible refine (pmay_any q A cap wt W.drew HP.out.1 HP.out.2).mono ?_)
  rintro e w1 ⟨rfl, f1⟩
  rw [HM.out]
  have H1 := Lib.hid (HS0.out.fr0 f1.fromD)
  refine hK.out _ _ H1.out (fun hHeld => ?_)
  clear hK K
  try simp only [Act.put, List.setIfInBounds_toArray, List.set_cons_zero, List.set_cons_succ, List.getElem_toArray, List.getElem_cons_zero, List.getElem_cons_succ]
  refine wpAnyH_take (i := 6) (v := ?_) rfl (by kernel_rfl) (by kernel_rfl) (by kernel_rfl) (fun _ _ _ h => h) (Or.inl ⟨by rfl, ?_⟩) (by assumption) ?_
  rotate_left
  · intro w hSw
    go_simp
    try with_reducible rfl
  try simp only [Act.put, List.setIfInBounds_toArray, List.set_cons_zero, List.set_cons_succ, List.getElem_toArray, List.getElem_cons_zero, List.getElem_cons_succ]
  refine wpAnyH_take (i := 7) (v := ?_) rfl (by kernel_rfl) (by kernel_rfl) (by kernel_rfl) (fun _ _ _ h => h) (Or.inl ⟨by rfl, ?_⟩) (by assumption) ?_
  rotate_left
  · intro w hSw
    go_simp
    try with_reducible rfl
  try simp only [Act.put, List.setIfInBounds_toArray, List.set_cons_zero, List.set_cons_succ, List.getElem_toArray, List.getElem_cons_zero, List.getElem_cons_succ]
  refine wpAnyH_done (by kernel_rfl) ?_ _
  clear hHeld f1
  go_wp2_with fail
  go_ret
  exact ⟨rfl, H1.out.fr⟩

theorem blk_rg {w : World} {p : Nat} {T : TypeId} {L : List Value} (h : Blk w p T L.toArray) : w.rangeAt p 0 L := fun j v hv => by rw [Nat.zero_add, h.cell j, List.getElem?_toArray]; exact hv
theorem keyQ_len (n : ByteArray) (t c : Int) : (keyQ n t c).length ≤ 258 := by
  unfold keyQ
  rw [List.length_append, List.length_append]
  have := foldN_len n
  simp [octs]
  omega
set_option maxRecDepth 100000 in
set_option maxHeartbeats 8000000 in
theorem badd_yes (p : Nat) (most wt : Int) (q : Pn) (A : Option Addr) (cap : Nat) (w : World) (hb : BkE w p most wt) (hq : PnIn w A q) (hw : i64k wt) (hm : q.may wt = true) (hA : A = none → q.ws = []) (hcap : A = none → cap = 0) (h1 : 1 ≤ most ∧ most ≤ 256) :
    Calls Try.prog 26 #[.pointer (some ⟨p, 0, none⟩), .agg #[.int .u16 (q.id : Nat), .string q.q.1, .int .i64 q.q.2.1, .int .i64 q.q.2.2, .int .i64 q.sv, .int .i64 q.tr, .int .i64 q.dl, .slice A q.ws.length cap]] w fun e w' => e = .returned (.int .i64 0) ∧ (∃ A' cap', BkK w w' p most wt q A' cap') ∧ Fr (· = p) w w' := by
  obtain ⟨W, hW⟩ : ∃ W, W = w.alloc (.cells #[.int .u16 (q.id : Nat), .string q.q.1, .int .i64 q.q.2.1, .int .i64 q.q.2.2, .int .i64 q.sv, .int .i64 q.tr, .int .i64 q.dl, .slice A q.ws.length cap] 28) := ⟨_, rfl⟩
  have hf : Fr (fun _ => False) w W := by rw [hW]; exact (Fr.refl _ _).alloc _
  have HS0 := Lib.hid (AddS.mk (Blk.fr hb hf id) (by rw [hW]; exact Blk.new w 28 #[.int .u16 (q.id : Nat), .string q.q.1, .int .i64 q.q.2.1, .int .i64 q.q.2.2, .int .i64 q.sv, .int .i64 q.tr, .int .i64 q.dl, .slice A q.ws.length cap]) hf : AddS w W p most wt q A cap)
  have HP := Lib.hid (And.intro ((hq.fr0 hf).fr0 ((Fr.refl _ W).drew)) hw)
  have HQ := Lib.hid (And.intro hq (And.intro hA hcap))
  have HLT := Lib.hid hb.lt
  have HM := Lib.hid hm
  have HW := Lib.hid hW
  obtain ⟨h1, h2⟩ := h1
  clear hf hb hq hw hm hW hA hcap
  go_enter Try.func26, Try.ntmps26
  go_upto_region 1 with fail
  rw [← HW.out]
  clear HW
  go_upto_region 3 with fail
  refine wp_region_held_drew (S := fun w' => AddS w w' p most wt q A cap) (by kernel_rfl) (HS0.out.fr0 ((Fr.refl _ _).drew)) (fun hHeld => ?_)
  refine wpAnyH_take (i := 0) rfl (by kernel_rfl) (by kernel_rfl) (by kernel_rfl) (fun _ _ _ h => h) (yieldsIf_load_mid (by rfl) _ _ rfl w.heap.size 0 (by rfl) [.int .u16 (q.id : Nat), .string q.q.1, .int .i64 q.q.2.1, .int .i64 q.q.2.2, .int .i64 q.sv, .int .i64 q.tr, .int .i64 q.dl, .slice A q.ws.length cap] _ (fun w' h => h.rg) Try.underlying28 rfl (by kernel_rfl)) (by assumption) ?_
  try simp only [Act.put, List.setIfInBounds_toArray, List.set_cons_zero, List.set_cons_succ, List.getElem_toArray, List.getElem_cons_zero, List.getElem_cons_succ]
  refine wpAnyH_take (i := 1) (v := ?_) rfl (by kernel_rfl) (by kernel_rfl) (by kernel_rfl) (fun _ _ _ h => h) (Or.inl ⟨by rfl, ?_⟩) (by assumption) ?_
  rotate_left
  · intro w hSw
    go_simp
    try with_reducible rfl
  try simp only [Act.put, List.setIfInBounds_toArray, List.set_cons_zero, List.set_cons_succ, List.getElem_toArray, List.getElem_cons_zero, List.getElem_cons_succ]
  refine wpAnyH_take (i := 2) (v := ?_) rfl (by kernel_rfl) (by kernel_rfl) (by kernel_rfl) (fun _ _ _ h => h) (Or.inl ⟨by rfl, ?_⟩) (by assumption) ?_
  rotate_left
  · intro w hSw
    go_simp
    try with_reducible rfl
  try simp only [Act.put, List.setIfInBounds_toArray, List.set_cons_zero, List.set_cons_succ, List.getElem_toArray, List.getElem_cons_zero, List.getElem_cons_succ]
  refine wpAnyH_take (i := 3) (v := ?_) rfl (by kernel_rfl) (by kernel_rfl) (by kernel_rfl) (fun _ _ _ h => h) (Or.inl ⟨by rfl, ?_⟩) (by assumption) ?_
  rotate_left
  · intro w hSw
    go_simp
    try with_reducible rfl
  try simp only [Act.put, List.setIfInBounds_toArray, List.set_cons_zero, List.set_cons_succ, List.getElem_toArray, List.getElem_cons_zero, List.getElem_cons_succ]
  refine wpAnyH_take (i := 4) (v := ?_) rfl (by kernel_rfl) (by kernel_rfl) (by kernel_rfl) (fun _ _ _ h => h) (Or.inl ⟨by rfl, ?_⟩) (by assumption) ?_
  rotate_left
  · intro w hSw
    have hc0 := AddS.c1 hSw
    go_simp
    try with_reducible rfl
  try simp only [Act.put, List.setIfInBounds_toArray, List.set_cons_zero, List.set_cons_succ, List.getElem_toArray, List.getElem_cons_zero, List.getElem_cons_succ]
  refine wpAnyH_ready (rs := [5]) (by kernel_rfl) (by simp) ?_
  refine AllReadyH.cons rfl (fun K hK => ?_) AllReadyH.nil
  go_simp
  (with_reducible refine (pmay_any q A cap wt W.drew HP.out.1 HP.out.2).mono ?_)
  rintro e w1 ⟨rfl, f1⟩
  rw [HM.out]
  have H1 := Lib.hid (HS0.out.fr0 f1.fromD)
  refine hK.out _ _ H1.out (fun hHeld => ?_)
  clear hK K
  try simp only [Act.put, List.setIfInBounds_toArray, List.set_cons_zero, List.set_cons_succ, List.getElem_toArray, List.getElem_cons_zero, List.getElem_cons_succ]
  refine wpAnyH_take (i := 6) (v := ?_) rfl (by kernel_rfl) (by kernel_rfl) (by kernel_rfl) (fun _ _ _ h => h) (Or.inl ⟨by rfl, ?_⟩) (by assumption) ?_
  rotate_left
  · intro w hSw
    go_simp
    try with_reducible rfl
  try simp only [Act.put, List.setIfInBounds_toArray, List.set_cons_zero, List.set_cons_succ, List.getElem_toArray, List.getElem_cons_zero, List.getElem_cons_succ]
  refine wpAnyH_take (i := 7) (v := ?_) rfl (by kernel_rfl) (by kernel_rfl) (by kernel_rfl) (fun _ _ _ h => h) (Or.inl ⟨by rfl, ?_⟩) (by assumption) ?_
  rotate_left
  · intro w hSw
    go_simp
    try with_reducible rfl
  try simp only [Act.put, List.setIfInBounds_toArray, List.set_cons_zero, List.set_cons_succ, List.getElem_toArray, List.getElem_cons_zero, List.getElem_cons_succ]
  refine wpAnyH_done (by kernel_rfl) ?_ _
  clear hHeld f1
  have hk1 : i64ok' q.q.2.1 := HQ.out.1.q.2.1
  have hk2 : i64ok' q.q.2.2 := HQ.out.1.q.2.2
  have hks : (⟨(keyQ q.q.1 q.q.2.1 q.q.2.2).toArray⟩ : ByteArray).size ≤ maxLen := by simp only [maxLen]; simp [ByteArray.size]; have := keyQ_len q.q.1 q.q.2.1 q.q.2.2; omega
  have hma : ∀ w, MapAt w 9 none 0 (fun _ => none) := fun _ => ⟨rfl, rfl⟩
  have hmu : ∀ w, MapAt w 22 none 0 (fun _ => none) := fun _ => ⟨rfl, rfl⟩
  have HKS := Lib.hid (And.intro hk1 (And.intro hk2 (And.intro hks (And.intro hma hmu))))
  clear hk1 hk2 hks hma hmu
  have hc := H1.out.qq
  obtain ⟨x0, x1, x2⟩ := hc
  go_upto_region 7 with (first
    | (go_at_call 46
       (with_reducible refine (key_any q.q.1 q.q.2.1 q.q.2.2 w1 HKS.out.1 HKS.out.2.1).mono ?_)
       rintro e w2 ⟨rfl, f2⟩
       have h2s := H1.out.fr0 f2
       have y2 := h2s.c2
       have H2 := Lib.hid h2s
       clear f2 h2s x0 x1 x2)
    | (go_at_call 54
       (with_reducible refine (get1_none p 2 none 0 (fun _ => none) ⟨(keyQ q.q.1 q.q.2.1 q.q.2.2).toArray⟩ w2 H2.out.c2 (HKS.out.2.2.2.1 w2) HKS.out.2.2.1 rfl).mono ?_)
       rintro e w3 ⟨rfl, f3⟩
       have H3 := Lib.hid (H2.out.fr0 f3)
       clear f3)
    | (refine wpList_store_part rfl 28 _ _ rfl w3.heap.size 0 (by rfl) _ (by rfl) 28 _ (Blk.new w3 28 _) (by kernel_rfl) (by simp [Value.oneCell']) (by simp) #[.int .u16 0, .string ⟨#[]⟩, .int .i64 0, .int .i64 0, .int .i64 0, .int .i64 0, .int .i64 0, .slice none 0 0] (by rfl) ?_
       intro w4 b4 f4
       have H4 := Lib.hid (H3.out.fr0 (((Fr.refl (fun _ => False) w3).alloc _).step f4 (fun k hk => .inr (by subst hk; exact Nat.le_refl _))))
       clear b4 f4)
    | fail "no arm")
  refine wp_region_held_drew (S := fun w' => AddS w w' p most wt q A cap) (by kernel_rfl) (H4.out.fr0 ((Fr.refl _ _).drew)) (fun hHeld => ?_)
  refine wpAnyH_take (i := 0) (v := ?_) rfl (by kernel_rfl) (by kernel_rfl) (by kernel_rfl) (fun _ _ _ h => h) (Or.inl ⟨by rfl, ?_⟩) (by assumption) ?_
  rotate_left
  · intro w hSw
    go_simp
    try with_reducible rfl
  try simp only [Act.put, List.setIfInBounds_toArray, List.set_cons_zero, List.set_cons_succ, List.getElem_toArray, List.getElem_cons_zero, List.getElem_cons_succ]
  refine wpAnyH_take (i := 1) (v := ?_) rfl (by kernel_rfl) (by kernel_rfl) (by kernel_rfl) (fun _ _ _ h => h) (Or.inl ⟨by rfl, ?_⟩) (by assumption) ?_
  rotate_left
  · intro w hSw
    go_simp
    try with_reducible rfl
  try simp only [Act.put, List.setIfInBounds_toArray, List.set_cons_zero, List.set_cons_succ, List.getElem_toArray, List.getElem_cons_zero, List.getElem_cons_succ]
  refine wpAnyH_take (i := 2) (v := ?_) rfl (by kernel_rfl) (by kernel_rfl) (by kernel_rfl) (fun _ _ _ h => h) (Or.inl ⟨by rfl, ?_⟩) (by assumption) ?_
  rotate_left
  · intro w hSw
    go_simp
    try with_reducible rfl
  try simp only [Act.put, List.setIfInBounds_toArray, List.set_cons_zero, List.set_cons_succ, List.getElem_toArray, List.getElem_cons_zero, List.getElem_cons_succ]
  refine wpAnyH_take (i := 3) (v := ?_) rfl (by kernel_rfl) (by kernel_rfl) (by kernel_rfl) (fun _ _ _ h => h) (Or.inl ⟨by rfl, ?_⟩) (by assumption) ?_
  rotate_left
  · intro w hSw
    go_simp
    try with_reducible rfl
  try simp only [Act.put, List.setIfInBounds_toArray, List.set_cons_zero, List.set_cons_succ, List.getElem_toArray, List.getElem_cons_zero, List.getElem_cons_succ]
  refine wpAnyH_take (i := 4) (v := ?_) rfl (by kernel_rfl) (by kernel_rfl) (by kernel_rfl) (fun _ _ _ h => h) (Or.inl ⟨by rfl, ?_⟩) (by assumption) ?_
  rotate_left
  · intro w hSw
    have hc0 := AddS.ii hSw
    go_simp
    try with_reducible rfl
  try simp only [Act.put, List.setIfInBounds_toArray, List.set_cons_zero, List.set_cons_succ, List.getElem_toArray, List.getElem_cons_zero, List.getElem_cons_succ]
  refine wpAnyH_ready (rs := [5]) (by kernel_rfl) (by simp) ?_
  refine AllReadyH.cons rfl (fun K hK => ?_) AllReadyH.nil
  go_simp
  (with_reducible refine (get2_any p 4 none 0 (fun _ => none) q.id _ (AddS.c4 hHeld) (HKS.out.2.2.2.2 _) HP.out.1.id ⟨#[]⟩ false rfl (fun _ => rfl)).mono ?_)
  rintro e w5 ⟨rfl, rfl⟩
  refine hK.out _ _ hHeld (fun hHeld => ?_)
  clear hK K
  try simp only [Act.put, List.setIfInBounds_toArray, List.set_cons_zero, List.set_cons_succ, List.getElem_toArray, List.getElem_cons_zero, List.getElem_cons_succ]
  refine wpAnyH_take (i := 6) (v := ?_) rfl (by kernel_rfl) (by kernel_rfl) (by kernel_rfl) (fun _ _ _ h => h) (Or.inl ⟨by rfl, ?_⟩) (by assumption) ?_
  rotate_left
  · intro w hSw
    go_simp
    try with_reducible rfl
  try simp only [Act.put, List.setIfInBounds_toArray, List.set_cons_zero, List.set_cons_succ, List.getElem_toArray, List.getElem_cons_zero, List.getElem_cons_succ]
  refine wpAnyH_take (i := 7) (v := ?_) rfl (by kernel_rfl) (by kernel_rfl) (by kernel_rfl) (fun _ _ _ h => h) (Or.inl ⟨by rfl, ?_⟩) (by assumption) ?_
  rotate_left
  · intro w hSw
    go_simp
    try with_reducible rfl
  try simp only [Act.put, List.setIfInBounds_toArray, List.set_cons_zero, List.set_cons_succ, List.getElem_toArray, List.getElem_cons_zero, List.getElem_cons_succ]
  refine wpAnyH_take (i := 8) (v := ?_) rfl (by kernel_rfl) (by kernel_rfl) (by kernel_rfl) (fun _ _ _ h => h) (Or.inl ⟨by rfl, ?_⟩) (by assumption) ?_
  rotate_left
  · intro w hSw
    go_simp
    try with_reducible rfl
  try simp only [Act.put, List.setIfInBounds_toArray, List.set_cons_zero, List.set_cons_succ, List.getElem_toArray, List.getElem_cons_zero, List.getElem_cons_succ]
  refine wpAnyH_take (i := 9) (v := ?_) rfl (by kernel_rfl) (by kernel_rfl) (by kernel_rfl) (fun _ _ _ h => h) (Or.inl ⟨by rfl, ?_⟩) (by assumption) ?_
  rotate_left
  · intro w hSw
    go_simp
    try with_reducible rfl
  try simp only [Act.put, List.setIfInBounds_toArray, List.set_cons_zero, List.set_cons_succ, List.getElem_toArray, List.getElem_cons_zero, List.getElem_cons_succ]
  refine wpAnyH_take (i := 10) (v := ?_) rfl (by kernel_rfl) (by kernel_rfl) (by kernel_rfl) (fun _ _ _ h => h) (Or.inl ⟨by rfl, ?_⟩) (by assumption) ?_
  rotate_left
  · intro w hSw
    go_simp
    try with_reducible rfl
  try simp only [Act.put, List.setIfInBounds_toArray, List.set_cons_zero, List.set_cons_succ, List.getElem_toArray, List.getElem_cons_zero, List.getElem_cons_succ]
  refine wpAnyH_done (by kernel_rfl) ?_ _
  clear hHeld
  have h5s := H4.out.fr0 ((Fr.refl (fun _ => False) w4).drew)
  generalize w4.drew = W5 at *
  have H5 := Lib.hid h5s
  have y0 := h5s.c0
  have y3 := h5s.c3
  clear h5s
  go_upto_region 10 with fail
  go_quiet (fail)
  have h6s := H5.out.fr0 ((Fr.refl (fun _ => False) W5).drewN nq)
  generalize W5.drewN nq = W6 at *
  have H6 := Lib.hid h6s
  have HP6 := Lib.hid (And.intro (HQ.out.1.fr0 (h6s.fr.drew)) HQ.out.2)
  clear h6s y0 y3
  go_upto_region 12 with fail
  have hS6 : (W6.drew).cell? ⟨p, 6, none⟩ = some (.func (.func 51) #[] #[]) ∧ (W6.drew).rangeAt w.heap.size 0 [.int .u16 (q.id : Nat), .string q.q.1, .int .i64 q.q.2.1, .int .i64 q.q.2.2, .int .i64 q.sv, .int .i64 q.tr, .int .i64 q.dl, .slice A q.ws.length cap] := ⟨(H6.out.fr0 ((Fr.refl _ _).drew)).c6, (H6.out.fr0 ((Fr.refl _ _).drew)).rg⟩
  refine wp_region_held_drew (S := fun w' => w'.cell? ⟨p, 6, none⟩ = some (.func (.func 51) #[] #[]) ∧ w'.rangeAt w.heap.size 0 [.int .u16 (q.id : Nat), .string q.q.1, .int .i64 q.q.2.1, .int .i64 q.q.2.2, .int .i64 q.sv, .int .i64 q.tr, .int .i64 q.dl, .slice A q.ws.length cap]) (by kernel_rfl) hS6 (fun hHeld => ?_)
  refine wpAnyH_take (i := 0) (v := ?_) rfl (by kernel_rfl) (by kernel_rfl) (by kernel_rfl) (fun _ _ _ h => h) (Or.inl ⟨by rfl, ?_⟩) (by assumption) ?_
  rotate_left
  · intro w hSw
    go_simp
    try with_reducible rfl
  try simp only [Act.put, List.setIfInBounds_toArray, List.set_cons_zero, List.set_cons_succ, List.getElem_toArray, List.getElem_cons_zero, List.getElem_cons_succ]
  refine wpAnyH_take (i := 1) (v := ?_) rfl (by kernel_rfl) (by kernel_rfl) (by kernel_rfl) (fun _ _ _ h => h) (Or.inl ⟨by rfl, ?_⟩) (by assumption) ?_
  rotate_left
  · intro w hSw
    go_simp
    try with_reducible rfl
  try simp only [Act.put, List.setIfInBounds_toArray, List.set_cons_zero, List.set_cons_succ, List.getElem_toArray, List.getElem_cons_zero, List.getElem_cons_succ]
  refine wpAnyH_take (i := 2) (v := ?_) rfl (by kernel_rfl) (by kernel_rfl) (by kernel_rfl) (fun _ _ _ h => h) (Or.inl ⟨by rfl, ?_⟩) (by assumption) ?_
  rotate_left
  · intro w hSw
    go_simp
    try with_reducible rfl
  try simp only [Act.put, List.setIfInBounds_toArray, List.set_cons_zero, List.set_cons_succ, List.getElem_toArray, List.getElem_cons_zero, List.getElem_cons_succ]
  refine wpAnyH_take (i := 3) (v := ?_) rfl (by kernel_rfl) (by kernel_rfl) (by kernel_rfl) (fun _ _ _ h => h) (Or.inl ⟨by rfl, ?_⟩) (by assumption) ?_
  rotate_left
  · intro w hSw
    go_simp
    try with_reducible rfl
  try simp only [Act.put, List.setIfInBounds_toArray, List.set_cons_zero, List.set_cons_succ, List.getElem_toArray, List.getElem_cons_zero, List.getElem_cons_succ]
  refine wpAnyH_take (i := 4) (v := ?_) rfl (by kernel_rfl) (by kernel_rfl) (by kernel_rfl) (fun _ _ _ h => h) (Or.inl ⟨by rfl, ?_⟩) (by assumption) ?_
  rotate_left
  · intro w hSw
    go_simp
    try with_reducible rfl
  try simp only [Act.put, List.setIfInBounds_toArray, List.set_cons_zero, List.set_cons_succ, List.getElem_toArray, List.getElem_cons_zero, List.getElem_cons_succ]
  refine wpAnyH_take (i := 5) (v := ?_) rfl (by kernel_rfl) (by kernel_rfl) (by kernel_rfl) (fun _ _ _ h => h) (Or.inl ⟨by rfl, ?_⟩) (by assumption) ?_
  rotate_left
  · intro w hSw
    go_simp
    try with_reducible rfl
  try simp only [Act.put, List.setIfInBounds_toArray, List.set_cons_zero, List.set_cons_succ, List.getElem_toArray, List.getElem_cons_zero, List.getElem_cons_succ]
  refine wpAnyH_take (i := 6) (v := ?_) rfl (by kernel_rfl) (by kernel_rfl) (by kernel_rfl) (fun _ _ _ h => h) (Or.inl ⟨by rfl, ?_⟩) (by assumption) ?_
  rotate_left
  · intro w hSw
    go_simp
    try with_reducible rfl
  try simp only [Act.put, List.setIfInBounds_toArray, List.set_cons_zero, List.set_cons_succ, List.getElem_toArray, List.getElem_cons_zero, List.getElem_cons_succ]
  refine wpAnyH_take (i := 7) (v := ?_) rfl (by kernel_rfl) (by kernel_rfl) (by kernel_rfl) (fun _ _ _ h => h) (Or.inl ⟨by rfl, ?_⟩) (by assumption) ?_
  rotate_left
  · intro w hSw
    have hc0 := hSw.1
    go_simp
    try with_reducible rfl
  try simp only [Act.put, List.setIfInBounds_toArray, List.set_cons_zero, List.set_cons_succ, List.getElem_toArray, List.getElem_cons_zero, List.getElem_cons_succ]
  refine wpAnyH_take (i := 8) rfl (by kernel_rfl) (by kernel_rfl) (by kernel_rfl) (fun _ _ _ h => h) (yieldsIf_load_mid (by rfl) _ _ rfl w.heap.size 0 (by rfl) [.int .u16 (q.id : Nat), .string q.q.1, .int .i64 q.q.2.1, .int .i64 q.q.2.2, .int .i64 q.sv, .int .i64 q.tr, .int .i64 q.dl, .slice A q.ws.length cap] _ (fun w' h => h.2) Try.underlying28 rfl (by kernel_rfl)) (by assumption) ?_
  try simp only [Act.put, List.setIfInBounds_toArray, List.set_cons_zero, List.set_cons_succ, List.getElem_toArray, List.getElem_cons_zero, List.getElem_cons_succ]
  refine wpAnyH_ready (rs := [9]) (by kernel_rfl) (by simp) ?_
  refine AllReadyH.cons rfl (fun K hK => ?_) AllReadyH.nil
  go_simp
  (with_reducible refine (pclone_any q A cap W6.drew HP6.out.1 HP6.out.2.1 HP6.out.2.2).mono ?_)
  rintro e w7 ⟨A2, cap2, rfl, o1, o2, o3⟩
  have h7s := H6.out.fr0 o3.fromD
  have hS7 := And.intro h7s.c6 h7s.rg
  have H7 := Lib.hid (And.intro h7s (And.intro o1 o2))
  refine hK.out _ _ hS7 (fun hHeld => ?_)
  clear hK K
  try simp only [Act.put, List.setIfInBounds_toArray, List.set_cons_zero, List.set_cons_succ, List.getElem_toArray, List.getElem_cons_zero, List.getElem_cons_succ]
  have hset := set1_new p 2 105 #[.int .i64 most, .int .i64 wt, .map none, .slice none 0 0, .map none, .slice none 0 0, .func (.func 51) #[] #[]] ⟨(keyQ q.q.1 q.q.2.1 q.q.2.2).toArray⟩ q A2 cap2 w7 H7.out.1.bk rfl rfl (by simp [ByteArray.size]; have := keyQ_len q.q.1 q.q.2.1 q.q.2.2; omega)
  refine wpAnyH_ready (rs := [10]) (by kernel_rfl) (by simp) ?_
  refine AllReadyH.cons rfl (fun K hK => ?_) AllReadyH.nil
  go_simp
  refine hset.mono ?_
  rintro e w8 ⟨rfl, b1, n1, K1, c1, g1, g2, g3, g4, g5, g6, g7⟩
  have hpl : p < w.heap.size := HLT.out
  have hbx8 : Blk w8 w.heap.size 28 #[.int .u16 (q.id : Nat), .string q.q.1, .int .i64 q.q.2.1, .int .i64 q.q.2.2, .int .i64 q.sv, .int .i64 q.tr, .int .i64 q.dl, .slice A q.ws.length cap] := H7.out.1.bx.fr g7 (fun h => by rcases h with h | h | h; exact absurd h (by omega); cases h; exact rowOf_none _ h)
  have hS8 : w8.cell? ⟨p, 6, none⟩ = some (.func (.func 51) #[] #[]) ∧ w8.rangeAt w.heap.size 0 [.int .u16 (q.id : Nat), .string q.q.1, .int .i64 q.q.2.1, .int .i64 q.q.2.2, .int .i64 q.sv, .int .i64 q.tr, .int .i64 q.dl, .slice A q.ws.length cap] := ⟨(g1.cell 6).trans (by rfl), blk_rg hbx8⟩
  have H8 := Lib.hid (And.intro g1 (And.intro g2 (And.intro g3 (And.intro g4 (And.intro g6 (And.intro g7 (And.intro hbx8 g5)))))))
  clear g1 g2 g3 g4 g5 g6 g7 hset hHeld
  refine hK.out _ _ hS8 (fun hHeld => ?_)
  clear hK K
  try simp only [Act.put, List.setIfInBounds_toArray, List.set_cons_zero, List.set_cons_succ, List.getElem_toArray, List.getElem_cons_zero, List.getElem_cons_succ]
  refine wpAnyH_done (by kernel_rfl) ?_ _
  clear hHeld
  go_upto_region 13 with fail
  have g1 := H8.out.1
  have g1' := Blk.fr g1 ((Fr.refl (fun _ => False) _).drew) id
  have hS13 : (w8.drew).cell? ⟨w.heap.size, 0, none⟩ = some (.int .u16 (q.id : Nat)) := ((Blk.fr H8.out.2.2.2.2.2.2.1 ((Fr.refl (fun _ => False) _).drew) id).cell 0)
  refine wp_region_held_drew (S := fun w' => w'.cell? ⟨w.heap.size, 0, none⟩ = some (.int .u16 (q.id : Nat))) (by kernel_rfl) hS13 (fun hHeld => ?_)
  refine wpAnyH_take (i := 0) (v := ?_) rfl (by kernel_rfl) (by kernel_rfl) (by kernel_rfl) (fun _ _ _ h => h) (Or.inl ⟨by rfl, ?_⟩) (by assumption) ?_
  rotate_left
  · intro w hSw
    go_simp
    try with_reducible rfl
  try simp only [Act.put, List.setIfInBounds_toArray, List.set_cons_zero, List.set_cons_succ, List.getElem_toArray, List.getElem_cons_zero, List.getElem_cons_succ]
  refine wpAnyH_take (i := 1) (v := ?_) rfl (by kernel_rfl) (by kernel_rfl) (by kernel_rfl) (fun _ _ _ h => h) (Or.inl ⟨by rfl, ?_⟩) (by assumption) ?_
  rotate_left
  · intro w hSw
    go_simp
    try with_reducible rfl
  try simp only [Act.put, List.setIfInBounds_toArray, List.set_cons_zero, List.set_cons_succ, List.getElem_toArray, List.getElem_cons_zero, List.getElem_cons_succ]
  refine wpAnyH_take (i := 2) (v := ?_) rfl (by kernel_rfl) (by kernel_rfl) (by kernel_rfl) (fun _ _ _ h => h) (Or.inl ⟨by rfl, ?_⟩) (by assumption) ?_
  rotate_left
  · intro w hSw
    go_simp
    try with_reducible rfl
  try simp only [Act.put, List.setIfInBounds_toArray, List.set_cons_zero, List.set_cons_succ, List.getElem_toArray, List.getElem_cons_zero, List.getElem_cons_succ]
  refine wpAnyH_take (i := 3) (v := ?_) rfl (by kernel_rfl) (by kernel_rfl) (by kernel_rfl) (fun _ _ _ h => h) (Or.inl ⟨by rfl, ?_⟩) (by assumption) ?_
  rotate_left
  · intro w hSw
    go_simp
    try with_reducible rfl
  try simp only [Act.put, List.setIfInBounds_toArray, List.set_cons_zero, List.set_cons_succ, List.getElem_toArray, List.getElem_cons_zero, List.getElem_cons_succ]
  refine wpAnyH_take (i := 4) (v := ?_) rfl (by kernel_rfl) (by kernel_rfl) (by kernel_rfl) (fun _ _ _ h => h) (Or.inl ⟨by rfl, ?_⟩) (by assumption) ?_
  rotate_left
  · intro w hSw
    have hc0 := hSw
    go_simp
    try with_reducible rfl
  try simp only [Act.put, List.setIfInBounds_toArray, List.set_cons_zero, List.set_cons_succ, List.getElem_toArray, List.getElem_cons_zero, List.getElem_cons_succ]
  refine wpAnyH_take (i := 5) (v := ?_) rfl (by kernel_rfl) (by kernel_rfl) (by kernel_rfl) (fun _ _ _ h => h) (Or.inl ⟨by rfl, ?_⟩) (by assumption) ?_
  rotate_left
  · intro w hSw
    go_simp
    try with_reducible rfl
  try simp only [Act.put, List.setIfInBounds_toArray, List.set_cons_zero, List.set_cons_succ, List.getElem_toArray, List.getElem_cons_zero, List.getElem_cons_succ]
  have hset := set2_new p 4 105 _ q.id ⟨(keyQ q.q.1 q.q.2.1 q.q.2.2).toArray⟩ w8.drew g1' rfl rfl HQ.out.1.id
  refine wpAnyH_ready (rs := [6]) (by kernel_rfl) (by simp) ?_
  refine AllReadyH.cons rfl (fun K hK => ?_) AllReadyH.nil
  go_simp
  refine hset.mono ?_
  rintro e w9 ⟨rfl, b2, n2, K2, c2, k1, k2, k3, k4, k5, k6, k7⟩
  have hpl : p < w.heap.size := HLT.out
  have hS9 : w9.cell? ⟨w.heap.size, 0, none⟩ = some (.int .u16 (q.id : Nat)) := (Blk.fr (Blk.fr H8.out.2.2.2.2.2.2.1 ((Fr.refl (fun _ => False) _).drew) id) k7 (fun h => by rcases h with h | h | h; exact absurd h (by omega); cases h; exact rowOf_none _ h)).cell 0
  have H9 := Lib.hid (And.intro k1 (And.intro k2 (And.intro k6 (And.intro k7 k5))))
  clear k1 k2 k3 k4 k5 k6 k7 hset hHeld g1 g1' hS13
  refine hK.out _ _ hS9 (fun hHeld => ?_)
  clear hK K
  try simp only [Act.put, List.setIfInBounds_toArray, List.set_cons_zero, List.set_cons_succ, List.getElem_toArray, List.getElem_cons_zero, List.getElem_cons_succ]
  refine wpAnyH_done (by kernel_rfl) ?_ _
  clear hHeld
  go_wp2_with fail
  go_ret
  have hpl : p < w.heap.size := HLT.out
  have hsz6 : w.heap.size ≤ W6.drew.heap.size := by have h := H6.out.fr.size; exact h
  have hsz7 : w.heap.size ≤ w7.heap.size := H7.out.1.fr.size
  have hsz8 : w7.heap.size ≤ w8.heap.size := H8.out.2.2.2.2.2.1.size
  have hA2 : ∀ k, rowOf A2 k → ¬ (k = p ∨ (none : Option Nat) = some k ∨ rowOf none k) := fun k hk h => by
    have h2 := H7.out.2.2 k hk
    rcases h with h | h | h
    · omega
    · cases h
    · exact rowOf_none _ h
  have hr7 := own_rowIn0 H7.out.2.1
  have hr8 := rowIn_fr hr7 H8.out.2.2.2.2.2.1 hA2
  have hr9 := rowIn_fr hr8 (H9.out.2.2.2.1.fromD) hA2
  have f8 : Fr (· = p) w w8 := (H7.out.1.fr.mono (fun _ _ h => h.elim)).then (H8.out.2.2.2.2.2.1.mono (fun k _ h => by rcases h with h | h | h; exact h; cases h; exact absurd h (rowOf_none _)))
  have hvm := VMap.fr H8.out.2.1 H9.out.2.2.2.1.fromD
  have hb1 : w7.heap.size ≤ b1 := by
    rcases H8.out.2.2.2.2.2.2.2 with h | h
    · cases h
    · exact h.2
  have hb2 : w7.heap.size ≤ b2 := by
    rcases H9.out.2.2.2.2 with h | h
    · cases h
    · exact Nat.le_trans hsz8 h.2
  have g1 := H9.out.1
  have g2 : VMap w9 9 b1 n1 _ := hvm (fun h => by rcases h with h | h | h; (omega); cases h; exact rowOf_none _ h)
  have g3 := H9.out.2.1
  refine ⟨by rfl, ⟨A2, cap2, fun S w10 f hp hS => ⟨b1, K1, c1, b2, K2, c2, n1, n2, g1.fr f hp, g2.fr f (fun h => by have := hS _ h; omega), g3.fr f (fun h => by have := hS _ h; omega), ⟨rowIn_fr hr9 f (fun k hk h => by have := hS _ h; have := H7.out.2.2 k hk; omega), HQ.out.1.ws, HQ.out.1.id, HQ.out.1.q, HQ.out.1.sv, HQ.out.1.tr, HQ.out.1.dl, HQ.out.1.len⟩, ?_, ?_⟩⟩, ?_⟩
  · intro h
    subst h
    rcases H7.out.2.1.2 with ⟨h2, h0⟩ | ⟨g, cp, cur, hv, _⟩
    · exact List.eq_nil_of_length_eq_zero h0
    · cases hv
  · intro h
    subst h
    rcases H7.out.2.1.2 with ⟨h2, h0⟩ | ⟨g, cp, cur, hv, _⟩
    · injection h2
    · cases hv
  · exact f8.then (H9.out.2.2.2.1.fromD.mono (fun k _ h => by rcases h with h | h | h; exact h; cases h; exact absurd h (rowOf_none _)))
end Go.Proofs.Ytncfdfgcnblicaa

/-
  LAYER 24: Find in a book of one question.
-/
namespace Go.Proofs.Ytncfdfgcnblicaa
open Go.RowKit Go.Maps Go.ChangeMaps Go.WideMaps
set_option linter.unusedVariables false
set_option linter.unusedSimpArgs false

/-- What Find tells of a question that is there: a copy of it. -/
def FindPost (w : World) (q : Pn) (e : Ending) (w' : World) : Prop :=
  ∃ A cap, e = .returned (.tuple #[.agg #[.int .u16 (q.id : Nat), .string q.q.1, .int .i64 q.q.2.1, .int .i64 q.q.2.2, .int .i64 q.sv, .int .i64 q.tr, .int .i64 q.dl, .slice A q.ws.length cap], .bool true]) ∧ w'.ownsRow 0 69 18 (.slice A q.ws.length cap) q.ws.length (q.ws.flatMap wcl) ∧ (∀ k, rowOf A k → w.heap.size ≤ k) ∧ Fr (fun _ => False) w w'
set_option maxRecDepth 100000 in
set_option maxHeartbeats 8000000 in
theorem bfind_yes (p : Nat) (most wt : Int) (q : Pn) (A : Option Addr) (cap : Nat) (w : World) (hb : BkO w p most wt q A cap) :
    Calls Try.prog 32 #[.pointer (some ⟨p, 0, none⟩), .int .u16 (q.id : Nat)] w (FindPost w q) := by
  obtain ⟨W, hW⟩ : ∃ W, W = w.alloc (.cells #[.int .u16 0, .string ⟨#[]⟩, .int .i64 0, .int .i64 0, .int .i64 0, .int .i64 0, .int .i64 0, .slice none 0 0] 28) := ⟨_, rfl⟩
  have hf : Fr (fun _ => False) w W := by rw [hW]; exact (Fr.refl _ _).alloc _
  have hz : Blk W w.heap.size 28 #[.int .u16 0, .string ⟨#[]⟩, .int .i64 0, .int .i64 0, .int .i64 0, .int .i64 0, .int .i64 0, .slice none 0 0] := by rw [hW]; exact Blk.new w 28 #[.int .u16 0, .string ⟨#[]⟩, .int .i64 0, .int .i64 0, .int .i64 0, .int .i64 0, .int .i64 0, .slice none 0 0]
  have HLT := Lib.hid (show p < w.heap.size by obtain ⟨b1, K1, c1, b2, K2, c2, n1, n2, g1, _⟩ := hb; exact g1.lt)
  obtain ⟨b1, K1, c1, b2, K2, c2, n1, n2, g1, g2, g3, g4, g5, g6⟩ := BkO.fr0 hb hf
  have HA := Lib.hid (And.intro g5 g6)
  have hks : (⟨(keyQ q.q.1 q.q.2.1 q.q.2.2).toArray⟩ : ByteArray).size ≤ maxLen := by simp only [maxLen]; simp [ByteArray.size]; have := keyQ_len q.q.1 q.q.2.1 q.q.2.2; omega
  have HB := Lib.hid (And.intro g1 (And.intro g2 (And.intro g3 (And.intro g4 (And.intro hf (And.intro hz hks))))))
  have hg2 : putM (fun _ => none) (.int .u16 (q.id : Nat)) (.string ⟨(keyQ q.q.1 q.q.2.1 q.q.2.2).toArray⟩) (.int .u16 (q.id : Nat)) = if true then some (.string ⟨(keyQ q.q.1 q.q.2.1 q.q.2.2).toArray⟩) else none := by simp [putM]
  have hg1 : putM (fun _ => none) (.string (keyQ q.q.1 q.q.2.1 q.q.2.2)) (.agg #[.int .u16 (q.id : Nat), .string q.q.1, .int .i64 q.q.2.1, .int .i64 q.q.2.2, .int .i64 q.sv, .int .i64 q.tr, .int .i64 q.dl, .slice A q.ws.length cap]) (.string (⟨(keyQ q.q.1 q.q.2.1 q.q.2.2).toArray⟩ : ByteArray).data.toList) = some (.agg #[.int .u16 (q.id : Nat), .string q.q.1, .int .i64 q.q.2.1, .int .i64 q.q.2.2, .int .i64 q.sv, .int .i64 q.tr, .int .i64 q.dl, .slice A q.ws.length cap]) := by simp [putM]
  have hgv : true = false → (⟨(keyQ q.q.1 q.q.2.1 q.q.2.2).toArray⟩ : ByteArray) = ⟨#[]⟩ := fun h => by cases h
  have HG := Lib.hid (And.intro hg2 (And.intro hg1 hgv))
  clear hg2 hg1 hgv
  have hm2 : MapAt W 22 (some b2) n2 (putM (fun _ => none) (.int .u16 (q.id : Nat)) (.string ⟨(keyQ q.q.1 q.q.2.1 q.q.2.2).toArray⟩)) := g3
  have hm1 : MapAt W 9 (some b1) n1 (putM (fun _ => none) (.string (keyQ q.q.1 q.q.2.1 q.q.2.2)) (.agg #[.int .u16 (q.id : Nat), .string q.q.1, .int .i64 q.q.2.1, .int .i64 q.q.2.2, .int .i64 q.sv, .int .i64 q.tr, .int .i64 q.dl, .slice A q.ws.length cap])) := g2
  have HM := Lib.hid (And.intro hm2 hm1)
  clear hm2 hm1
  have x4 : W.cell? ⟨p, 4, none⟩ = some (.map (some b2)) := g1.cell 4
  have x2 : W.cell? ⟨p, 2, none⟩ = some (.map (some b1)) := g1.cell 2
  have HW := Lib.hid hW
  clear g1 g2 g3 g4 g5 g6 hf hz hks hW hb
  go_enter Try.func32, Try.ntmps32
  go_upto_region 1 with fail
  rw [← HW.out]
  clear HW
  go_upto_region 7 with (first
    | (go_at_call 55
       (with_reducible refine (get2_any p 4 (some b2) n2 _ q.id W x4 HM.out.1 HB.out.2.2.2.1.id ⟨(keyQ q.q.1 q.q.2.1 q.q.2.2).toArray⟩ true HG.out.1 HG.out.2.2).mono ?_)
       rintro e w1 ⟨rfl, rfl⟩)
    | (go_at_call 54
       (with_reducible refine (get1_some p 2 (some b1) n1 _ ⟨(keyQ q.q.1 q.q.2.1 q.q.2.2).toArray⟩ W x2 HM.out.2 HB.out.2.2.2.2.2.2 q A cap HG.out.2.1).mono ?_)
       rintro e w2 ⟨rfl, f2⟩
       have H2 := Lib.hid (And.intro (HB.out.1.fr f2 id) (And.intro (HB.out.2.2.2.2.2.1.fr f2 id) (And.intro (HB.out.2.2.2.1.fr0 f2) (HB.out.2.2.2.2.1.then f2))))
       clear f2 x4 x2)
    | (refine wpList_store_part rfl 28 _ _ rfl w2.heap.size 0 (by rfl) _ (by rfl) 28 _ (Blk.new w2 28 _) (by kernel_rfl) (by simp [Value.oneCell']) (by simp) #[.int .u16 (q.id : Nat), .string q.q.1, .int .i64 q.q.2.1, .int .i64 q.q.2.2, .int .i64 q.sv, .int .i64 q.tr, .int .i64 q.dl, .slice A q.ws.length cap] (by rfl) ?_
       intro w3 b3 f3
       have f23 : Fr (fun _ => False) w2 w3 := ((Fr.refl (fun _ => False) w2).alloc _).step f3 (fun k hk => .inr (by subst hk; exact Nat.le_refl _))
       have H3 := Lib.hid (And.intro (H2.out.1.fr f23 id) (And.intro (H2.out.2.1.fr f23 id) (And.intro b3 (And.intro (H2.out.2.2.1.fr0 f23) (H2.out.2.2.2.then f23)))))
       have HLT2 := Lib.hid (show w.heap.size < w2.heap.size from H2.out.2.1.lt)
       clear b3 f3 f23)
    | fail "no arm")
  have hS7 : (w3.drew).cell? ⟨p, 6, none⟩ = some (.func (.func 51) #[] #[]) ∧ (w3.drew).rangeAt w2.heap.size 0 [.int .u16 (q.id : Nat), .string q.q.1, .int .i64 q.q.2.1, .int .i64 q.q.2.2, .int .i64 q.sv, .int .i64 q.tr, .int .i64 q.dl, .slice A q.ws.length cap] := ⟨(H3.out.1.fr ((Fr.refl (fun _ => False) w3).drew) id).cell 6, blk_rg (H3.out.2.2.1.fr ((Fr.refl (fun _ => False) w3).drew) id)⟩
  refine wp_region_held_drew (S := fun w' => w'.cell? ⟨p, 6, none⟩ = some (.func (.func 51) #[] #[]) ∧ w'.rangeAt w2.heap.size 0 [.int .u16 (q.id : Nat), .string q.q.1, .int .i64 q.q.2.1, .int .i64 q.q.2.2, .int .i64 q.sv, .int .i64 q.tr, .int .i64 q.dl, .slice A q.ws.length cap]) (by kernel_rfl) hS7 (fun hHeld => ?_)
  refine wpAnyH_take (i := 0) (v := ?_) rfl (by kernel_rfl) (by kernel_rfl) (by kernel_rfl) (fun _ _ _ h => h) (Or.inl ⟨by rfl, ?_⟩) (by assumption) ?_
  rotate_left
  · intro w hSw
    go_simp
    try with_reducible rfl
  try simp only [Act.put, List.setIfInBounds_toArray, List.set_cons_zero, List.set_cons_succ, List.getElem_toArray, List.getElem_cons_zero, List.getElem_cons_succ]
  refine wpAnyH_take (i := 1) (v := ?_) rfl (by kernel_rfl) (by kernel_rfl) (by kernel_rfl) (fun _ _ _ h => h) (Or.inl ⟨by rfl, ?_⟩) (by assumption) ?_
  rotate_left
  · intro w hSw
    go_simp
    try with_reducible rfl
  try simp only [Act.put, List.setIfInBounds_toArray, List.set_cons_zero, List.set_cons_succ, List.getElem_toArray, List.getElem_cons_zero, List.getElem_cons_succ]
  refine wpAnyH_take (i := 2) (v := ?_) rfl (by kernel_rfl) (by kernel_rfl) (by kernel_rfl) (fun _ _ _ h => h) (Or.inl ⟨by rfl, ?_⟩) (by assumption) ?_
  rotate_left
  · intro w hSw
    go_simp
    try with_reducible rfl
  try simp only [Act.put, List.setIfInBounds_toArray, List.set_cons_zero, List.set_cons_succ, List.getElem_toArray, List.getElem_cons_zero, List.getElem_cons_succ]
  refine wpAnyH_take (i := 3) (v := ?_) rfl (by kernel_rfl) (by kernel_rfl) (by kernel_rfl) (fun _ _ _ h => h) (Or.inl ⟨by rfl, ?_⟩) (by assumption) ?_
  rotate_left
  · intro w hSw
    have hc0 := hSw.1
    go_simp
    try with_reducible rfl
  try simp only [Act.put, List.setIfInBounds_toArray, List.set_cons_zero, List.set_cons_succ, List.getElem_toArray, List.getElem_cons_zero, List.getElem_cons_succ]
  refine wpAnyH_take (i := 4) rfl (by kernel_rfl) (by kernel_rfl) (by kernel_rfl) (fun _ _ _ h => h) (yieldsIf_load_mid (by rfl) _ _ rfl w2.heap.size 0 (by rfl) [.int .u16 (q.id : Nat), .string q.q.1, .int .i64 q.q.2.1, .int .i64 q.q.2.2, .int .i64 q.sv, .int .i64 q.tr, .int .i64 q.dl, .slice A q.ws.length cap] _ (fun w' h => h.2) Try.underlying28 rfl (by kernel_rfl)) (by assumption) ?_
  try simp only [Act.put, List.setIfInBounds_toArray, List.set_cons_zero, List.set_cons_succ, List.getElem_toArray, List.getElem_cons_zero, List.getElem_cons_succ]
  refine wpAnyH_take (i := 6) (v := ?_) rfl (by kernel_rfl) (by kernel_rfl) (by kernel_rfl) (fun _ _ _ h => h) (Or.inl ⟨by rfl, ?_⟩) (by assumption) ?_
  rotate_left
  · intro w hSw
    go_simp
    try with_reducible rfl
  try simp only [Act.put, List.setIfInBounds_toArray, List.set_cons_zero, List.set_cons_succ, List.getElem_toArray, List.getElem_cons_zero, List.getElem_cons_succ]
  refine wpAnyH_ready (rs := [5]) (by kernel_rfl) (by simp) ?_
  refine AllReadyH.cons rfl (fun K hK => ?_) AllReadyH.nil
  go_simp
  (with_reducible refine (pclone_any q A cap w3.drew (H3.out.2.2.2.1.fr0 ((Fr.refl (fun _ => False) w3).drew)) HA.out.1 HA.out.2).mono ?_)
  rintro e w4 ⟨A2, cap2, rfl, o1, o2, o3⟩
  have f34 := o3.fromD
  have hb4 := H3.out.1.fr f34 id
  have hx4 := H3.out.2.2.1.fr f34 id
  have hz4 := H3.out.2.1.fr f34 id
  have hS4 : w4.cell? ⟨p, 6, none⟩ = some (.func (.func 51) #[] #[]) ∧ w4.rangeAt w2.heap.size 0 [.int .u16 (q.id : Nat), .string q.q.1, .int .i64 q.q.2.1, .int .i64 q.q.2.2, .int .i64 q.sv, .int .i64 q.tr, .int .i64 q.dl, .slice A q.ws.length cap] := ⟨hb4.cell 6, blk_rg hx4⟩
  have H4 := Lib.hid (And.intro hb4 (And.intro hx4 (And.intro hz4 (And.intro o1 (And.intro o2 (H3.out.2.2.2.2.then f34))))))
  clear o1 o2 o3 f34 hb4 hx4 hz4 hHeld
  refine hK.out _ _ hS4 (fun hHeld => ?_)
  clear hK K
  try simp only [Act.put, List.setIfInBounds_toArray, List.set_cons_zero, List.set_cons_succ, List.getElem_toArray, List.getElem_cons_zero, List.getElem_cons_succ]
  refine wpAnyH_ready (rs := [7]) (by kernel_rfl) (by simp) ?_
  refine AllReadyH.cons rfl (fun K hK => ?_) AllReadyH.nil
  rw [if_pos (by rfl)]
  refine wp_store_part 28 _ _ rfl w.heap.size 0 (by rfl) _ (by rfl) 28 _ H4.out.2.2.1 (by kernel_rfl) (by simp [Value.oneCell']) (by simp) #[.int .u16 (q.id : Nat), .string q.q.1, .int .i64 q.q.2.1, .int .i64 q.q.2.2, .int .i64 q.sv, .int .i64 q.tr, .int .i64 q.dl, .slice A2 q.ws.length cap2] (by rfl) ?_
  intro w5 b5 f5
  have hsz := H4.out.2.2.2.2.2.size
  have hlt3 := H3.out.2.2.1.lt
  have hS5 : w5.cell? ⟨p, 6, none⟩ = some (.func (.func 51) #[] #[]) ∧ w5.rangeAt w2.heap.size 0 [.int .u16 (q.id : Nat), .string q.q.1, .int .i64 q.q.2.1, .int .i64 q.q.2.2, .int .i64 q.sv, .int .i64 q.tr, .int .i64 q.dl, .slice A q.ws.length cap] := ⟨(H4.out.1.fr f5 (fun h => by have := HLT.out; omega)).cell 6, blk_rg (H4.out.2.1.fr f5 (fun h => by have := HLT2.out; omega))⟩
  have H5 := Lib.hid (And.intro b5 f5)
  clear b5 f5
  refine hK.out _ _ hS5 (fun hHeld => ?_)
  clear hK K
  try simp only [Act.put, List.setIfInBounds_toArray, List.set_cons_zero, List.set_cons_succ, List.getElem_toArray, List.getElem_cons_zero, List.getElem_cons_succ]
  refine wpAnyH_take (i := 8) (v := ?_) rfl (by kernel_rfl) (by kernel_rfl) (by kernel_rfl) (fun _ _ _ h => h) (Or.inl ⟨by rfl, ?_⟩) (by assumption) ?_
  rotate_left
  · intro w hSw
    go_simp
    try with_reducible rfl
  try simp only [Act.put, List.setIfInBounds_toArray, List.set_cons_zero, List.set_cons_succ, List.getElem_toArray, List.getElem_cons_zero, List.getElem_cons_succ]
  refine wpAnyH_done (by kernel_rfl) ?_ _
  clear hHeld
  go_wp2_with fail
  have hu : Try.prog.underlying 28 = _ := Try.underlying28
  refine bodyPost_ret (results_cell_tmp Try.results32 H5.out.1 rfl rfl hu rfl (by kernel_rfl)) rfl ?_
  have hw3 := H3.out.2.2.2.2.size
  have hd : w3.heap.size = w3.drew.heap.size := rfl
  refine ⟨A2, cap2, rfl, own_fr H4.out.2.2.2.1 H5.out.2 (fun k hk h => ?_), fun k hk => ?_, H4.out.2.2.2.2.2.step H5.out.2 (fun k h => .inr (by omega))⟩
  · have := H4.out.2.2.2.2.1 k hk
    have := HLT2.out
    have := H3.out.2.2.1.lt
    omega
  · have := H4.out.2.2.2.2.1 k hk
    omega
end Go.Proofs.Ytncfdfgcnblicaa

/-
  LAYER 24: Find of what is not there.
-/
namespace Go.Proofs.Ytncfdfgcnblicaa
open Go.RowKit Go.Maps Go.ChangeMaps Go.WideMaps
set_option linter.unusedVariables false
set_option linter.unusedSimpArgs false

def NoPost (w : World) (e : Ending) (w' : World) : Prop := e = .returned (.tuple #[.agg #[.int .u16 0, .string ⟨#[]⟩, .int .i64 0, .int .i64 0, .int .i64 0, .int .i64 0, .int .i64 0, .slice none 0 0], .bool false]) ∧ Fr (fun _ => False) w w'
set_option maxRecDepth 100000 in
set_option maxHeartbeats 8000000 in
theorem bfind_no (p : Nat) (most wt : Int) (q : Pn) (A : Option Addr) (cap : Nat) (k : Nat) (w : World) (hb : BkO w p most wt q A cap) (hk : k < 65536) (hne : k ≠ q.id) :
    Calls Try.prog 32 #[.pointer (some ⟨p, 0, none⟩), .int .u16 (k : Nat)] w (NoPost w) := by
  obtain ⟨W, hW⟩ : ∃ W, W = w.alloc (.cells #[.int .u16 0, .string ⟨#[]⟩, .int .i64 0, .int .i64 0, .int .i64 0, .int .i64 0, .int .i64 0, .slice none 0 0] 28) := ⟨_, rfl⟩
  have hf : Fr (fun _ => False) w W := by rw [hW]; exact (Fr.refl _ _).alloc _
  have hz : Blk W w.heap.size 28 #[.int .u16 0, .string ⟨#[]⟩, .int .i64 0, .int .i64 0, .int .i64 0, .int .i64 0, .int .i64 0, .slice none 0 0] := by rw [hW]; exact Blk.new w 28 #[.int .u16 0, .string ⟨#[]⟩, .int .i64 0, .int .i64 0, .int .i64 0, .int .i64 0, .int .i64 0, .slice none 0 0]
  obtain ⟨b1, K1, c1, b2, K2, c2, n1, n2, g1, g2, g3, g4, g5, g6⟩ := BkO.fr0 hb hf
  have hg2 : putM (fun _ => none) (.int .u16 (q.id : Nat)) (.string ⟨(keyQ q.q.1 q.q.2.1 q.q.2.2).toArray⟩) (.int .u16 (k : Nat)) = if false then some (.string ⟨#[]⟩) else none := by
    unfold putM
    rw [if_neg (by intro h; injection h with h1 h2; omega)]
    rfl
  have hm2 : MapAt W 22 (some b2) n2 (putM (fun _ => none) (.int .u16 (q.id : Nat)) (.string ⟨(keyQ q.q.1 q.q.2.1 q.q.2.2).toArray⟩)) := g3
  have x4 : W.cell? ⟨p, 4, none⟩ = some (.map (some b2)) := g1.cell 4
  have HB := Lib.hid (And.intro hg2 (And.intro hm2 (And.intro hf (And.intro hz hk))))
  have HW := Lib.hid hW
  clear g1 g2 g3 g4 g5 g6 hf hz hW hb hg2 hm2 hk hne
  go_enter Try.func32, Try.ntmps32
  go_upto_region 1 with fail
  rw [← HW.out]
  clear HW
  go_wp2_with (first
    | (go_at_call 55
       (with_reducible refine (get2_any p 4 (some b2) n2 _ k W x4 HB.out.2.1 HB.out.2.2.2.2 ⟨#[]⟩ false HB.out.1 (fun _ => rfl)).mono ?_)
       rintro e w1 ⟨rfl, rfl⟩)
    | (refine wpList_store_part rfl 28 _ _ rfl w.heap.size 0 (by rfl) _ (by rfl) 28 _ HB.out.2.2.2.1 (by kernel_rfl) (by simp [Value.oneCell']) (by simp) #[.int .u16 0, .string ⟨#[]⟩, .int .i64 0, .int .i64 0, .int .i64 0, .int .i64 0, .int .i64 0, .slice none 0 0] (by rfl) ?_
       intro w3 b3 f3
       have H3 := Lib.hid (And.intro b3 (HB.out.2.2.1.step f3 (fun k hk => .inr (by subst hk; exact Nat.le_refl _))))
       clear b3 f3)
    | fail "no arm")
  have hu : Try.prog.underlying 28 = _ := Try.underlying28
  refine bodyPost_ret (results_cell_tmp Try.results32 H3.out.1 rfl rfl hu rfl (by kernel_rfl)) rfl ?_
  exact ⟨rfl, H3.out.2⟩
set_option maxRecDepth 100000 in
set_option maxHeartbeats 8000000 in
theorem bfind_nil (k : Nat) (w : World) :
    Calls Try.prog 32 #[.pointer none, .int .u16 (k : Nat)] w (NoPost w) := by
  obtain ⟨W, hW⟩ : ∃ W, W = w.alloc (.cells #[.int .u16 0, .string ⟨#[]⟩, .int .i64 0, .int .i64 0, .int .i64 0, .int .i64 0, .int .i64 0, .slice none 0 0] 28) := ⟨_, rfl⟩
  have hf : Fr (fun _ => False) w W := by rw [hW]; exact (Fr.refl _ _).alloc _
  have hz : Blk W w.heap.size 28 #[.int .u16 0, .string ⟨#[]⟩, .int .i64 0, .int .i64 0, .int .i64 0, .int .i64 0, .int .i64 0, .slice none 0 0] := by rw [hW]; exact Blk.new w 28 #[.int .u16 0, .string ⟨#[]⟩, .int .i64 0, .int .i64 0, .int .i64 0, .int .i64 0, .int .i64 0, .slice none 0 0]
  have HB := Lib.hid (And.intro hf hz)
  have HW := Lib.hid hW
  clear hf hz hW
  go_enter Try.func32, Try.ntmps32
  go_upto_region 1 with fail
  rw [← HW.out]
  clear HW
  go_wp2_with (first
    | (refine wpList_store_part rfl 28 _ _ rfl w.heap.size 0 (by rfl) _ (by rfl) 28 _ HB.out.2 (by kernel_rfl) (by simp [Value.oneCell']) (by simp) #[.int .u16 0, .string ⟨#[]⟩, .int .i64 0, .int .i64 0, .int .i64 0, .int .i64 0, .int .i64 0, .slice none 0 0] (by rfl) ?_
       intro w3 b3 f3
       have H3 := Lib.hid (And.intro b3 (HB.out.1.step f3 (fun k hk => .inr (by subst hk; exact Nat.le_refl _))))
       clear b3 f3)
    | fail "no arm")
  have hu : Try.prog.underlying 28 = _ := Try.underlying28
  refine bodyPost_ret (results_cell_tmp Try.results32 H3.out.1 rfl rfl hu rfl (by kernel_rfl)) rfl ?_
  exact ⟨rfl, H3.out.2⟩
end Go.Proofs.Ytncfdfgcnblicaa

/-
  LAYER 25: are questions the same?
-/
namespace Go.Proofs.Ytncfdfgcnblicaa
open Go.RowKit
set_option linter.unusedVariables false
set_option linter.unusedSimpArgs false

/-- Are questions the same (both may be, and their keys are the same)? -/
noncomputable def sameQ (a b : Qn) : Bool := decide (qcheck a.1 a.2.1 a.2.2 = 0) && (decide (qcheck b.1 b.2.1 b.2.2 = 0) && decide (keyQ a.1 a.2.1 a.2.2 = keyQ b.1 b.2.1 b.2.2))
structure Sm (w W : World) (a b : Qn) : Prop where
  ba : Blk W w.heap.size 25 #[.string a.1, .int .i64 a.2.1, .int .i64 a.2.2]
  bb : Blk W (w.heap.size + 1) 25 #[.string b.1, .int .i64 b.2.1, .int .i64 b.2.2]
  fr : Fr (fun _ => False) w W
theorem Sm.fr0 {w W W' : World} {a b : Qn} (h : Sm w W a b) (f : Fr (fun _ => False) W W') : Sm w W' a b := ⟨h.ba.fr f id, h.bb.fr f id, h.fr.then f⟩
theorem Sm.rg {w W : World} {a b : Qn} (h : Sm w W a b) : W.rangeAt w.heap.size 0 [.string a.1, .int .i64 a.2.1, .int .i64 a.2.2] ∧ W.rangeAt (w.heap.size + 1) 0 [.string b.1, .int .i64 b.2.1, .int .i64 b.2.2] := ⟨blk_rg h.ba, blk_rg h.bb⟩
set_option maxRecDepth 100000 in
set_option maxHeartbeats 8000000 in
theorem msame_any (a b : Qn) (w : World) (ha : i64ok' a.2.1 ∧ i64ok' a.2.2) (hb : i64ok' b.2.1 ∧ i64ok' b.2.2) :
    Calls Try.prog 21 #[.agg #[.string a.1, .int .i64 a.2.1, .int .i64 a.2.2], .agg #[.string b.1, .int .i64 b.2.1, .int .i64 b.2.2]] w (EqPost w (sameQ a b)) := by
  obtain ⟨W, hW⟩ : ∃ W, W = (w.alloc (.cells #[.string a.1, .int .i64 a.2.1, .int .i64 a.2.2] 25)).alloc (.cells #[.string b.1, .int .i64 b.2.1, .int .i64 b.2.2] 25) := ⟨_, rfl⟩
  have hb2 : Blk W (w.heap.size + 1) 25 #[.string b.1, .int .i64 b.2.1, .int .i64 b.2.2] := by
    rw [hW]
    have := Blk.new (w.alloc (.cells #[.string a.1, .int .i64 a.2.1, .int .i64 a.2.2] 25)) 25 #[.string b.1, .int .i64 b.2.1, .int .i64 b.2.2]
    rwa [World.size_alloc] at this
  have H0 := Lib.hid (Sm.mk (by rw [hW]; exact (Blk.new w 25 _).alloc _) hb2 (by rw [hW]; exact ((Fr.refl _ _).alloc _).alloc _) : Sm w W a b)
  obtain ⟨ka, hka⟩ : ∃ k, k = qcheck a.1 a.2.1 a.2.2 := ⟨_, rfl⟩
  obtain ⟨kb, hkb⟩ : ∃ k, k = qcheck b.1 b.2.1 b.2.2 := ⟨_, rfl⟩
  obtain ⟨R, hR⟩ : ∃ R, R = sameQ a b := ⟨_, rfl⟩
  rw [← hR]
  have HK := Lib.hid (And.intro hka (And.intro hkb hR))
  have HQ := Lib.hid (And.intro ha hb)
  have HW := Lib.hid hW
  clear hb2 hW hka hkb hR ha hb
  by_cases h1 : ka = 0
  · have e1 : (ka == 0) = true := by simp [h1]
    by_cases h2 : kb = 0
    · have e2 : (kb == 0) = true := by simp [h2]
      have HN := Lib.hid (And.intro h1 h2)
      clear h1 h2
      go_enter Try.func21, Try.ntmps21
      go_upto_region 1 with fail
      rw [← HW.out]
      clear HW
      refine wp_region_held_drew (S := fun w' => w'.rangeAt w.heap.size 0 [.string a.1, .int .i64 a.2.1, .int .i64 a.2.2] ∧ w'.rangeAt (w.heap.size + 1) 0 [.string b.1, .int .i64 b.2.1, .int .i64 b.2.2]) (by kernel_rfl) (Sm.rg (H0.out.fr0 ((Fr.refl _ _).drew))) (fun hHeld => ?_)
      refine wpAnyH_take (i := 0) rfl (by kernel_rfl) (by kernel_rfl) (by kernel_rfl) (fun _ _ _ h => h) (yieldsIf_load_mid (by rfl) _ _ rfl w.heap.size 0 (by rfl) [.string a.1, .int .i64 a.2.1, .int .i64 a.2.2] _ (fun w' h => h.1) Try.underlying25 rfl (by kernel_rfl)) (by assumption) ?_
      try simp only [Act.put, List.setIfInBounds_toArray, List.set_cons_zero, List.set_cons_succ, List.getElem_toArray, List.getElem_cons_zero, List.getElem_cons_succ]
      refine wpAnyH_ready (rs := [1]) (by kernel_rfl) (by simp) ?_
      refine AllReadyH.cons rfl (fun K hK => ?_) AllReadyH.nil
      go_simp
      (with_reducible refine (qcheck_any a.1 a.2.1 a.2.2 W.drew).mono ?_)
      rintro e w1 ⟨rfl, f1⟩
      rw [← HK.out.1]
      have H1 := Lib.hid (Sm.fr0 H0.out f1.fromD)
      clear f1
      refine hK.out _ _ (Sm.rg H1.out) (fun hHeld => ?_)
      clear hK K
      try simp only [Act.put, List.setIfInBounds_toArray, List.set_cons_zero, List.set_cons_succ, List.getElem_toArray, List.getElem_cons_zero, List.getElem_cons_succ]
      refine wpAnyH_take (i := 2) (v := ?_) rfl (by kernel_rfl) (by kernel_rfl) (by kernel_rfl) (fun _ _ _ h => h) (Or.inl ⟨by rfl, ?_⟩) (by assumption) ?_
      rotate_left
      · intro w hSw
        go_simp
        try with_reducible rfl
      try simp only [Act.put, List.setIfInBounds_toArray, List.set_cons_zero, List.set_cons_succ, List.getElem_toArray, List.getElem_cons_zero, List.getElem_cons_succ]
      try simp only [e1]
      refine wpAnyH_take (i := 3) (v := ?_) rfl (by kernel_rfl) (by kernel_rfl) (by kernel_rfl) (fun _ _ _ h => h) (Or.inl ⟨by rfl, ?_⟩) (by assumption) ?_
      rotate_left
      · intro w hSw
        go_simp
        try with_reducible rfl
      try simp only [Act.put, List.setIfInBounds_toArray, List.set_cons_zero, List.set_cons_succ, List.getElem_toArray, List.getElem_cons_zero, List.getElem_cons_succ]
      refine wpAnyH_take (i := 4) rfl (by kernel_rfl) (by kernel_rfl) (by kernel_rfl) (fun _ _ _ h => h) (yieldsIf_load_mid (by rfl) _ _ rfl (w.heap.size + 1) 0 (by rfl) [.string b.1, .int .i64 b.2.1, .int .i64 b.2.2] _ (fun w' h => h.2) Try.underlying25 rfl (by kernel_rfl)) (by assumption) ?_
      try simp only [Act.put, List.setIfInBounds_toArray, List.set_cons_zero, List.set_cons_succ, List.getElem_toArray, List.getElem_cons_zero, List.getElem_cons_succ]
      refine wpAnyH_ready (rs := [5]) (by kernel_rfl) (by simp) ?_
      refine AllReadyH.cons rfl (fun K hK => ?_) AllReadyH.nil
      go_simp
      (with_reducible refine (qcheck_any b.1 b.2.1 b.2.2 w1).mono ?_)
      rintro e w2 ⟨rfl, f2⟩
      rw [← HK.out.2.1]
      have H2 := Lib.hid (Sm.fr0 H1.out f2)
      clear f2
      refine hK.out _ _ (Sm.rg H2.out) (fun hHeld => ?_)
      clear hK K
      try simp only [Act.put, List.setIfInBounds_toArray, List.set_cons_zero, List.set_cons_succ, List.getElem_toArray, List.getElem_cons_zero, List.getElem_cons_succ]
      refine wpAnyH_take (i := 6) (v := ?_) rfl (by kernel_rfl) (by kernel_rfl) (by kernel_rfl) (fun _ _ _ h => h) (Or.inl ⟨by rfl, ?_⟩) (by assumption) ?_
      rotate_left
      · intro w hSw
        go_simp
        try with_reducible rfl
      try simp only [Act.put, List.setIfInBounds_toArray, List.set_cons_zero, List.set_cons_succ, List.getElem_toArray, List.getElem_cons_zero, List.getElem_cons_succ]
      try simp only [e2]
      refine wpAnyH_take (i := 7) (v := ?_) rfl (by kernel_rfl) (by kernel_rfl) (by kernel_rfl) (fun _ _ _ h => h) (Or.inl ⟨by rfl, ?_⟩) (by assumption) ?_
      rotate_left
      · intro w hSw
        go_simp
        try with_reducible rfl
      try simp only [Act.put, List.setIfInBounds_toArray, List.set_cons_zero, List.set_cons_succ, List.getElem_toArray, List.getElem_cons_zero, List.getElem_cons_succ]
      refine wpAnyH_take (i := 8) (v := ?_) rfl (by kernel_rfl) (by kernel_rfl) (by kernel_rfl) (fun _ _ _ h => h) (Or.inl ⟨by rfl, ?_⟩) (by assumption) ?_
      rotate_left
      · intro w hSw
        go_simp
        try with_reducible rfl
      try simp only [Act.put, List.setIfInBounds_toArray, List.set_cons_zero, List.set_cons_succ, List.getElem_toArray, List.getElem_cons_zero, List.getElem_cons_succ]
      refine wpAnyH_take (i := 9) rfl (by kernel_rfl) (by kernel_rfl) (by kernel_rfl) (fun _ _ _ h => h) (yieldsIf_load_mid (by rfl) _ _ rfl w.heap.size 0 (by rfl) [.string a.1, .int .i64 a.2.1, .int .i64 a.2.2] _ (fun w' h => h.1) Try.underlying25 rfl (by kernel_rfl)) (by assumption) ?_
      try simp only [Act.put, List.setIfInBounds_toArray, List.set_cons_zero, List.set_cons_succ, List.getElem_toArray, List.getElem_cons_zero, List.getElem_cons_succ]
      refine wpAnyH_take (i := 11) rfl (by kernel_rfl) (by kernel_rfl) (by kernel_rfl) (fun _ _ _ h => h) (yieldsIf_load_mid (by rfl) _ _ rfl (w.heap.size + 1) 0 (by rfl) [.string b.1, .int .i64 b.2.1, .int .i64 b.2.2] _ (fun w' h => h.2) Try.underlying25 rfl (by kernel_rfl)) (by assumption) ?_
      try simp only [Act.put, List.setIfInBounds_toArray, List.set_cons_zero, List.set_cons_succ, List.getElem_toArray, List.getElem_cons_zero, List.getElem_cons_succ]
      refine wpAnyH_ready (rs := [10]) (by kernel_rfl) (by simp) ?_
      refine AllReadyH.cons rfl (fun K hK => ?_) AllReadyH.nil
      go_simp
      (with_reducible refine (key_any a.1 a.2.1 a.2.2 w2 HQ.out.1.1 HQ.out.1.2).mono ?_)
      rintro e w3 ⟨rfl, f3⟩
      have H3 := Lib.hid (Sm.fr0 H2.out f3)
      clear f3
      refine hK.out _ _ (Sm.rg H3.out) (fun hHeld => ?_)
      clear hK K
      try simp only [Act.put, List.setIfInBounds_toArray, List.set_cons_zero, List.set_cons_succ, List.getElem_toArray, List.getElem_cons_zero, List.getElem_cons_succ]
      refine wpAnyH_ready (rs := [12]) (by kernel_rfl) (by simp) ?_
      refine AllReadyH.cons rfl (fun K hK => ?_) AllReadyH.nil
      go_simp
      (with_reducible refine (key_any b.1 b.2.1 b.2.2 w3 HQ.out.2.1 HQ.out.2.2).mono ?_)
      rintro e w4 ⟨rfl, f4⟩
      have H4 := Lib.hid (Sm.fr0 H3.out f4)
      clear f4
      refine hK.out _ _ (Sm.rg H4.out) (fun hHeld => ?_)
      clear hK K
      try simp only [Act.put, List.setIfInBounds_toArray, List.set_cons_zero, List.set_cons_succ, List.getElem_toArray, List.getElem_cons_zero, List.getElem_cons_succ]
      refine wpAnyH_take (i := 13) (v := ?_) rfl (by kernel_rfl) (by kernel_rfl) (by kernel_rfl) (fun _ _ _ h => h) (Or.inl ⟨by rfl, ?_⟩) (by assumption) ?_
      rotate_left
      · intro w hSw
        go_simp
        try with_reducible rfl
      try simp only [Act.put, List.setIfInBounds_toArray, List.set_cons_zero, List.set_cons_succ, List.getElem_toArray, List.getElem_cons_zero, List.getElem_cons_succ]
      refine wpAnyH_take (i := 14) (v := ?_) rfl (by kernel_rfl) (by kernel_rfl) (by kernel_rfl) (fun _ _ _ h => h) (Or.inl ⟨by rfl, ?_⟩) (by assumption) ?_
      rotate_left
      · intro w hSw
        go_simp
        try with_reducible rfl
      try simp only [Act.put, List.setIfInBounds_toArray, List.set_cons_zero, List.set_cons_succ, List.getElem_toArray, List.getElem_cons_zero, List.getElem_cons_succ]
      refine wpAnyH_take (i := 15) (v := ?_) rfl (by kernel_rfl) (by kernel_rfl) (by kernel_rfl) (fun _ _ _ h => h) (Or.inl ⟨by rfl, ?_⟩) (by assumption) ?_
      rotate_left
      · intro w hSw
        go_simp
        try with_reducible rfl
      try simp only [Act.put, List.setIfInBounds_toArray, List.set_cons_zero, List.set_cons_succ, List.getElem_toArray, List.getElem_cons_zero, List.getElem_cons_succ]
      refine wpAnyH_done (by kernel_rfl) ?_ _
      clear hHeld
      go_wp2_with fail
      go_ret
      exact ⟨ret_bool (by rw [HK.out.2.2]; unfold sameQ; rw [← HK.out.1, ← HK.out.2.1]; simp [HN.out.1, HN.out.2, Bool.beq_eq_decide_eq]), H4.out.fr⟩
    · have e2 : (kb == 0) = false := by simp [h2]
      have HN := Lib.hid h2
      clear h1 h2
      go_enter Try.func21, Try.ntmps21
      go_upto_region 1 with fail
      rw [← HW.out]
      clear HW
      refine wp_region_held_drew (S := fun w' => w'.rangeAt w.heap.size 0 [.string a.1, .int .i64 a.2.1, .int .i64 a.2.2] ∧ w'.rangeAt (w.heap.size + 1) 0 [.string b.1, .int .i64 b.2.1, .int .i64 b.2.2]) (by kernel_rfl) (Sm.rg (H0.out.fr0 ((Fr.refl _ _).drew))) (fun hHeld => ?_)
      refine wpAnyH_take (i := 0) rfl (by kernel_rfl) (by kernel_rfl) (by kernel_rfl) (fun _ _ _ h => h) (yieldsIf_load_mid (by rfl) _ _ rfl w.heap.size 0 (by rfl) [.string a.1, .int .i64 a.2.1, .int .i64 a.2.2] _ (fun w' h => h.1) Try.underlying25 rfl (by kernel_rfl)) (by assumption) ?_
      try simp only [Act.put, List.setIfInBounds_toArray, List.set_cons_zero, List.set_cons_succ, List.getElem_toArray, List.getElem_cons_zero, List.getElem_cons_succ]
      refine wpAnyH_ready (rs := [1]) (by kernel_rfl) (by simp) ?_
      refine AllReadyH.cons rfl (fun K hK => ?_) AllReadyH.nil
      go_simp
      (with_reducible refine (qcheck_any a.1 a.2.1 a.2.2 W.drew).mono ?_)
      rintro e w1 ⟨rfl, f1⟩
      rw [← HK.out.1]
      have H1 := Lib.hid (Sm.fr0 H0.out f1.fromD)
      clear f1
      refine hK.out _ _ (Sm.rg H1.out) (fun hHeld => ?_)
      clear hK K
      try simp only [Act.put, List.setIfInBounds_toArray, List.set_cons_zero, List.set_cons_succ, List.getElem_toArray, List.getElem_cons_zero, List.getElem_cons_succ]
      refine wpAnyH_take (i := 2) (v := ?_) rfl (by kernel_rfl) (by kernel_rfl) (by kernel_rfl) (fun _ _ _ h => h) (Or.inl ⟨by rfl, ?_⟩) (by assumption) ?_
      rotate_left
      · intro w hSw
        go_simp
        try with_reducible rfl
      try simp only [Act.put, List.setIfInBounds_toArray, List.set_cons_zero, List.set_cons_succ, List.getElem_toArray, List.getElem_cons_zero, List.getElem_cons_succ]
      try simp only [e1]
      refine wpAnyH_take (i := 3) (v := ?_) rfl (by kernel_rfl) (by kernel_rfl) (by kernel_rfl) (fun _ _ _ h => h) (Or.inl ⟨by rfl, ?_⟩) (by assumption) ?_
      rotate_left
      · intro w hSw
        go_simp
        try with_reducible rfl
      try simp only [Act.put, List.setIfInBounds_toArray, List.set_cons_zero, List.set_cons_succ, List.getElem_toArray, List.getElem_cons_zero, List.getElem_cons_succ]
      refine wpAnyH_take (i := 4) rfl (by kernel_rfl) (by kernel_rfl) (by kernel_rfl) (fun _ _ _ h => h) (yieldsIf_load_mid (by rfl) _ _ rfl (w.heap.size + 1) 0 (by rfl) [.string b.1, .int .i64 b.2.1, .int .i64 b.2.2] _ (fun w' h => h.2) Try.underlying25 rfl (by kernel_rfl)) (by assumption) ?_
      try simp only [Act.put, List.setIfInBounds_toArray, List.set_cons_zero, List.set_cons_succ, List.getElem_toArray, List.getElem_cons_zero, List.getElem_cons_succ]
      refine wpAnyH_ready (rs := [5]) (by kernel_rfl) (by simp) ?_
      refine AllReadyH.cons rfl (fun K hK => ?_) AllReadyH.nil
      go_simp
      (with_reducible refine (qcheck_any b.1 b.2.1 b.2.2 w1).mono ?_)
      rintro e w2 ⟨rfl, f2⟩
      rw [← HK.out.2.1]
      have H2 := Lib.hid (Sm.fr0 H1.out f2)
      clear f2
      refine hK.out _ _ (Sm.rg H2.out) (fun hHeld => ?_)
      clear hK K
      try simp only [Act.put, List.setIfInBounds_toArray, List.set_cons_zero, List.set_cons_succ, List.getElem_toArray, List.getElem_cons_zero, List.getElem_cons_succ]
      refine wpAnyH_take (i := 6) (v := ?_) rfl (by kernel_rfl) (by kernel_rfl) (by kernel_rfl) (fun _ _ _ h => h) (Or.inl ⟨by rfl, ?_⟩) (by assumption) ?_
      rotate_left
      · intro w hSw
        go_simp
        try with_reducible rfl
      try simp only [Act.put, List.setIfInBounds_toArray, List.set_cons_zero, List.set_cons_succ, List.getElem_toArray, List.getElem_cons_zero, List.getElem_cons_succ]
      try simp only [e2]
      refine wpAnyH_take (i := 7) (v := ?_) rfl (by kernel_rfl) (by kernel_rfl) (by kernel_rfl) (fun _ _ _ h => h) (Or.inl ⟨by rfl, ?_⟩) (by assumption) ?_
      rotate_left
      · intro w hSw
        go_simp
        try with_reducible rfl
      try simp only [Act.put, List.setIfInBounds_toArray, List.set_cons_zero, List.set_cons_succ, List.getElem_toArray, List.getElem_cons_zero, List.getElem_cons_succ]
      refine wpAnyH_take (i := 8) (v := ?_) rfl (by kernel_rfl) (by kernel_rfl) (by kernel_rfl) (fun _ _ _ h => h) (Or.inl ⟨by rfl, ?_⟩) (by assumption) ?_
      rotate_left
      · intro w hSw
        go_simp
        try with_reducible rfl
      try simp only [Act.put, List.setIfInBounds_toArray, List.set_cons_zero, List.set_cons_succ, List.getElem_toArray, List.getElem_cons_zero, List.getElem_cons_succ]
      refine wpAnyH_skip 9 rfl (by kernel_rfl) (by kernel_rfl) (by kernel_rfl) (fun _ _ _ h => h) (by rfl) (by assumption) ?_
      try simp only [Act.put, List.setIfInBounds_toArray, List.set_cons_zero, List.set_cons_succ, List.getElem_toArray, List.getElem_cons_zero, List.getElem_cons_succ]
      refine wpAnyH_skip 10 rfl (by kernel_rfl) (by kernel_rfl) (by kernel_rfl) (fun _ _ _ h => h) (by rfl) (by assumption) ?_
      try simp only [Act.put, List.setIfInBounds_toArray, List.set_cons_zero, List.set_cons_succ, List.getElem_toArray, List.getElem_cons_zero, List.getElem_cons_succ]
      refine wpAnyH_skip 11 rfl (by kernel_rfl) (by kernel_rfl) (by kernel_rfl) (fun _ _ _ h => h) (by rfl) (by assumption) ?_
      try simp only [Act.put, List.setIfInBounds_toArray, List.set_cons_zero, List.set_cons_succ, List.getElem_toArray, List.getElem_cons_zero, List.getElem_cons_succ]
      refine wpAnyH_skip 12 rfl (by kernel_rfl) (by kernel_rfl) (by kernel_rfl) (fun _ _ _ h => h) (by rfl) (by assumption) ?_
      try simp only [Act.put, List.setIfInBounds_toArray, List.set_cons_zero, List.set_cons_succ, List.getElem_toArray, List.getElem_cons_zero, List.getElem_cons_succ]
      refine wpAnyH_skip 13 rfl (by kernel_rfl) (by kernel_rfl) (by kernel_rfl) (fun _ _ _ h => h) (by rfl) (by assumption) ?_
      try simp only [Act.put, List.setIfInBounds_toArray, List.set_cons_zero, List.set_cons_succ, List.getElem_toArray, List.getElem_cons_zero, List.getElem_cons_succ]
      refine wpAnyH_take (i := 14) (v := ?_) rfl (by kernel_rfl) (by kernel_rfl) (by kernel_rfl) (fun _ _ _ h => h) (Or.inl ⟨by rfl, ?_⟩) (by assumption) ?_
      rotate_left
      · intro w hSw
        go_simp
        try with_reducible rfl
      try simp only [Act.put, List.setIfInBounds_toArray, List.set_cons_zero, List.set_cons_succ, List.getElem_toArray, List.getElem_cons_zero, List.getElem_cons_succ]
      refine wpAnyH_take (i := 15) (v := ?_) rfl (by kernel_rfl) (by kernel_rfl) (by kernel_rfl) (fun _ _ _ h => h) (Or.inl ⟨by rfl, ?_⟩) (by assumption) ?_
      rotate_left
      · intro w hSw
        go_simp
        try with_reducible rfl
      try simp only [Act.put, List.setIfInBounds_toArray, List.set_cons_zero, List.set_cons_succ, List.getElem_toArray, List.getElem_cons_zero, List.getElem_cons_succ]
      refine wpAnyH_done (by kernel_rfl) ?_ _
      clear hHeld
      go_wp2_with fail
      go_ret
      exact ⟨ret_bool (by rw [HK.out.2.2]; unfold sameQ; rw [← HK.out.2.1]; simp [HN.out]), H2.out.fr⟩
  · have e1 : (ka == 0) = false := by simp [h1]
    have HN := Lib.hid h1
    clear h1
    go_enter Try.func21, Try.ntmps21
    go_upto_region 1 with fail
    rw [← HW.out]
    clear HW
    refine wp_region_held_drew (S := fun w' => w'.rangeAt w.heap.size 0 [.string a.1, .int .i64 a.2.1, .int .i64 a.2.2] ∧ w'.rangeAt (w.heap.size + 1) 0 [.string b.1, .int .i64 b.2.1, .int .i64 b.2.2]) (by kernel_rfl) (Sm.rg (H0.out.fr0 ((Fr.refl _ _).drew))) (fun hHeld => ?_)
    refine wpAnyH_take (i := 0) rfl (by kernel_rfl) (by kernel_rfl) (by kernel_rfl) (fun _ _ _ h => h) (yieldsIf_load_mid (by rfl) _ _ rfl w.heap.size 0 (by rfl) [.string a.1, .int .i64 a.2.1, .int .i64 a.2.2] _ (fun w' h => h.1) Try.underlying25 rfl (by kernel_rfl)) (by assumption) ?_
    try simp only [Act.put, List.setIfInBounds_toArray, List.set_cons_zero, List.set_cons_succ, List.getElem_toArray, List.getElem_cons_zero, List.getElem_cons_succ]
    refine wpAnyH_ready (rs := [1]) (by kernel_rfl) (by simp) ?_
    refine AllReadyH.cons rfl (fun K hK => ?_) AllReadyH.nil
    go_simp
    (with_reducible refine (qcheck_any a.1 a.2.1 a.2.2 W.drew).mono ?_)
    rintro e w1 ⟨rfl, f1⟩
    rw [← HK.out.1]
    have H1 := Lib.hid (Sm.fr0 H0.out f1.fromD)
    clear f1
    refine hK.out _ _ (Sm.rg H1.out) (fun hHeld => ?_)
    clear hK K
    try simp only [Act.put, List.setIfInBounds_toArray, List.set_cons_zero, List.set_cons_succ, List.getElem_toArray, List.getElem_cons_zero, List.getElem_cons_succ]
    refine wpAnyH_take (i := 2) (v := ?_) rfl (by kernel_rfl) (by kernel_rfl) (by kernel_rfl) (fun _ _ _ h => h) (Or.inl ⟨by rfl, ?_⟩) (by assumption) ?_
    rotate_left
    · intro w hSw
      go_simp
      try with_reducible rfl
    try simp only [Act.put, List.setIfInBounds_toArray, List.set_cons_zero, List.set_cons_succ, List.getElem_toArray, List.getElem_cons_zero, List.getElem_cons_succ]
    try simp only [e1]
    refine wpAnyH_take (i := 3) (v := ?_) rfl (by kernel_rfl) (by kernel_rfl) (by kernel_rfl) (fun _ _ _ h => h) (Or.inl ⟨by rfl, ?_⟩) (by assumption) ?_
    rotate_left
    · intro w hSw
      go_simp
      try with_reducible rfl
    try simp only [Act.put, List.setIfInBounds_toArray, List.set_cons_zero, List.set_cons_succ, List.getElem_toArray, List.getElem_cons_zero, List.getElem_cons_succ]
    refine wpAnyH_skip 4 rfl (by kernel_rfl) (by kernel_rfl) (by kernel_rfl) (fun _ _ _ h => h) (by rfl) (by assumption) ?_
    try simp only [Act.put, List.setIfInBounds_toArray, List.set_cons_zero, List.set_cons_succ, List.getElem_toArray, List.getElem_cons_zero, List.getElem_cons_succ]
    refine wpAnyH_skip 5 rfl (by kernel_rfl) (by kernel_rfl) (by kernel_rfl) (fun _ _ _ h => h) (by rfl) (by assumption) ?_
    try simp only [Act.put, List.setIfInBounds_toArray, List.set_cons_zero, List.set_cons_succ, List.getElem_toArray, List.getElem_cons_zero, List.getElem_cons_succ]
    refine wpAnyH_skip 6 rfl (by kernel_rfl) (by kernel_rfl) (by kernel_rfl) (fun _ _ _ h => h) (by rfl) (by assumption) ?_
    try simp only [Act.put, List.setIfInBounds_toArray, List.set_cons_zero, List.set_cons_succ, List.getElem_toArray, List.getElem_cons_zero, List.getElem_cons_succ]
    refine wpAnyH_take (i := 7) (v := ?_) rfl (by kernel_rfl) (by kernel_rfl) (by kernel_rfl) (fun _ _ _ h => h) (Or.inl ⟨by rfl, ?_⟩) (by assumption) ?_
    rotate_left
    · intro w hSw
      go_simp
      try with_reducible rfl
    try simp only [Act.put, List.setIfInBounds_toArray, List.set_cons_zero, List.set_cons_succ, List.getElem_toArray, List.getElem_cons_zero, List.getElem_cons_succ]
    refine wpAnyH_take (i := 8) (v := ?_) rfl (by kernel_rfl) (by kernel_rfl) (by kernel_rfl) (fun _ _ _ h => h) (Or.inl ⟨by rfl, ?_⟩) (by assumption) ?_
    rotate_left
    · intro w hSw
      go_simp
      try with_reducible rfl
    try simp only [Act.put, List.setIfInBounds_toArray, List.set_cons_zero, List.set_cons_succ, List.getElem_toArray, List.getElem_cons_zero, List.getElem_cons_succ]
    refine wpAnyH_skip 9 rfl (by kernel_rfl) (by kernel_rfl) (by kernel_rfl) (fun _ _ _ h => h) (by rfl) (by assumption) ?_
    try simp only [Act.put, List.setIfInBounds_toArray, List.set_cons_zero, List.set_cons_succ, List.getElem_toArray, List.getElem_cons_zero, List.getElem_cons_succ]
    refine wpAnyH_skip 10 rfl (by kernel_rfl) (by kernel_rfl) (by kernel_rfl) (fun _ _ _ h => h) (by rfl) (by assumption) ?_
    try simp only [Act.put, List.setIfInBounds_toArray, List.set_cons_zero, List.set_cons_succ, List.getElem_toArray, List.getElem_cons_zero, List.getElem_cons_succ]
    refine wpAnyH_skip 11 rfl (by kernel_rfl) (by kernel_rfl) (by kernel_rfl) (fun _ _ _ h => h) (by rfl) (by assumption) ?_
    try simp only [Act.put, List.setIfInBounds_toArray, List.set_cons_zero, List.set_cons_succ, List.getElem_toArray, List.getElem_cons_zero, List.getElem_cons_succ]
    refine wpAnyH_skip 12 rfl (by kernel_rfl) (by kernel_rfl) (by kernel_rfl) (fun _ _ _ h => h) (by rfl) (by assumption) ?_
    try simp only [Act.put, List.setIfInBounds_toArray, List.set_cons_zero, List.set_cons_succ, List.getElem_toArray, List.getElem_cons_zero, List.getElem_cons_succ]
    refine wpAnyH_skip 13 rfl (by kernel_rfl) (by kernel_rfl) (by kernel_rfl) (fun _ _ _ h => h) (by rfl) (by assumption) ?_
    try simp only [Act.put, List.setIfInBounds_toArray, List.set_cons_zero, List.set_cons_succ, List.getElem_toArray, List.getElem_cons_zero, List.getElem_cons_succ]
    refine wpAnyH_take (i := 14) (v := ?_) rfl (by kernel_rfl) (by kernel_rfl) (by kernel_rfl) (fun _ _ _ h => h) (Or.inl ⟨by rfl, ?_⟩) (by assumption) ?_
    rotate_left
    · intro w hSw
      go_simp
      try with_reducible rfl
    try simp only [Act.put, List.setIfInBounds_toArray, List.set_cons_zero, List.set_cons_succ, List.getElem_toArray, List.getElem_cons_zero, List.getElem_cons_succ]
    refine wpAnyH_take (i := 15) (v := ?_) rfl (by kernel_rfl) (by kernel_rfl) (by kernel_rfl) (fun _ _ _ h => h) (Or.inl ⟨by rfl, ?_⟩) (by assumption) ?_
    rotate_left
    · intro w hSw
      go_simp
      try with_reducible rfl
    try simp only [Act.put, List.setIfInBounds_toArray, List.set_cons_zero, List.set_cons_succ, List.getElem_toArray, List.getElem_cons_zero, List.getElem_cons_succ]
    refine wpAnyH_done (by kernel_rfl) ?_ _
    clear hHeld
    go_wp2_with fail
    go_ret
    exact ⟨ret_bool (by rw [HK.out.2.2]; unfold sameQ; rw [← HK.out.1]; simp [HN.out]), H1.out.fr⟩

end Go.Proofs.Ytncfdfgcnblicaa

/-
  LAYER 25: whether all of some conditions hold, in order.
-/
namespace Go.Proofs.Ytncfdfgcnblicaa
open Go.RowKit
set_option linter.unusedVariables false
set_option linter.unusedSimpArgs false

set_option maxRecDepth 100000 in
set_option maxHeartbeats 4000000 in
theorem all_any (g cap n : Nat) (T : TypeId) (fs : Array Value) (w : World) (hn : fs.size = n) (hn2 : n ≤ 1000) (St : Nat → World → Prop) (En : World → Prop) (c : Nat → Bool)
    (hB : ∀ k w, St k w → Blk w g T fs) (h0 : St 0 w) (hE : ∀ k w, St k w → En w)
    (hc : ∀ k, k < n → ∀ w, St k w → ∃ fn caps, fs[k]? = some (.func (.func fn) #[] caps) ∧ (∀ w, (callFunc fn caps).run Try.prog w = .ok (.enter fn caps) w) ∧ Calls Try.prog fn caps w fun e w' => e = .returned (.bool (c k)) ∧ (c k = true → St (k + 1) w') ∧ En w') :
    Calls Try.prog 35 #[.slice (some ⟨g, 0, none⟩) n cap] w fun e w' => (e = .returned (.bool true) ∧ (∀ k, k < n → c k = true) ∧ St n w') ∨ (e = .returned (.bool false) ∧ (∃ k, k < n ∧ c k = false) ∧ En w') := by
  have HC := Lib.hid (And.intro hc (And.intro hB (And.intro hE h0)))
  clear hc hB hE h0
  have HN := Lib.hid hn
  clear hn
  go_enter Try.func35, Try.ntmps35
  go_upto_region 2 with fail
  go_loopw [7] (fun i wr => ∃ k : Nat, k ≤ n ∧ i = .int .i64 (k : Nat) ∧ (∀ j, j < k → c j = true) ∧ St k wr) (fun i _ => n - (intOf i).toNat)
  case atStart => exact ⟨0, Nat.zero_le _, rfl, fun j hj => absurd hj (Nat.not_lt_zero _), HC.out.2.2.2⟩
  case round =>
    obtain ⟨k, hk, rfl, hall, hst⟩ := hrel
    have HS := Lib.hid (And.intro hall hst)
    clear hall hst
    by_cases hlt : k < n
    · obtain ⟨fn, caps, hf, hcf, hcall⟩ := HC.out.1 k hlt wr HS.out.2
      have hcell : wr.cell? ⟨g, k, none⟩ = some (.func (.func fn) #[] caps) := ((HC.out.2.1 k wr HS.out.2).cell k).trans hf
      have HF := Lib.hid hcall
      clear hcall hf
      have hk0 : (0 : Int) ≤ (k : Int) := by omega
      have hlti : (k : Int) < (n : Int) := by omega
      obtain ⟨b, hb⟩ : ∃ b, b = c k := ⟨_, rfl⟩
      have HBB := Lib.hid hb
      clear hb
      rcases b with _ | _
      · go_wp2_with (first
          | ((refine Calls.mono HF.out ?_)
             rintro e w1 ⟨rfl, h2, h3⟩
             rw [← HBB.out]
             have H1 := Lib.hid h3
             clear h2 h3)
          | fail "no arm")
        go_ret
        exact .inr ⟨rfl, ⟨k, hlt, HBB.out.symm⟩, H1.out⟩
      · go_wp2_with (first
          | ((refine Calls.mono HF.out ?_)
             rintro e w1 ⟨rfl, h2, h3⟩
             rw [← HBB.out]
             have H1 := Lib.hid (h2 HBB.out.symm)
             clear h2 h3)
          | fail "no arm")
        go_roundw
        case rel => exact ⟨k + 1, by omega, by go_num, fun j hj => by
            rcases Nat.lt_or_ge j k with h | h
            · exact HS.out.1 j h
            · have : j = k := by omega
              subst this
              exact HBB.out.symm, H1.out⟩
        case measure => simp [intOf]; omega
    · have hke : k = n := by omega
      subst hke
      go_wp2_with fail
      go_ret
      exact .inl ⟨rfl, HS.out.1, HS.out.2⟩
end Go.Proofs.Ytncfdfgcnblicaa

/-
  LAYER 25: the conditions of Reply.
-/
namespace Go.Proofs.Ytncfdfgcnblicaa
open Go.RowKit
set_option linter.unusedVariables false
set_option linter.unusedSimpArgs false

set_option maxRecDepth 100000 in
set_option maxHeartbeats 4000000 in
theorem mr1_any (M : Nat) (r : Bool) (op : Int) (w : World) (c1 : w.cell? ⟨M, 1, none⟩ = some (.bool r)) (c2 : w.cell? ⟨M, 2, none⟩ = some (.int .i64 op)) :
    Calls Try.prog 29 #[.pointer (some ⟨M, 0, none⟩)] w fun e w' => e = .returned (.bool (r && (op == 0))) ∧ w = w' := by
  rcases r with _ | _
  · go_enter Try.func29, Try.ntmps29
    go_wp2_with fail
    go_ret
    exact ⟨rfl, rfl⟩
  · go_enter Try.func29, Try.ntmps29
    go_wp2_with fail
    go_ret
    exact ⟨ret_bool (by first | rfl | simp), rfl⟩
set_option maxRecDepth 100000 in
set_option maxHeartbeats 4000000 in
theorem mr2_any (M nq cq : Nat) (Aq : Option Addr) (w : World) (c1 : w.cell? ⟨M, 14, none⟩ = some (.slice Aq nq cq)) :
    Calls Try.prog 30 #[.pointer (some ⟨M, 0, none⟩)] w fun e w' => e = .returned (.bool ((nq : Int) == 1)) ∧ w = w' := by
  go_enter Try.func30, Try.ntmps30
  go_wp2_with fail
  go_ret
  exact ⟨ret_bool (by first | rfl | simp), rfl⟩
set_option maxRecDepth 100000 in
set_option maxHeartbeats 4000000 in
theorem mr4_any (P8 SV : Nat) (a b : Int) (w : World) (c1 : w.cell? ⟨P8, 4, none⟩ = some (.int .i64 a)) (c2 : w.cell? ⟨SV, 0, none⟩ = some (.int .i64 b)) :
    Calls Try.prog 33 #[.pointer (some ⟨P8, 0, none⟩), .pointer (some ⟨SV, 0, none⟩)] w fun e w' => e = .returned (.bool (a == b)) ∧ w = w' := by
  go_enter Try.func33, Try.ntmps33
  go_wp2_with fail
  go_ret
  exact ⟨ret_bool (by first | rfl | simp), rfl⟩
set_option maxRecDepth 100000 in
set_option maxHeartbeats 4000000 in
theorem mr5_any (P8 M gb go nq cq : Nat) (a b : Qn) (w : World) (hS : w.rangeAt P8 1 [.string a.1, .int .i64 a.2.1, .int .i64 a.2.2] ∧ w.cell? ⟨M, 14, none⟩ = some (.slice (some ⟨gb, go, none⟩) nq cq) ∧ w.rangeAt gb go [.string b.1, .int .i64 b.2.1, .int .i64 b.2.2]) (hp : P8 < w.heap.size) (hm : M < w.heap.size) (hg : gb < w.heap.size) (hnq : nq = 1) (ha : i64ok' a.2.1 ∧ i64ok' a.2.2) (hb : i64ok' b.2.1 ∧ i64ok' b.2.2) :
    Calls Try.prog 34 #[.pointer (some ⟨P8, 0, none⟩), .pointer (some ⟨M, 0, none⟩)] w (EqPost w (sameQ a b)) := by
  have hF : ∀ w' : World, Fr (fun _ => False) w w' → w'.rangeAt P8 1 [.string a.1, .int .i64 a.2.1, .int .i64 a.2.2] ∧ w'.cell? ⟨M, 14, none⟩ = some (.slice (some ⟨gb, go, none⟩) nq cq) ∧ w'.rangeAt gb go [.string b.1, .int .i64 b.2.1, .int .i64 b.2.2] := fun w' f => ⟨range_fr0 f hp hS.1, (f.cell (p := ⟨M, 14, none⟩) hm id).trans hS.2.1, range_fr0 f hg hS.2.2⟩
  have HF := Lib.hid hF
  have HS := Lib.hid (show (w.drew).rangeAt P8 1 [.string a.1, .int .i64 a.2.1, .int .i64 a.2.2] ∧ (w.drew).cell? ⟨M, 14, none⟩ = some (.slice (some ⟨gb, go, none⟩) nq cq) ∧ (w.drew).rangeAt gb go [.string b.1, .int .i64 b.2.1, .int .i64 b.2.2] from hF w.drew ((Fr.refl _ _).drew))
  have HQ := Lib.hid (And.intro ha hb)
  clear hF hS ha hb hp hm hg
  subst hnq
  go_enter Try.func34, Try.ntmps34
  go_upto_region 1 with fail
  refine wp_region_held_drew (S := fun w' => w'.rangeAt P8 1 [.string a.1, .int .i64 a.2.1, .int .i64 a.2.2] ∧ w'.cell? ⟨M, 14, none⟩ = some (.slice (some ⟨gb, go, none⟩) 1 cq) ∧ w'.rangeAt gb go [.string b.1, .int .i64 b.2.1, .int .i64 b.2.2]) (by kernel_rfl) HS.out (fun hHeld => ?_)
  refine wpAnyH_take (i := 0) (v := ?_) rfl (by kernel_rfl) (by kernel_rfl) (by kernel_rfl) (fun _ _ _ h => h) (Or.inl ⟨by rfl, ?_⟩) (by assumption) ?_
  rotate_left
  · intro w hSw
    go_simp
    try with_reducible rfl
  try simp only [Act.put, List.setIfInBounds_toArray, List.set_cons_zero, List.set_cons_succ, List.getElem_toArray, List.getElem_cons_zero, List.getElem_cons_succ]
  refine wpAnyH_take (i := 1) rfl (by kernel_rfl) (by kernel_rfl) (by kernel_rfl) (fun _ _ _ h => h) (yieldsIf_load_mid (by rfl) _ _ rfl P8 1 (by rfl) [.string a.1, .int .i64 a.2.1, .int .i64 a.2.2] _ (fun w' h => h.1) Try.underlying25 rfl (by kernel_rfl)) (by assumption) ?_
  try simp only [Act.put, List.setIfInBounds_toArray, List.set_cons_zero, List.set_cons_succ, List.getElem_toArray, List.getElem_cons_zero, List.getElem_cons_succ]
  refine wpAnyH_take (i := 2) (v := ?_) rfl (by kernel_rfl) (by kernel_rfl) (by kernel_rfl) (fun _ _ _ h => h) (Or.inl ⟨by rfl, ?_⟩) (by assumption) ?_
  rotate_left
  · intro w hSw
    go_simp
    try with_reducible rfl
  try simp only [Act.put, List.setIfInBounds_toArray, List.set_cons_zero, List.set_cons_succ, List.getElem_toArray, List.getElem_cons_zero, List.getElem_cons_succ]
  refine wpAnyH_take (i := 3) (v := ?_) rfl (by kernel_rfl) (by kernel_rfl) (by kernel_rfl) (fun _ _ _ h => h) (Or.inl ⟨by rfl, ?_⟩) (by assumption) ?_
  rotate_left
  · intro w hSw
    have hc0 := hSw.2.1
    go_simp
    try with_reducible rfl
  try simp only [Act.put, List.setIfInBounds_toArray, List.set_cons_zero, List.set_cons_succ, List.getElem_toArray, List.getElem_cons_zero, List.getElem_cons_succ]
  refine wpAnyH_take (i := 4) (v := ?_) rfl (by kernel_rfl) (by kernel_rfl) (by kernel_rfl) (fun _ _ _ h => h) (Or.inl ⟨by rfl, ?_⟩) (by assumption) ?_
  rotate_left
  · intro w hSw
    go_simp
    try with_reducible rfl
  try simp only [Act.put, List.setIfInBounds_toArray, List.set_cons_zero, List.set_cons_succ, List.getElem_toArray, List.getElem_cons_zero, List.getElem_cons_succ]
  refine wpAnyH_take (i := 5) rfl (by kernel_rfl) (by kernel_rfl) (by kernel_rfl) (fun _ _ _ h => h) (yieldsIf_load_mid (by rfl) _ _ rfl gb go (by rfl) [.string b.1, .int .i64 b.2.1, .int .i64 b.2.2] _ (fun w' h => h.2.2) Try.underlying25 rfl (by kernel_rfl)) (by assumption) ?_
  try simp only [Act.put, List.setIfInBounds_toArray, List.set_cons_zero, List.set_cons_succ, List.getElem_toArray, List.getElem_cons_zero, List.getElem_cons_succ]
  refine wpAnyH_ready (rs := [6]) (by kernel_rfl) (by simp) ?_
  refine AllReadyH.cons rfl (fun K hK => ?_) AllReadyH.nil
  go_simp
  (with_reducible refine (msame_any a b w.drew HQ.out.1 HQ.out.2).mono ?_)
  rintro e w1 ⟨rfl, f1⟩
  have hS1 := HF.out w1 f1.fromD
  have H1 := Lib.hid f1.fromD
  clear f1
  refine hK.out _ _ hS1 (fun hHeld => ?_)
  clear hK K
  try simp only [Act.put, List.setIfInBounds_toArray, List.set_cons_zero, List.set_cons_succ, List.getElem_toArray, List.getElem_cons_zero, List.getElem_cons_succ]
  refine wpAnyH_take (i := 7) (v := ?_) rfl (by kernel_rfl) (by kernel_rfl) (by kernel_rfl) (fun _ _ _ h => h) (Or.inl ⟨by rfl, ?_⟩) (by assumption) ?_
  rotate_left
  · intro w hSw
    go_simp
    try with_reducible rfl
  try simp only [Act.put, List.setIfInBounds_toArray, List.set_cons_zero, List.set_cons_succ, List.getElem_toArray, List.getElem_cons_zero, List.getElem_cons_succ]
  refine wpAnyH_done (by kernel_rfl) ?_ _
  clear hHeld
  go_wp2_with fail
  go_ret
  exact ⟨rfl, H1.out⟩
set_option maxRecDepth 100000 in
set_option maxHeartbeats 4000000 in
theorem mr3_yes (PB M P8 p : Nat) (most wt : Int) (q : Pn) (A : Option Addr) (cap : Nat) (w : World) (hb : BkO w p most wt q A cap) (c0 : w.cell? ⟨PB, 0, none⟩ = some (.pointer (some ⟨p, 0, none⟩))) (c1 : w.cell? ⟨M, 0, none⟩ = some (.int .u16 (q.id : Nat))) (h8 : Blk w P8 28 #[.int .u16 0, .string ⟨#[]⟩, .int .i64 0, .int .i64 0, .int .i64 0, .int .i64 0, .int .i64 0, .slice none 0 0]) :
    Calls Try.prog 31 #[.pointer (some ⟨PB, 0, none⟩), .pointer (some ⟨M, 0, none⟩), .pointer (some ⟨P8, 0, none⟩)] w fun e w' => e = .returned (.bool true) ∧ Fr (· = P8) w w' ∧ ∃ A2 cap2, Blk w' P8 28 #[.int .u16 (q.id : Nat), .string q.q.1, .int .i64 q.q.2.1, .int .i64 q.q.2.2, .int .i64 q.sv, .int .i64 q.tr, .int .i64 q.dl, .slice A2 q.ws.length cap2] ∧ w'.ownsRow 0 69 18 (.slice A2 q.ws.length cap2) q.ws.length (q.ws.flatMap wcl) ∧ (∀ k, rowOf A2 k → w.heap.size ≤ k) := by
  have HB := Lib.hid (And.intro hb h8)
  have hlt := h8.lt
  clear hb h8
  go_enter Try.func31, Try.ntmps31
  go_wp2_with (first
    | (go_at_call 32
       (with_reducible refine (bfind_yes p most wt q A cap w HB.out.1).mono ?_)
       rintro e w1 ⟨A2, cap2, rfl, o1, o2, o3⟩
       have H1 := Lib.hid (And.intro (HB.out.2.fr o3 id) (And.intro o1 (And.intro o2 o3)))
       clear o1 o2 o3)
    | (refine wpList_store_part rfl 28 _ _ rfl P8 0 (by rfl) _ (by rfl) 28 _ H1.out.1 (by kernel_rfl) (by simp [Value.oneCell']) (by simp) #[.int .u16 (q.id : Nat), .string q.q.1, .int .i64 q.q.2.1, .int .i64 q.q.2.2, .int .i64 q.sv, .int .i64 q.tr, .int .i64 q.dl, .slice A2 q.ws.length cap2] (by rfl) ?_
       intro w3 b3 f3
       have H3 := Lib.hid (And.intro b3 f3)
       clear b3 f3)
    | fail "no arm")
  go_ret
  refine ⟨rfl, (H1.out.2.2.2.mono (fun _ _ h => h.elim)).then H3.out.2, A2, cap2, H3.out.1, own_fr H1.out.2.1 H3.out.2 (fun k hk h => by have := H1.out.2.2.1 k hk; omega), H1.out.2.2.1⟩
set_option maxRecDepth 100000 in
set_option maxHeartbeats 4000000 in
theorem mr3_no (PB M P8 p : Nat) (most wt : Int) (q : Pn) (A : Option Addr) (cap k : Nat) (w : World) (hb : BkO w p most wt q A cap) (c0 : w.cell? ⟨PB, 0, none⟩ = some (.pointer (some ⟨p, 0, none⟩))) (c1 : w.cell? ⟨M, 0, none⟩ = some (.int .u16 (k : Nat))) (hk : k < 65536) (hne : k ≠ q.id) (h8 : Blk w P8 28 #[.int .u16 0, .string ⟨#[]⟩, .int .i64 0, .int .i64 0, .int .i64 0, .int .i64 0, .int .i64 0, .slice none 0 0]) :
    Calls Try.prog 31 #[.pointer (some ⟨PB, 0, none⟩), .pointer (some ⟨M, 0, none⟩), .pointer (some ⟨P8, 0, none⟩)] w fun e w' => e = .returned (.bool false) ∧ Fr (· = P8) w w' := by
  have HB := Lib.hid (And.intro hb (And.intro h8 (And.intro hk hne)))
  clear hb h8 hk hne
  go_enter Try.func31, Try.ntmps31
  go_wp2_with (first
    | (go_at_call 32
       (with_reducible refine (bfind_no p most wt q A cap k w HB.out.1 HB.out.2.2.1 HB.out.2.2.2).mono ?_)
       rintro e w1 ⟨rfl, o3⟩
       have H1 := Lib.hid (And.intro (HB.out.2.1.fr o3 id) o3)
       clear o3)
    | (refine wpList_store_part rfl 28 _ _ rfl P8 0 (by rfl) _ (by rfl) 28 _ H1.out.1 (by kernel_rfl) (by simp [Value.oneCell']) (by simp) _ rfl ?_
       intro w3 b3 f3
       have H3 := Lib.hid f3
       clear b3 f3)
    | fail "no arm")
  go_ret
  exact ⟨rfl, (H1.out.2.mono (fun _ _ h => h.elim)).then H3.out⟩
end Go.Proofs.Ytncfdfgcnblicaa

/-
  LAYER 25: Reply.
-/
namespace Go.Proofs.Ytncfdfgcnblicaa
open Go.RowKit
set_option linter.unusedVariables false
set_option linter.unusedSimpArgs false

/-- The conditions of Reply, one by one. -/
noncomputable def cond (q : Pn) (h : Hd) (l : List Qn) (sv : Int) : Nat → Bool
  | 0 => h.resp && (h.op == 0)
  | 1 => (l.length : Int) == 1
  | 2 => h.id == (q.id : Int)
  | 3 => q.sv == sv
  | 4 => sameQ q.q (l.headD (⟨#[]⟩, 0, 0))
  | _ => true
noncomputable def matchB (q : Pn) (h : Hd) (l : List Qn) (sv : Int) : Bool := cond q h l sv 0 && (cond q h l sv 1 && (cond q h l sv 2 && (cond q h l sv 3 && cond q h l sv 4)))
/-- What Reply tells. -/
def ReplyPost (w : World) (q : Pn) (b : Bool) (e : Ending) (w' : World) : Prop :=
  Fr (fun _ => False) w w' ∧ (b = false → e = .returned (.tuple #[.agg #[.int .u16 0, .string ⟨#[]⟩, .int .i64 0, .int .i64 0, .int .i64 0, .int .i64 0, .int .i64 0, .slice none 0 0], .bool false])) ∧
  (b = true → ∃ X2 e2, e = .returned (.tuple #[.agg #[.int .u16 (q.id : Nat), .string q.q.1, .int .i64 q.q.2.1, .int .i64 q.q.2.2, .int .i64 q.sv, .int .i64 q.tr, .int .i64 q.dl, .slice X2 q.ws.length e2], .bool true]) ∧ w'.ownsRow 0 69 18 (.slice X2 q.ws.length e2) q.ws.length (q.ws.flatMap wcl) ∧ (∀ k, rowOf X2 k → w.heap.size ≤ k))
/-- What lies while Reply looks. -/
structure MtRp (w W : World) (p : Nat) (most wt : Int) (q : Pn) (A : Option Addr) (cap : Nat) (h : Hd) (l : List Qn) (Aq : Option Addr) (cq : Nat) (sv : Int) (A1 A2 A3 : Option Addr) (n1 k1 n2 k2 n3 k3 : Nat) : Prop where
  b0 : Blk W w.heap.size 41 #[.pointer (some ⟨p, 0, none⟩)]
  b1 : Blk W (w.heap.size + 1) 3 #[.int .i64 sv]
  b2 : Blk W (w.heap.size + 2) 37 #[.int .u16 h.id, .bool h.resp, .int .i64 h.op, .bool h.aa, .bool h.tc, .bool h.rd, .bool h.ra, .bool h.ad, .bool h.cd, .int .i64 h.rc, .int .i64 h.c0, .int .i64 h.c1, .int .i64 h.c2, .int .i64 h.c3, .slice Aq l.length cq, .slice A1 n1 k1, .slice A2 n2 k2, .slice A3 n3 k3]
  b3 : Blk W (w.heap.size + 3) 28 #[.int .u16 0, .string ⟨#[]⟩, .int .i64 0, .int .i64 0, .int .i64 0, .int .i64 0, .int .i64 0, .slice none 0 0]
  b5 : Blk W (w.heap.size + 5) 79 #[.func (.func 29) #[] #[.pointer (some ⟨w.heap.size + 2, 0, none⟩)], .func (.func 30) #[] #[.pointer (some ⟨w.heap.size + 2, 0, none⟩)], .func (.func 31) #[] #[.pointer (some ⟨w.heap.size, 0, none⟩), .pointer (some ⟨w.heap.size + 2, 0, none⟩), .pointer (some ⟨w.heap.size + 4, 0, none⟩)], .func (.func 33) #[] #[.pointer (some ⟨w.heap.size + 4, 0, none⟩), .pointer (some ⟨w.heap.size + 1, 0, none⟩)], .func (.func 34) #[] #[.pointer (some ⟨w.heap.size + 4, 0, none⟩), .pointer (some ⟨w.heap.size + 2, 0, none⟩)]]
  row : RowIn W Aq (l.flatMap qcl)
/-- The state behind the first k conditions. -/
structure MtRs (w V W : World) (p : Nat) (most wt : Int) (q : Pn) (A : Option Addr) (cap : Nat) (h : Hd) (l : List Qn) (Aq : Option Addr) (cq : Nat) (sv : Int) (A1 A2 A3 : Option Addr) (n1 k1 n2 k2 n3 k3 : Nat) (k : Nat) : Prop where
  rp : MtRp w W p most wt q A cap h l Aq cq sv A1 A2 A3 n1 k1 n2 k2 n3 k3
  fr : Fr (· = w.heap.size + 4) V W
  ok : ∀ j, j < k → cond q h l sv j = true
  lo : k < 3 → BkO W p most wt q A cap ∧ Blk W (w.heap.size + 4) 28 #[.int .u16 0, .string ⟨#[]⟩, .int .i64 0, .int .i64 0, .int .i64 0, .int .i64 0, .int .i64 0, .slice none 0 0]
  hi : 3 ≤ k → ∃ X2 e2, Blk W (w.heap.size + 4) 28 #[.int .u16 (q.id : Nat), .string q.q.1, .int .i64 q.q.2.1, .int .i64 q.q.2.2, .int .i64 q.sv, .int .i64 q.tr, .int .i64 q.dl, .slice X2 q.ws.length e2] ∧ W.ownsRow 0 69 18 (.slice X2 q.ws.length e2) q.ws.length (q.ws.flatMap wcl) ∧ (∀ k, rowOf X2 k → w.heap.size + 5 ≤ k)
section
variable {w V W : World} {p : Nat} {most wt : Int} {q : Pn} {A : Option Addr} {cap : Nat} {h : Hd} {l : List Qn} {Aq : Option Addr} {cq : Nat} {sv : Int} {A1 A2 A3 : Option Addr} {n1 k1 n2 k2 n3 k3 : Nat} {k : Nat}
theorem MtRp.fr {W' : World} (r : MtRp w W p most wt q A cap h l Aq cq sv A1 A2 A3 n1 k1 n2 k2 n3 k3) (f : Fr (· = w.heap.size + 4) W W') (hq : ∀ k, rowOf Aq k → k < w.heap.size) : MtRp w W' p most wt q A cap h l Aq cq sv A1 A2 A3 n1 k1 n2 k2 n3 k3 :=
  ⟨r.b0.fr f (by omega), r.b1.fr f (by omega), r.b2.fr f (by omega), r.b3.fr f (by omega), r.b5.fr f (by omega), rowIn_fr r.row f (fun k hk h => by have := hq k hk; omega)⟩
theorem rs_round (hl : ∀ x ∈ l, QOk x) (hqk : QOk q.q) (hh : 0 ≤ h.id ∧ h.id ≤ 65535) (hq : ∀ k, rowOf Aq k → k < w.heap.size) (hrow : l.length = 1 → ∃ gb go, Aq = some ⟨gb, go, none⟩) (k : Nat) (hk : k < 5) (W : World)
    (r : MtRs w V W p most wt q A cap h l Aq cq sv A1 A2 A3 n1 k1 n2 k2 n3 k3 k) :
    ∃ fn caps, (#[.func (.func 29) #[] #[.pointer (some ⟨w.heap.size + 2, 0, none⟩)], .func (.func 30) #[] #[.pointer (some ⟨w.heap.size + 2, 0, none⟩)], .func (.func 31) #[] #[.pointer (some ⟨w.heap.size, 0, none⟩), .pointer (some ⟨w.heap.size + 2, 0, none⟩), .pointer (some ⟨w.heap.size + 4, 0, none⟩)], .func (.func 33) #[] #[.pointer (some ⟨w.heap.size + 4, 0, none⟩), .pointer (some ⟨w.heap.size + 1, 0, none⟩)], .func (.func 34) #[] #[.pointer (some ⟨w.heap.size + 4, 0, none⟩), .pointer (some ⟨w.heap.size + 2, 0, none⟩)]] : Array Value)[k]? = some (.func (.func fn) #[] caps) ∧ (∀ w, (callFunc fn caps).run Try.prog w = .ok (.enter fn caps) w) ∧ Calls Try.prog fn caps W fun e w' => e = .returned (.bool (cond q h l sv k)) ∧
      (cond q h l sv k = true → MtRs w V w' p most wt q A cap h l Aq cq sv A1 A2 A3 n1 k1 n2 k2 n3 k3 (k + 1)) ∧ (MtRp w w' p most wt q A cap h l Aq cq sv A1 A2 A3 n1 k1 n2 k2 n3 k3 ∧ Fr (· = w.heap.size + 4) V w') := by
  have hok : ∀ k, cond q h l sv k = true → (∀ j, j < k → cond q h l sv j = true) → ∀ j, j < k + 1 → cond q h l sv j = true := fun k h1 h2 j hj => by
    rcases Nat.lt_or_ge j k with h | h
    · exact h2 j h
    · have : j = k := by omega
      subst this
      exact h1
  rcases (show k = 0 ∨ k = 1 ∨ k = 2 ∨ k = 3 ∨ k = 4 by omega) with rfl | rfl | rfl | rfl | rfl
  · refine ⟨29, _, rfl, fun w => (by kernel_rfl), (mr1_any (w.heap.size + 2) h.resp h.op W (r.rp.b2.cell 1) (r.rp.b2.cell 2)).mono ?_⟩
    rintro e w1 ⟨rfl, rfl⟩
    exact ⟨rfl, fun hc => ⟨r.rp, r.fr, hok 0 hc r.ok, fun _ => r.lo (by omega), fun h => by omega⟩, r.rp, r.fr⟩
  · refine ⟨30, _, rfl, fun w => (by kernel_rfl), (mr2_any (w.heap.size + 2) l.length cq Aq W (r.rp.b2.cell 14)).mono ?_⟩
    rintro e w1 ⟨rfl, rfl⟩
    exact ⟨rfl, fun hc => ⟨r.rp, r.fr, hok 1 hc r.ok, fun _ => r.lo (by omega), fun h => by omega⟩, r.rp, r.fr⟩
  · obtain ⟨g1, g2⟩ := r.lo (by omega)
    have hsz : w.heap.size + 5 < W.heap.size := r.rp.b5.lt
    by_cases hid : h.id = (q.id : Int)
    · have hc2 : cond q h l sv 2 = true := by unfold cond; rw [hid]; simp
      refine ⟨31, _, rfl, fun w => (by kernel_rfl), (mr3_yes w.heap.size (w.heap.size + 2) (w.heap.size + 4) p most wt q A cap W g1 (r.rp.b0.cell 0) (by rw [← hid]; exact r.rp.b2.cell 0) g2).mono ?_⟩
      rintro e w1 ⟨rfl, f1, X2, e2, o1, o2, o3⟩
      have hr := r.rp.fr f1 hq
      exact ⟨by rw [hc2], fun hc => ⟨hr, r.fr.then f1, hok 2 hc r.ok, fun h => by omega, fun _ => ⟨X2, e2, o1, o2, fun k hk => by have := o3 k hk; omega⟩⟩, hr, r.fr.then f1⟩
    · have hc2 : cond q h l sv 2 = false := by unfold cond; simpa using hid
      obtain ⟨id, hidn⟩ : ∃ id : Nat, h.id = (id : Int) := ⟨h.id.toNat, by omega⟩
      refine ⟨31, _, rfl, fun w => (by kernel_rfl), (mr3_no w.heap.size (w.heap.size + 2) (w.heap.size + 4) p most wt q A cap id W g1 (r.rp.b0.cell 0) (by rw [← hidn]; exact r.rp.b2.cell 0) (by omega) (fun h => hid (by rw [hidn, h])) g2).mono ?_⟩
      rintro e w1 ⟨rfl, f1⟩
      have hr := r.rp.fr f1 hq
      exact ⟨by rw [hc2], fun hc => (by rw [hc2] at hc; cases hc), hr, r.fr.then f1⟩
  · obtain ⟨X2, e2, g1, g2, g3⟩ := r.hi (by omega)
    refine ⟨33, _, rfl, fun w => (by kernel_rfl), (mr4_any (w.heap.size + 4) (w.heap.size + 1) q.sv sv W (g1.cell 4) (r.rp.b1.cell 0)).mono ?_⟩
    rintro e w1 ⟨rfl, rfl⟩
    exact ⟨rfl, fun hc => ⟨r.rp, r.fr, hok 3 hc r.ok, fun h => by omega, fun _ => ⟨X2, e2, g1, g2, g3⟩⟩, r.rp, r.fr⟩
  · obtain ⟨X2, e2, g1, g2, g3⟩ := r.hi (by omega)
    have hn : l.length = 1 := by
      have := r.ok 1 (by omega)
      unfold cond at this
      simp at this
      omega
    obtain ⟨x, hx⟩ : ∃ x, l = [x] := List.length_eq_one_iff.1 hn
    obtain ⟨gb, go, hAq⟩ := hrow hn
    obtain ⟨gb', go', ha, hb, hc⟩ := r.rp.row (by rw [hx]; simp [qcl])
    rw [hAq] at ha
    injection ha with ha
    injection ha with ha1 ha2 ha3
    subst ha1
    subst ha2
    have hxk := hl x (by rw [hx]; exact List.mem_singleton.2 rfl)
    have hrg : W.rangeAt gb go [.string x.1, .int .i64 x.2.1, .int .i64 x.2.2] := fun j v hv => hc j v (by rw [hx]; simpa [qcl] using hv)
    have hcell : W.cell? ⟨w.heap.size + 2, 14, none⟩ = some (.slice (some ⟨gb, go, none⟩) l.length cq) := by rw [← hAq]; exact r.rp.b2.cell 14
    have hp1 : W.rangeAt (w.heap.size + 4) 1 [.string q.q.1, .int .i64 q.q.2.1, .int .i64 q.q.2.2] := fun j v hv => by
      rcases j with _ | _ | _ | j
      · have := g1.cell 1; simp at hv; rw [← hv]; exact this
      · have := g1.cell 2; simp at hv; rw [← hv]; exact this
      · have := g1.cell 3; simp at hv; rw [← hv]; exact this
      · simp at hv
    have hc4 : cond q h l sv 4 = sameQ q.q x := by unfold cond; rw [hx]; rfl
    refine ⟨34, _, rfl, fun w => (by kernel_rfl), (mr5_any (w.heap.size + 4) (w.heap.size + 2) gb go l.length cq q.q x W ⟨hp1, hcell, hrg⟩ g1.lt r.rp.b2.lt hb hn hqk.2 hxk.2).mono ?_⟩
    rintro e w1 ⟨rfl, f1⟩
    have f1' : Fr (· = w.heap.size + 4) W w1 := f1.mono (fun _ _ h => h.elim)
    have hr := r.rp.fr f1' hq
    refine ⟨by rw [hc4], fun hc => ⟨hr, r.fr.then f1', hok 4 hc r.ok, fun h => by omega, fun _ => ⟨X2, e2, g1.fr f1 id, own_fr g2 f1 (fun k _ h => h), g3⟩⟩, hr, r.fr.then f1'⟩
end
end Go.Proofs.Ytncfdfgcnblicaa

/-
  LAYER 25: Reply, walked.
-/
namespace Go.Proofs.Ytncfdfgcnblicaa
open Go.RowKit
set_option linter.unusedVariables false
set_option linter.unusedSimpArgs false

set_option maxRecDepth 100000 in
set_option maxHeartbeats 8000000 in
theorem mreply_any (p : Nat) (most wt : Int) (q : Pn) (A : Option Addr) (cap : Nat) (h : Hd) (l : List Qn) (Aq : Option Addr) (cq : Nat) (sv : Int) (A1 A2 A3 : Option Addr) (n1 k1 n2 k2 n3 k3 : Nat) (w : World) (hb : BkO w p most wt q A cap) (hr : RowIn w Aq (l.flatMap qcl)) (hl : ∀ x ∈ l, QOk x) (hqk : QOk q.q) (hh : 0 ≤ h.id ∧ h.id ≤ 65535)
    (hrow : l.length = 1 → ∃ gb go, Aq = some ⟨gb, go, none⟩) (hq : ∀ k, rowOf Aq k → k < w.heap.size) :
    Calls Try.prog 12 #[.pointer (some ⟨p, 0, none⟩), .int .i64 sv, .agg #[.int .u16 h.id, .bool h.resp, .int .i64 h.op, .bool h.aa, .bool h.tc, .bool h.rd, .bool h.ra, .bool h.ad, .bool h.cd, .int .i64 h.rc, .int .i64 h.c0, .int .i64 h.c1, .int .i64 h.c2, .int .i64 h.c3, .slice Aq l.length cq, .slice A1 n1 k1, .slice A2 n2 k2, .slice A3 n3 k3]] w (ReplyPost w q (matchB q h l sv)) := by
  obtain ⟨V, hV⟩ : ∃ V, V = (((((w.alloc (.cells #[.pointer (some ⟨p, 0, none⟩)] 41)).alloc (.cells #[.int .i64 sv] 3)).alloc (.cells #[.int .u16 h.id, .bool h.resp, .int .i64 h.op, .bool h.aa, .bool h.tc, .bool h.rd, .bool h.ra, .bool h.ad, .bool h.cd, .int .i64 h.rc, .int .i64 h.c0, .int .i64 h.c1, .int .i64 h.c2, .int .i64 h.c3, .slice Aq l.length cq, .slice A1 n1 k1, .slice A2 n2 k2, .slice A3 n3 k3] 37)).alloc (.cells #[.int .u16 0, .string ⟨#[]⟩, .int .i64 0, .int .i64 0, .int .i64 0, .int .i64 0, .int .i64 0, .slice none 0 0] 28)).alloc (.cells #[.int .u16 0, .string ⟨#[]⟩, .int .i64 0, .int .i64 0, .int .i64 0, .int .i64 0, .int .i64 0, .slice none 0 0] 28)) := ⟨_, rfl⟩
  have hVs : V.heap.size = w.heap.size + 5 := by rw [hV]; simp only [World.size_alloc]
  have hf : Fr (fun _ => False) w V := by rw [hV]; exact (((((Fr.refl _ _).alloc _).alloc _).alloc _).alloc _).alloc _
  have v0 : Blk V w.heap.size 41 #[.pointer (some ⟨p, 0, none⟩)] := by rw [hV]; exact ((((Blk.new w 41 _).alloc _).alloc _).alloc _).alloc _
  have v1 : Blk V (w.heap.size + 1) 3 #[.int .i64 sv] := by
    rw [hV]
    have := Blk.new (w.alloc (.cells #[.pointer (some ⟨p, 0, none⟩)] 41)) 3 #[.int .i64 sv]
    rw [World.size_alloc] at this
    exact ((this.alloc _).alloc _).alloc _
  have v2 : Blk V (w.heap.size + 2) 37 #[.int .u16 h.id, .bool h.resp, .int .i64 h.op, .bool h.aa, .bool h.tc, .bool h.rd, .bool h.ra, .bool h.ad, .bool h.cd, .int .i64 h.rc, .int .i64 h.c0, .int .i64 h.c1, .int .i64 h.c2, .int .i64 h.c3, .slice Aq l.length cq, .slice A1 n1 k1, .slice A2 n2 k2, .slice A3 n3 k3] := by
    rw [hV]
    have := Blk.new ((w.alloc (.cells #[.pointer (some ⟨p, 0, none⟩)] 41)).alloc (.cells #[.int .i64 sv] 3)) 37 #[.int .u16 h.id, .bool h.resp, .int .i64 h.op, .bool h.aa, .bool h.tc, .bool h.rd, .bool h.ra, .bool h.ad, .bool h.cd, .int .i64 h.rc, .int .i64 h.c0, .int .i64 h.c1, .int .i64 h.c2, .int .i64 h.c3, .slice Aq l.length cq, .slice A1 n1 k1, .slice A2 n2 k2, .slice A3 n3 k3]
    rw [World.size_alloc, World.size_alloc] at this
    exact (this.alloc _).alloc _
  have v3 : Blk V (w.heap.size + 3) 28 #[.int .u16 0, .string ⟨#[]⟩, .int .i64 0, .int .i64 0, .int .i64 0, .int .i64 0, .int .i64 0, .slice none 0 0] := by
    rw [hV]
    have := Blk.new (((w.alloc (.cells #[.pointer (some ⟨p, 0, none⟩)] 41)).alloc (.cells #[.int .i64 sv] 3)).alloc (.cells #[.int .u16 h.id, .bool h.resp, .int .i64 h.op, .bool h.aa, .bool h.tc, .bool h.rd, .bool h.ra, .bool h.ad, .bool h.cd, .int .i64 h.rc, .int .i64 h.c0, .int .i64 h.c1, .int .i64 h.c2, .int .i64 h.c3, .slice Aq l.length cq, .slice A1 n1 k1, .slice A2 n2 k2, .slice A3 n3 k3] 37)) 28 #[.int .u16 0, .string ⟨#[]⟩, .int .i64 0, .int .i64 0, .int .i64 0, .int .i64 0, .int .i64 0, .slice none 0 0]
    rw [World.size_alloc, World.size_alloc, World.size_alloc] at this
    exact this.alloc _
  have v4 : Blk V (w.heap.size + 4) 28 #[.int .u16 0, .string ⟨#[]⟩, .int .i64 0, .int .i64 0, .int .i64 0, .int .i64 0, .int .i64 0, .slice none 0 0] := by
    rw [hV]
    have := Blk.new ((((w.alloc (.cells #[.pointer (some ⟨p, 0, none⟩)] 41)).alloc (.cells #[.int .i64 sv] 3)).alloc (.cells #[.int .u16 h.id, .bool h.resp, .int .i64 h.op, .bool h.aa, .bool h.tc, .bool h.rd, .bool h.ra, .bool h.ad, .bool h.cd, .int .i64 h.rc, .int .i64 h.c0, .int .i64 h.c1, .int .i64 h.c2, .int .i64 h.c3, .slice Aq l.length cq, .slice A1 n1 k1, .slice A2 n2 k2, .slice A3 n3 k3] 37)).alloc (.cells #[.int .u16 0, .string ⟨#[]⟩, .int .i64 0, .int .i64 0, .int .i64 0, .int .i64 0, .int .i64 0, .slice none 0 0] 28)) 28 #[.int .u16 0, .string ⟨#[]⟩, .int .i64 0, .int .i64 0, .int .i64 0, .int .i64 0, .int .i64 0, .slice none 0 0]
    rw [World.size_alloc, World.size_alloc, World.size_alloc, World.size_alloc] at this
    exact this
  have HV := Lib.hid hV
  have HB := Lib.hid (And.intro v0 (And.intro v1 (And.intro v2 (And.intro v3 (And.intro v4 (And.intro hf hVs))))))
  have HI := Lib.hid (And.intro hb (And.intro hr (And.intro hl (And.intro hqk (And.intro hh (And.intro hrow hq))))))
  clear hb hr hl hqk hh hrow hq v0 v1 v2 v3 v4 hf hV hVs
  obtain ⟨b, hbm⟩ : ∃ b, b = matchB q h l sv := ⟨_, rfl⟩
  rw [← hbm]
  have HM := Lib.hid hbm
  clear hbm
  rcases b with _ | _
  · go_enter Try.func12, Try.ntmps12
    go_upto_region 2 with fail
    rw [← HV.out]
    simp only [Nat.add_assoc, Nat.reduceAdd]
    go_upto_region 3 with (first
      | (refine wpList_store_part rfl 79 _ _ rfl V.heap.size 0 (by rfl) _ (by rfl) 79 _ (Blk.new V 79 _) (by kernel_rfl) (by simp [Value.oneCell']) (by simp) #[.func (.func 29) #[] #[.pointer (some ⟨w.heap.size + 2, 0, none⟩)], .func (.func 30) #[] #[.pointer (some ⟨w.heap.size + 2, 0, none⟩)], .func (.func 31) #[] #[.pointer (some ⟨w.heap.size, 0, none⟩), .pointer (some ⟨w.heap.size + 2, 0, none⟩), .pointer (some ⟨w.heap.size + 4, 0, none⟩)], .func (.func 33) #[] #[.pointer (some ⟨w.heap.size + 4, 0, none⟩), .pointer (some ⟨w.heap.size + 1, 0, none⟩)], .func (.func 34) #[] #[.pointer (some ⟨w.heap.size + 4, 0, none⟩), .pointer (some ⟨w.heap.size + 2, 0, none⟩)]] (by rfl) ?_
         intro W2 b2 f2
         have f22 : Fr (fun _ => False) V W2 := ((Fr.refl (fun _ => False) V).alloc _).step f2 (fun k hk => .inr (by subst hk; exact Nat.le_refl _))
         rw [HB.out.2.2.2.2.2.2] at b2
         have hrp : MtRp w W2 p most wt q A cap h l Aq cq sv A1 A2 A3 n1 k1 n2 k2 n3 k3 := ⟨HB.out.1.fr f22 id, HB.out.2.1.fr f22 id, HB.out.2.2.1.fr f22 id, HB.out.2.2.2.1.fr f22 id, b2, rowIn_fr0 (rowIn_fr0 HI.out.2.1 HB.out.2.2.2.2.2.1) f22⟩
         have hrs : MtRs w W2 W2 p most wt q A cap h l Aq cq sv A1 A2 A3 n1 k1 n2 k2 n3 k3 0 := ⟨hrp, Fr.refl _ _, fun j hj => absurd hj (Nat.not_lt_zero _), fun _ => ⟨(HI.out.1.fr0 HB.out.2.2.2.2.2.1).fr0 f22, HB.out.2.2.2.2.1.fr f22 id⟩, fun h => by omega⟩
         have H1 := Lib.hid (And.intro hrs (HB.out.2.2.2.2.2.1.then f22))
         clear hrp hrs b2 f2 f22)
      | fail "no arm")
    rw [HB.out.2.2.2.2.2.2]
    go_wp2_with (first
      | (go_at_call 35
         (refine Calls.mono (all_any (w.heap.size + 5) 5 5 79 #[.func (.func 29) #[] #[.pointer (some ⟨w.heap.size + 2, 0, none⟩)], .func (.func 30) #[] #[.pointer (some ⟨w.heap.size + 2, 0, none⟩)], .func (.func 31) #[] #[.pointer (some ⟨w.heap.size, 0, none⟩), .pointer (some ⟨w.heap.size + 2, 0, none⟩), .pointer (some ⟨w.heap.size + 4, 0, none⟩)], .func (.func 33) #[] #[.pointer (some ⟨w.heap.size + 4, 0, none⟩), .pointer (some ⟨w.heap.size + 1, 0, none⟩)], .func (.func 34) #[] #[.pointer (some ⟨w.heap.size + 4, 0, none⟩), .pointer (some ⟨w.heap.size + 2, 0, none⟩)]] W2 rfl (by decide) (fun k W => MtRs w W2 W p most wt q A cap h l Aq cq sv A1 A2 A3 n1 k1 n2 k2 n3 k3 k) (fun W => MtRp w W p most wt q A cap h l Aq cq sv A1 A2 A3 n1 k1 n2 k2 n3 k3 ∧ Fr (· = w.heap.size + 4) W2 W) (cond q h l sv) (fun k W r => r.rp.b5) H1.out.1 (fun k W r => ⟨r.rp, r.fr⟩) (fun k hk W r => rs_round HI.out.2.2.1 HI.out.2.2.2.1 HI.out.2.2.2.2.1 HI.out.2.2.2.2.2.2 HI.out.2.2.2.2.2.1 k hk W r)) ?_)
         rintro e w2 hd
         obtain ⟨rfl, hen⟩ : e = .returned (.bool false) ∧ (MtRp w w2 p most wt q A cap h l Aq cq sv A1 A2 A3 n1 k1 n2 k2 n3 k3 ∧ Fr (· = w.heap.size + 4) W2 w2) := by
           rcases hd with ⟨rfl, ha, _⟩ | ⟨rfl, _, hen⟩
           · exfalso
             have := HM.out
             unfold matchB at this
             rw [ha 0 (by decide), ha 1 (by decide), ha 2 (by decide), ha 3 (by decide), ha 4 (by decide)] at this
             cases this
           · exact ⟨rfl, hen⟩
         have H2 := Lib.hid hen
         clear hen hd)
      | (refine wpList_store_part rfl 28 _ _ rfl (w.heap.size + 3) 0 (by rfl) _ (by rfl) 28 _ H2.out.1.b3 (by kernel_rfl) (by simp [Value.oneCell']) (by simp) #[.int .u16 0, .string ⟨#[]⟩, .int .i64 0, .int .i64 0, .int .i64 0, .int .i64 0, .int .i64 0, .slice none 0 0] (by rfl) ?_
         intro w3 b3 f3
         have H3 := Lib.hid (And.intro b3 f3)
         clear b3 f3)
      | fail "no arm")
    have hu : Try.prog.underlying 28 = _ := Try.underlying28
    refine bodyPost_ret (results_cell_tmp Try.results12 H3.out.1 rfl rfl hu rfl (by kernel_rfl)) rfl ?_
    exact ⟨((H1.out.2.step H2.out.2 (fun k hk => .inr (by omega))).step H3.out.2 (fun k hk => .inr (by omega))), fun _ => rfl, fun h => by cases h⟩
  · go_enter Try.func12, Try.ntmps12
    go_upto_region 2 with fail
    rw [← HV.out]
    simp only [Nat.add_assoc, Nat.reduceAdd]
    go_upto_region 3 with (first
      | (refine wpList_store_part rfl 79 _ _ rfl V.heap.size 0 (by rfl) _ (by rfl) 79 _ (Blk.new V 79 _) (by kernel_rfl) (by simp [Value.oneCell']) (by simp) #[.func (.func 29) #[] #[.pointer (some ⟨w.heap.size + 2, 0, none⟩)], .func (.func 30) #[] #[.pointer (some ⟨w.heap.size + 2, 0, none⟩)], .func (.func 31) #[] #[.pointer (some ⟨w.heap.size, 0, none⟩), .pointer (some ⟨w.heap.size + 2, 0, none⟩), .pointer (some ⟨w.heap.size + 4, 0, none⟩)], .func (.func 33) #[] #[.pointer (some ⟨w.heap.size + 4, 0, none⟩), .pointer (some ⟨w.heap.size + 1, 0, none⟩)], .func (.func 34) #[] #[.pointer (some ⟨w.heap.size + 4, 0, none⟩), .pointer (some ⟨w.heap.size + 2, 0, none⟩)]] (by rfl) ?_
         intro W2 b2 f2
         have f22 : Fr (fun _ => False) V W2 := ((Fr.refl (fun _ => False) V).alloc _).step f2 (fun k hk => .inr (by subst hk; exact Nat.le_refl _))
         rw [HB.out.2.2.2.2.2.2] at b2
         have hrp : MtRp w W2 p most wt q A cap h l Aq cq sv A1 A2 A3 n1 k1 n2 k2 n3 k3 := ⟨HB.out.1.fr f22 id, HB.out.2.1.fr f22 id, HB.out.2.2.1.fr f22 id, HB.out.2.2.2.1.fr f22 id, b2, rowIn_fr0 (rowIn_fr0 HI.out.2.1 HB.out.2.2.2.2.2.1) f22⟩
         have hrs : MtRs w W2 W2 p most wt q A cap h l Aq cq sv A1 A2 A3 n1 k1 n2 k2 n3 k3 0 := ⟨hrp, Fr.refl _ _, fun j hj => absurd hj (Nat.not_lt_zero _), fun _ => ⟨(HI.out.1.fr0 HB.out.2.2.2.2.2.1).fr0 f22, HB.out.2.2.2.2.1.fr f22 id⟩, fun h => by omega⟩
         have H1 := Lib.hid (And.intro hrs (HB.out.2.2.2.2.2.1.then f22))
         clear hrp hrs b2 f2 f22)
      | fail "no arm")
    rw [HB.out.2.2.2.2.2.2]
    go_wp2_with (first
      | (go_at_call 35
         (refine Calls.mono (all_any (w.heap.size + 5) 5 5 79 #[.func (.func 29) #[] #[.pointer (some ⟨w.heap.size + 2, 0, none⟩)], .func (.func 30) #[] #[.pointer (some ⟨w.heap.size + 2, 0, none⟩)], .func (.func 31) #[] #[.pointer (some ⟨w.heap.size, 0, none⟩), .pointer (some ⟨w.heap.size + 2, 0, none⟩), .pointer (some ⟨w.heap.size + 4, 0, none⟩)], .func (.func 33) #[] #[.pointer (some ⟨w.heap.size + 4, 0, none⟩), .pointer (some ⟨w.heap.size + 1, 0, none⟩)], .func (.func 34) #[] #[.pointer (some ⟨w.heap.size + 4, 0, none⟩), .pointer (some ⟨w.heap.size + 2, 0, none⟩)]] W2 rfl (by decide) (fun k W => MtRs w W2 W p most wt q A cap h l Aq cq sv A1 A2 A3 n1 k1 n2 k2 n3 k3 k) (fun W => MtRp w W p most wt q A cap h l Aq cq sv A1 A2 A3 n1 k1 n2 k2 n3 k3 ∧ Fr (· = w.heap.size + 4) W2 W) (cond q h l sv) (fun k W r => r.rp.b5) H1.out.1 (fun k W r => ⟨r.rp, r.fr⟩) (fun k hk W r => rs_round HI.out.2.2.1 HI.out.2.2.2.1 HI.out.2.2.2.2.1 HI.out.2.2.2.2.2.2 HI.out.2.2.2.2.2.1 k hk W r)) ?_)
         rintro e w2 hd
         obtain ⟨rfl, hen⟩ : e = .returned (.bool true) ∧ (MtRs w W2 w2 p most wt q A cap h l Aq cq sv A1 A2 A3 n1 k1 n2 k2 n3 k3 5) := by
           rcases hd with ⟨rfl, _, hs⟩ | ⟨rfl, ⟨k, hk, hck⟩, _⟩
           · exact ⟨rfl, hs⟩
           · exfalso
             have := HM.out
             unfold matchB at this
             simp only [Bool.and_eq_true, eq_comm (a := true)] at this
             obtain ⟨t0, t1, t2, t3, t4⟩ := this
             rcases (show k = 0 ∨ k = 1 ∨ k = 2 ∨ k = 3 ∨ k = 4 by omega) with rfl | rfl | rfl | rfl | rfl
             · rw [t0] at hck; cases hck
             · rw [t1] at hck; cases hck
             · rw [t2] at hck; cases hck
             · rw [t3] at hck; cases hck
             · rw [t4] at hck; cases hck
         obtain ⟨X2, e2, o1, o2, o3⟩ := hen.hi (by omega)
         have H2 := Lib.hid (And.intro hen (And.intro o1 (And.intro o2 o3)))
         clear hen hd o1 o2 o3)
      | (refine wpList_load_blk rfl 28 _ rfl (w.heap.size + 4) (by rfl) 28 _ _ H2.out.2.1 Try.underlying28 rfl (by kernel_rfl) ?_)
      | (refine wpList_store_part rfl 28 _ _ rfl (w.heap.size + 3) 0 (by rfl) _ (by rfl) 28 _ H2.out.1.rp.b3 (by kernel_rfl) (by simp [Value.oneCell']) (by simp) #[.int .u16 (q.id : Nat), .string q.q.1, .int .i64 q.q.2.1, .int .i64 q.q.2.2, .int .i64 q.sv, .int .i64 q.tr, .int .i64 q.dl, .slice X2 q.ws.length e2] (by rfl) ?_
         intro w3 b3 f3
         have H3 := Lib.hid (And.intro b3 f3)
         clear b3 f3)
      | fail "no arm")
    have hu : Try.prog.underlying 28 = _ := Try.underlying28
    refine bodyPost_ret (results_cell_tmp Try.results12 H3.out.1 rfl rfl hu rfl (by kernel_rfl)) rfl ?_
    exact ⟨((H1.out.2.step H2.out.1.fr (fun k hk => .inr (by omega))).step H3.out.2 (fun k hk => .inr (by omega))), fun h => (by cases h), fun _ => ⟨X2, e2, rfl, own_fr H2.out.2.2.1 H3.out.2 (fun k hk h => by have := H2.out.2.2.2 k hk; omega), fun k hk => by have := H2.out.2.2.2 k hk; omega⟩⟩
end Go.Proofs.Ytncfdfgcnblicaa
