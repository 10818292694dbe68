/-
  LAYER 7: a new packer; a packer that nobody made; the chapter's example.
-/
import Derived.Test.YtbemackcdccpaaaPpn
import Derived.Test.YtbemackcdccpaaaUnpbk
namespace Go.Proofs.Ytbemackcdccpaaa
open Go.RowKit Go.Maps

def PPkNew (w : World) (m : Int) (e : Ending) (w' : World) : Prop :=
  ∃ q F, e = .returned (.pointer (some ⟨q, 0, none⟩)) ∧ PPk w' q F ⟨⟨[], max 0 m, 0⟩, fun _ => none⟩ [] ∧ Fr (fun _ => False) w w' ∧ ∀ k, F k → w.heap.size ≤ k
set_option maxRecDepth 100000 in
set_option maxHeartbeats 1000000 in
theorem pnew_any (m : Int) (hm : m ≤ 65535) (w : World) : Calls Try.prog 59 #[.int .i64 m] w (PPkNew w m) := by
  have hmm := @run_makeMap Try.prog
  go_enter Try.func59, Try.ntmps59
  go_wp2_with fail
  all_goals first
    | (exfalso; omega)
    | (refine (newWriter_c _ (by omega) _).mono ?_
       rintro e w1 ⟨p, G, rfl, h1, h2, h3⟩
       have HN := Lib.hid (And.intro h1 (And.intro h2 h3))
       clear h1 h2 h3
       go_wp2_with fail
       go_ret
       have hblk := Blk.new (w1.alloc (.map #[] 0)) 132 #[.pointer (some ⟨p, 0, none⟩), .map (some w1.heap.size), .slice none 0 0]
       rw [show (w1.alloc (.map #[] 0)).heap.size = w1.heap.size + 1 by simp] at hblk
       have hfr : Fr (fun _ => False) w1 ((w1.alloc (.map #[] 0)).alloc (.cells #[.pointer (some ⟨p, 0, none⟩), .map (some w1.heap.size), .slice none 0 0] 132)) := ((Fr.refl _ w1).alloc _).alloc _
       have hmp := (MapIs.made w1).fr (S := fun _ => False) ((Fr.refl _ _).alloc (.cells #[.pointer (some ⟨p, 0, none⟩), .map (some w1.heap.size), .slice none 0 0] 132)) id
       have hlt := HN.out.1.lt
       refine ⟨w1.heap.size + 1, fun k => G k ∨ k = w1.heap.size ∨ k = w1.heap.size + 1, rfl, ⟨0, Nat.zero_le _, p, G, w1.heap.size, none, 0, hblk, HN.out.1.fr hfr (fun _ _ h => h), hmp, own_nil _ _ _,
         ⟨fun h => by have := hlt _ h; omega, fun h => by have := hlt _ h; omega, by omega, rowOf_none _, fun k hk => absurd hk (rowOf_none k)⟩, .inr (.inr rfl), .inr (.inl rfl), fun k hk => .inl hk, fun k hk => absurd hk (rowOf_none k), ?_⟩, HN.out.2.1.then hfr, ?_⟩
       · rintro k (hk | rfl | rfl)
         · exact Nat.lt_of_lt_of_le (hlt k hk) hfr.size
         · simp; omega
         · simp
       · rintro k (hk | rfl | rfl)
         · exact HN.out.2.2 k hk
         · exact HN.out.2.1.size
         · exact Nat.le_succ_of_le HN.out.2.1.size)

set_option maxHeartbeats 1000000 in
theorem perr_nil (w : World) : Calls Try.prog 73 #[.pointer none] w fun e w' => e = .returned (.int .i64 1) ∧ w = w' := by
  go_enter Try.func73, Try.ntmps73
  go_wp2_with fail
  go_ret
  exact ⟨rfl, rfl⟩
set_option maxHeartbeats 1000000 in
theorem plen_nil (w : World) : Calls Try.prog 63 #[.pointer none] w fun e w' => e = .returned (.int .i64 0) ∧ w = w' := by
  go_enter Try.func63, Try.ntmps63
  go_wp2_with fail
  go_ret
  exact ⟨rfl, rfl⟩
set_option maxHeartbeats 1000000 in
theorem ptext_nil (w : World) : Calls Try.prog 62 #[.pointer none] w fun e w' => e = .returned (.string ⟨#[]⟩) ∧ w = w' := by
  go_enter Try.func62, Try.ntmps62
  go_wp2_with fail
  go_ret
  exact ⟨rfl, rfl⟩
set_option maxHeartbeats 1000000 in
theorem pput_nil (s : ByteArray) (w : World) : Calls Try.prog 69 #[.pointer none, .string s] w fun e w' => e = .returned (.int .i64 1) ∧ w = w' := by
  go_enter Try.func69, Try.ntmps69
  go_wp2_with fail
  go_ret
  exact ⟨rfl, rfl⟩
set_option maxHeartbeats 1000000 in
theorem pnumber_nil (v n : Int) (w : World) : Calls Try.prog 76 #[.pointer none, .int .u32 v, .int .i64 n] w fun e w' => e = .returned (.int .i64 1) ∧ w = w' := by
  go_enter Try.func76, Try.ntmps76
  go_wp2_with fail
  go_ret
  exact ⟨rfl, rfl⟩
set_option maxHeartbeats 1000000 in
theorem pbegin_nil (w : World) : Calls Try.prog 74 #[.pointer none] w fun e w' => e = .returned (.tuple #[.int .i64 0, .int .i64 1]) ∧ w = w' := by
  go_enter Try.func74, Try.ntmps74
  go_wp2_with fail
  go_ret2
  exact ⟨rfl, rfl⟩
set_option maxHeartbeats 1000000 in
theorem pend_nil (n : Int) (w : World) : Calls Try.prog 75 #[.pointer none, .int .i64 n] w fun e w' => e = .returned (.int .i64 1) ∧ w = w' := by
  go_enter Try.func75, Try.ntmps75
  go_wp2_with fail
  refine (perr_nil _).mono ?_
  rintro e w' ⟨rfl, rfl⟩
  go_wp2_with fail
  go_ret
  exact ⟨rfl, rfl⟩
set_option maxHeartbeats 1000000 in
theorem ready_nil (s : ByteArray) (w : World) : Calls Try.prog 86 #[.pointer none, .string s] w fun e w' => e = .returned (.int .i64 1) ∧ w = w' := by
  go_enter Try.func86, Try.ntmps86
  go_wp2_with fail
  refine (perr_nil _).mono ?_
  rintro e w' ⟨rfl, rfl⟩
  go_wp2_with fail
  go_ret
  exact ⟨rfl, rfl⟩
set_option maxHeartbeats 1000000 in
theorem pname_nil (s : ByteArray) (w : World) : Calls Try.prog 61 #[.pointer none, .string s] w fun e w' => e = .returned (.int .i64 1) ∧ w = w' := by
  go_enter Try.func61, Try.ntmps61
  go_wp2_with fail
  refine (ready_nil s _).mono ?_
  rintro e w' ⟨rfl, rfl⟩
  go_wp2_with fail
  go_ret
  exact ⟨rfl, rfl⟩
set_option maxHeartbeats 1000000 in
theorem pplain_nil (s : ByteArray) (w : World) : Calls Try.prog 60 #[.pointer none, .string s] w fun e w' => e = .returned (.int .i64 1) ∧ w = w' := by
  go_enter Try.func60, Try.ntmps60
  go_wp2_with fail
  refine (ready_nil s _).mono ?_
  rintro e w' ⟨rfl, rfl⟩
  go_wp2_with fail
  go_ret
  exact ⟨rfl, rfl⟩

/-! ### Closed examples are reckoned. -/
def pkF : Nat → Pk → List UInt8 → Option (Pk × Int)
  | 0, _, _ => none
  | k + 1, p, n =>
    if n = [] then some ({ p with x := (p.x.put [0]).1 }, (p.x.put [0]).2)
    else match p.get n with
    | some a => some ({ p with x := (p.x.number (49152 + a) 2).1 }, (p.x.number (49152 + a) 2).2)
    | none =>
      if (p.x.put (n.take (1 + oc n 0))).2 = 0 then pkF k ⟨(p.x.put (n.take (1 + oc n 0))).1, updAt p.get n p.x.b.length⟩ (n.drop (1 + oc n 0))
      else some ({ p with x := (p.x.put (n.take (1 + oc n 0))).1 }, (p.x.put (n.take (1 + oc n 0))).2)
theorem pkF_eq : ∀ (k : Nat) {p : Pk} {n : List UInt8} {r : Pk × Int}, pkF k p n = some r → p.rest n = r
  | 0, _, _, _, h => by cases h
  | k + 1, p, n, r, h => by
    rw [pkF] at h
    by_cases hn : n = []
    · subst hn
      rw [if_pos rfl] at h
      rw [Pk.rest_nil]
      exact Option.some.inj h
    · rw [if_neg hn] at h
      cases hg : p.get n with
      | some a =>
        rw [hg] at h
        rw [Pk.rest_some hn hg]
        exact Option.some.inj h
      | none =>
        rw [hg] at h
        dsimp only at h
        by_cases h0 : (p.x.put (n.take (1 + oc n 0))).2 = 0
        · rw [if_pos h0] at h
          rw [Pk.rest_go hn hg h0]
          exact pkF_eq k h
        · rw [if_neg h0] at h
          rw [Pk.rest_stop hn hg h0]
          exact Option.some.inj h
def ckF : Nat → List UInt8 → Nat → Option Int
  | 0, _, _ => none
  | k + 1, s, a => if s.length ≤ a then some 0 else if oc s a < 1 ∨ 63 < oc s a ∨ s.length < a + 1 + oc s a then some 4 else ckF k s (a + 1 + oc s a)
theorem ckF_eq : ∀ (k : Nat) {s : List UInt8} {a : Nat} {r : Int}, ckF k s a = some r → ckAt s a = r
  | 0, _, _, _, h => by cases h
  | k + 1, s, a, r, h => by
    rw [ckF] at h
    rw [ckAt]
    split at h
    · rename_i h1
      rw [if_pos h1]
      exact Option.some.inj h
    · rename_i h1
      rw [if_neg h1]
      split at h
      · rename_i h2
        rw [if_pos h2]
        exact Option.some.inj h
      · rename_i h2
        rw [if_neg h2]
        exact ckF_eq k h
theorem ckN_eq (k : Nat) {s : ByteArray} {r : Int} (h0 : decide (254 < s.size) = false) (h : ckF k s.data.toList 0 = some r) : ckN s = r := by
  unfold ckN
  rw [if_neg (of_decide_eq_false h0)]
  exact ckF_eq k h
theorem name_eq (k : Nat) {y : Pk} {n : ByteArray} {r : Pk × Int} (he : y.x.e = 0) (h0 : decide (254 < n.size) = false) (hc : ckF k n.data.toList 0 = some 0) (h : pkF k y n.data.toList = some r) : y.name n = r := by
  unfold Pk.name
  rw [if_neg (by simp [he]), if_neg (by simp [ckN_eq k h0 hc])]
  exact pkF_eq k h

def live1 : Pk := ⟨⟨[1, 97, 1, 98, 0], 99, 0⟩, updAt (updAt (fun _ => none) [1, 97, 1, 98] 0) [1, 98] 2⟩
def live2 : Pk := ⟨⟨[1, 97, 1, 98, 0, 1, 99, 192, 2], 99, 0⟩, updAt live1.get [1, 99, 1, 98] 5⟩
def live3 : Pk := ⟨⟨[1, 97, 1, 98, 0, 1, 99, 192, 2, 192, 0], 99, 0⟩, live2.get⟩
theorem live1_eq : Pk.name ⟨⟨[], max 0 99, 0⟩, fun _ => none⟩ ⟨#[1, 97, 1, 98]⟩ = (live1, 0) := name_eq 9 rfl (by kernel_rfl) (by kernel_rfl) (by kernel_rfl)
theorem live2_eq : live1.name ⟨#[1, 99, 1, 98]⟩ = (live2, 0) := name_eq 9 rfl (by kernel_rfl) (by kernel_rfl) (by kernel_rfl)
theorem live3_eq : live2.name ⟨#[1, 97, 1, 98]⟩ = (live3, 0) := name_eq 9 rfl (by kernel_rfl) (by kernel_rfl) (by kernel_rfl)

set_option maxRecDepth 100000 in
set_option maxHeartbeats 4000000 in
theorem lives7_any (w : World) :
    Calls Try.prog 58 #[] w fun e w' => e = .returned (.bool true) ∧ Fr (fun _ => False) w w' := by
  go_enter Try.func58, Try.ntmps58
  go_wp2_with fail
  refine (pnew_any 99 (by decide) _).mono ?_
  rintro e w1 ⟨q, F, rfl, h1, h2, h3⟩
  have H1 := Lib.hid (And.intro h1 (And.intro h2 h3))
  clear h1 h2 h3
  go_wp2_with fail
  refine (pname_any q F _ [] ⟨#[1, 97, 1, 98]⟩ _ H1.out.1 (by decide)).mono ?_
  rintro e w2 ⟨rfl, F2, g1, g2, g3⟩
  rw [live1_eq] at g1 ⊢
  have H2 : Hid (PPk w2 q F2 live1 [] ∧ Fr (fun _ => False) w w2 ∧ ∀ k, F2 k → w.heap.size ≤ k) :=
    ⟨g1, H1.out.2.1.trans g2 fun i hi h => by have := H1.out.2.2 i h; omega, fun k hk => (g3 k hk).elim (H1.out.2.2 k) fun h => Nat.le_trans H1.out.2.1.size h⟩
  clear g1 g2 g3
  go_wp2_with fail
  refine (pname_any q F2 _ [] ⟨#[1, 99, 1, 98]⟩ _ H2.out.1 (by decide)).mono ?_
  rintro e w3 ⟨rfl, F3, g1, g2, g3⟩
  rw [live2_eq] at g1 ⊢
  have H3 : Hid (PPk w3 q F3 live2 [] ∧ Fr (fun _ => False) w w3 ∧ ∀ k, F3 k → w.heap.size ≤ k) :=
    ⟨g1, H2.out.2.1.trans g2 fun i hi h => by have := H2.out.2.2 i h; omega, fun k hk => (g3 k hk).elim (H2.out.2.2 k) fun h => Nat.le_trans H2.out.2.1.size h⟩
  clear g1 g2 g3
  go_wp2_with fail
  refine (pname_any q F3 _ [] ⟨#[1, 97, 1, 98]⟩ _ H3.out.1 (by decide)).mono ?_
  rintro e w4 ⟨rfl, F4, g1, g2, g3⟩
  rw [live3_eq] at g1 ⊢
  have H4 : Hid (PPk w4 q F4 live3 [] ∧ Fr (fun _ => False) w w4 ∧ ∀ k, F4 k → w.heap.size ≤ k) :=
    ⟨g1, H3.out.2.1.trans g2 fun i hi h => by have := H3.out.2.2 i h; omega, fun k hk => (g3 k hk).elim (H3.out.2.2 k) fun h => Nat.le_trans H3.out.2.1.size h⟩
  clear g1 g2 g3
  go_wp2_with fail
  refine (ptext_any q F4 _ [] _ H4.out.1).mono ?_
  rintro e w' ⟨rfl, rfl⟩
  simp only [live3]
  go_wp2_with fail
  go_ret
  exact ⟨rfl, H4.out.2.1⟩

set_option maxRecDepth 100000 in
set_option maxHeartbeats 4000000 in
theorem packNil_walk (n : ByteArray) (v k : Int) (s : ByteArray) (w : World) (_b0 : n.size ≤ maxLen) (_b1 : 0 ≤ v ∧ v ≤ 4294967295) (_b2 : -9223372036854775808 ≤ k ∧ k ≤ 9223372036854775807) (_b3 : s.size ≤ maxLen) :
    Calls Try.prog 22 #[.string n, .int .u32 v, .int .i64 k, .string s] w fun e w' => e = .returned (.bool true) ∧ Below w.heap.size w w' := by
  go_enter Try.func22, Try.ntmps22
  go_wp2_with fail
  refine (lives7_any _).mono ?_
  rintro e w1 ⟨rfl, f1⟩
  have F1 := Lib.hid f1
  clear f1
  go_wp2_with (first
    | (go_at_call 74; refine (pbegin_nil _).mono ?_; rintro e w' ⟨rfl, rfl⟩)
    | (go_at_call 61; refine (pname_nil n _).mono ?_; rintro e w' ⟨rfl, rfl⟩)
    | (go_at_call 60; refine (pplain_nil n _).mono ?_; rintro e w' ⟨rfl, rfl⟩)
    | (go_at_call 76; refine (pnumber_nil v k _).mono ?_; rintro e w' ⟨rfl, rfl⟩)
    | (go_at_call 69; refine (pput_nil s _).mono ?_; rintro e w' ⟨rfl, rfl⟩)
    | (go_at_call 75; refine (pend_nil k _).mono ?_; rintro e w' ⟨rfl, rfl⟩)
    | (go_at_call 63; refine (plen_nil _).mono ?_; rintro e w' ⟨rfl, rfl⟩)
    | (go_at_call 62; refine (ptext_nil _).mono ?_; rintro e w' ⟨rfl, rfl⟩)
    | (go_at_call 73; refine (perr_nil _).mono ?_; rintro e w' ⟨rfl, rfl⟩))
  go_ret
  exact ⟨rfl, F1.out.below (fun _ h => h.elim) (Nat.le_refl _)⟩
end Go.Proofs.Ytbemackcdccpaaa
