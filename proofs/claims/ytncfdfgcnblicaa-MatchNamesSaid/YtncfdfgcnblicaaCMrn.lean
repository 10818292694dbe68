/-
  LAYER 25: Reply of no book.
-/
import Derived.Test.YtncfdfgcnblicaaBunO
namespace Go.Proofs.Ytncfdfgcnblicaa
open Go.RowKit
set_option linter.unusedVariables false
set_option linter.unusedSimpArgs false

set_option maxRecDepth 100000 in
set_option maxHeartbeats 4000000 in
theorem mr3_nil (PB M P8 k : Nat) (w : World) (c0 : w.cell? ⟨PB, 0, none⟩ = some (.pointer none)) (c1 : w.cell? ⟨M, 0, none⟩ = some (.int .u16 (k : Nat))) (h8 : Blk w P8 28 #[.int .u16 0, .string ⟨#[]⟩, .int .i64 0, .int .i64 0, .int .i64 0, .int .i64 0, .int .i64 0, .slice none 0 0]) :
    Calls Try.prog 31 #[.pointer (some ⟨PB, 0, none⟩), .pointer (some ⟨M, 0, none⟩), .pointer (some ⟨P8, 0, none⟩)] w fun e w' => e = .returned (.bool false) ∧ Fr (· = P8) w w' := by
  have HB := Lib.hid h8
  clear h8
  go_enter Try.func31, Try.ntmps31
  go_wp2_with (first
    | (go_at_call 32
       (with_reducible refine (bfind_nil k w).mono ?_)
       rintro e w1 ⟨rfl, o3⟩
       have H1 := Lib.hid (And.intro (HB.out.fr o3 id) o3)
       clear o3)
    | (refine wpList_store_part rfl 28 _ _ rfl P8 0 (by rfl) _ (by rfl) 28 _ H1.out.1 (by kernel_rfl) (by simp [Value.oneCell']) (by simp) _ rfl ?_
       intro w3 b3 f3
       have H3 := Lib.hid f3
       clear b3 f3)
    | fail "no arm")
  go_ret
  exact ⟨rfl, (H1.out.2.mono (fun _ _ h => h.elim)).then H3.out⟩
structure Mnl (w W2 W : World) (hid : Nat) (resp : Bool) (op : Int) (h : Hd) (Aq : Option Addr) (nq cq : Nat) (sv : Int) (A1 A2 A3 : Option Addr) (n1 k1 n2 k2 n3 k3 : Nat) : Prop where
  b0 : Blk W w.heap.size 41 #[.pointer none]
  b2 : Blk W (w.heap.size + 2) 37 #[.int .u16 (hid : Nat), .bool resp, .int .i64 op, .bool h.aa, .bool h.tc, .bool h.rd, .bool h.ra, .bool h.ad, .bool h.cd, .int .i64 h.rc, .int .i64 h.c0, .int .i64 h.c1, .int .i64 h.c2, .int .i64 h.c3, .slice Aq nq cq, .slice A1 n1 k1, .slice A2 n2 k2, .slice A3 n3 k3]
  b3 : Blk W (w.heap.size + 3) 28 #[.int .u16 0, .string ⟨#[]⟩, .int .i64 0, .int .i64 0, .int .i64 0, .int .i64 0, .int .i64 0, .slice none 0 0]
  b5 : Blk W (w.heap.size + 5) 79 #[.func (.func 29) #[] #[.pointer (some ⟨w.heap.size + 2, 0, none⟩)], .func (.func 30) #[] #[.pointer (some ⟨w.heap.size + 2, 0, none⟩)], .func (.func 31) #[] #[.pointer (some ⟨w.heap.size, 0, none⟩), .pointer (some ⟨w.heap.size + 2, 0, none⟩), .pointer (some ⟨w.heap.size + 4, 0, none⟩)], .func (.func 33) #[] #[.pointer (some ⟨w.heap.size + 4, 0, none⟩), .pointer (some ⟨w.heap.size + 1, 0, none⟩)], .func (.func 34) #[] #[.pointer (some ⟨w.heap.size + 4, 0, none⟩), .pointer (some ⟨w.heap.size + 2, 0, none⟩)]]
  fr : Fr (· = w.heap.size + 4) W2 W
theorem Mnl.then {w W2 W W' : World} {hid : Nat} {resp : Bool} {op : Int} {h : Hd} {Aq : Option Addr} {nq cq : Nat} {sv : Int} {A1 A2 A3 : Option Addr} {n1 k1 n2 k2 n3 k3 : Nat} (r : Mnl w W2 W hid resp op h Aq nq cq sv A1 A2 A3 n1 k1 n2 k2 n3 k3) (f : Fr (· = w.heap.size + 4) W W') : Mnl w W2 W' hid resp op h Aq nq cq sv A1 A2 A3 n1 k1 n2 k2 n3 k3 :=
  ⟨r.b0.fr f (by omega), r.b2.fr f (by omega), r.b3.fr f (by omega), r.b5.fr f (by omega), r.fr.then f⟩
def ncond (resp : Bool) (op : Int) (nq : Nat) : Nat → Bool
  | 0 => resp && (op == 0)
  | 1 => (nq : Int) == 1
  | _ => false
set_option maxRecDepth 100000 in
set_option maxHeartbeats 8000000 in
theorem mreply_nil (hid : Nat) (resp : Bool) (op : Int) (h : Hd) (Aq : Option Addr) (nq cq : Nat) (sv : Int) (A1 A2 A3 : Option Addr) (n1 k1 n2 k2 n3 k3 : Nat) (w : World) :
    Calls Try.prog 12 #[.pointer none, .int .i64 sv, .agg #[.int .u16 (hid : Nat), .bool resp, .int .i64 op, .bool h.aa, .bool h.tc, .bool h.rd, .bool h.ra, .bool h.ad, .bool h.cd, .int .i64 h.rc, .int .i64 h.c0, .int .i64 h.c1, .int .i64 h.c2, .int .i64 h.c3, .slice Aq nq cq, .slice A1 n1 k1, .slice A2 n2 k2, .slice A3 n3 k3]] w fun e w' => e = .returned (.tuple #[.agg #[.int .u16 0, .string ⟨#[]⟩, .int .i64 0, .int .i64 0, .int .i64 0, .int .i64 0, .int .i64 0, .slice none 0 0], .bool false]) ∧ Fr (fun _ => False) w w' := by
  obtain ⟨V, hV⟩ : ∃ V, V = (((((w.alloc (.cells #[.pointer none] 41)).alloc (.cells #[.int .i64 sv] 3)).alloc (.cells #[.int .u16 (hid : Nat), .bool resp, .int .i64 op, .bool h.aa, .bool h.tc, .bool h.rd, .bool h.ra, .bool h.ad, .bool h.cd, .int .i64 h.rc, .int .i64 h.c0, .int .i64 h.c1, .int .i64 h.c2, .int .i64 h.c3, .slice Aq nq cq, .slice A1 n1 k1, .slice A2 n2 k2, .slice A3 n3 k3] 37)).alloc (.cells #[.int .u16 0, .string ⟨#[]⟩, .int .i64 0, .int .i64 0, .int .i64 0, .int .i64 0, .int .i64 0, .slice none 0 0] 28)).alloc (.cells #[.int .u16 0, .string ⟨#[]⟩, .int .i64 0, .int .i64 0, .int .i64 0, .int .i64 0, .int .i64 0, .slice none 0 0] 28)) := ⟨_, rfl⟩
  have hVs : V.heap.size = w.heap.size + 5 := by rw [hV]; simp only [World.size_alloc]
  have hf : Fr (fun _ => False) w V := by rw [hV]; exact (((((Fr.refl _ _).alloc _).alloc _).alloc _).alloc _).alloc _
  have v0 : Blk V (w.heap.size + 0) 41 #[.pointer none] := by
    rw [hV]
    have := Blk.new w 41 #[.pointer none]
    skip
    exact ((((this.alloc _).alloc _).alloc _).alloc _)
  have v2 : Blk V (w.heap.size + 2) 37 #[.int .u16 (hid : Nat), .bool resp, .int .i64 op, .bool h.aa, .bool h.tc, .bool h.rd, .bool h.ra, .bool h.ad, .bool h.cd, .int .i64 h.rc, .int .i64 h.c0, .int .i64 h.c1, .int .i64 h.c2, .int .i64 h.c3, .slice Aq nq cq, .slice A1 n1 k1, .slice A2 n2 k2, .slice A3 n3 k3] := by
    rw [hV]
    have := Blk.new ((w.alloc (.cells #[.pointer none] 41)).alloc (.cells #[.int .i64 sv] 3)) 37 #[.int .u16 (hid : Nat), .bool resp, .int .i64 op, .bool h.aa, .bool h.tc, .bool h.rd, .bool h.ra, .bool h.ad, .bool h.cd, .int .i64 h.rc, .int .i64 h.c0, .int .i64 h.c1, .int .i64 h.c2, .int .i64 h.c3, .slice Aq nq cq, .slice A1 n1 k1, .slice A2 n2 k2, .slice A3 n3 k3]
    rw [World.size_alloc, World.size_alloc] at this
    exact ((this.alloc _).alloc _)
  have v3 : Blk V (w.heap.size + 3) 28 #[.int .u16 0, .string ⟨#[]⟩, .int .i64 0, .int .i64 0, .int .i64 0, .int .i64 0, .int .i64 0, .slice none 0 0] := by
    rw [hV]
    have := Blk.new (((w.alloc (.cells #[.pointer none] 41)).alloc (.cells #[.int .i64 sv] 3)).alloc (.cells #[.int .u16 (hid : Nat), .bool resp, .int .i64 op, .bool h.aa, .bool h.tc, .bool h.rd, .bool h.ra, .bool h.ad, .bool h.cd, .int .i64 h.rc, .int .i64 h.c0, .int .i64 h.c1, .int .i64 h.c2, .int .i64 h.c3, .slice Aq nq cq, .slice A1 n1 k1, .slice A2 n2 k2, .slice A3 n3 k3] 37)) 28 #[.int .u16 0, .string ⟨#[]⟩, .int .i64 0, .int .i64 0, .int .i64 0, .int .i64 0, .int .i64 0, .slice none 0 0]
    rw [World.size_alloc, World.size_alloc, World.size_alloc] at this
    exact (this.alloc _)
  have v4 : Blk V (w.heap.size + 4) 28 #[.int .u16 0, .string ⟨#[]⟩, .int .i64 0, .int .i64 0, .int .i64 0, .int .i64 0, .int .i64 0, .slice none 0 0] := by
    rw [hV]
    have := Blk.new ((((w.alloc (.cells #[.pointer none] 41)).alloc (.cells #[.int .i64 sv] 3)).alloc (.cells #[.int .u16 (hid : Nat), .bool resp, .int .i64 op, .bool h.aa, .bool h.tc, .bool h.rd, .bool h.ra, .bool h.ad, .bool h.cd, .int .i64 h.rc, .int .i64 h.c0, .int .i64 h.c1, .int .i64 h.c2, .int .i64 h.c3, .slice Aq nq cq, .slice A1 n1 k1, .slice A2 n2 k2, .slice A3 n3 k3] 37)).alloc (.cells #[.int .u16 0, .string ⟨#[]⟩, .int .i64 0, .int .i64 0, .int .i64 0, .int .i64 0, .int .i64 0, .slice none 0 0] 28)) 28 #[.int .u16 0, .string ⟨#[]⟩, .int .i64 0, .int .i64 0, .int .i64 0, .int .i64 0, .int .i64 0, .slice none 0 0]
    rw [World.size_alloc, World.size_alloc, World.size_alloc, World.size_alloc] at this
    exact this
  have HV := Lib.hid hV
  have HB := Lib.hid (And.intro v0 (And.intro v2 (And.intro v3 (And.intro v4 (And.intro hf hVs)))))
  clear v0 v2 v3 v4 hf hV hVs
  go_enter Try.func12, Try.ntmps12
  go_upto_region 2 with fail
  rw [← HV.out]
  simp only [Nat.add_assoc, Nat.reduceAdd]
  go_upto_region 3 with (first
    | (refine wpList_store_part rfl 79 _ _ rfl V.heap.size 0 (by rfl) _ (by rfl) 79 _ (Blk.new V 79 _) (by kernel_rfl) (by simp [Value.oneCell']) (by simp) #[.func (.func 29) #[] #[.pointer (some ⟨w.heap.size + 2, 0, none⟩)], .func (.func 30) #[] #[.pointer (some ⟨w.heap.size + 2, 0, none⟩)], .func (.func 31) #[] #[.pointer (some ⟨w.heap.size, 0, none⟩), .pointer (some ⟨w.heap.size + 2, 0, none⟩), .pointer (some ⟨w.heap.size + 4, 0, none⟩)], .func (.func 33) #[] #[.pointer (some ⟨w.heap.size + 4, 0, none⟩), .pointer (some ⟨w.heap.size + 1, 0, none⟩)], .func (.func 34) #[] #[.pointer (some ⟨w.heap.size + 4, 0, none⟩), .pointer (some ⟨w.heap.size + 2, 0, none⟩)]] (by rfl) ?_
       intro W2 b2 f2
       have f22 : Fr (fun _ => False) V W2 := ((Fr.refl (fun _ => False) V).alloc _).step f2 (fun k hk => .inr (by subst hk; exact Nat.le_refl _))
       rw [HB.out.2.2.2.2.2] at b2
       have hrs : Mnl w W2 W2 hid resp op h Aq nq cq sv A1 A2 A3 n1 k1 n2 k2 n3 k3 := ⟨HB.out.1.fr f22 id, HB.out.2.1.fr f22 id, HB.out.2.2.1.fr f22 id, b2, Fr.refl _ _⟩
       have H1 := Lib.hid (And.intro hrs (And.intro (HB.out.2.2.2.1.fr f22 id) (HB.out.2.2.2.2.1.then f22)))
       clear hrs b2 f2 f22)
    | fail "no arm")
  rw [HB.out.2.2.2.2.2]
  have hrd : ∀ k, k < 5 → ∀ W, (k ≤ 2 ∧ Mnl w W2 W hid resp op h Aq nq cq sv A1 A2 A3 n1 k1 n2 k2 n3 k3 ∧ Blk W (w.heap.size + 4) 28 #[.int .u16 0, .string ⟨#[]⟩, .int .i64 0, .int .i64 0, .int .i64 0, .int .i64 0, .int .i64 0, .slice none 0 0]) →
      ∃ fn caps, (#[.func (.func 29) #[] #[.pointer (some ⟨w.heap.size + 2, 0, none⟩)], .func (.func 30) #[] #[.pointer (some ⟨w.heap.size + 2, 0, none⟩)], .func (.func 31) #[] #[.pointer (some ⟨w.heap.size, 0, none⟩), .pointer (some ⟨w.heap.size + 2, 0, none⟩), .pointer (some ⟨w.heap.size + 4, 0, none⟩)], .func (.func 33) #[] #[.pointer (some ⟨w.heap.size + 4, 0, none⟩), .pointer (some ⟨w.heap.size + 1, 0, none⟩)], .func (.func 34) #[] #[.pointer (some ⟨w.heap.size + 4, 0, none⟩), .pointer (some ⟨w.heap.size + 2, 0, none⟩)]] : Array Value)[k]? = some (.func (.func fn) #[] caps) ∧ (∀ w, (callFunc fn caps).run Try.prog w = .ok (.enter fn caps) w) ∧ Calls Try.prog fn caps W fun e w' => e = .returned (.bool (ncond resp op nq k)) ∧ (ncond resp op nq k = true → (k + 1 ≤ 2 ∧ Mnl w W2 w' hid resp op h Aq nq cq sv A1 A2 A3 n1 k1 n2 k2 n3 k3 ∧ Blk w' (w.heap.size + 4) 28 #[.int .u16 0, .string ⟨#[]⟩, .int .i64 0, .int .i64 0, .int .i64 0, .int .i64 0, .int .i64 0, .slice none 0 0])) ∧ Mnl w W2 w' hid resp op h Aq nq cq sv A1 A2 A3 n1 k1 n2 k2 n3 k3 := by
    rintro k hk W ⟨hk2, r, r4⟩
    rcases (show k = 0 ∨ k = 1 ∨ k = 2 by omega) with rfl | rfl | rfl
    · refine ⟨29, _, rfl, fun w => (by kernel_rfl), (mr1_any (w.heap.size + 2) resp op W (r.b2.cell 1) (r.b2.cell 2)).mono ?_⟩
      rintro e w1 ⟨rfl, rfl⟩
      exact ⟨rfl, fun _ => ⟨by omega, r, r4⟩, r⟩
    · refine ⟨30, _, rfl, fun w => (by kernel_rfl), (mr2_any (w.heap.size + 2) nq cq Aq W (r.b2.cell 14)).mono ?_⟩
      rintro e w1 ⟨rfl, rfl⟩
      exact ⟨rfl, fun _ => ⟨by omega, r, r4⟩, r⟩
    · refine ⟨31, _, rfl, fun w => (by kernel_rfl), (mr3_nil w.heap.size (w.heap.size + 2) (w.heap.size + 4) hid W (r.b0.cell 0) (r.b2.cell 0) r4).mono ?_⟩
      rintro e w1 ⟨rfl, f1⟩
      exact ⟨rfl, fun h => (by cases h), r.then f1⟩
  have HRD := Lib.hid hrd
  clear hrd
  go_wp2_with (first
    | (go_at_call 35
       (refine Calls.mono (all_any (w.heap.size + 5) 5 5 79 #[.func (.func 29) #[] #[.pointer (some ⟨w.heap.size + 2, 0, none⟩)], .func (.func 30) #[] #[.pointer (some ⟨w.heap.size + 2, 0, none⟩)], .func (.func 31) #[] #[.pointer (some ⟨w.heap.size, 0, none⟩), .pointer (some ⟨w.heap.size + 2, 0, none⟩), .pointer (some ⟨w.heap.size + 4, 0, none⟩)], .func (.func 33) #[] #[.pointer (some ⟨w.heap.size + 4, 0, none⟩), .pointer (some ⟨w.heap.size + 1, 0, none⟩)], .func (.func 34) #[] #[.pointer (some ⟨w.heap.size + 4, 0, none⟩), .pointer (some ⟨w.heap.size + 2, 0, none⟩)]] W2 rfl (by decide) (fun k W => k ≤ 2 ∧ Mnl w W2 W hid resp op h Aq nq cq sv A1 A2 A3 n1 k1 n2 k2 n3 k3 ∧ Blk W (w.heap.size + 4) 28 #[.int .u16 0, .string ⟨#[]⟩, .int .i64 0, .int .i64 0, .int .i64 0, .int .i64 0, .int .i64 0, .slice none 0 0]) (fun W => Mnl w W2 W hid resp op h Aq nq cq sv A1 A2 A3 n1 k1 n2 k2 n3 k3) (ncond resp op nq) (fun k W r => r.2.1.b5) ⟨Nat.zero_le _, H1.out.1, H1.out.2.1⟩ (fun k W r => r.2.1) (fun k hk W r => HRD.out k hk W r)) ?_)
       rintro e w2 hd
       obtain ⟨rfl, hen⟩ : e = .returned (.bool false) ∧ Mnl w W2 w2 hid resp op h Aq nq cq sv A1 A2 A3 n1 k1 n2 k2 n3 k3 := by
         rcases hd with ⟨rfl, ha, _⟩ | ⟨rfl, _, hen⟩
         · have h2 := ha 2 (by decide)
           cases h2
         · exact ⟨rfl, hen⟩
       have H2 := Lib.hid hen
       clear hd hen)
    | (refine wpList_store_part rfl 28 _ _ rfl (w.heap.size + 3) 0 (by rfl) _ (by rfl) 28 _ H2.out.b3 (by kernel_rfl) (by simp [Value.oneCell']) (by simp) #[.int .u16 0, .string ⟨#[]⟩, .int .i64 0, .int .i64 0, .int .i64 0, .int .i64 0, .int .i64 0, .slice none 0 0] (by rfl) ?_
       intro w3 b3 f3
       have H3 := Lib.hid (And.intro b3 f3)
       clear b3 f3)
    | fail "no arm")
  have hu : Try.prog.underlying 28 = _ := Try.underlying28
  refine bodyPost_ret (results_cell_tmp Try.results12 H3.out.1 rfl rfl hu rfl (by kernel_rfl)) rfl ?_
  exact ⟨rfl, (H1.out.2.2.step H2.out.fr (fun k hk => .inr (by omega))).step H3.out.2 (fun k hk => .inr (by omega))⟩
end Go.Proofs.Ytncfdfgcnblicaa
