/-
  LAYER 25: MatchNames, walked.
-/
import Derived.Test.YtncfdfgcnblicaaCMrn
import Derived.Test.YtncfdfgcnblicaaBunR
import Derived.Test.YtncfdfgcnblicaaBunQ
namespace Go.Proofs.Ytncfdfgcnblicaa
open Go.RowKit
set_option linter.unusedVariables false
set_option linter.unusedSimpArgs false

theorem replyG (idn : Nat) (x : UInt8) (w : World) : Calls Try.prog 11 #[.int .u16 (idn : Nat), .agg #[.string ⟨#[1, x]⟩, .int .i64 1, .int .i64 1]] w fun e w' => ∃ g, e = .returned (.agg #[.int .u16 (idn : Nat), .bool true, .int .i64 0, .bool false, .bool false, .bool true, .bool false, .bool false, .bool false, .int .i64 0, .int .i64 1, .int .i64 0, .int .i64 0, .int .i64 0, .slice (some ⟨g, 0, none⟩) 1 1, .slice none 0 0, .slice none 0 0, .slice none 0 0]) ∧ Blk w' g 25 #[.string ⟨#[1, x]⟩, .int .i64 1, .int .i64 1] ∧ w.heap.size ≤ g ∧ Fr (fun _ => False) w w' :=
  lreply_any idn (⟨#[1, x]⟩, 1, 1) w
theorem matchG_not (b : Nat) (A' : Option Addr) (c' g idn : Nat) (resp : Bool) (op : Int) (x : UInt8) (k : Nat) (w : World) (hk : BkO w b 4 4 q25 A' c') (hb : Blk w g 25 #[.string ⟨#[1, x]⟩, .int .i64 1, .int .i64 1]) (hid : idn < 65536)
    (hk5 : k < 5) (hc : cond q25 ⟨(idn : Nat), resp, op, false, false, true, false, false, false, 0, 1, 0, 0, 0⟩ [(⟨#[1, x]⟩, 1, 1)] 0 k = false) :
    Calls Try.prog 12 #[.pointer (some ⟨b, 0, none⟩), .int .i64 0, .agg #[.int .u16 (idn : Nat), .bool resp, .int .i64 op, .bool false, .bool false, .bool true, .bool false, .bool false, .bool false, .int .i64 0, .int .i64 1, .int .i64 0, .int .i64 0, .int .i64 0, .slice (some ⟨g, 0, none⟩) 1 1, .slice none 0 0, .slice none 0 0, .slice none 0 0]] w fun e w' => e = .returned (.tuple #[.agg #[.int .u16 0, .string ⟨#[]⟩, .int .i64 0, .int .i64 0, .int .i64 0, .int .i64 0, .int .i64 0, .slice none 0 0], .bool false]) ∧ Fr (fun _ => False) w w' := by
  have := mreply_any b 4 4 q25 A' c' ⟨(idn : Nat), resp, op, false, false, true, false, false, false, 0, 1, 0, 0, 0⟩ [(⟨#[1, x]⟩, 1, 1)] (some ⟨g, 0, none⟩) 1 0 none none none 0 0 0 0 0 0 w hk (rowIn_blk hb) (fun y hy => by rw [List.mem_singleton.1 hy]; exact ⟨by show 2 ≤ 1048576; decide, by unfold i64k; dsimp only; omega, by unfold i64k; dsimp only; omega⟩) okq25 ⟨by dsimp only; omega, by dsimp only; omega⟩ (fun _ => ⟨g, 0, rfl⟩) (fun k hk => by obtain ⟨a, ha, rfl⟩ := hk; injection ha with ha; subst ha; exact hb.lt)
  refine Calls.mono this ?_
  rintro e w' ⟨f, hn, _⟩
  exact ⟨hn (match_not k hk5 hc), f⟩
theorem sq25b : sameQ (⟨#[1, 97]⟩, 1, 1) (⟨#[1, 98]⟩, 1, 1) = false := by
  unfold sameQ
  rw [decide_eq_false (p := keyQ ⟨#[1, 97]⟩ 1 1 = keyQ ⟨#[1, 98]⟩ 1 1) (of_decide_eq_false (by kernel_rfl)), Bool.and_false, Bool.and_false]
theorem mG8 (b : Nat) (A' : Option Addr) (c' g : Nat) (w : World) (hk : BkO w b 4 4 q25 A' c') (hb : Blk w g 25 #[.string ⟨#[1, 97]⟩, .int .i64 1, .int .i64 1]) :
    Calls Try.prog 12 #[.pointer (some ⟨b, 0, none⟩), .int .i64 0, .agg #[.int .u16 8, .bool true, .int .i64 0, .bool false, .bool false, .bool true, .bool false, .bool false, .bool false, .int .i64 0, .int .i64 1, .int .i64 0, .int .i64 0, .int .i64 0, .slice (some ⟨g, 0, none⟩) 1 1, .slice none 0 0, .slice none 0 0, .slice none 0 0]] w fun e w' => e = .returned (.tuple #[.agg #[.int .u16 0, .string ⟨#[]⟩, .int .i64 0, .int .i64 0, .int .i64 0, .int .i64 0, .int .i64 0, .slice none 0 0], .bool false]) ∧ Fr (fun _ => False) w w' :=
  matchG_not b A' c' g 8 true 0 97 2 w hk hb (by decide) (by decide) rfl
theorem mGb (b : Nat) (A' : Option Addr) (c' g : Nat) (w : World) (hk : BkO w b 4 4 q25 A' c') (hb : Blk w g 25 #[.string ⟨#[1, 98]⟩, .int .i64 1, .int .i64 1]) :
    Calls Try.prog 12 #[.pointer (some ⟨b, 0, none⟩), .int .i64 0, .agg #[.int .u16 7, .bool true, .int .i64 0, .bool false, .bool false, .bool true, .bool false, .bool false, .bool false, .int .i64 0, .int .i64 1, .int .i64 0, .int .i64 0, .int .i64 0, .slice (some ⟨g, 0, none⟩) 1 1, .slice none 0 0, .slice none 0 0, .slice none 0 0]] w fun e w' => e = .returned (.tuple #[.agg #[.int .u16 0, .string ⟨#[]⟩, .int .i64 0, .int .i64 0, .int .i64 0, .int .i64 0, .int .i64 0, .slice none 0 0], .bool false]) ∧ Fr (fun _ => False) w w' :=
  matchG_not b A' c' g 7 true 0 98 4 w hk hb (by decide) (by decide) (by show sameQ q25.q (⟨#[1, 98]⟩, 1, 1) = false; exact sq25b)
theorem mGo (b : Nat) (A' : Option Addr) (c' g : Nat) (w : World) (hk : BkO w b 4 4 q25 A' c') (hb : Blk w g 25 #[.string ⟨#[1, 97]⟩, .int .i64 1, .int .i64 1]) :
    Calls Try.prog 12 #[.pointer (some ⟨b, 0, none⟩), .int .i64 0, .agg #[.int .u16 7, .bool true, .int .i64 1, .bool false, .bool false, .bool true, .bool false, .bool false, .bool false, .int .i64 0, .int .i64 1, .int .i64 0, .int .i64 0, .int .i64 0, .slice (some ⟨g, 0, none⟩) 1 1, .slice none 0 0, .slice none 0 0, .slice none 0 0]] w fun e w' => e = .returned (.tuple #[.agg #[.int .u16 0, .string ⟨#[]⟩, .int .i64 0, .int .i64 0, .int .i64 0, .int .i64 0, .int .i64 0, .slice none 0 0], .bool false]) ∧ Fr (fun _ => False) w w' :=
  matchG_not b A' c' g 7 true 1 97 0 w hk hb (by decide) (by decide) rfl
theorem mGn (g : Nat) (w : World) :
    Calls Try.prog 12 #[.pointer none, .int .i64 0, .agg #[.int .u16 7, .bool true, .int .i64 0, .bool false, .bool false, .bool true, .bool false, .bool false, .bool false, .int .i64 0, .int .i64 1, .int .i64 0, .int .i64 0, .int .i64 0, .slice (some ⟨g, 0, none⟩) 1 1, .slice none 0 0, .slice none 0 0, .slice none 0 0]] w fun e w' => e = .returned (.tuple #[.agg #[.int .u16 0, .string ⟨#[]⟩, .int .i64 0, .int .i64 0, .int .i64 0, .int .i64 0, .int .i64 0, .slice none 0 0], .bool false]) ∧ Fr (fun _ => False) w w' :=
  mreply_nil 7 true 0 ⟨7, true, 0, false, false, true, false, false, false, 0, 1, 0, 0, 0⟩ (some ⟨g, 0, none⟩) 1 1 0 none none none 0 0 0 0 0 0 w
def rz (t cl : Int) : Rcd × Option Addr × Nat := (⟨⟨#[]⟩, t, cl, 0, Dt.zero⟩, none, 0)
def h25n : Hd := ⟨7, true, 1, false, false, true, false, false, false, 3, 1, 0, 0, 0⟩
theorem tA2 : toldA [rz 41 1, rz 1 3] = [] := rfl
theorem tA3 : toldA [rz 41 1, rz 1 3, rz 1 1] = [rz 1 1] := rfl
theorem tB2 : toldB [rz 41 1, rz 1 3] [rz 2 1, rz 6 1, rz 6 1] = [rz 6 1] := rfl
theorem tB3 : toldB [rz 41 1, rz 1 3, rz 1 1] [rz 2 1, rz 6 1, rz 6 1] = [] := rfl
theorem rowIn_blk' {w : World} {g : Nat} {t : TypeId} {vs : List Value} {c : Array Value} (h : Blk w g t c) (hv : c.toList = vs) : RowIn w (some ⟨g, 0, none⟩) vs :=
  fun _ => ⟨g, 0, rfl, h.lt, fun i x hx => by rw [Nat.zero_add, h.cell i, ← Array.getElem?_toList, hv]; exact hx⟩
theorem told2_ (g ga gb : Nat) (w : World) (h1 : Blk w ga 63 #[.string ⟨#[]⟩, .int .i64 41, .int .i64 1, .int .u32 0, .bool false, .int .u64 0, .int .u64 0, .string ⟨#[]⟩, .string ⟨#[]⟩, .int .u32 0, .int .u32 0, .int .u32 0, .int .u32 0, .int .u32 0, .slice none 0 0, .string ⟨#[]⟩, .string ⟨#[]⟩, .int .i64 1, .int .i64 3, .int .u32 0, .bool false, .int .u64 0, .int .u64 0, .string ⟨#[]⟩, .string ⟨#[]⟩, .int .u32 0, .int .u32 0, .int .u32 0, .int .u32 0, .int .u32 0, .slice none 0 0, .string ⟨#[]⟩]) (h2 : Blk w gb 63 #[.string ⟨#[]⟩, .int .i64 2, .int .i64 1, .int .u32 0, .bool false, .int .u64 0, .int .u64 0, .string ⟨#[]⟩, .string ⟨#[]⟩, .int .u32 0, .int .u32 0, .int .u32 0, .int .u32 0, .int .u32 0, .slice none 0 0, .string ⟨#[]⟩, .string ⟨#[]⟩, .int .i64 6, .int .i64 1, .int .u32 0, .bool false, .int .u64 0, .int .u64 0, .string ⟨#[]⟩, .string ⟨#[]⟩, .int .u32 0, .int .u32 0, .int .u32 0, .int .u32 0, .int .u32 0, .slice none 0 0, .string ⟨#[]⟩, .string ⟨#[]⟩, .int .i64 6, .int .i64 1, .int .u32 0, .bool false, .int .u64 0, .int .u64 0, .string ⟨#[]⟩, .string ⟨#[]⟩, .int .u32 0, .int .u32 0, .int .u32 0, .int .u32 0, .int .u32 0, .slice none 0 0, .string ⟨#[]⟩]) :
    Calls Try.prog 16 #[.agg #[.int .u16 7, .bool true, .int .i64 1, .bool false, .bool false, .bool true, .bool false, .bool false, .bool false, .int .i64 3, .int .i64 1, .int .i64 0, .int .i64 0, .int .i64 0, .slice (some ⟨g, 0, none⟩) 1 1, .slice (some ⟨ga, 0, none⟩) 2 2, .slice (some ⟨gb, 0, none⟩) 3 3, .slice none 0 0]] w fun e w' => ∃ A1 c1 A2 c2, e = .returned (.tuple #[.int .i64 3, .slice A1 0 c1, .slice A2 1 c2]) ∧ Fr (fun _ => False) w w' := by
  have := told_any h25n (some ⟨g, 0, none⟩) (some ⟨ga, 0, none⟩) (some ⟨gb, 0, none⟩) none 1 1 2 3 0 0 [rz 41 1, rz 1 3] [rz 2 1, rz 6 1, rz 6 1] w (rowIn_blk' h1 rfl) (rowIn_blk' h2 rfl) (by simp) (by simp) (fun h => by cases h) (fun h => by cases h) (by simp) (by omega)
  refine Calls.mono this ?_
  rintro e w' ⟨r1, A1, c1, r2, A2, c2, rfl, hr1, hr2, _, _, f⟩
  rw [tA2] at hr1
  rw [tB2] at hr2
  subst hr1 hr2
  exact ⟨A1, c1, A2, c2, rfl, f⟩
theorem own_rowIn' {w : World} {e : TypeId} {size n cap : Nat} {A : Option Addr} {xs : List Value} (h : w.ownsRow 0 e size (.slice A n cap) n xs) : RowIn w A xs := own_rowIn0 h
theorem told3_ (g ca gb : Nat) (Aa : Option Addr) (w : World) (h1 : w.ownsRow 0 63 16 (.slice Aa 3 ca) 3 [.string ⟨#[]⟩, .int .i64 41, .int .i64 1, .int .u32 0, .bool false, .int .u64 0, .int .u64 0, .string ⟨#[]⟩, .string ⟨#[]⟩, .int .u32 0, .int .u32 0, .int .u32 0, .int .u32 0, .int .u32 0, .slice none 0 0, .string ⟨#[]⟩, .string ⟨#[]⟩, .int .i64 1, .int .i64 3, .int .u32 0, .bool false, .int .u64 0, .int .u64 0, .string ⟨#[]⟩, .string ⟨#[]⟩, .int .u32 0, .int .u32 0, .int .u32 0, .int .u32 0, .int .u32 0, .slice none 0 0, .string ⟨#[]⟩, .string ⟨#[]⟩, .int .i64 1, .int .i64 1, .int .u32 0, .bool false, .int .u64 0, .int .u64 0, .string ⟨#[]⟩, .string ⟨#[]⟩, .int .u32 0, .int .u32 0, .int .u32 0, .int .u32 0, .int .u32 0, .slice none 0 0, .string ⟨#[]⟩]) (h2 : Blk w gb 63 #[.string ⟨#[]⟩, .int .i64 2, .int .i64 1, .int .u32 0, .bool false, .int .u64 0, .int .u64 0, .string ⟨#[]⟩, .string ⟨#[]⟩, .int .u32 0, .int .u32 0, .int .u32 0, .int .u32 0, .int .u32 0, .slice none 0 0, .string ⟨#[]⟩, .string ⟨#[]⟩, .int .i64 6, .int .i64 1, .int .u32 0, .bool false, .int .u64 0, .int .u64 0, .string ⟨#[]⟩, .string ⟨#[]⟩, .int .u32 0, .int .u32 0, .int .u32 0, .int .u32 0, .int .u32 0, .slice none 0 0, .string ⟨#[]⟩, .string ⟨#[]⟩, .int .i64 6, .int .i64 1, .int .u32 0, .bool false, .int .u64 0, .int .u64 0, .string ⟨#[]⟩, .string ⟨#[]⟩, .int .u32 0, .int .u32 0, .int .u32 0, .int .u32 0, .int .u32 0, .slice none 0 0, .string ⟨#[]⟩]) :
    Calls Try.prog 16 #[.agg #[.int .u16 7, .bool true, .int .i64 1, .bool false, .bool false, .bool true, .bool false, .bool false, .bool false, .int .i64 3, .int .i64 1, .int .i64 0, .int .i64 0, .int .i64 0, .slice (some ⟨g, 0, none⟩) 1 1, .slice Aa 3 ca, .slice (some ⟨gb, 0, none⟩) 3 3, .slice none 0 0]] w fun e w' => ∃ A1 c1 A2 c2, e = .returned (.tuple #[.int .i64 3, .slice A1 1 c1, .slice A2 0 c2]) ∧ Fr (fun _ => False) w w' := by
  have hn : Aa ≠ none := fun e => by
    subst e
    rcases h1.2 with ⟨_, h0⟩ | ⟨g', cp, cur, hv, _⟩
    · cases h0
    · injection hv with hA _ _
      cases hA
  have := told_any h25n (some ⟨g, 0, none⟩) Aa (some ⟨gb, 0, none⟩) none 1 1 ca 3 0 0 [rz 41 1, rz 1 3, rz 1 1] [rz 2 1, rz 6 1, rz 6 1] w (own_rowIn' h1) (rowIn_blk' h2 rfl) (by simp) (by simp) (fun h => absurd h hn) (fun h => absurd h hn) (by simp) (by omega)
  refine Calls.mono this ?_
  rintro e w' ⟨r1, A1, c1, r2, A2, c2, rfl, hr1, hr2, _, _, f⟩
  rw [tA3] at hr1
  rw [tB3] at hr2
  subst hr1 hr2
  exact ⟨A1, c1, A2, c2, rfl, f⟩
end Go.Proofs.Ytncfdfgcnblicaa
