/-
  TEXTS OF THIS CLAIM, TOGETHER: Dck, Dkl, Dsz, Dch, Dda, Ddb.
-/
import Derived.Test.YtmbgejiahmhffaaGreatUunD
import Derived.Test.YtmbgejiahmhffaaGreatUunB
import Derived.Deep.DeepCutAuto
import Derived.Deep.Light
import Derived.Deep.RegionLaw
/-
  LAYER 9: whether data may be: the program's looks at it.
-/
namespace Go.Proofs.YtmbgejiahmhffaaGreat
set_option linter.unusedVariables false
set_option linter.unusedSimpArgs false
open Go.RowKit

/-- Data in memory, cell by cell; t: the texts' slice. -/
def Dt.cells (d : Dt) (t : Value) : Array Value := #[.bool d.six, .int .u64 d.hi, .int .u64 d.lo, .string d.name, .string d.mail, .int .u32 d.n0, .int .u32 d.n1, .int .u32 d.n2, .int .u32 d.n3, .int .u32 d.n4, t, .string d.raw]
def Dt.val (d : Dt) (t : Value) : Value := .agg (d.cells t)
/-- What the first look says: there is something that the type has not. -/
def bare1 (w : Wh) (d : Dt) : Bool := (decide ((w.names : Int) < 1) && !d.name.toList.isEmpty) || (decide ((w.names : Int) < 2) && !d.mail.toList.isEmpty) || (!w.raw && !d.raw.toList.isEmpty) || (!(w.texts == decide (0 < d.texts.length)))
def bare2 (w : Wh) (d : Dt) : Bool := decide (w.addr = 0) && !decide (d.six = false ∧ d.hi = 0 ∧ d.lo = 0)
def bare3 (w : Wh) (d : Dt) : Bool := decide (0 < w.addr) && ((adrCk d.six d.hi d.lo != 0) || (d.six != (w.addr == 16)))
def bare4 (w : Wh) (d : Dt) (i : Nat) : Bool := (decide (w.nums ≤ i) && (d.num i != 0)) || ((w.wide == 2) && decide (65535 < d.num i))
def bareB (w : Wh) (d : Dt) : Bool := if bare1 w d = true then false else if bare2 w d = true then false else if bare3 w d = true then false else (List.range 5).all fun i => !bare4 w d i
theorem all_no {f : Nat → Bool} {k : Nat} (hk : k < 5) (h : f k = true) : ((List.range 5).all fun i => !f i) = false := by
  rw [List.all_eq_false]
  exact ⟨k, List.mem_range.2 hk, by rw [h]; decide⟩
theorem all_yes {f : Nat → Bool} (h : ∀ j, j < 5 → f j = false) : ((List.range 5).all fun i => !f i) = true := by
  rw [List.all_eq_true]
  intro j hj
  rw [h j (List.mem_range.1 hj)]
  rfl
def BoolPost (W : World) (b : Bool) (e : Ending) (w' : World) : Prop := e = .returned (.bool b) ∧ Fr (fun _ => False) W w'
theorem run_index5 (n0 n1 n2 n3 n4 : Nat) (k : Nat) (hk : k < 5) (w : World) :
    (Instr.index 50 (.agg #[.int .u32 n0, .int .u32 n1, .int .u32 n2, .int .u32 n3, .int .u32 n4]) (.int .i64 k)).run Tryz.prog w = .ok (.int .u32 (Dt.num ⟨false, 0, 0, ⟨#[]⟩, ⟨#[]⟩, n0, n1, n2, n3, n4, [], ⟨#[]⟩⟩ k : Nat)) w := by
  rcases (show k = 0 ∨ k = 1 ∨ k = 2 ∨ k = 3 ∨ k = 4 by omega) with rfl | rfl | rfl | rfl | rfl <;> kernel_rfl
set_option maxRecDepth 100000 in
set_option maxHeartbeats 8000000 in
theorem bare_any (w : Wh) (tx : ByteArray) (d : Dt) (A : Option Addr) (cap : Nat) (W : World) (hd1 : d.hi < 18446744073709551616) (hd2 : d.lo < 18446744073709551616) :
    Calls Tryz.prog 118 #[w.val tx, d.val (.slice A d.texts.length cap)] W (BoolPost W (bareB w d)) := by
  obtain ⟨addr, names, plain, first, nums, wide, texts, raw⟩ := w
  obtain ⟨six, hi, lo, name, mail, n0, n1, n2, n3, n4, l, rw_⟩ := d
  unfold Wh.val Wh.cells Dt.val Dt.cells
  have HB : Hid (∀ w d, bare1 w d = ((decide ((w.names : Int) < 1) && !d.name.toList.isEmpty) || (decide ((w.names : Int) < 2) && !d.mail.toList.isEmpty) || (!w.raw && !d.raw.toList.isEmpty) || (!(w.texts == decide (0 < d.texts.length))))) := fun _ _ => rfl
  generalize hb : bare1 ⟨addr, names, plain, first, nums, wide, texts, raw⟩ ⟨six, hi, lo, name, mail, n0, n1, n2, n3, n4, l, rw_⟩ = b1 at *
  have HB1 := Lib.hid hb
  clear hb
  generalize hb2 : bare2 ⟨addr, names, plain, first, nums, wide, texts, raw⟩ ⟨six, hi, lo, name, mail, n0, n1, n2, n3, n4, l, rw_⟩ = b2 at *
  have HB2 := Lib.hid hb2
  clear hb2
  generalize hb3 : bare3 ⟨addr, names, plain, first, nums, wide, texts, raw⟩ ⟨six, hi, lo, name, mail, n0, n1, n2, n3, n4, l, rw_⟩ = b3 at *
  have HB3 := Lib.hid hb3
  clear hb3
  have hb4 : ∀ i, bare4 ⟨addr, names, plain, first, nums, wide, texts, raw⟩ ⟨six, hi, lo, name, mail, n0, n1, n2, n3, n4, l, rw_⟩ i = ((decide (nums ≤ i) && (Dt.num ⟨false, 0, 0, ⟨#[]⟩, ⟨#[]⟩, n0, n1, n2, n3, n4, [], ⟨#[]⟩⟩ i != 0)) || ((wide == 2) && decide (65535 < Dt.num ⟨false, 0, 0, ⟨#[]⟩, ⟨#[]⟩, n0, n1, n2, n3, n4, [], ⟨#[]⟩⟩ i))) := fun _ => rfl
  have HB4 := Lib.hid hb4
  clear hb4
  have hz : bareB ⟨addr, names, plain, first, nums, wide, texts, raw⟩ ⟨six, hi, lo, name, mail, n0, n1, n2, n3, n4, l, rw_⟩ = if b1 = true then false else if b2 = true then false else if b3 = true then false else (List.range 5).all fun i => !bare4 ⟨addr, names, plain, first, nums, wide, texts, raw⟩ ⟨six, hi, lo, name, mail, n0, n1, n2, n3, n4, l, rw_⟩ i := by
    unfold bareB
    rw [HB1.out, HB2.out, HB3.out]
  generalize bareB ⟨addr, names, plain, first, nums, wide, texts, raw⟩ ⟨six, hi, lo, name, mail, n0, n1, n2, n3, n4, l, rw_⟩ = z at *
  have HZ := Lib.hid hz
  clear hz
  have HD := Lib.hid (And.intro hd1 hd2)
  clear hd1 hd2
  dsimp only at *
  have b0 := (Blk.new W 155 #[.string tx, .int .i64 addr, .int .i64 names, .bool plain, .bool first, .int .i64 nums, .int .i64 wide, .bool texts, .bool raw]).alloc (.cells #[.bool six, .int .u64 hi, .int .u64 lo, .string name, .string mail, .int .u32 n0, .int .u32 n1, .int .u32 n2, .int .u32 n3, .int .u32 n4, .slice A l.length cap, .string rw_] 53)
  have b1' := Blk.new (W.alloc (.cells #[.string tx, .int .i64 addr, .int .i64 names, .bool plain, .bool first, .int .i64 nums, .int .i64 wide, .bool texts, .bool raw] 155)) 53 #[.bool six, .int .u64 hi, .int .u64 lo, .string name, .string mail, .int .u32 n0, .int .u32 n1, .int .u32 n2, .int .u32 n3, .int .u32 n4, .slice A l.length cap, .string rw_]
  rw [World.size_alloc] at b1'
  have hf : Fr (fun _ => False) W ((W.alloc (.cells #[.string tx, .int .i64 addr, .int .i64 names, .bool plain, .bool first, .int .i64 nums, .int .i64 wide, .bool texts, .bool raw] 155)).alloc (.cells #[.bool six, .int .u64 hi, .int .u64 lo, .string name, .string mail, .int .u32 n0, .int .u32 n1, .int .u32 n2, .int .u32 n3, .int .u32 n4, .slice A l.length cap, .string rw_] 53)) := ((Fr.refl _ _).alloc _).alloc _
  obtain ⟨W2, hW⟩ : ∃ W2, W2 = (W.alloc (.cells #[.string tx, .int .i64 addr, .int .i64 names, .bool plain, .bool first, .int .i64 nums, .int .i64 wide, .bool texts, .bool raw] 155)).alloc (.cells #[.bool six, .int .u64 hi, .int .u64 lo, .string name, .string mail, .int .u32 n0, .int .u32 n1, .int .u32 n2, .int .u32 n3, .int .u32 n4, .slice A l.length cap, .string rw_] 53) := ⟨_, rfl⟩
  rw [← hW] at b0 b1' hf
  have H := Lib.hid (And.intro b0 (And.intro b1' hf))
  have HW := Lib.hid hW
  clear b0 b1' hf hW
  go_enter Tryz.func118, Tryz.ntmps118
  go_upto_region 1 with fail
  rw [← HW.out]
  clear HW
  have c1 := H.out.1.cell 1
  have c2 := H.out.1.cell 2
  have c5 := H.out.1.cell 5
  have c6 := H.out.1.cell 6
  have c7 := H.out.1.cell 7
  have c8 := H.out.1.cell 8
  have d0 := H.out.2.1.cell 0
  have d1 := H.out.2.1.cell 1
  have d2 := H.out.2.1.cell 2
  have d3 := H.out.2.1.cell 3
  have d4 := H.out.2.1.cell 4
  have d5 := H.out.2.1.cell 5
  have d6 := H.out.2.1.cell 6
  have d7 := H.out.2.1.cell 7
  have d8 := H.out.2.1.cell 8
  have d9 := H.out.2.1.cell 9
  have d10 := H.out.2.1.cell 10
  have d11 := H.out.2.1.cell 11
  simp only [List.getElem?_toArray, List.getElem?_cons_zero, List.getElem?_cons_succ] at c1 c2 c5 c6 c7 c8 d0 d1 d2 d3 d4 d5 d6 d7 d8 d9 d10 d11
  go_cut [0, 1, 43] (fun _ _ v wx => v = .bool b1 ∧ wx = W2)
  case first =>
    go_wp2_with fail
    all_goals
      go_meet
      refine ⟨congrArg Value.bool ?_, rfl⟩
      rw [← HB1.out, HB.out]
      go_light
      try (have e1 : ¬ (names : Int) < 1 := by omega)
      try (have e2 : ¬ (names : Int) < 2 := by omega)
      simp [*]
  case rest =>
    obtain ⟨rfl, hwc⟩ := hcut
    subst hwc
    clear HB
    cases b1
    rotate_left
    · go_wp2_with fail
      go_ret
      exact ⟨by rw [HZ.out]; rfl, H.out.2.2⟩
    · have hq : ∀ w, (Go.binOp .neq 49 (.agg #[.bool six, .int .u64 hi, .int .u64 lo]) (.agg #[.bool false, .int .u64 0, .int .u64 0])).run Tryz.prog w = .ok (.bool (!decide (six = false ∧ hi = 0 ∧ lo = 0))) w := fun w => adr_neq six false hi 0 lo 0 HD.out.1 HD.out.2 (by decide) (by decide) w
      go_upto_region 3 with fail
      go_cut [0, 1, 44] (fun _ _ v wx => v = .bool b2 ∧ wx = wc)
      case first =>
        go_wp2_with fail
        all_goals
          go_meet
          refine ⟨congrArg Value.bool ?_, rfl⟩
          rw [← HB2.out]
          unfold bare2
          go_light
          try (have e1 : ¬ addr = 0 := by omega)
          simp [*]
      case rest =>
        obtain ⟨rfl, hwc⟩ := hcut
        subst hwc
        clear hq
        cases b2
        rotate_left
        · go_wp2_with fail
          go_ret
          exact ⟨by rw [HZ.out]; rfl, H.out.2.2⟩
        · have hb1' := H.out.1.alloc (.cells #[.bool six, .int .u64 hi, .int .u64 lo] 49)
          have hb2' := H.out.2.1.alloc (.cells #[.bool six, .int .u64 hi, .int .u64 lo] 49)
          have e1 := hb1'.cell 1
          have e2 := hb2'.cell 0
          simp only [List.getElem?_toArray, List.getElem?_cons_zero, List.getElem?_cons_succ] at e1 e2
          have HE := Lib.hid (H.out.2.2.alloc (.cells #[.bool six, .int .u64 hi, .int .u64 lo] 49))
          clear hb1' hb2'
          go_upto_region 5 with fail
          go_cut [0, 1, 54] (fun _ _ v wx => v = .bool b3 ∧ Fr (fun _ => False) wc wx)
          case first =>
            go_wp2_with (first
              | (go_at_call 123
                 (with_reducible refine (adrCheck_any six hi lo _ HD.out.1 HD.out.2).mono ?_)
                 rintro e w' ⟨rfl, rfl⟩))
            all_goals
              go_meet
              refine ⟨congrArg Value.bool ?_, by first | exact Fr.refl _ _ | exact (Fr.refl _ _).alloc _⟩
              rw [← HB3.out]
              unfold bare3
              go_light
              try (have e1 : 0 < addr := by omega)
              try (have e1 : ¬ 0 < addr := by omega)
              have hI : ((addr : Int) == 16) = (addr == 16) := by rw [Bool.eq_iff_iff, beq_iff_eq, beq_iff_eq]; omega
              first
                | (simp [*]; done)
                | (rw [hI]
                   simp [*]
                   generalize (addr == 16) = q
                   cases six <;> cases q <;> rfl)
          case rest =>
            obtain ⟨rfl, hf⟩ := hcut
            have HF := Lib.hid hf
            clear hf e1 e2
            cases b3
            rotate_left
            · go_wp2_with fail
              go_ret
              exact ⟨by rw [HZ.out]; rfl, H.out.2.2.then HF.out⟩
            · have HA := H.out.1.fr HF.out id
              have HA2 := H.out.2.1.fr HF.out id
              have c5 := HA.cell 5
              have c6 := HA.cell 6
              have d5 := HA2.cell 5
              have d6 := HA2.cell 6
              have d7 := HA2.cell 7
              have d8 := HA2.cell 8
              have d9 := HA2.cell 9
              simp only [List.getElem?_toArray, List.getElem?_cons_zero, List.getElem?_cons_succ] at c5 c6 d5 d6 d7 d8 d9
              have HL := Lib.hid (H.out.2.2.then HF.out)
              clear HA HA2 H
              have HI := Lib.hid (run_index5 n0 n1 n2 n3 n4)
              go_wp2_with fail
              go_loop [75] (fun i => ∃ k : Nat, k ≤ 5 ∧ i = .int .i64 k ∧ ∀ j, j < k → bare4 ⟨addr, names, plain, first, nums, wide, texts, raw⟩ ⟨six, hi, lo, name, mail, n0, n1, n2, n3, n4, l, rw_⟩ j = false) (fun i => 5 - (intOf i).toNat)
              case atStart => exact ⟨0, Nat.zero_le _, rfl, fun j hj => by omega⟩
              case round =>
                obtain ⟨k, hk, rfl, hall⟩ := hrel
                have HA := Lib.hid hall
                clear hall
                by_cases hlt : k < 5
                · have hix := HI.out k hlt
                  have hb := HB4.out k
                  obtain ⟨v, hv⟩ : ∃ v, v = Dt.num ⟨false, 0, 0, ⟨#[]⟩, ⟨#[]⟩, n0, n1, n2, n3, n4, [], ⟨#[]⟩⟩ k := ⟨_, rfl⟩
                  rw [← hv] at hix hb
                  clear hv
                  obtain ⟨b, hbk⟩ : ∃ b, bare4 ⟨addr, names, plain, first, nums, wide, texts, raw⟩ ⟨six, hi, lo, name, mail, n0, n1, n2, n3, n4, l, rw_⟩ k = b := ⟨_, rfl⟩
                  rw [hbk] at hb
                  have HK := Lib.hid (And.intro hbk hb)
                  clear hbk hb
                  go_upto_region 10 with fail
                  go_cut [5, 6, 95] (fun _ _ v wx => v = .bool b ∧ wx = wc)
                  case first =>
                    go_wp2_with fail
                    all_goals
                      go_meet
                      refine ⟨congrArg Value.bool ?_, rfl⟩
                      rw [HK.out.2]
                      go_light
                      have hw2 : ((wide : Int) = 2) ↔ wide = 2 := by omega
                      try (have e3 : wide = 2 := by omega)
                      try (have e3 : ¬ wide = 2 := by omega)
                      have hv2 : (65535 < (v : Int)) ↔ 65535 < v := by omega
                      simp [*]
                  case rest =>
                    obtain ⟨rfl, hwc⟩ := hcut
                    subst hwc
                    cases b
                    · go_wp2_with fail
                      go_round
                      case rel =>
                        refine ⟨k + 1, by omega, by go_num, fun j hj => ?_⟩
                        by_cases e : j = k
                        · rw [e]; exact HK.out.1
                        · exact HA.out j (by omega)
                      case measure => simp [intOf]; omega
                    · go_wp2_with fail
                      go_ret
                      exact ⟨by rw [HZ.out]; exact congrArg (fun b => Ending.returned (.bool b)) (all_no hlt HK.out.1).symm, HL.out⟩
                · obtain rfl : k = 5 := by omega
                  go_wp2_with fail
                  go_ret
                  exact ⟨by rw [HZ.out]; exact congrArg (fun b => Ending.returned (.bool b)) (all_yes HA.out).symm, HL.out⟩
end Go.Proofs.YtmbgejiahmhffaaGreat

/-
  LAYER 9: small functions on data: is a text too long; are texts the same; is data light.
-/
namespace Go.Proofs.YtmbgejiahmhffaaGreat
set_option linter.unusedVariables false
set_option linter.unusedSimpArgs false
open Go.RowKit

theorem Strs.form {W : World} {A : Option Addr} {l : List ByteArray} (h : Strs W A l) :
    l = [] ∨ ∃ b off, A = some ⟨b, off, none⟩ ∧ b < W.heap.size ∧ ∀ i x, l[i]? = some x → W.cell? ⟨b, off + i, none⟩ = some (.string x) := by
  rcases List.eq_nil_or_concat l with rfl | ⟨r, x, rfl⟩
  · exact .inl rfl
  · obtain ⟨b, off, h1, h2, h3⟩ := h (by simp)
    refine .inr ⟨b, off, h1, h2, fun i y hy => h3 i _ ?_⟩
    rw [List.getElem?_map, hy]
    rfl
theorem Strs.fr {w w' : World} {A : Option Addr} {l : List ByteArray} {S : Nat → Prop} (h : Strs w A l) (hf : Fr S w w') (hs : ∀ k, rowOf A k → ¬ S k) : Strs w' A l := by
  intro h0
  obtain ⟨b, off, rfl, h2, h3⟩ := h h0
  refine ⟨b, off, rfl, Nat.lt_of_lt_of_le h2 hf.size, fun i x hx => (hf.cell (p := ⟨b, off + i, none⟩) h2 (hs b ⟨_, rfl, rfl⟩)).trans (h3 i x hx)⟩
theorem Strs.fr0 {w w' : World} {A : Option Addr} {l : List ByteArray} (h : Strs w A l) (hf : Fr (fun _ => False) w w') : Strs w' A l := h.fr hf fun _ _ => id
theorem Strs.nil (w : World) (A : Option Addr) : Strs w A [] := fun h => by simp at h
theorem check1_any (x : ByteArray) (w : World) : Calls Tryz.prog 120 #[.string x] w fun e w' => e = .returned (.bool (decide (255 < x.size))) ∧ w = w' := by
  go_enter Tryz.func120, Tryz.ntmps120
  go_wp2
  go_ret
  exact ⟨ret_bool (by rw [Bool.eq_iff_iff]; simp; try omega), rfl⟩
def IdxPost (w : World) (l : List ByteArray) (e : Ending) (w' : World) : Prop := ∃ r : Int, e = .returned (.int .i64 r) ∧ (0 ≤ r ↔ ∃ x ∈ l, 255 < x.size) ∧ w = w'
set_option maxRecDepth 100000 in
set_option maxHeartbeats 1600000 in
theorem indexFunc_any (A : Option Addr) (cap : Nat) (l : List ByteArray) (w : World) (h : Strs w A l) (hl : l.length ≤ 1000000000) :
    Calls Tryz.prog 134 #[.slice A l.length cap, .func (.func 120) #[] #[]] w (IdxPost w l) := by
  rcases h.form with rfl | ⟨b, off, rfl, hlt, hc⟩
  · go_enter Tryz.func134, Tryz.ntmps134
    go_wp2_with fail
    go_loop [8] (fun i => i = .int .i64 0) (fun _ => 0)
    case atStart => rfl
    case round =>
      subst hrel
      go_wp2_with fail
      go_ret
      exact ⟨-1, rfl, by simp, rfl⟩
  · have HC := Lib.hid hc
    clear h hc
    go_enter Tryz.func134, Tryz.ntmps134
    go_wp2_with fail
    go_loop [8] (fun i => ∃ k : Nat, k ≤ l.length ∧ i = .int .i64 k ∧ ∀ j x, j < k → l[j]? = some x → x.size ≤ 255) (fun i => l.length - (intOf i).toNat)
    case atStart => exact ⟨0, Nat.zero_le _, rfl, fun j x hj => by omega⟩
    case round =>
      obtain ⟨k, hk, rfl, hall⟩ := hrel
      have HA := Lib.hid hall
      clear hall
      by_cases hlt : k < l.length
      · obtain ⟨x, hx⟩ : ∃ x, l[k]? = some x := ⟨l[k], List.getElem?_eq_getElem hlt⟩
        have hc := HC.out k x hx
        have HX := Lib.hid hx
        clear hx
        go_wp2_with fail
        refine (check1_any x _).mono ?_
        rintro e w' ⟨rfl, rfl⟩
        by_cases hb : 255 < x.size
        · rw [decide_eq_true hb]
          go_wp2_with fail
          go_ret
          exact ⟨k, rfl, ⟨fun _ => ⟨x, List.mem_of_getElem? HX.out, hb⟩, fun _ => by omega⟩, rfl⟩
        · rw [decide_eq_false hb]
          go_wp2_with fail
          go_round
          case rel =>
            refine ⟨k + 1, by omega, by go_num, fun j y hj hy => ?_⟩
            by_cases e : j = k
            · subst e
              have := HX.out
              rw [hy] at this
              injection this with this
              rw [this]
              omega
            · exact HA.out j y (by omega) hy
          case measure => simp [intOf]; omega
      · go_wp2_with fail
        go_ret
        refine ⟨-1, rfl, ⟨fun h => by omega, ?_⟩, rfl⟩
        rintro ⟨x, hx, hb⟩
        obtain ⟨j, hj⟩ := List.mem_iff_getElem?.1 hx
        have := HA.out j x (by have := (List.getElem?_eq_some_iff.1 hj).1; omega) hj
        omega
def longB (l : List ByteArray) : Bool := l.any fun x => decide (255 < x.size)
theorem longB_iff (l : List ByteArray) : longB l = true ↔ ∃ x ∈ l, 255 < x.size := by simp [longB]
theorem contains_any (A : Option Addr) (cap : Nat) (l : List ByteArray) (w : World) (h : Strs w A l) (hl : l.length ≤ 1000000000) :
    Calls Tryz.prog 119 #[.slice A l.length cap, .func (.func 120) #[] #[]] w fun e w' => e = .returned (.bool (longB l)) ∧ w = w' := by
  go_enter Tryz.func119, Tryz.ntmps119
  go_wp2_with fail
  refine (indexFunc_any A cap l _ h hl).mono ?_
  rintro e w' ⟨r, rfl, hr, rfl⟩
  have HR := Lib.hid hr
  clear hr
  go_wp2_with fail
  go_ret
  exact ⟨ret_bool (by rw [Bool.eq_iff_iff, longB_iff, ← HR.out]; simp), rfl⟩
/-- How much is gone through. -/
def Dt.light (d : Dt) : Nat := d.raw.size + d.name.size + d.mail.size + textsLen d.texts
end Go.Proofs.YtmbgejiahmhffaaGreat

/-
  LAYER 9: how many octets data has: the program's reckoning.
-/
namespace Go.Proofs.YtmbgejiahmhffaaGreat
set_option linter.unusedVariables false
set_option linter.unusedSimpArgs false
open Go.RowKit

theorem textsLen_append : ∀ (a b : List ByteArray), textsLen (a ++ b) = textsLen a + textsLen b
  | [], b => by simp [textsLen]
  | x :: r, b => by simp [textsLen, textsLen_append r b]; omega
theorem textsLen_snoc {l : List ByteArray} {k : Nat} {x : ByteArray} (h : l[k]? = some x) : textsLen (l.take (k + 1)) = textsLen (l.take k) + (1 + x.size) := by
  obtain ⟨hk, hx⟩ := List.getElem?_eq_some_iff.1 h
  rw [List.take_succ_eq_append_getElem hk, textsLen_append, hx]
  simp [textsLen]
theorem textsLen_le {l : List ByteArray} (h : ∀ x ∈ l, x.size ≤ 255) : textsLen l ≤ 256 * l.length := by
  induction l with
  | nil => simp [textsLen]
  | cons x r ih =>
    have h1 := ih fun y hy => h y (by simp [hy])
    have h2 := h x (by simp)
    simp [textsLen]
    omega
theorem textsLen_take_le (l : List ByteArray) (k : Nat) : textsLen (l.take k) ≤ textsLen l := by
  conv => rhs; rw [← List.take_append_drop k l, textsLen_append]
  omega
/-- The names' part. -/
def namesLen (w : Wh) (d : Dt) : Nat := (if 1 ≤ w.names then d.name.size + 1 else 0) + (if 2 ≤ w.names then d.mail.size + 1 else 0)
theorem Dt.size_eq (d : Dt) (w : Wh) : d.size w = w.addr + w.nums * w.wide + d.raw.size + namesLen w d + textsLen d.texts := by unfold Dt.size namesLen; omega
def IntPost (W : World) (n : Int) (e : Ending) (w' : World) : Prop := e = .returned (.int .i64 n) ∧ Fr (fun _ => False) W w'
set_option maxRecDepth 100000 in
set_option maxHeartbeats 8000000 in
theorem size_any (w : Wh) (tx : ByteArray) (d : Dt) (A : Option Addr) (cap : Nat) (W : World) (hA : Strs W A d.texts) (hw : ∃ t, w = whatN t) (k1 : ckN d.name = 0) (k2 : ckN d.mail = 0) (k3 : ∀ x ∈ d.texts, x.size ≤ 255) (hl : d.texts.length ≤ 1000000000) (hr : d.raw.size ≤ 1000000000000) :
    Calls Tryz.prog 113 #[w.val tx, d.val (.slice A d.texts.length cap)] W (IntPost W (d.size w : Nat)) := by
  have hsz := d.size_eq w
  generalize d.size w = Z at *
  have hb : w.addr ≤ 16 ∧ w.nums * w.wide ≤ 20 ∧ w.names ≤ 2 := by
    obtain ⟨t, rfl⟩ := hw
    rcases whatN_cases t with h | h | h | h | h | h | h | h <;> rw [h] <;> decide
  have hn1 := (ckN_ok k1).1
  have hn2 := (ckN_ok k2).1
  have ht := textsLen_le k3
  have htk := textsLen_take_le d.texts
  obtain ⟨addr, names, plain, first, nums, wide, texts, raw⟩ := w
  obtain ⟨six, hi, lo, name, mail, n0, n1, n2, n3, n4, l, rw_⟩ := d
  dsimp only at *
  obtain ⟨hb1, hb2, hb3⟩ := hb
  unfold Wh.val Wh.cells Dt.val Dt.cells
  have b0 := (Blk.new W 155 #[.string tx, .int .i64 addr, .int .i64 names, .bool plain, .bool first, .int .i64 nums, .int .i64 wide, .bool texts, .bool raw]).alloc (.cells #[.bool six, .int .u64 hi, .int .u64 lo, .string name, .string mail, .int .u32 n0, .int .u32 n1, .int .u32 n2, .int .u32 n3, .int .u32 n4, .slice A l.length cap, .string rw_] 53)
  have b1' := Blk.new (W.alloc (.cells #[.string tx, .int .i64 addr, .int .i64 names, .bool plain, .bool first, .int .i64 nums, .int .i64 wide, .bool texts, .bool raw] 155)) 53 #[.bool six, .int .u64 hi, .int .u64 lo, .string name, .string mail, .int .u32 n0, .int .u32 n1, .int .u32 n2, .int .u32 n3, .int .u32 n4, .slice A l.length cap, .string rw_]
  rw [World.size_alloc] at b1'
  have hf : Fr (fun _ => False) W ((W.alloc (.cells #[.string tx, .int .i64 addr, .int .i64 names, .bool plain, .bool first, .int .i64 nums, .int .i64 wide, .bool texts, .bool raw] 155)).alloc (.cells #[.bool six, .int .u64 hi, .int .u64 lo, .string name, .string mail, .int .u32 n0, .int .u32 n1, .int .u32 n2, .int .u32 n3, .int .u32 n4, .slice A l.length cap, .string rw_] 53)) := ((Fr.refl _ _).alloc _).alloc _
  obtain ⟨W2, hW⟩ : ∃ W2, W2 = (W.alloc (.cells #[.string tx, .int .i64 addr, .int .i64 names, .bool plain, .bool first, .int .i64 nums, .int .i64 wide, .bool texts, .bool raw] 155)).alloc (.cells #[.bool six, .int .u64 hi, .int .u64 lo, .string name, .string mail, .int .u32 n0, .int .u32 n1, .int .u32 n2, .int .u32 n3, .int .u32 n4, .slice A l.length cap, .string rw_] 53) := ⟨_, rfl⟩
  rw [← hW] at b0 b1' hf
  have H := Lib.hid (And.intro b0 (And.intro b1' (And.intro hf (hA.fr0 hf))))
  have HW := Lib.hid hW
  have HB := Lib.hid (And.intro k1 k2)
  have HT := Lib.hid (And.intro k3 (And.intro ht htk))
  have HS := Lib.hid hsz
  have HE : Hid (namesLen ⟨addr, names, plain, first, nums, wide, texts, raw⟩ ⟨six, hi, lo, name, mail, n0, n1, n2, n3, n4, l, rw_⟩ = (if 1 ≤ names then name.size + 1 else 0) + (if 2 ≤ names then mail.size + 1 else 0)) := rfl
  clear b0 b1' hf hW hA hw k1 k2 k3 hsz htk
  have hm : (nums : Int) * (wide : Int) = ((nums * wide : Nat) : Int) := by simp
  generalize nums * wide = P at *
  go_enter Tryz.func113, Tryz.ntmps113
  go_upto_region 1 with fail
  rw [← HW.out]
  clear HW
  have c1 := H.out.1.cell 1
  have c2 := H.out.1.cell 2
  have c5 := H.out.1.cell 5
  have c6 := H.out.1.cell 6
  have d3 := H.out.2.1.cell 3
  have d4 := H.out.2.1.cell 4
  have d10 := H.out.2.1.cell 10
  have d11 := H.out.2.1.cell 11
  simp only [List.getElem?_toArray, List.getElem?_cons_zero, List.getElem?_cons_succ] at c1 c2 c5 c6 d3 d4 d10 d11
  have hB := Blk.new W2 36 #[.string name, .string mail]
  have e0 := hB.cell 0
  have e1 := hB.cell 1
  have e10 := (H.out.2.1.alloc (.cells #[.string name, .string mail] 36)).cell 10
  have e2 := (H.out.1.alloc (.cells #[.string name, .string mail] 36)).cell 2
  simp only [List.getElem?_toArray, List.getElem?_cons_zero, List.getElem?_cons_succ] at e0 e1 e2 e10
  have HF : Hid (Fr (fun _ => False) W (W2.alloc (.cells #[.string name, .string mail] 36)) ∧ Strs (W2.alloc (.cells #[.string name, .string mail] 36)) A l) := ⟨H.out.2.2.1.alloc _, H.out.2.2.2.fr0 ((Fr.refl _ _).alloc _)⟩
  clear hB H
  have HN : Hid (namesLen ⟨addr, names, plain, first, nums, wide, texts, raw⟩ ⟨six, hi, lo, name, mail, n0, n1, n2, n3, n4, l, rw_⟩ ≤ 1000) := by
    show _ ≤ _
    rw [HE.out]
    split <;> split <;> omega
  obtain ⟨B, hB⟩ : ∃ B, B = addr + P + rw_.size + namesLen ⟨addr, names, plain, first, nums, wide, texts, raw⟩ ⟨six, hi, lo, name, mail, n0, n1, n2, n3, n4, l, rw_⟩ := ⟨_, rfl⟩
  have HN2 : Hid (B ≤ 1000000002000) := by
    have := HN.out
    show _ ≤ _
    omega
  have HQ := Lib.hid hB
  clear hB
  rcases (show names = 0 ∨ names = 1 ∨ names = 2 by omega) with rfl | rfl | rfl
  · go_wp2_with fail
    refine wp_loop_rounds 1 ?_
    rw [rounds_succ]
    go_wp2_with fail
    have HG : Hid (Fr (fun _ => False) W ((W2.alloc (.cells #[.string name, .string mail] 36))) ∧ Strs ((W2.alloc (.cells #[.string name, .string mail] 36))) A l) := ⟨HF.out.1, HF.out.2.fr0 ((Fr.refl _ _))⟩
    generalize (W2.alloc (.cells #[.string name, .string mail] 36)) = W3 at *
    go_loop [5, 43] (fun n i => ∃ k : Nat, k ≤ l.length ∧ i = .int .i64 k ∧ n = .int .i64 ((B + textsLen (l.take k) : Nat) : Int)) (fun _ i => l.length - (intOf i).toNat)
    case atStart => exact ⟨0, Nat.zero_le _, rfl, vint (by rw [HQ.out, HE.out]; simp [textsLen] <;> omega)⟩
    case round =>
      obtain ⟨k, hk, rfl, rfl⟩ := hrel
      by_cases hlt : k < l.length
      · obtain ⟨x, hx⟩ : ∃ x, l[k]? = some x := ⟨l[k], List.getElem?_eq_getElem hlt⟩
        rcases HG.out.2.form with rfl | ⟨b, off, rfl, hlt2, hc⟩
        · simp at hx
        have hcx := hc k x hx
        have hsx := HT.out.1 x (List.mem_of_getElem? hx)
        have hsn := textsLen_snoc hx
        have hle := HT.out.2.2 k
        have htt := HT.out.2.1
        have hbb := HN2.out
        have HX := Lib.hid hsn
        clear hx hc hsn
        generalize textsLen (l.take k) = T at *
        go_wp2_with fail
        go_round
        case rel => exact ⟨k + 1, by omega, by go_num, vint (by rw [HX.out]; omega)⟩
        case measure => simp [intOf]; omega
      · have hke : k = l.length := by omega
        subst hke
        go_wp2_with fail
        go_ret
        exact ⟨ret_int (by have e := List.take_of_length_le (Nat.le_refl l.length); simp only [HS.out, HQ.out, e]; omega), HG.out.1⟩
  · go_wp2_with fail
    refine wp_loop_rounds 2 ?_
    rw [rounds_succ]
    go_wp2_with fail
    refine (psize_any name _).mono ?_
    rintro e w' ⟨rfl, m0, rfl⟩
    rw [if_pos HB.out.1]
    go_wp2_with fail
    rw [rounds_succ]
    go_wp2_with fail
    have HG : Hid (Fr (fun _ => False) W ((W2.alloc (.cells #[.string name, .string mail] 36)).drewN m0) ∧ Strs ((W2.alloc (.cells #[.string name, .string mail] 36)).drewN m0) A l) := ⟨HF.out.1.drewN m0, HF.out.2.fr0 ((Fr.refl _ _).drewN m0)⟩
    generalize (W2.alloc (.cells #[.string name, .string mail] 36)).drewN m0 = W3 at *
    go_loop [5, 43] (fun n i => ∃ k : Nat, k ≤ l.length ∧ i = .int .i64 k ∧ n = .int .i64 ((B + textsLen (l.take k) : Nat) : Int)) (fun _ i => l.length - (intOf i).toNat)
    case atStart => exact ⟨0, Nat.zero_le _, rfl, vint (by rw [HQ.out, HE.out]; simp [textsLen] <;> omega)⟩
    case round =>
      obtain ⟨k, hk, rfl, rfl⟩ := hrel
      by_cases hlt : k < l.length
      · obtain ⟨x, hx⟩ : ∃ x, l[k]? = some x := ⟨l[k], List.getElem?_eq_getElem hlt⟩
        rcases HG.out.2.form with rfl | ⟨b, off, rfl, hlt2, hc⟩
        · simp at hx
        have hcx := hc k x hx
        have hsx := HT.out.1 x (List.mem_of_getElem? hx)
        have hsn := textsLen_snoc hx
        have hle := HT.out.2.2 k
        have htt := HT.out.2.1
        have hbb := HN2.out
        have HX := Lib.hid hsn
        clear hx hc hsn
        generalize textsLen (l.take k) = T at *
        go_wp2_with fail
        go_round
        case rel => exact ⟨k + 1, by omega, by go_num, vint (by rw [HX.out]; omega)⟩
        case measure => simp [intOf]; omega
      · have hke : k = l.length := by omega
        subst hke
        go_wp2_with fail
        go_ret
        exact ⟨ret_int (by have e := List.take_of_length_le (Nat.le_refl l.length); simp only [HS.out, HQ.out, e]; omega), HG.out.1⟩
  · go_wp2_with fail
    refine wp_loop_rounds 3 ?_
    rw [rounds_succ]
    go_wp2_with fail
    refine (psize_any name _).mono ?_
    rintro e w' ⟨rfl, m0, rfl⟩
    rw [if_pos HB.out.1]
    go_wp2_with fail
    rw [rounds_succ]
    go_wp2_with fail
    refine (psize_any mail _).mono ?_
    rintro e w' ⟨rfl, m1, rfl⟩
    rw [if_pos HB.out.2]
    go_wp2_with fail
    rw [rounds_succ]
    go_wp2_with fail
    have HG : Hid (Fr (fun _ => False) W (((W2.alloc (.cells #[.string name, .string mail] 36)).drewN (m0 + m1))) ∧ Strs (((W2.alloc (.cells #[.string name, .string mail] 36)).drewN (m0 + m1))) A l) := ⟨HF.out.1.drewN (m0 + m1), HF.out.2.fr0 ((Fr.refl _ _).drewN (m0 + m1))⟩
    generalize ((W2.alloc (.cells #[.string name, .string mail] 36)).drewN (m0 + m1)) = W3 at *
    go_loop [5, 43] (fun n i => ∃ k : Nat, k ≤ l.length ∧ i = .int .i64 k ∧ n = .int .i64 ((B + textsLen (l.take k) : Nat) : Int)) (fun _ i => l.length - (intOf i).toNat)
    case atStart => exact ⟨0, Nat.zero_le _, rfl, vint (by rw [HQ.out, HE.out]; simp [textsLen] <;> omega)⟩
    case round =>
      obtain ⟨k, hk, rfl, rfl⟩ := hrel
      by_cases hlt : k < l.length
      · obtain ⟨x, hx⟩ : ∃ x, l[k]? = some x := ⟨l[k], List.getElem?_eq_getElem hlt⟩
        rcases HG.out.2.form with rfl | ⟨b, off, rfl, hlt2, hc⟩
        · simp at hx
        have hcx := hc k x hx
        have hsx := HT.out.1 x (List.mem_of_getElem? hx)
        have hsn := textsLen_snoc hx
        have hle := HT.out.2.2 k
        have htt := HT.out.2.1
        have hbb := HN2.out
        have HX := Lib.hid hsn
        clear hx hc hsn
        generalize textsLen (l.take k) = T at *
        go_wp2_with fail
        go_round
        case rel => exact ⟨k + 1, by omega, by go_num, vint (by rw [HX.out]; omega)⟩
        case measure => simp [intOf]; omega
      · have hke : k = l.length := by omega
        subst hke
        go_wp2_with fail
        go_ret
        exact ⟨ret_int (by have e := List.take_of_length_le (Nat.le_refl l.length); simp only [HS.out, HQ.out, e]; omega), HG.out.1⟩
end Go.Proofs.YtmbgejiahmhffaaGreat

/-
  LAYER 9: may data be: check, Size, Check.
-/
namespace Go.Proofs.YtmbgejiahmhffaaGreat
set_option linter.unusedVariables false
set_option linter.unusedSimpArgs false
open Go.RowKit

theorem isEmpty_iff (x : ByteArray) : x.toList.isEmpty = true ↔ x = ⟨#[]⟩ := by
  constructor
  · intro h
    refine Classical.byContradiction fun hn => ?_
    rw [(nonempty_facts hn).1] at h
    cases h
  · rintro rfl
    rw [ByteArray.toList_eq]
    rfl
theorem bare1_no (w : Wh) (d : Dt) : bare1 w d = false ↔ (w.names < 1 → d.name = ⟨#[]⟩) ∧ (w.names < 2 → d.mail = ⟨#[]⟩) ∧ (w.raw = false → d.raw = ⟨#[]⟩) ∧ (w.texts = true ↔ d.texts ≠ []) := by
  unfold bare1
  simp only [Bool.or_eq_false_iff, Bool.and_eq_false_iff, Bool.not_eq_false', isEmpty_iff, decide_eq_false_iff_not, beq_iff_eq]
  have e1 : (¬ (w.names : Int) < 1 ∨ d.name = ⟨#[]⟩) ↔ (w.names < 1 → d.name = ⟨#[]⟩) := by
    constructor
    · rintro (h | h) g
      · omega
      · exact h
    · intro h
      by_cases g : w.names < 1
      · exact .inr (h g)
      · exact .inl (by omega)
  have e2 : (¬ (w.names : Int) < 2 ∨ d.mail = ⟨#[]⟩) ↔ (w.names < 2 → d.mail = ⟨#[]⟩) := by
    constructor
    · rintro (h | h) g
      · omega
      · exact h
    · intro h
      by_cases g : w.names < 2
      · exact .inr (h g)
      · exact .inl (by omega)
  have e3 : (w.raw = true ∨ d.raw = ⟨#[]⟩) ↔ (w.raw = false → d.raw = ⟨#[]⟩) := by cases w.raw <;> simp
  have e4 : (w.texts = decide (0 < d.texts.length)) ↔ (w.texts = true ↔ d.texts ≠ []) := by
    rw [Bool.eq_iff_iff, decide_eq_true_eq, List.length_pos_iff]
  rw [e1, e2, e3, e4]
  simp only [and_assoc]
theorem bare2_no (w : Wh) (d : Dt) : bare2 w d = false ↔ (w.addr = 0 → d.six = false ∧ d.hi = 0 ∧ d.lo = 0) := by
  unfold bare2
  simp only [Bool.and_eq_false_iff, Bool.not_eq_false', decide_eq_false_iff_not, decide_eq_true_eq]
  constructor
  · rintro (h | h) g
    · exact absurd g h
    · exact h
  · intro h
    by_cases g : w.addr = 0
    · exact .inr (h g)
    · exact .inl g
theorem bare3_no (w : Wh) (d : Dt) : bare3 w d = false ↔ (0 < w.addr → (d.six = false → d.hi = 0 ∧ d.lo < 4294967296) ∧ (d.six = true ↔ w.addr = 16)) := by
  unfold bare3
  simp only [Bool.and_eq_false_iff, Bool.or_eq_false_iff, bne_eq_false_iff_eq, decide_eq_false_iff_not]
  have e : adrCk d.six d.hi d.lo = 0 ↔ (d.six = false → d.hi = 0 ∧ d.lo < 4294967296) := by
    unfold adrCk
    constructor
    · intro h hs
      split at h
      · cases h
      · rename_i hn
        exact Classical.not_not.1 fun g => hn ⟨hs, g⟩
    · intro h
      rw [if_neg]
      rintro ⟨g1, g2⟩
      exact g2 (h g1)
  have e2 : (d.six = (w.addr == 16)) ↔ (d.six = true ↔ w.addr = 16) := by rw [Bool.eq_iff_iff, beq_iff_eq]
  rw [e, e2]
  constructor
  · rintro (h | h) g
    · exact absurd g h
    · exact h
  · intro h
    by_cases g : 0 < w.addr
    · exact .inr (h g)
    · exact .inl g
theorem bare4_no (w : Wh) (d : Dt) (i : Nat) : bare4 w d i = false ↔ (w.nums ≤ i → d.num i = 0) ∧ (w.wide = 2 → d.num i ≤ 65535) := by
  unfold bare4
  by_cases a : w.nums ≤ i <;> by_cases b : d.num i = 0 <;> by_cases c : w.wide = 2 <;> by_cases e : 65535 < d.num i <;> simp [a, b, c, e] <;> omega
theorem bareB_iff (w : Wh) (d : Dt) : bareB w d = true ↔ d.bare w := by
  unfold bareB Dt.bare
  by_cases h1 : bare1 w d = true
  · rw [if_pos h1]
    refine ⟨(fun h => by cases h), fun h => ?_⟩
    have := (bare1_no w d).2 ⟨h.1, h.2.1, h.2.2.1, h.2.2.2.1⟩
    rw [h1] at this
    cases this
  · rw [if_neg h1]
    have g1 := (bare1_no w d).1 (by simpa using h1)
    by_cases h2 : bare2 w d = true
    · rw [if_pos h2]
      refine ⟨(fun h => by cases h), fun h => ?_⟩
      have := (bare2_no w d).2 h.2.2.2.2.1
      rw [h2] at this
      cases this
    · rw [if_neg h2]
      have g2 := (bare2_no w d).1 (by simpa using h2)
      by_cases h3 : bare3 w d = true
      · rw [if_pos h3]
        refine ⟨(fun h => by cases h), fun h => ?_⟩
        have := (bare3_no w d).2 h.2.2.2.2.2.1
        rw [h3] at this
        cases this
      · rw [if_neg h3]
        have g3 := (bare3_no w d).1 (by simpa using h3)
        rw [List.all_eq_true]
        constructor
        · intro h
          have h4 : ∀ i, i < 5 → bare4 w d i = false := fun i hi => by simpa using h i (List.mem_range.2 hi)
          exact ⟨g1.1, g1.2.1, g1.2.2.1, g1.2.2.2, g2, g3, fun i hi => ((bare4_no w d i).1 (h4 i hi)).1, fun hw i hi => ((bare4_no w d i).1 (h4 i hi)).2 hw⟩
        · intro h i hi
          have hi := List.mem_range.1 hi
          rw [(bare4_no w d i).2 ⟨h.2.2.2.2.2.2.1 i hi, fun hw => h.2.2.2.2.2.2.2 hw i hi⟩]
          rfl
/-- The same, to be reckoned. -/
def dcheckB0 (t : Int) (d : Dt) : Int :=
  if 0 ≤ t ∧ t ≤ 65535 ∧ bareB (whatN t) d = true then
    if ckN d.name ≠ 0 then ckN d.name else if ckN d.mail ≠ 0 then ckN d.mail else if longB d.texts = true then 3 else 0
  else 2
theorem dcheckB0_eq (t : Int) (d : Dt) : dcheckB0 t d = dcheck0 t d := by
  unfold dcheckB0 dcheck0
  have e1 : (0 ≤ t ∧ t ≤ 65535 ∧ bareB (whatN t) d = true) = (0 ≤ t ∧ t ≤ 65535 ∧ d.bare (whatN t)) := by rw [bareB_iff]
  have e2 : (longB d.texts = true) = (∃ x ∈ d.texts, 255 < x.size) := propext (longB_iff _)
  simp only [e1, e2]
  congr
theorem dcells {w : World} {q : Nat} {d : Dt} {A : Option Addr} {cap : Nat} (h : Blk w q 53 (d.cells (.slice A d.texts.length cap))) : w.cell? ⟨q, 0, none⟩ = some (.bool d.six) ∧ w.cell? ⟨q, 1, none⟩ = some (.int .u64 d.hi) ∧ w.cell? ⟨q, 2, none⟩ = some (.int .u64 d.lo) ∧ w.cell? ⟨q, 3, none⟩ = some (.string d.name) ∧ w.cell? ⟨q, 4, none⟩ = some (.string d.mail) ∧ w.cell? ⟨q, 5, none⟩ = some (.int .u32 d.n0) ∧ w.cell? ⟨q, 6, none⟩ = some (.int .u32 d.n1) ∧ w.cell? ⟨q, 7, none⟩ = some (.int .u32 d.n2) ∧ w.cell? ⟨q, 8, none⟩ = some (.int .u32 d.n3) ∧ w.cell? ⟨q, 9, none⟩ = some (.int .u32 d.n4) ∧ w.cell? ⟨q, 10, none⟩ = some (.slice A d.texts.length cap) ∧ w.cell? ⟨q, 11, none⟩ = some (.string d.raw) := by
  refine ⟨h.cell 0, h.cell 1, h.cell 2, h.cell 3, h.cell 4, h.cell 5, h.cell 6, h.cell 7, h.cell 8, h.cell 9, h.cell 10, h.cell 11⟩
theorem num_cell {w : World} {p : Nat} {d : Dt} {t : Value} (h : Blk w p 53 (d.cells t)) {i : Nat} (hi : i < 5) : w.cell? ⟨p, 5 + i, none⟩ = some (.int .u32 (d.num i : Nat)) := by
  rw [h.cell]
  rcases (show i = 0 ∨ i = 1 ∨ i = 2 ∨ i = 3 ∨ i = 4 by omega) with rfl | rfl | rfl | rfl | rfl <;> rfl
/-- Data as it lies, with what is asked of it. -/
structure DtIn (w : World) (A : Option Addr) (d : Dt) : Prop where
  hi : d.hi < 18446744073709551616
  lo : d.lo < 18446744073709551616
  num : ∀ i, d.num i < 4294967296
  txt : Strs w A d.texts
  len : d.texts.length ≤ 1000000000
  raw : d.raw.size ≤ 1000000000000
theorem DtIn.fr {w w' : World} {A : Option Addr} {d : Dt} {S : Nat → Prop} (h : DtIn w A d) (hf : Fr S w w') (hs : ∀ k, rowOf A k → ¬ S k) : DtIn w' A d := ⟨h.hi, h.lo, h.num, h.txt.fr hf hs, h.len, h.raw⟩
theorem DtIn.fr0 {w w' : World} {A : Option Addr} {d : Dt} (h : DtIn w A d) (hf : Fr (fun _ => False) w w') : DtIn w' A d := h.fr hf fun _ _ => id
theorem DtIn.ok {w : World} {A : Option Addr} {d : Dt} (h : DtIn w A d) : d.ok := ⟨h.hi, h.lo, h.num⟩
theorem bare_c (w : Wh) (tx : ByteArray) (d : Dt) (A : Option Addr) (cap : Nat) (W : World) (h : DtIn W A d) :
    Calls Tryz.prog 118 #[w.val tx, .agg #[.bool d.six, .int .u64 d.hi, .int .u64 d.lo, .string d.name, .string d.mail, .int .u32 d.n0, .int .u32 d.n1, .int .u32 d.n2, .int .u32 d.n3, .int .u32 d.n4, .slice A d.texts.length cap, .string d.raw]] W (BoolPost W (bareB w d)) := bare_any w tx d A cap W h.hi h.lo
theorem size_c (w : Wh) (tx : ByteArray) (d : Dt) (A : Option Addr) (cap : Nat) (W : World) (h : DtIn W A d) (hw : ∃ t, w = whatN t) (k1 : ckN d.name = 0) (k2 : ckN d.mail = 0) (k3 : ∀ x ∈ d.texts, x.size ≤ 255) :
    Calls Tryz.prog 113 #[w.val tx, .agg #[.bool d.six, .int .u64 d.hi, .int .u64 d.lo, .string d.name, .string d.mail, .int .u32 d.n0, .int .u32 d.n1, .int .u32 d.n2, .int .u32 d.n3, .int .u32 d.n4, .slice A d.texts.length cap, .string d.raw]] W (IntPost W (d.size w : Nat)) := size_any w tx d A cap W h.txt hw k1 k2 k3 h.len h.raw
set_option maxRecDepth 100000 in
set_option maxHeartbeats 8000000 in
theorem check0_any (t : Int) (d : Dt) (A : Option Addr) (cap : Nat) (W : World) (hd : DtIn W A d) (ht : -9223372036854775808 ≤ t ∧ t ≤ 9223372036854775807) :
    Calls Tryz.prog 92 #[.int .i64 t, .agg #[.bool d.six, .int .u64 d.hi, .int .u64 d.lo, .string d.name, .string d.mail, .int .u32 d.n0, .int .u32 d.n1, .int .u32 d.n2, .int .u32 d.n3, .int .u32 d.n4, .slice A d.texts.length cap, .string d.raw]] W (IntPost W (dcheckB0 t d)) := by
  have hb : Blk (W.alloc (.cells #[.bool d.six, .int .u64 d.hi, .int .u64 d.lo, .string d.name, .string d.mail, .int .u32 d.n0, .int .u32 d.n1, .int .u32 d.n2, .int .u32 d.n3, .int .u32 d.n4, .slice A d.texts.length cap, .string d.raw] 53)) W.heap.size 53 #[.bool d.six, .int .u64 d.hi, .int .u64 d.lo, .string d.name, .string d.mail, .int .u32 d.n0, .int .u32 d.n1, .int .u32 d.n2, .int .u32 d.n3, .int .u32 d.n4, .slice A d.texts.length cap, .string d.raw] := Blk.new _ _ _
  have hf : Fr (fun _ => False) W (W.alloc (.cells #[.bool d.six, .int .u64 d.hi, .int .u64 d.lo, .string d.name, .string d.mail, .int .u32 d.n0, .int .u32 d.n1, .int .u32 d.n2, .int .u32 d.n3, .int .u32 d.n4, .slice A d.texts.length cap, .string d.raw] 53)) := (Fr.refl _ _).alloc _
  obtain ⟨W1, hW⟩ : ∃ W1, W1 = W.alloc (.cells #[.bool d.six, .int .u64 d.hi, .int .u64 d.lo, .string d.name, .string d.mail, .int .u32 d.n0, .int .u32 d.n1, .int .u32 d.n2, .int .u32 d.n3, .int .u32 d.n4, .slice A d.texts.length cap, .string d.raw] 53) := ⟨_, rfl⟩
  rw [← hW] at hb hf
  have H := Lib.hid (And.intro hb (And.intro hf (hd.fr0 hf)))
  have HW := Lib.hid hW
  have HT := Lib.hid ht
  clear hb hf hW hd ht
  by_cases hm : 0 ≤ t ∧ t ≤ 65535
  · have HM := Lib.hid hm
    clear hm
    go_enter Tryz.func92, Tryz.ntmps92
    go_upto_region 1 with fail
    rw [← HW.out]
    clear HW
    go_cut [17] (fun v wx => v = .bool (!bareB (whatN t) d) ∧ Fr (fun _ => False) W1 wx)
    case first =>
      go_region_held3 (fun w' => w'.cell? ⟨W.heap.size, 0, none⟩ = some (.bool d.six) ∧ w'.cell? ⟨W.heap.size, 1, none⟩ = some (.int .u64 d.hi) ∧ w'.cell? ⟨W.heap.size, 2, none⟩ = some (.int .u64 d.lo) ∧ w'.cell? ⟨W.heap.size, 3, none⟩ = some (.string d.name) ∧ w'.cell? ⟨W.heap.size, 4, none⟩ = some (.string d.mail) ∧ w'.cell? ⟨W.heap.size, 5, none⟩ = some (.int .u32 d.n0) ∧ w'.cell? ⟨W.heap.size, 6, none⟩ = some (.int .u32 d.n1) ∧ w'.cell? ⟨W.heap.size, 7, none⟩ = some (.int .u32 d.n2) ∧ w'.cell? ⟨W.heap.size, 8, none⟩ = some (.int .u32 d.n3) ∧ w'.cell? ⟨W.heap.size, 9, none⟩ = some (.int .u32 d.n4) ∧ w'.cell? ⟨W.heap.size, 10, none⟩ = some (.slice A d.texts.length cap) ∧ w'.cell? ⟨W.heap.size, 11, none⟩ = some (.string d.raw))
        (first | exact dcells H.out.1.drew | exact dcells H.out.1 | exact dcells h3 | exact dcells h4)
        (first
          | (go_at_call 108
             (with_reducible refine (may_any t _).mono ?_)
             rintro e w' ⟨rfl, rfl⟩
             rw [decide_eq_true HM.out])
          | (go_at_call 98
             (with_reducible refine (of_any t HT.out _).mono ?_)
             rintro e w3 ⟨rfl, f3⟩
             have g3 : Fr (fun _ => False) W1 w3 := f3.fromD
             have h3 := H.out.1.fr g3 id
             have H3 := Lib.hid g3
             clear f3 g3)
          | (go_at_call 118
             (with_reducible refine (bare_c (whatN t) (textN t) d A cap _ (H.out.2.2.fr0 H3.out)).mono ?_)
             rintro e w4 ⟨rfl, f4⟩
             have h4 := h3.fr f4 id
             have H4 := Lib.hid (H3.out.then f4)
             clear f4))
      go_wp2_with fail
      go_meet
      exact ⟨rfl, H4.out⟩
    case rest =>
      obtain ⟨rfl, hf⟩ := hcut
      have hbc := H.out.1.fr hf id
      have HF := Lib.hid (And.intro (H.out.2.1.then hf) (H.out.2.2.fr0 hf))
      clear hf H
      by_cases hB : bareB (whatN t) d = true
      · have HZ : Hid (dcheckB0 t d = if ckN d.name ≠ 0 then ckN d.name else if ckN d.mail ≠ 0 then ckN d.mail else if longB d.texts = true then 3 else 0) := by
          show _ = _
          unfold dcheckB0
          rw [if_pos ⟨HM.out.1, HM.out.2, hB⟩]
        rw [hB]
        have HB := Lib.hid hB
        clear hB
        have d3 := hbc.cell 3
        have d4 := hbc.cell 4
        have hn := Blk.new wc 36 #[.string d.name, .string d.mail]
        have hb2 := hbc.alloc (.cells #[.string d.name, .string d.mail] 36)
        have e0 := hn.cell 0
        have e1 := hn.cell 1
        have e10 := hb2.cell 10
        simp only [List.getElem?_toArray, List.getElem?_cons_zero, List.getElem?_cons_succ] at d3 d4 e0 e1 e10
        have HF2 : Hid (Fr (fun _ => False) W (wc.alloc (.cells #[.string d.name, .string d.mail] 36)) ∧ DtIn (wc.alloc (.cells #[.string d.name, .string d.mail] 36)) A d) := ⟨HF.out.1.alloc _, HF.out.2.fr0 ((Fr.refl _ _).alloc _)⟩
        clear hn hb2 hbc
        go_wp2_with fail
        refine wp_loop_rounds 3 ?_
        rw [rounds_succ]
        go_wp2_with fail
        refine (ncheck_any d.name _).mono ?_
        rintro e w' ⟨rfl, m0, rfl⟩
        by_cases k1 : ckN d.name = 0
        · rw [k1]
          go_wp2_with fail
          rw [rounds_succ]
          go_wp2_with fail
          refine (ncheck_any d.mail _).mono ?_
          rintro e w' ⟨rfl, m1, rfl⟩
          by_cases k2 : ckN d.mail = 0
          · rw [k2]
            go_wp2_with fail
            rw [rounds_succ]
            go_wp2_with fail
            refine (contains_any A cap d.texts _ (HF2.out.2.txt.fr0 ((Fr.refl _ _).drewN _)) HF2.out.2.len).mono ?_
            rintro e w' ⟨rfl, rfl⟩
            by_cases k3 : longB d.texts = true
            · rw [k3]
              go_wp2_with fail
              go_ret
              exact ⟨ret_int (by rw [HZ.out, if_neg (by simp [k1]), if_neg (by simp [k2]), if_pos k3]), HF2.out.1.drewN _⟩
            · have k3' : longB d.texts = false := by simpa using k3
              rw [k3']
              go_wp2_with fail
              go_ret
              exact ⟨ret_int (by rw [HZ.out, if_neg (by simp [k1]), if_neg (by simp [k2]), if_neg k3]), HF2.out.1.drewN _⟩
          · have k2' : (ckN d.mail != 0) = true := by simp [k2]
            go_wp2_with fail
            go_ret
            exact ⟨ret_int (by rw [HZ.out, if_neg (by simp [k1]), if_pos k2]), HF2.out.1.drewN _⟩
        · have k1' : (ckN d.name != 0) = true := by simp [k1]
          go_wp2_with fail
          go_ret
          exact ⟨ret_int (by rw [HZ.out, if_pos k1]), HF2.out.1.drewN _⟩
      · have hB' : bareB (whatN t) d = false := by simpa using hB
        have HZ : Hid (dcheckB0 t d = 2) := by
          show _ = _
          unfold dcheckB0
          rw [if_neg (fun h => hB h.2.2)]
        rw [hB']
        clear hbc hB hB'
        go_wp2_with fail
        go_ret
        exact ⟨ret_int HZ.out.symm, HF.out.1⟩
  · have HZ : Hid (dcheckB0 t d = 2) := by
      show _ = _
      unfold dcheckB0
      rw [if_neg (fun h => hm ⟨h.1, h.2.1⟩)]
    have HM := Lib.hid hm
    clear hm
    go_enter Tryz.func92, Tryz.ntmps92
    go_upto_region 1 with fail
    rw [← HW.out]
    clear HW
    have hmay : ∀ w, Calls Tryz.prog 108 #[.int .i64 t] w fun e w' => e = .returned (.bool false) ∧ w = w' := fun w => by
      have := may_any t w
      rw [decide_eq_false HM.out] at this
      exact this
    have HY := Lib.hid hmay
    clear hmay
    go_quiet ((go_at_call 108; exact quiet_left (HY.out _)))
    go_wp2_with fail
    go_ret
    exact ⟨ret_int HZ.out.symm, H.out.2.1.drewN _⟩
def dsizeB (t : Int) (d : Dt) : Int := if dcheckB0 t d = 0 then (d.size (whatN t) : Int) else 0
set_option maxRecDepth 100000 in
set_option maxHeartbeats 8000000 in
theorem dSize_any (t : Int) (d : Dt) (A : Option Addr) (cap : Nat) (W : World) (hd : DtIn W A d) (ht : -9223372036854775808 ≤ t ∧ t ≤ 9223372036854775807) :
    Calls Tryz.prog 86 #[.int .i64 t, .agg #[.bool d.six, .int .u64 d.hi, .int .u64 d.lo, .string d.name, .string d.mail, .int .u32 d.n0, .int .u32 d.n1, .int .u32 d.n2, .int .u32 d.n3, .int .u32 d.n4, .slice A d.texts.length cap, .string d.raw]] W (IntPost W (dsizeB t d)) := by
  have hb : Blk (W.alloc (.cells #[.bool d.six, .int .u64 d.hi, .int .u64 d.lo, .string d.name, .string d.mail, .int .u32 d.n0, .int .u32 d.n1, .int .u32 d.n2, .int .u32 d.n3, .int .u32 d.n4, .slice A d.texts.length cap, .string d.raw] 53)) W.heap.size 53 #[.bool d.six, .int .u64 d.hi, .int .u64 d.lo, .string d.name, .string d.mail, .int .u32 d.n0, .int .u32 d.n1, .int .u32 d.n2, .int .u32 d.n3, .int .u32 d.n4, .slice A d.texts.length cap, .string d.raw] := Blk.new _ _ _
  have hf : Fr (fun _ => False) W (W.alloc (.cells #[.bool d.six, .int .u64 d.hi, .int .u64 d.lo, .string d.name, .string d.mail, .int .u32 d.n0, .int .u32 d.n1, .int .u32 d.n2, .int .u32 d.n3, .int .u32 d.n4, .slice A d.texts.length cap, .string d.raw] 53)) := (Fr.refl _ _).alloc _
  obtain ⟨W1, hW⟩ : ∃ W1, W1 = W.alloc (.cells #[.bool d.six, .int .u64 d.hi, .int .u64 d.lo, .string d.name, .string d.mail, .int .u32 d.n0, .int .u32 d.n1, .int .u32 d.n2, .int .u32 d.n3, .int .u32 d.n4, .slice A d.texts.length cap, .string d.raw] 53) := ⟨_, rfl⟩
  rw [← hW] at hb hf
  have H := Lib.hid (And.intro hb (And.intro hf (hd.fr0 hf)))
  have HW := Lib.hid hW
  have HT := Lib.hid ht
  clear hb hf hW hd ht
  go_enter Tryz.func86, Tryz.ntmps86
  go_upto_region 1 with fail
  rw [← HW.out]
  clear HW
  obtain ⟨c0, c1, c2, c3, c4, c5, c6, c7, c8, c9, c10, c11⟩ := dcells H.out.1
  go_wp2_with fail
  refine (check0_any t d A cap _ H.out.2.2 HT.out).mono ?_
  rintro e w2 ⟨rfl, f2⟩
  have HB := Lib.hid (H.out.1.fr f2 id)
  have HF := Lib.hid (And.intro (H.out.2.1.then f2) (H.out.2.2.fr0 f2))
  clear f2 H c0 c1 c2 c3 c4 c5 c6 c7 c8 c9 c10 c11
  by_cases hc : dcheckB0 t d = 0
  · rw [hc]
    have hk : bareB (whatN t) d = true ∧ ckN d.name = 0 ∧ ckN d.mail = 0 ∧ longB d.texts ≠ true := by
      unfold dcheckB0 at hc
      split at hc
      · rename_i h
        split at hc
        · exact absurd hc (by assumption)
        · rename_i h1
          split at hc
          · exact absurd hc (by assumption)
          · rename_i h2
            split at hc
            · cases hc
            · rename_i h3
              exact ⟨h.2.2, Classical.not_not.1 h1, Classical.not_not.1 h2, h3⟩
      · cases hc
    have HK := Lib.hid hk
    have HC := Lib.hid hc
    clear hk hc
    go_wp2_with fail
    go_region_held3 (fun w' => w'.cell? ⟨W.heap.size, 0, none⟩ = some (.bool d.six) ∧ w'.cell? ⟨W.heap.size, 1, none⟩ = some (.int .u64 d.hi) ∧ w'.cell? ⟨W.heap.size, 2, none⟩ = some (.int .u64 d.lo) ∧ w'.cell? ⟨W.heap.size, 3, none⟩ = some (.string d.name) ∧ w'.cell? ⟨W.heap.size, 4, none⟩ = some (.string d.mail) ∧ w'.cell? ⟨W.heap.size, 5, none⟩ = some (.int .u32 d.n0) ∧ w'.cell? ⟨W.heap.size, 6, none⟩ = some (.int .u32 d.n1) ∧ w'.cell? ⟨W.heap.size, 7, none⟩ = some (.int .u32 d.n2) ∧ w'.cell? ⟨W.heap.size, 8, none⟩ = some (.int .u32 d.n3) ∧ w'.cell? ⟨W.heap.size, 9, none⟩ = some (.int .u32 d.n4) ∧ w'.cell? ⟨W.heap.size, 10, none⟩ = some (.slice A d.texts.length cap) ∧ w'.cell? ⟨W.heap.size, 11, none⟩ = some (.string d.raw))
      (first | exact dcells HB.out.drew | exact dcells HB.out | exact dcells h3 | exact dcells h4)
      (first
        | (go_at_call 98
           (with_reducible refine (of_any t HT.out _).mono ?_)
           rintro e w3 ⟨rfl, f3⟩
           have g3 : Fr (fun _ => False) w2 w3 := f3.fromD
           have h3 := HB.out.fr g3 id
           have H3 := Lib.hid g3
           clear f3 g3)
        | (go_at_call 113
           (with_reducible refine (size_c (whatN t) (textN t) d A cap _ (HF.out.2.fr0 H3.out) ⟨t, rfl⟩ HK.out.2.1 HK.out.2.2.1 (fun x hx => Nat.le_of_not_lt fun g => absurd ((longB_iff _).2 ⟨x, hx, g⟩) HK.out.2.2.2)).mono ?_)
           rintro e w4 ⟨rfl, f4⟩
           have h4 := h3.fr f4 id
           have H4 := Lib.hid (H3.out.then f4)
           clear f4))
    go_wp2_with fail
    go_ret
    exact ⟨ret_int (by unfold dsizeB; rw [if_pos HC.out]), HF.out.1.then H4.out⟩
  · have hc' : (dcheckB0 t d != 0) = true := by simp [hc]
    have HC := Lib.hid hc
    clear hc
    go_wp2_with fail
    go_ret
    exact ⟨ret_int (by unfold dsizeB; rw [if_neg HC.out]), HF.out.1⟩
def dcheckB (t : Int) (d : Dt) : Int := if dcheckB0 t d ≠ 0 then dcheckB0 t d else if 65535 < d.size (whatN t) then 3 else 0
theorem dcheckB_eq (t : Int) (d : Dt) : dcheckB t d = dcheck t d := by unfold dcheckB dcheck; rw [dcheckB0_eq]
set_option maxRecDepth 100000 in
set_option maxHeartbeats 8000000 in
theorem dCheck_any (t : Int) (d : Dt) (A : Option Addr) (cap : Nat) (W : World) (hd : DtIn W A d) (ht : -9223372036854775808 ≤ t ∧ t ≤ 9223372036854775807) :
    Calls Tryz.prog 60 #[.int .i64 t, .agg #[.bool d.six, .int .u64 d.hi, .int .u64 d.lo, .string d.name, .string d.mail, .int .u32 d.n0, .int .u32 d.n1, .int .u32 d.n2, .int .u32 d.n3, .int .u32 d.n4, .slice A d.texts.length cap, .string d.raw]] W (IntPost W (dcheckB t d)) := by
  have hb : Blk (W.alloc (.cells #[.bool d.six, .int .u64 d.hi, .int .u64 d.lo, .string d.name, .string d.mail, .int .u32 d.n0, .int .u32 d.n1, .int .u32 d.n2, .int .u32 d.n3, .int .u32 d.n4, .slice A d.texts.length cap, .string d.raw] 53)) W.heap.size 53 #[.bool d.six, .int .u64 d.hi, .int .u64 d.lo, .string d.name, .string d.mail, .int .u32 d.n0, .int .u32 d.n1, .int .u32 d.n2, .int .u32 d.n3, .int .u32 d.n4, .slice A d.texts.length cap, .string d.raw] := Blk.new _ _ _
  have hf : Fr (fun _ => False) W (W.alloc (.cells #[.bool d.six, .int .u64 d.hi, .int .u64 d.lo, .string d.name, .string d.mail, .int .u32 d.n0, .int .u32 d.n1, .int .u32 d.n2, .int .u32 d.n3, .int .u32 d.n4, .slice A d.texts.length cap, .string d.raw] 53)) := (Fr.refl _ _).alloc _
  obtain ⟨W1, hW⟩ : ∃ W1, W1 = W.alloc (.cells #[.bool d.six, .int .u64 d.hi, .int .u64 d.lo, .string d.name, .string d.mail, .int .u32 d.n0, .int .u32 d.n1, .int .u32 d.n2, .int .u32 d.n3, .int .u32 d.n4, .slice A d.texts.length cap, .string d.raw] 53) := ⟨_, rfl⟩
  rw [← hW] at hb hf
  have H := Lib.hid (And.intro hb (And.intro hf (hd.fr0 hf)))
  have HW := Lib.hid hW
  have HT := Lib.hid ht
  clear hb hf hW hd ht
  go_enter Tryz.func60, Tryz.ntmps60
  go_upto_region 1 with fail
  rw [← HW.out]
  clear HW
  obtain ⟨c0, c1, c2, c3, c4, c5, c6, c7, c8, c9, c10, c11⟩ := dcells H.out.1
  go_wp2_with fail
  refine (check0_any t d A cap _ H.out.2.2 HT.out).mono ?_
  rintro e w2 ⟨rfl, f2⟩
  have HB := Lib.hid (H.out.1.fr f2 id)
  have HF := Lib.hid (And.intro (H.out.2.1.then f2) (H.out.2.2.fr0 f2))
  clear f2 H c0 c1 c2 c3 c4 c5 c6 c7 c8 c9 c10 c11
  by_cases hc : dcheckB0 t d = 0
  · rw [hc]
    obtain ⟨c0, c1, c2, c3, c4, c5, c6, c7, c8, c9, c10, c11⟩ := dcells HB.out
    have HC := Lib.hid hc
    clear hc
    go_wp2_with fail
    refine (dSize_any t d A cap _ HF.out.2 HT.out).mono ?_
    rintro e w3 ⟨rfl, f3⟩
    unfold dsizeB
    rw [if_pos HC.out]
    have HF3 := Lib.hid (HF.out.1.then f3)
    clear f3 c0 c1 c2 c3 c4 c5 c6 c7 c8 c9 c10 c11
    by_cases hs : 65535 < d.size (whatN t)
    · have hs' : (65535 : Int) < (d.size (whatN t) : Int) := by omega
      have HS := Lib.hid hs
      clear hs
      go_wp2_with fail
      go_ret
      exact ⟨ret_int (by unfold dcheckB; rw [if_neg (by simp [HC.out]), if_pos HS.out]), HF3.out⟩
    · have hs' : ¬ (65535 : Int) < (d.size (whatN t) : Int) := by omega
      have HS := Lib.hid hs
      clear hs
      go_wp2_with fail
      go_ret
      exact ⟨ret_int (by unfold dcheckB; rw [if_neg (by simp [HC.out]), if_neg HS.out]), HF3.out⟩
  · have hc' : (dcheckB0 t d != 0) = true := by simp [hc]
    have HC := Lib.hid hc
    clear hc
    go_wp2_with fail
    go_ret
    exact ⟨ret_int (by unfold dcheckB; rw [if_pos HC.out]), HF.out.1⟩
end Go.Proofs.YtmbgejiahmhffaaGreat

/-
  LAYER 9: the cursor's data: what is known at each step; the numbers.
-/
namespace Go.Proofs.YtmbgejiahmhffaaGreat
set_option linter.unusedVariables false
set_option linter.unusedSimpArgs false
open Go.RowKit

def Dt.withN (d : Dt) (l : List Nat) : Dt := { d with n0 := l.getD 0 0, n1 := l.getD 1 0, n2 := l.getD 2 0, n3 := l.getD 3 0, n4 := l.getD 4 0 }
theorem withN_set (d : Dt) (t : Value) (l : List Nat) (v : Nat) (h : l.length < 5) : ((d.withN l).cells t).setIfInBounds (5 + l.length) (.int .u32 (v : Nat)) = (d.withN (l ++ [v])).cells t := by
  match l, h with
  | [], _ => rfl
  | [a], _ => rfl
  | [a, b], _ => rfl
  | [a, b, c], _ => rfl
  | [a, b, c, e], _ => rfl
/-- The cursor, its variable, what the type has, the data as far as read. -/
structure DatS (w0 w : World) (p r : Nat) (s : ByteArray) (en : Nat) (c : Cu) (p2 p8 pd : Nat) (wh : Wh) (tx : ByteArray) (d : Dt) (t : Value) : Prop where
  cu : CuIn w p r s en c
  b2 : Blk w p2 165 #[.pointer (some ⟨p, 0, none⟩)]
  b8 : Blk w p8 155 (wh.cells tx)
  bd : Blk w pd 53 (d.cells t)
  fr : Fr (fun k => k = p ∨ k = r) w0 w
  n2 : w0.heap.size ≤ p2
  n8 : w0.heap.size ≤ p8
  nd : w0.heap.size ≤ pd
  lp : p < w0.heap.size
  lr : r < w0.heap.size
section
variable {w0 w w' : World} {p r : Nat} {s : ByteArray} {en : Nat} {c c' : Cu} {p2 p8 pd : Nat} {wh : Wh} {tx : ByteArray} {d d' : Dt} {t t' : Value}
theorem DatS.next (h : DatS w0 w p r s en c p2 p8 pd wh tx d t) (hc : CuIn w' p r s en c') (hf : Fr (fun k => k = p ∨ k = r) w w') : DatS w0 w' p r s en c' p2 p8 pd wh tx d t := by
  have a1 := h.lp
  have a2 := h.lr
  have a3 := h.n2
  have a4 := h.n8
  have a5 := h.nd
  exact ⟨hc, h.b2.fr hf (by rintro (e | e) <;> omega), h.b8.fr hf (by rintro (e | e) <;> omega), h.bd.fr hf (by rintro (e | e) <;> omega), h.fr.then hf, a3, a4, a5, a1, a2⟩
theorem DatS.quiet (h : DatS w0 w p r s en c p2 p8 pd wh tx d t) (hf : Fr (fun _ => False) w w') : DatS w0 w' p r s en c p2 p8 pd wh tx d t := h.next (h.cu.fr0 hf) (hf.mono fun _ _ h => h.elim)
/-- The data's block has turned. -/
theorem DatS.put (h : DatS w0 w p r s en c p2 p8 pd wh tx d t) (hb : Blk w' pd 53 (d'.cells t')) (hf : Fr (· = pd) w w') : DatS w0 w' p r s en c p2 p8 pd wh tx d' t' := by
  have a1 := h.lp
  have a2 := h.lr
  have a5 := h.nd
  have e2 : p2 ≠ pd := h.b2.ne_ h.bd (by decide)
  have e8 : p8 ≠ pd := h.b8.ne_ h.bd (by decide)
  exact ⟨h.cu.fr hf (by omega) (by omega), h.b2.fr hf e2, h.b8.fr hf e8, hb, h.fr.step hf fun k e => .inr (by omega), h.n2, h.n8, a5, a1, a2⟩
theorem DatS.cell (h : DatS w0 w p r s en c p2 p8 pd wh tx d t) (i : Nat) (v : Value) (hc : (d.cells t).setIfInBounds i v = d'.cells t') : DatS w0 (w.setCell ⟨pd, i, none⟩ v) p r s en c p2 p8 pd wh tx d' t' :=
  h.put (by rw [← hc]; exact h.bd.set_ i v) ((Fr.refl (· = pd) w).setCell (p := ⟨pd, i, none⟩) (fun _ => rfl) v)
end

def DatPost (w0 : World) (p r : Nat) (s : ByteArray) (en : Nat) (c : Cu) (p2 p8 pd : Nat) (wh : Wh) (tx : ByteArray) (d : Dt) (t : Value) (e : Ending) (w' : World) : Prop :=
  e = .returned (.tuple #[]) ∧ DatS w0 w' p r s en c p2 p8 pd wh tx d t
theorem run_numAddr (p i : Nat) (hi : i < 5) (w : World) : (Instr.indexAt 50 (.pointer (some ⟨p, 5, none⟩)) (.int .i64 i)).run Tryz.prog w = .ok (.pointer (some ⟨p, 5 + i, none⟩)) w := by
  rcases (show i = 0 ∨ i = 1 ∨ i = 2 ∨ i = 3 ∨ i = 4 by omega) with rfl | rfl | rfl | rfl | rfl <;> kernel_rfl
set_option maxRecDepth 100000 in
set_option maxHeartbeats 8000000 in
theorem dataNums_any {w0 w : World} {p r : Nat} {s : ByteArray} {en : Nat} {c : Cu} {p2 p8 pd : Nat} {wh : Wh} {tx : ByteArray} {d : Dt} {t : Value} (h : DatS w0 w p r s en c p2 p8 pd wh tx (d.withN []) t)
    (hn : wh.nums ≤ 5) (hw : wh.nums = 0 ∨ 1 ≤ wh.wide ∧ wh.wide ≤ 4) :
    Calls Tryz.prog 130 #[.pointer (some ⟨p8, 0, none⟩), .pointer (some ⟨p2, 0, none⟩), .pointer (some ⟨pd, 0, none⟩)] w
      (DatPost w0 p r s en (Cu.nums s.data.toList en wh.wide wh.nums c).2 p2 p8 pd wh tx (d.withN (Cu.nums s.data.toList en wh.wide wh.nums c).1) t) := by
  have H := Lib.hid h
  have c5 : w.cell? ⟨p8, 5, none⟩ = some (.int .i64 (wh.nums : Nat)) := h.b8.cell 5
  clear h
  obtain ⟨R, hR⟩ : ∃ R, R = Cu.nums s.data.toList en wh.wide wh.nums c := ⟨_, rfl⟩
  rw [← hR]
  have HR := Lib.hid hR
  have HW := Lib.hid hw
  clear hR hw
  go_enter Tryz.func130, Tryz.ntmps130
  go_wp2_with fail
  clear c5
  go_loopg [6] wh.nums (fun g i wr => ∃ (j : Nat) (x : Cu) (l : List Nat), j ≤ wh.nums ∧ g = wh.nums - j ∧ i = .int .i64 j ∧ DatS w0 wr p r s en x p2 p8 pd wh tx (d.withN l) t ∧ l.length = j ∧ R = (l ++ (Cu.nums s.data.toList en wh.wide (wh.nums - j) x).1, (Cu.nums s.data.toList en wh.wide (wh.nums - j) x).2))
  case atStart => exact ⟨0, c, [], Nat.zero_le _, rfl, rfl, H.out, rfl, HR.out⟩
  case round =>
    obtain ⟨j, x, l, hj, hg, rfl, h, hl, hx⟩ := hrel
    have HX := Lib.hid (And.intro hg (And.intro h (And.intro hl hx)))
    by_cases hlt : j < wh.nums
    · have e2 : wr.cell? ⟨p2, 0, none⟩ = some (.pointer (some ⟨p, 0, none⟩)) := h.b2.cell 0
      have e6 : wr.cell? ⟨p8, 6, none⟩ = some (.int .i64 (wh.wide : Nat)) := h.b8.cell 6
      have hia := run_numAddr pd j (by omega)
      clear h hx hg hl
      go_wp2_with fail
      have hww := HW.out.resolve_left (by omega)
      refine (cunumber_any p r s en x wh.wide _ HX.out.2.1.cu hww.1 hww.2).mono ?_
      rintro e w2 ⟨rfl, g1, g2⟩
      have HN := Lib.hid (HX.out.2.1.next g1 g2)
      have e5 := num_cell HN.out.bd (show j < 5 by omega)
      have z5 := HN.out.bd.frozen (5 + j)
      clear g1 g2 e2 e6 hww
      go_wp2_with fail
      go_roundg (wh.nums - (j + 1))
      case rel =>
        refine ⟨j + 1, (x.number s.data.toList en wh.wide).2, l ++ [(x.number s.data.toList en wh.wide).1], hlt, rfl, by go_num, HN.out.cell (5 + j) _ ?_, by rw [List.length_append, HX.out.2.2.1]; rfl, ?_⟩
        · have := withN_set d t l (x.number s.data.toList en wh.wide).1 (by rw [HX.out.2.2.1]; omega)
          rw [HX.out.2.2.1] at this
          exact this
        · rw [HX.out.2.2.2, show wh.nums - j = (wh.nums - (j + 1)) + 1 by omega]
          simp only [Cu.nums, List.append_assoc, List.singleton_append]
      case measure => have := HX.out.1; omega
    · have hje : j = wh.nums := by omega
      subst hje
      clear h hx hg hl
      go_wp2_with fail
      go_end0
      have := HX.out.2.2.2
      rw [Nat.sub_self] at this
      simp only [Cu.nums, List.append_nil] at this
      rw [this]
      exact ⟨rfl, HX.out.2.1⟩
end Go.Proofs.YtmbgejiahmhffaaGreat

/-
  LAYER 9: the cursor's data.
-/
namespace Go.Proofs.YtmbgejiahmhffaaGreat
set_option linter.unusedVariables false
set_option linter.unusedSimpArgs false
open Go.RowKit

/-! ### The data's parts, read one by one, as steps -/
def ddA (S : List UInt8) (en : Nat) (w : Wh) (c : Cu) : Dt × Cu :=
  if 0 < w.addr then ({ Dt.zero with six := (addrOf (c.take S en w.addr).1).1, hi := (addrOf (c.take S en w.addr).1).2.1, lo := (addrOf (c.take S en w.addr).1).2.2 }, (c.take S en w.addr).2) else (Dt.zero, c)
def ddN (S : List UInt8) (en : Nat) (w : Wh) (x : Dt × Cu) : Dt × Cu := (x.1.withN (Cu.nums S en w.wide w.nums x.2).1, (Cu.nums S en w.wide w.nums x.2).2)
def ddM (S : List UInt8) (en : Nat) (w : Wh) (x : Dt × Cu) : Dt × Cu := ({ x.1 with name := ⟨(x.2.name S en w.plain).1.toArray⟩ }, (x.2.name S en w.plain).2)
def ddQ (S : List UInt8) (en : Nat) (w : Wh) (x : Dt × Cu) : Dt × Cu := ({ x.1 with mail := ⟨(x.2.name S en w.plain).1.toArray⟩ }, (x.2.name S en w.plain).2)
def ddB (S : List UInt8) (en : Nat) (w : Wh) (x : Dt × Cu) : Nat → Dt × Cu
  | 0 => x
  | 1 => ddM S en w x
  | _ => ddQ S en w (ddM S en w x)
def ddT (S : List UInt8) (en : Nat) (w : Wh) (x : Dt × Cu) : Dt × Cu :=
  if w.texts = true then ({ x.1 with texts := (Cu.texts S en (en + 1) x.2).1.map fun l => ⟨l.toArray⟩ }, (Cu.texts S en (en + 1) x.2).2) else x
def ddR (S : List UInt8) (en : Nat) (w : Wh) (x : Dt × Cu) : Dt × Cu :=
  if w.raw = true then ({ x.1 with raw := ⟨(x.2.take S en (en - x.2.at_)).1.toArray⟩ }, (x.2.take S en (en - x.2.at_)).2) else x
def ddAll (S : List UInt8) (en : Nat) (w : Wh) (c : Cu) : Dt × Cu :=
  ddR S en w (ddT S en w (if w.first = true then ddB S en w (ddN S en w (ddA S en w c)) w.names else ddN S en w (ddB S en w (ddA S en w c) w.names)))
theorem ddAll_eq (S : List UInt8) (en at_ : Nat) (w : Wh) (hw : ∃ t, w = whatN t) : ddAll S en w ⟨at_, 0⟩ = dreadB S en w at_ := by
  obtain ⟨t, rfl⟩ := hw
  rcases whatN_cases t with h | h | h | h | h | h | h | h <;> rw [h] <;> rfl
end Go.Proofs.YtmbgejiahmhffaaGreat
