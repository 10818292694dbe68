/-
  LAYER 25: MatchForged, walked.
-/
import Derived.Test.YtncfdfgcnblicaaCFrg
namespace Go.Proofs.Ytncfdfgcnblicaa
open Go.RowKit
set_option linter.unusedVariables false
set_option linter.unusedSimpArgs false

theorem matchF (q : Pn) (b : Nat) (A' : Option Addr) (c' g : Nat) (idv : Int) (resp : Bool) (op sv : Int) (n : ByteArray) (t c : Int) (w : World) (hk : BkO w b 4 4 q A' c') (hb : Blk w g 25 #[.string n, .int .i64 t, .int .i64 c]) (ok : QOk (n, t, c)) (okq : QOk q.q) (hid : 0 ≤ idv ∧ idv ≤ 65535) :
    Calls Try.prog 12 #[.pointer (some ⟨b, 0, none⟩), .int .i64 sv, .agg #[.int .u16 idv, .bool resp, .int .i64 op, .bool false, .bool false, .bool true, .bool false, .bool false, .bool false, .int .i64 0, .int .i64 1, .int .i64 0, .int .i64 0, .int .i64 0, .slice (some ⟨g, 0, none⟩) 1 1, .slice none 0 0, .slice none 0 0, .slice none 0 0]] w (ReplyPost w q (matchB q ⟨idv, resp, op, false, false, true, false, false, false, 0, 1, 0, 0, 0⟩ [(n, t, c)] sv)) :=
  mreply_any b 4 4 q A' c' ⟨idv, resp, op, false, false, true, false, false, false, 0, 1, 0, 0, 0⟩ [(n, t, c)] (some ⟨g, 0, none⟩) 1 sv none none none 0 0 0 0 0 0 w hk (rowIn_blk hb) (fun x hx => by rw [List.mem_singleton.1 hx]; exact ok) okq hid (fun _ => ⟨g, 0, rfl⟩) (fun k hk => by obtain ⟨a, ha, rfl⟩ := hk; injection ha with ha; subst ha; exact hb.lt)
theorem matchF_not (q : Pn) (b : Nat) (A' : Option Addr) (c' g : Nat) (idv : Int) (resp : Bool) (op sv : Int) (n : ByteArray) (t c : Int) (w : World) (hk : BkO w b 4 4 q A' c') (hb : Blk w g 25 #[.string n, .int .i64 t, .int .i64 c]) (ok : QOk (n, t, c)) (okq : QOk q.q) (hid : 0 ≤ idv ∧ idv ≤ 65535)
    (k : Nat) (hk5 : k < 5) (hc : cond q ⟨idv, resp, op, false, false, true, false, false, false, 0, 1, 0, 0, 0⟩ [(n, t, c)] sv k = false) :
    Calls Try.prog 12 #[.pointer (some ⟨b, 0, none⟩), .int .i64 sv, .agg #[.int .u16 idv, .bool resp, .int .i64 op, .bool false, .bool false, .bool true, .bool false, .bool false, .bool false, .int .i64 0, .int .i64 1, .int .i64 0, .int .i64 0, .int .i64 0, .slice (some ⟨g, 0, none⟩) 1 1, .slice none 0 0, .slice none 0 0, .slice none 0 0]] w fun e w' => e = .returned (.tuple #[.agg #[.int .u16 0, .string ⟨#[]⟩, .int .i64 0, .int .i64 0, .int .i64 0, .int .i64 0, .int .i64 0, .slice none 0 0], .bool false]) ∧ Fr (fun _ => False) w w' := by
  refine (matchF q b A' c' g idv resp op sv n t c w hk hb ok okq hid).mono ?_
  rintro e w' ⟨f, hn, _⟩
  exact ⟨hn (match_not k hk5 hc), f⟩
theorem matchF_yes (q : Pn) (b : Nat) (A' : Option Addr) (c' g : Nat) (w : World) (hk : BkO w b 4 4 q A' c') (hb : Blk w g 25 #[.string q.q.1, .int .i64 q.q.2.1, .int .i64 q.q.2.2]) (okq : QOk q.q) (hid : q.id < 65536) (hq : qcheck q.q.1 q.q.2.1 q.q.2.2 = 0) :
    Calls Try.prog 12 #[.pointer (some ⟨b, 0, none⟩), .int .i64 q.sv, .agg #[.int .u16 (q.id : Nat), .bool true, .int .i64 0, .bool false, .bool false, .bool true, .bool false, .bool false, .bool false, .int .i64 0, .int .i64 1, .int .i64 0, .int .i64 0, .int .i64 0, .slice (some ⟨g, 0, none⟩) 1 1, .slice none 0 0, .slice none 0 0, .slice none 0 0]] w fun e w' => ∃ X2 e2, e = .returned (.tuple #[.agg #[.int .u16 (q.id : Nat), .string q.q.1, .int .i64 q.q.2.1, .int .i64 q.q.2.2, .int .i64 q.sv, .int .i64 q.tr, .int .i64 q.dl, .slice X2 q.ws.length e2], .bool true]) ∧ w'.ownsRow 0 69 18 (.slice X2 q.ws.length e2) q.ws.length (q.ws.flatMap wcl) ∧ Fr (fun _ => False) w w' := by
  refine (matchF q b A' c' g (q.id : Nat) true 0 q.sv q.q.1 q.q.2.1 q.q.2.2 w hk hb okq okq ⟨by omega, by omega⟩).mono ?_
  rintro e w' ⟨f, _, hy⟩
  obtain ⟨X2, e2, he, ho, _⟩ := hy (match_self rfl rfl rfl hq)
  exact ⟨X2, e2, he, ho, f⟩
theorem may_4 {q : Pn} (h : q.may 64 = true) (hl : (q.ws.length : Int) ≤ 4) : q.may 4 = true ∧ qcheck q.q.1 q.q.2.1 q.q.2.2 = 0 := by
  unfold Pn.may at h ⊢
  simp only [Bool.and_eq_true, decide_eq_true_eq] at h ⊢
  obtain ⟨⟨h1, h2, h3, h4, h5, h6⟩, h7⟩ := h
  exact ⟨⟨⟨h1, h2, h3, h4, h5, hl⟩, h7⟩, h1⟩
theorem nil_may {q : Pn} {A : Option Addr} {n : Int} (h : q.may n = true) (hA : A = none → q.ws = []) : A ≠ none := fun h0 => by
  unfold Pn.may at h
  simp only [Bool.and_eq_true, decide_eq_true_eq] at h
  have := h.1.2.2.2.2.1
  rw [hA h0] at this
  simp at this

theorem u16_turn (n : Nat) (p : Int) (hn : n < 65536) (h0 : 0 ≤ p) (h1 : p < 1000) : (0 ≤ IntKind.u16.wrap ((n : Int) + (1 + p)) ∧ IntKind.u16.wrap ((n : Int) + (1 + p)) ≤ 65535) ∧ IntKind.u16.wrap ((n : Int) + (1 + p)) ≠ n := by
  have e : IntKind.u16.wrap ((n : Int) + (1 + p)) = ((n : Int) + (1 + p)) % 65536 := by
    simp [IntKind.wrap, IntKind.bits, IntKind.signed]
  rw [e]
  omega
theorem Try.infoQn25 : (Try.prog.info? 25).map (fun i => (i.zero, i.size, i.bytes)) = some (some (.agg #[.string ⟨#[]⟩, .int .i64 0, .int .i64 0]), 3, 32) := by kernel_rfl
theorem q_bounds {q : Qn} (h : qcheck q.1 q.2.1 q.2.2 = 0) : (0 ≤ q.2.1 ∧ q.2.1 ≤ 65535) ∧ 0 ≤ q.2.2 ∧ q.2.2 ≤ 65535 := (qcheck_ok h).2
theorem sv_bounds {q : Pn} (h : q.may 64 = true) (k : i64k q.sv) : 0 ≤ q.sv ∧ q.sv ≤ 9223372036854775807 := by
  unfold Pn.may at h
  simp only [Bool.and_eq_true, decide_eq_true_eq] at h
  exact ⟨h.1.2.1, k.2⟩
theorem headQ (a b : Qn) : ([a] : List Qn).headD b = a := rfl
theorem fold_ne {s n : ByteArray} (hs : ckN s = 0) (hn : ckN n = 0) (h : nsameB s n = false) : foldN n ≠ foldN s := fun e => by
  unfold nsameB at h
  rw [hs, hn, e] at h
  simp at h
theorem own3 {w : World} {g : Nat} {a0 a1 a2 : Value} (h : Blk w g 25 #[a0, a1, a2]) : w.ownsRow 0 25 3 (.slice (some ⟨g, 0, none⟩) 1 1) 1 [a0, a1, a2] :=
  ⟨rfl, .inr ⟨g, 1, _, rfl, Nat.zero_le _, h, Nat.le_refl _, by simp only [maxLen]; omega, rfl, rfl⟩⟩
theorem new3 (w : World) (a0 a1 a2 : Value) : ∀ j v, [a0, a1, a2][j]? = some v → (w.alloc (.cells #[a0, a1, a2] 25)).cell? ((⟨w.heap.size, 0, none⟩ : Addr).add j) = some v := fun j v hv => by
  rw [add_off, Nat.zero_add, (Blk.new w 25 #[a0, a1, a2]).cell j]
  simpa using hv
theorem row6 {w : World} {A : Option Addr} {c : Nat} {a0 a1 a2 b0 b1 b2 : Value} (h : w.ownsRow 0 25 3 (.slice A 2 c) 2 [a0, a1, a2, b0, b1, b2]) : ∃ g cur, A = some ⟨g, 0, none⟩ ∧ Blk w g 25 cur ∧ cur.toList.take 6 = [a0, a1, a2, b0, b1, b2] ∧ 6 ≤ cur.size := by
  rcases h.2 with ⟨h2, h0⟩ | ⟨g, cp, cur, hv, _, hg, h3, h4, h5, h6⟩
  · omega
  · injection hv with hA _ _
    exact ⟨g, cur, hA, hg, h6, by omega⟩
theorem lay_same {cur : Array Value} {a0 a1 a2 b0 b1 b2 : Value} (h : cur.toList.take 6 = [a0, a1, a2, b0, b1, b2]) : lay cur 0 [a0, a1, a2] = cur := by
  unfold lay
  have e : cur.toList.take 3 = [a0, a1, a2] := by
    have := congrArg (List.take 3) h
    rw [List.take_take] at this
    simpa using this
  rw [List.take_zero, List.nil_append, ← e]
  apply Array.toList_inj.1
  have hl : (cur.toList.take 3).length = 3 := by rw [e]; rfl
  rw [hl, Nat.zero_add, List.take_append_drop]

theorem matchF_two (q : Pn) (b : Nat) (A' : Option Addr) (c' g7 c7 : Nat) (cur : Array Value) (x : Qn) (w : World) (hk : BkO w b 4 4 q A' c') (hb : Blk w g7 25 cur) (hcur : cur.toList.take 6 = [.string x.1, .int .i64 x.2.1, .int .i64 x.2.2, .string x.1, .int .i64 x.2.1, .int .i64 x.2.2]) (ok : QOk x) (okq : QOk q.q) (hid : (0 : Int) ≤ (q.id : Nat) ∧ ((q.id : Nat) : Int) ≤ 65535) :
    Calls Try.prog 12 #[.pointer (some ⟨b, 0, none⟩), .int .i64 q.sv, .agg #[.int .u16 (q.id : Nat), .bool true, .int .i64 0, .bool false, .bool false, .bool true, .bool false, .bool false, .bool false, .int .i64 0, .int .i64 1, .int .i64 0, .int .i64 0, .int .i64 0, .slice (some ⟨g7, 0, none⟩) 2 c7, .slice none 0 0, .slice none 0 0, .slice none 0 0]] w fun e w' => e = .returned (.tuple #[.agg #[.int .u16 0, .string ⟨#[]⟩, .int .i64 0, .int .i64 0, .int .i64 0, .int .i64 0, .int .i64 0, .slice none 0 0], .bool false]) ∧ Fr (fun _ => False) w w' := by
  have hr : RowIn w (some ⟨g7, 0, none⟩) (([x, x] : List Qn).flatMap qcl) := fun _ => ⟨g7, 0, rfl, hb.lt, fun i v hv => by
    rw [Nat.zero_add, hb.cell i, ← Array.getElem?_toList]
    have hi := (List.getElem?_eq_some_iff.1 hv).1
    have : (cur.toList.take 6)[i]? = some v := by rw [hcur]; exact hv
    rw [List.getElem?_take] at this
    split at this
    · exact this
    · cases this⟩
  have := mreply_any b 4 4 q A' c' ⟨(q.id : Nat), true, 0, false, false, true, false, false, false, 0, 1, 0, 0, 0⟩ [x, x] (some ⟨g7, 0, none⟩) c7 q.sv none none none 0 0 0 0 0 0 w hk hr (fun y hy => by simp at hy; rw [hy]; exact ok) okq hid (fun h => by simp at h) (fun k hk => by obtain ⟨a, ha, rfl⟩ := hk; injection ha with ha; subst ha; exact hb.lt)
  refine Calls.mono this ?_
  rintro e w' ⟨f, hn, _⟩
  exact ⟨hn (match_not 1 (by decide) rfl), f⟩

/-- What stands before the turn. -/
structure Fg (w w5 W : World) (q : Pn) (A A' : Option Addr) (cap c' b g M : Nat) : Prop where
  pb : Blk W w.heap.size 28 #[.int .u16 (q.id : Nat), .string q.q.1, .int .i64 q.q.2.1, .int .i64 q.q.2.2, .int .i64 q.sv, .int .i64 q.tr, .int .i64 q.dl, .slice A q.ws.length cap]
  bk : BkO W b 4 4 q A' c'
  gb : Blk W g 25 #[.string q.q.1, .int .i64 q.q.2.1, .int .i64 q.q.2.2]
  mb : Blk W M 37 #[.int .u16 (q.id : Nat), .bool true, .int .i64 0, .bool false, .bool false, .bool true, .bool false, .bool false, .bool false, .int .i64 0, .int .i64 1, .int .i64 0, .int .i64 0, .int .i64 0, .slice (some ⟨g, 0, none⟩) 1 1, .slice none 0 0, .slice none 0 0, .slice none 0 0]
  pn : PnIn W A q
  f5 : Fr (fun _ => False) w5 W
  fr : Fr (fun _ => False) w W
  b5 : BkO w5 b 4 4 q A' c'
  gM : g < M ∧ w.heap.size < g ∧ w5.heap.size ≤ g
  s5 : w.heap.size ≤ w5.heap.size
theorem Fg.fr0 {w w5 W W' : World} {q : Pn} {A A' : Option Addr} {cap c' b g M : Nat} (h : Fg w w5 W q A A' cap c' b g M) (f : Fr (fun _ => False) W W') : Fg w w5 W' q A A' cap c' b g M :=
  ⟨h.pb.fr f id, h.bk.fr0 f, h.gb.fr f id, h.mb.fr f id, h.pn.fr0 f, h.f5.then f, h.fr.then f, h.b5, h.gM, h.s5⟩

set_option maxRecDepth 100000 in
set_option maxHeartbeats 8000000 in
theorem forged_on (q : Pn) (A : Option Addr) (cap : Nat) (what by0 : Int) (s : ByteArray) (w : World) (hq : PnIn w A q) (hA : A = none → q.ws = []) (hcap : A = none → cap = 0)
    (hl : lightP q = true) (hm : q.may 64 = true) (hl4 : (q.ws.length : Int) ≤ 4) (hs : ckN s = 0) (hss : s.size ≤ 1048576) :
    Calls Try.prog 3 #[.agg #[.int .u16 (q.id : Nat), .string q.q.1, .int .i64 q.q.2.1, .int .i64 q.q.2.2, .int .i64 q.sv, .int .i64 q.tr, .int .i64 q.dl, .slice A q.ws.length cap], .int .i64 what, .int .i64 by0, .string s] w (EqPost w true) := by
  obtain ⟨W, hW⟩ : ∃ W, W = w.alloc (.cells #[.int .u16 (q.id : Nat), .string q.q.1, .int .i64 q.q.2.1, .int .i64 q.q.2.2, .int .i64 q.sv, .int .i64 q.tr, .int .i64 q.dl, .slice A q.ws.length cap] 28) := ⟨_, rfl⟩
  have hb : Blk W w.heap.size 28 #[.int .u16 (q.id : Nat), .string q.q.1, .int .i64 q.q.2.1, .int .i64 q.q.2.2, .int .i64 q.sv, .int .i64 q.tr, .int .i64 q.dl, .slice A q.ws.length cap] := by rw [hW]; exact Blk.new _ _ _
  have hf : Fr (fun _ => False) w W := by rw [hW]; exact (Fr.refl _ _).alloc _
  have e3 : ¬ (4 : Int) < (q.ws.length : Int) := by omega
  have HB := Lib.hid (And.intro hb (And.intro hf (hq.fr0 hf)))
  have HK := Lib.hid (And.intro hl (And.intro hm hs))
  have HM := Lib.hid (may_4 hm hl4)
  have HN := Lib.hid (And.intro hq.q.1 hq.len)
  have HSS := Lib.hid hss
  have HQ := Lib.hid (And.intro hq.q (And.intro hq.id (And.intro hA hcap)))
  have HSV := Lib.hid hq.sv
  have HW := Lib.hid hW
  clear hb hf hl hm hs hss hq hW hA hcap hl4
  go_enter Try.func3, Try.ntmps3
  go_upto_region 1 with fail
  rw [← HW.out]
  clear HW
  go_upto_region 5 with (first
    | (go_at_call 6
       (with_reducible refine (lives25_any W).mono ?_)
       rintro e w1 ⟨rfl, f1⟩
       have H1 := Lib.hid (And.intro (HB.out.1.fr f1 id) (And.intro (HB.out.2.1.then f1) (HB.out.2.2.fr0 f1)))
       clear f1)
    | (refine wpList_load_blkg (by first | rfl | (simp [Region.wanted, yielded]; done)) 28 _ rfl w.heap.size (by rfl) 28 _ _ (by first | with_reducible exact H1.out.1 | with_reducible exact H2.out.1) Try.underlying28 rfl (by kernel_rfl) ?_)
    | (go_at_call 7
       (with_reducible refine (light25_any q A cap _ HN.out.1 HN.out.2).mono ?_)
       rintro e w2 ⟨rfl, f2⟩
       rw [HK.out.1]
       have H2 := Lib.hid (And.intro (H1.out.1.fr f2 id) (And.intro (H1.out.2.1.then f2) (H1.out.2.2.fr0 f2)))
       clear f2)
    | (go_at_call 8
       (with_reducible refine (rpCheck_any q A cap _ H2.out.2.2).mono ?_)
       rintro e w3 ⟨rfl, f3⟩
       rw [if_pos HK.out.2.1]
       have H3 := Lib.hid (And.intro (H2.out.1.fr f3 id) (And.intro (H2.out.2.1.then f3) (And.intro ((H2.out.1.fr f3 id).cell 7) (H2.out.2.2.fr0 f3))))
       clear f3
       have c7 := H3.out.2.2.1)
    | (go_at_call 9
       (with_reducible refine (rcheck_any s _).mono ?_)
       rintro e w4 ⟨rfl, rfl⟩
       rw [HK.out.2.2])
    | fail "no arm")
  clear c7
  go_upto_region 8 with (first
    | (refine wpList_load_blk rfl 28 _ rfl w.heap.size (by rfl) 28 _ _ H3.out.1 Try.underlying28 rfl (by kernel_rfl) ?_)
    | (go_at_call 10
       (with_reducible refine (books_yes q A cap w3 H3.out.2.2.2 HM.out.1 HQ.out.2.2.1 HQ.out.2.2.2).mono ?_)
       rintro e w5 ⟨⟨b, r, rfl, ⟨A', c', hk⟩, _⟩, f⟩
       have H5 := Lib.hid (And.intro (H3.out.1.fr f id) (And.intro (H3.out.2.1.then f) (And.intro (H3.out.2.2.2.fr0 f) hk)))
       clear hk f)
    | fail "no arm")
  have d0 := H5.out.1.cell 0
  have d1 := H5.out.1.cell 1
  have d2 := H5.out.1.cell 2
  have d3 := H5.out.1.cell 3
  go_upto_region 9 with (first
    | (go_at_call 11
       (with_reducible refine (lreply_any q.id q.q w5).mono ?_)
       rintro e w6 ⟨g, rfl, gb, g5, f⟩
       have H6 := Lib.hid (And.intro (H5.out.1.fr f id) (And.intro (H5.out.2.1.then f) (And.intro (H5.out.2.2.1.fr0 f) (And.intro (H5.out.2.2.2.fr0 f) (And.intro gb (And.intro g5 f))))))
       clear gb f g5)
    | (refine wpList_store_part rfl 37 _ _ rfl w6.heap.size 0 (by rfl) _ (by rfl) 37 _ (Blk.new w6 37 _) (by kernel_rfl) (by simp [Value.oneCell']) (by simp) #[.int .u16 (q.id : Nat), .bool true, .int .i64 0, .bool false, .bool false, .bool true, .bool false, .bool false, .bool false, .int .i64 0, .int .i64 1, .int .i64 0, .int .i64 0, .int .i64 0, .slice (some ⟨g, 0, none⟩) 1 1, .slice none 0 0, .slice none 0 0, .slice none 0 0] (by rfl) ?_
       intro w7 b3 f3
       have f67 : Fr (fun _ => False) w6 w7 := ((Fr.refl (fun _ => False) w6).alloc _).step f3 (fun k hk => .inr (by subst hk; exact Nat.le_refl _))
       have H7 := Lib.hid (show Fg w w5 w7 q A A' cap c' b g w6.heap.size from ⟨H6.out.1.fr f67 id, H6.out.2.2.2.1.fr0 f67, H6.out.2.2.2.2.1.fr f67 id, b3, H6.out.2.2.1.fr0 f67, H6.out.2.2.2.2.2.2.then f67, H6.out.2.1.then f67, H5.out.2.2.2, ⟨H6.out.2.2.2.2.1.lt, by have := H5.out.1.lt; have := H6.out.2.2.2.2.2.1; omega, H6.out.2.2.2.2.2.1⟩, H5.out.2.1.size⟩)
       clear b3 f3 f67)
    | fail "no arm")
  obtain ⟨M, hM⟩ : ∃ M, M = w6.heap.size := ⟨_, rfl⟩
  rw [← hM] at H7 ⊢
  clear hM d0 d1 d2 d3
  have d2 := H7.out.pb.cell 4
  go_upto_region 10 with (first
    | (refine wpList_load_blk rfl 37 _ rfl M (by rfl) 37 _ _ H7.out.mb Try.underlying37 rfl (by kernel_rfl) ?_)
    | (go_at_call 12
       (with_reducible refine (matchF_yes q b A' c' g w7 H7.out.bk H7.out.gb HQ.out.1 HQ.out.2.1 HM.out.2).mono ?_)
       rintro e w8 ⟨X2, e2, rfl, ho, f⟩
       have H8 := Lib.hid (And.intro (H7.out.fr0 f) (own_rowIn0 ho))
       clear f ho)
    | (refine wpList_store_part rfl 28 _ _ rfl w8.heap.size 0 (by rfl) _ (by rfl) 28 _ (Blk.new w8 28 _) (by kernel_rfl) (by simp [Value.oneCell']) (by simp) #[.int .u16 (q.id : Nat), .string q.q.1, .int .i64 q.q.2.1, .int .i64 q.q.2.2, .int .i64 q.sv, .int .i64 q.tr, .int .i64 q.dl, .slice X2 q.ws.length e2] (by rfl) ?_
       intro w9 b3 f3
       have f89 : Fr (fun _ => False) w8 w9 := ((Fr.refl (fun _ => False) w8).alloc _).step f3 (fun k hk => .inr (by subst hk; exact Nat.le_refl _))
       have H9 := Lib.hid (And.intro (H8.out.1.fr0 f89) (And.intro (rowIn_fr0 H8.out.2 f89) b3))
       clear b3 f3 f89)
    | fail "no arm")
  clear d2
  go_upto_region 12 with (first
    | (refine wpList_load_blkg (by first | rfl | (simp [Region.wanted, yielded]; done)) 28 _ rfl w8.heap.size (by rfl) 28 _ _ H9.out.2.2 Try.underlying28 rfl (by kernel_rfl) ?_)
    | (refine wpList_load_blkg (by first | rfl | (simp [Region.wanted, yielded]; done)) 28 _ rfl w.heap.size (by rfl) 28 _ _ H9.out.1.pb Try.underlying28 rfl (by kernel_rfl) ?_)
    | (go_at_call 13
       (with_reducible refine (psame_same q X2 A e2 cap w9 ⟨H9.out.2.1, H9.out.1.pn.ws, H9.out.1.pn.id, H9.out.1.pn.q, H9.out.1.pn.sv, H9.out.1.pn.tr, H9.out.1.pn.dl, H9.out.1.pn.len⟩ H9.out.1.pn.row).mono ?_)
       rintro e w10 ⟨rfl, f⟩
       have H10 := Lib.hid (H9.out.1.fr0 f)
       clear f)
    | fail "no arm")
  have hpk := pick_range by0 1000 (by decide)
  obtain ⟨p1, hp1⟩ : ∃ p, p = pick by0 1000 := ⟨_, rfl⟩
  rw [← hp1] at hpk
  have HP1 := Lib.hid hp1
  clear hp1
  obtain ⟨hpa, hpb⟩ := hpk
  go_upto_region 13 with (first
    | (go_at_call 14
       (with_reducible refine (pick_any by0 1000 _ (by decide) (by decide)).mono ?_)
       rintro e w11 ⟨rfl, rfl⟩
       rw [← HP1.out])
    | fail "no arm")
  have k0 := H10.out.pb.cell 4
  have k1 := H10.out.mb.cell 14
  have k2 := H10.out.gb.cell 0
  have k3 := H10.out.gb.cell 1
  have k4 := H10.out.gb.cell 2
  go_region_held3 (fun w' => w'.cell? ⟨w.heap.size, 4, none⟩ = some (.int .i64 q.sv) ∧ w'.cell? ⟨M, 14, none⟩ = some (.slice (some ⟨g, 0, none⟩) 1 1) ∧ w'.cell? ⟨g, 0, none⟩ = some (.string q.q.1) ∧ w'.cell? ⟨g, 1, none⟩ = some (.int .i64 q.q.2.1) ∧ w'.cell? ⟨g, 2, none⟩ = some (.int .i64 q.q.2.2))
    (go_keep)
    (fail)
  obtain ⟨W11, hW11⟩ : ∃ x, x = (w10.alloc (.cells #[.string q.q.1, .int .i64 q.q.2.1, .int .i64 q.q.2.2] 25)).drew := ⟨_, rfl⟩
  have f11 : Fr (fun _ => False) w10 W11 := by rw [hW11]; exact ((Fr.refl _ _).alloc _).drew
  have qb11 : Blk W11 w10.heap.size 25 #[.string q.q.1, .int .i64 q.q.2.1, .int .i64 q.q.2.2] := by rw [hW11]; exact (Blk.new _ _ _).drew
  rw [← hW11]
  have H11 := Lib.hid (And.intro (H10.out.fr0 f11) (And.intro qb11 H10.out.mb.lt))
  have hQs := H10.out.gb.lt
  obtain ⟨Q, hQ⟩ : ∃ Q, Q = w10.heap.size := ⟨_, rfl⟩
  rw [← hQ] at H11 hQs
  rw [← hQ]
  clear hW11 f11 qb11 hQ k0 k1 k2 k3 k4
  have hpk := pick_range what 8 (by decide)
  obtain ⟨p2, hp2⟩ : ∃ p, p = pick what 8 := ⟨_, rfl⟩
  rw [← hp2] at hpk
  have HP2 := Lib.hid hp2
  clear hp2
  have HP := Lib.hid hpk
  clear hpk
  go_upto_region 16 with (first
    | (go_at_call 14
       (with_reducible refine (pick_any what 8 _ (by decide) (by decide)).mono ?_)
       rintro e w12 ⟨rfl, rfl⟩
       rw [← HP2.out])
    | fail "no arm")
  have hp8 : p2 = 0 ∨ p2 = 1 ∨ p2 = 2 ∨ p2 = 3 ∨ p2 = 4 ∨ p2 = 5 ∨ p2 = 6 ∨ p2 = 7 := by have := HP.out; omega
  clear HP HP2
  have m14 := H11.out.1.mb.cell 14
  have hsb := sv_bounds HK.out.2.1 HSV.out
  have hgM1 := H11.out.1.gM.1
  have hgM2 := H11.out.1.gM.2.1
  have hgM3 := H11.out.1.gM.2.2
  have hs5 := H11.out.1.s5
  have hMQ := H11.out.2.2
  have hqk := HM.out.2
  have hqb := q_bounds hqk
  have hck := (qcheck_ok hqk).1
  have HCK := Lib.hid (And.intro hqk hck)
  clear hqk hck
  obtain ⟨⟨t0, t1⟩, t2, t3⟩ := hqb
  obtain ⟨v0, v1⟩ := hsb
  rcases hp8 with rfl | rfl | rfl | rfl | rfl | rfl | rfl | rfl
  · have z0 := H11.out.1.mb.cell 0
    have zf := H11.out.1.mb.frozen 0
    go_upto_region 32 with fail
    clear z0 zf m14
    have HID := Lib.hid (u16_turn q.id p1 HQ.out.2.1 hpa hpb)
    obtain ⟨W12, hW12⟩ : ∃ x, x = W11.setCell ⟨M, 0, none⟩ (.int .u16 (IntKind.u16.wrap ((q.id : Nat) + (1 + p1)))) := ⟨_, rfl⟩
    have f12 : Fr (· = M) W11 W12 := by rw [hW12]; exact (Fr.refl (· = M) _).setCell (p := ⟨M, 0, none⟩) (fun _ => rfl) _
    have mb12 : Blk W12 M 37 #[.int .u16 (IntKind.u16.wrap ((q.id : Nat) + (1 + p1))), .bool true, .int .i64 0, .bool false, .bool false, .bool true, .bool false, .bool false, .bool false, .int .i64 0, .int .i64 1, .int .i64 0, .int .i64 0, .int .i64 0, .slice (some ⟨g, 0, none⟩) 1 1, .slice none 0 0, .slice none 0 0, .slice none 0 0] := by rw [hW12]; exact H11.out.1.mb.set_ 0 (.int .u16 (IntKind.u16.wrap ((q.id : Nat) + (1 + p1))))
    have gb12 := H11.out.1.gb.fr f12 (by omega)
    have qb12 : Blk W12 Q 25 #[.string q.q.1, .int .i64 q.q.2.1, .int .i64 q.q.2.2] := H11.out.2.1.fr f12 (by omega)
    have f5 := H11.out.1.f5.step f12 (fun k hk => .inr (by omega))
    have f0 := H11.out.1.fr.step f12 (fun k hk => .inr (by omega))
    rw [← hW12]
    clear hW12 f12
    obtain ⟨V, hV⟩ : ∃ V, V = IntKind.u16.wrap ((q.id : Nat) + (1 + p1)) := ⟨_, rfl⟩
    rw [← hV] at HID mb12
    clear hV
    have hidq : (0 : Int) ≤ V ∧ (V : Int) ≤ 65535 := HID.out.1
    have hcnd : cond q ⟨V, true, 0, false, false, true, false, false, false, 0, 1, 0, 0, 0⟩ [(q.q.1, q.q.2.1, q.q.2.2)] q.sv 2 = false := (by show (V == (q.id : Int)) = false; exact beq_eq_false_iff_ne.2 HID.out.2)
    have HCD := Lib.hid (And.intro hidq (And.intro hcnd (show 2 < 5 by decide)))
    clear hidq hcnd
    have H12 := Lib.hid (And.intro mb12 (And.intro gb12 (And.intro qb12 (And.intro f5 f0))))
    have m14' := mb12.cell 14
    clear mb12 gb12 qb12 f5 f0
    go_wp2_with (first
      | (refine wpList_load_blk rfl 25 _ rfl Q (by rfl) 25 _ _ H12.out.2.2.1 Try.underlying25 rfl (by kernel_rfl) ?_)
      | (refine wpList_store_part rfl 25 _ _ rfl g 0 (by rfl) _ (by rfl) 25 _ H12.out.2.1 (by kernel_rfl) (by simp [Value.oneCell']) (by simp) #[.string q.q.1, .int .i64 q.q.2.1, .int .i64 q.q.2.2] (by rfl) ?_
         intro W13 b3 f3
         have H13 := Lib.hid (And.intro (H12.out.1.fr f3 (by omega)) (And.intro b3 (And.intro (H12.out.2.2.2.1.step f3 (fun k hk => .inr (by omega))) (H12.out.2.2.2.2.step f3 (fun k hk => .inr (by omega))))))
         clear b3 f3)
      | (refine wpList_load_blk rfl 37 _ rfl M (by rfl) 37 _ _ H13.out.1 Try.underlying37 rfl (by kernel_rfl) ?_)
      | (go_at_call 12
         (with_reducible refine (matchF_not q b A' c' g V true 0 q.sv q.q.1 q.q.2.1 q.q.2.2 W13 (H11.out.1.b5.fr0 H13.out.2.2.1) H13.out.2.1 HQ.out.1 HQ.out.1 HCD.out.1 2 HCD.out.2.2 HCD.out.2.1).mono ?_)
         rintro e w14 ⟨rfl, f⟩
         have H14 := Lib.hid (H13.out.2.2.2.then f)
         clear f)
      | fail "no arm")
    go_ret
    exact ⟨rfl, H14.out⟩
  · go_upto_region 32 with fail
    clear m14
    have mb12 := H11.out.1.mb
    have gb12 := H11.out.1.gb
    have qb12 := H11.out.2.1
    have f5 := H11.out.1.f5
    have f0 := H11.out.1.fr
    have hidq : (0 : Int) ≤ (q.id : Nat) ∧ ((q.id : Nat) : Int) ≤ 65535 := (by have := HQ.out.2.1; omega)
    have hcnd : cond q ⟨(q.id : Nat), true, 0, false, false, true, false, false, false, 0, 1, 0, 0, 0⟩ [(q.q.1, q.q.2.1, q.q.2.2)] (q.sv - (1 + p1)) 3 = false := (by show (q.sv == q.sv - (1 + p1)) = false; exact beq_eq_false_iff_ne.2 (by omega))
    have HCD := Lib.hid (And.intro hidq (And.intro hcnd (show 3 < 5 by decide)))
    clear hidq hcnd
    have H12 := Lib.hid (And.intro mb12 (And.intro gb12 (And.intro qb12 (And.intro f5 f0))))
    have m14' := mb12.cell 14
    clear mb12 gb12 qb12 f5 f0
    go_wp2_with (first
      | (refine wpList_load_blk rfl 25 _ rfl Q (by rfl) 25 _ _ H12.out.2.2.1 Try.underlying25 rfl (by kernel_rfl) ?_)
      | (refine wpList_store_part rfl 25 _ _ rfl g 0 (by rfl) _ (by rfl) 25 _ H12.out.2.1 (by kernel_rfl) (by simp [Value.oneCell']) (by simp) #[.string q.q.1, .int .i64 q.q.2.1, .int .i64 q.q.2.2] (by rfl) ?_
         intro W13 b3 f3
         have H13 := Lib.hid (And.intro (H12.out.1.fr f3 (by omega)) (And.intro b3 (And.intro (H12.out.2.2.2.1.step f3 (fun k hk => .inr (by omega))) (H12.out.2.2.2.2.step f3 (fun k hk => .inr (by omega))))))
         clear b3 f3)
      | (refine wpList_load_blk rfl 37 _ rfl M (by rfl) 37 _ _ H13.out.1 Try.underlying37 rfl (by kernel_rfl) ?_)
      | (go_at_call 12
         (with_reducible refine (matchF_not q b A' c' g (q.id : Nat) true 0 (q.sv - (1 + p1)) q.q.1 q.q.2.1 q.q.2.2 W13 (H11.out.1.b5.fr0 H13.out.2.2.1) H13.out.2.1 HQ.out.1 HQ.out.1 HCD.out.1 3 HCD.out.2.2 HCD.out.2.1).mono ?_)
         rintro e w14 ⟨rfl, f⟩
         have H14 := Lib.hid (H13.out.2.2.2.then f)
         clear f)
      | fail "no arm")
    go_ret
    exact ⟨rfl, H14.out⟩
  · have z0 := H11.out.2.1.cell 1
    have zf := H11.out.2.1.frozen 1
    go_upto_region 32 with fail
    clear z0 zf m14
    have hne : q.q.2.1 % 65536 ≠ ((q.q.2.1 + (1 + p1)) % 65536) % 65536 := by omega
    have hok : QOk (q.q.1, ((q.q.2.1 + (1 + p1)) % 65536), q.q.2.2) := ⟨HQ.out.1.1, by unfold i64k; dsimp only; omega, by unfold i64k; dsimp only; omega⟩
    have HNE := Lib.hid (And.intro hne hok)
    clear hne hok
    obtain ⟨W12, hW12⟩ : ∃ x, x = W11.setCell ⟨Q, 1, none⟩ (.int .i64 ((q.q.2.1 + (1 + p1)) % 65536)) := ⟨_, rfl⟩
    have f12 : Fr (· = Q) W11 W12 := by rw [hW12]; exact (Fr.refl (· = Q) _).setCell (p := ⟨Q, 1, none⟩) (fun _ => rfl) _
    have mb12 : Blk W12 M 37 #[.int .u16 (q.id : Nat), .bool true, .int .i64 0, .bool false, .bool false, .bool true, .bool false, .bool false, .bool false, .int .i64 0, .int .i64 1, .int .i64 0, .int .i64 0, .int .i64 0, .slice (some ⟨g, 0, none⟩) 1 1, .slice none 0 0, .slice none 0 0, .slice none 0 0] := H11.out.1.mb.fr f12 (by omega)
    have gb12 := H11.out.1.gb.fr f12 (by omega)
    have qb12 : Blk W12 Q 25 #[.string q.q.1, .int .i64 ((q.q.2.1 + (1 + p1)) % 65536), .int .i64 q.q.2.2] := by rw [hW12]; exact H11.out.2.1.set_ 1 (.int .i64 ((q.q.2.1 + (1 + p1)) % 65536))
    have f5 := H11.out.1.f5.step f12 (fun k hk => .inr (by omega))
    have f0 := H11.out.1.fr.step f12 (fun k hk => .inr (by omega))
    rw [← hW12]
    clear hW12 f12
    have hidq : (0 : Int) ≤ (q.id : Nat) ∧ ((q.id : Nat) : Int) ≤ 65535 := (by have := HQ.out.2.1; omega)
    have hcnd : cond q ⟨(q.id : Nat), true, 0, false, false, true, false, false, false, 0, 1, 0, 0, 0⟩ [(q.q.1, ((q.q.2.1 + (1 + p1)) % 65536), q.q.2.2)] q.sv 4 = false := (by show sameQ q.q ((q.q.1, ((q.q.2.1 + (1 + p1)) % 65536), q.q.2.2) : Qn) = false; refine sameQ_not (.inr (.inl ?_)); exact HNE.out.1)
    have HCD := Lib.hid (And.intro hidq (And.intro hcnd (show 4 < 5 by decide)))
    clear hidq hcnd
    have H12 := Lib.hid (And.intro mb12 (And.intro gb12 (And.intro qb12 (And.intro f5 f0))))
    have m14' := mb12.cell 14
    clear mb12 gb12 qb12 f5 f0
    go_wp2_with (first
      | (refine wpList_load_blk rfl 25 _ rfl Q (by rfl) 25 _ _ H12.out.2.2.1 Try.underlying25 rfl (by kernel_rfl) ?_)
      | (refine wpList_store_part rfl 25 _ _ rfl g 0 (by rfl) _ (by rfl) 25 _ H12.out.2.1 (by kernel_rfl) (by simp [Value.oneCell']) (by simp) #[.string q.q.1, .int .i64 ((q.q.2.1 + (1 + p1)) % 65536), .int .i64 q.q.2.2] (by rfl) ?_
         intro W13 b3 f3
         have H13 := Lib.hid (And.intro (H12.out.1.fr f3 (by omega)) (And.intro b3 (And.intro (H12.out.2.2.2.1.step f3 (fun k hk => .inr (by omega))) (H12.out.2.2.2.2.step f3 (fun k hk => .inr (by omega))))))
         clear b3 f3)
      | (refine wpList_load_blk rfl 37 _ rfl M (by rfl) 37 _ _ H13.out.1 Try.underlying37 rfl (by kernel_rfl) ?_)
      | (go_at_call 12
         (with_reducible refine (matchF_not q b A' c' g (q.id : Nat) true 0 q.sv q.q.1 ((q.q.2.1 + (1 + p1)) % 65536) q.q.2.2 W13 (H11.out.1.b5.fr0 H13.out.2.2.1) H13.out.2.1 HNE.out.2 HQ.out.1 HCD.out.1 4 HCD.out.2.2 HCD.out.2.1).mono ?_)
         rintro e w14 ⟨rfl, f⟩
         have H14 := Lib.hid (H13.out.2.2.2.then f)
         clear f)
      | fail "no arm")
    go_ret
    exact ⟨rfl, H14.out⟩
  · have z0 := H11.out.2.1.cell 2
    have zf := H11.out.2.1.frozen 2
    go_upto_region 32 with fail
    clear z0 zf m14
    have hne : q.q.2.2 % 65536 ≠ ((q.q.2.2 + (1 + p1)) % 65536) % 65536 := by omega
    have hok : QOk (q.q.1, q.q.2.1, ((q.q.2.2 + (1 + p1)) % 65536)) := ⟨HQ.out.1.1, by unfold i64k; dsimp only; omega, by unfold i64k; dsimp only; omega⟩
    have HNE := Lib.hid (And.intro hne hok)
    clear hne hok
    obtain ⟨W12, hW12⟩ : ∃ x, x = W11.setCell ⟨Q, 2, none⟩ (.int .i64 ((q.q.2.2 + (1 + p1)) % 65536)) := ⟨_, rfl⟩
    have f12 : Fr (· = Q) W11 W12 := by rw [hW12]; exact (Fr.refl (· = Q) _).setCell (p := ⟨Q, 2, none⟩) (fun _ => rfl) _
    have mb12 : Blk W12 M 37 #[.int .u16 (q.id : Nat), .bool true, .int .i64 0, .bool false, .bool false, .bool true, .bool false, .bool false, .bool false, .int .i64 0, .int .i64 1, .int .i64 0, .int .i64 0, .int .i64 0, .slice (some ⟨g, 0, none⟩) 1 1, .slice none 0 0, .slice none 0 0, .slice none 0 0] := H11.out.1.mb.fr f12 (by omega)
    have gb12 := H11.out.1.gb.fr f12 (by omega)
    have qb12 : Blk W12 Q 25 #[.string q.q.1, .int .i64 q.q.2.1, .int .i64 ((q.q.2.2 + (1 + p1)) % 65536)] := by rw [hW12]; exact H11.out.2.1.set_ 2 (.int .i64 ((q.q.2.2 + (1 + p1)) % 65536))
    have f5 := H11.out.1.f5.step f12 (fun k hk => .inr (by omega))
    have f0 := H11.out.1.fr.step f12 (fun k hk => .inr (by omega))
    rw [← hW12]
    clear hW12 f12
    have hidq : (0 : Int) ≤ (q.id : Nat) ∧ ((q.id : Nat) : Int) ≤ 65535 := (by have := HQ.out.2.1; omega)
    have hcnd : cond q ⟨(q.id : Nat), true, 0, false, false, true, false, false, false, 0, 1, 0, 0, 0⟩ [(q.q.1, q.q.2.1, ((q.q.2.2 + (1 + p1)) % 65536))] q.sv 4 = false := (by show sameQ q.q ((q.q.1, q.q.2.1, ((q.q.2.2 + (1 + p1)) % 65536)) : Qn) = false; refine sameQ_not (.inr (.inr ?_)); exact HNE.out.1)
    have HCD := Lib.hid (And.intro hidq (And.intro hcnd (show 4 < 5 by decide)))
    clear hidq hcnd
    have H12 := Lib.hid (And.intro mb12 (And.intro gb12 (And.intro qb12 (And.intro f5 f0))))
    have m14' := mb12.cell 14
    clear mb12 gb12 qb12 f5 f0
    go_wp2_with (first
      | (refine wpList_load_blk rfl 25 _ rfl Q (by rfl) 25 _ _ H12.out.2.2.1 Try.underlying25 rfl (by kernel_rfl) ?_)
      | (refine wpList_store_part rfl 25 _ _ rfl g 0 (by rfl) _ (by rfl) 25 _ H12.out.2.1 (by kernel_rfl) (by simp [Value.oneCell']) (by simp) #[.string q.q.1, .int .i64 q.q.2.1, .int .i64 ((q.q.2.2 + (1 + p1)) % 65536)] (by rfl) ?_
         intro W13 b3 f3
         have H13 := Lib.hid (And.intro (H12.out.1.fr f3 (by omega)) (And.intro b3 (And.intro (H12.out.2.2.2.1.step f3 (fun k hk => .inr (by omega))) (H12.out.2.2.2.2.step f3 (fun k hk => .inr (by omega))))))
         clear b3 f3)
      | (refine wpList_load_blk rfl 37 _ rfl M (by rfl) 37 _ _ H13.out.1 Try.underlying37 rfl (by kernel_rfl) ?_)
      | (go_at_call 12
         (with_reducible refine (matchF_not q b A' c' g (q.id : Nat) true 0 q.sv q.q.1 q.q.2.1 ((q.q.2.2 + (1 + p1)) % 65536) W13 (H11.out.1.b5.fr0 H13.out.2.2.1) H13.out.2.1 HNE.out.2 HQ.out.1 HCD.out.1 4 HCD.out.2.2 HCD.out.2.1).mono ?_)
         rintro e w14 ⟨rfl, f⟩
         have H14 := Lib.hid (H13.out.2.2.2.then f)
         clear f)
      | fail "no arm")
    go_ret
    exact ⟨rfl, H14.out⟩
  · obtain ⟨R, hR⟩ : ∃ R, R = nsameB s q.q.1 := ⟨_, rfl⟩
    have HR := Lib.hid hR
    clear hR
    have y0 := H11.out.2.1.cell 0
    have yf := H11.out.2.1.frozen 0
    cases R with
    | true =>
      go_wp2_with (first
        | (go_at_call 15
           (with_reducible refine (rnsame_any s q.q.1 _).mono ?_)
           rintro e w12 ⟨rfl, f⟩
           rw [← HR.out]
           have H12 := Lib.hid (H11.out.1.fr.then f)
           clear f)
        | fail "no arm")
      go_ret
      exact ⟨rfl, H12.out⟩
    | false =>
      go_upto_region 27 with (first
        | (go_at_call 15
           (with_reducible refine (rnsame_any s q.q.1 _).mono ?_)
           rintro e w12 ⟨rfl, f⟩
           rw [← HR.out]
           have HS := Lib.hid (And.intro (H11.out.1.fr0 f) (And.intro (H11.out.2.1.fr f id) H11.out.2.2))
           clear f)
        | fail "no arm")
      clear y0 yf m14
      have z0 := HS.out.2.1.cell 0
      have zf := HS.out.2.1.frozen 0
      go_upto_region 32 with fail
      clear z0 zf H11
      have H11 := Lib.hid HS.out
      clear HS
      have hne := fold_ne HK.out.2.2 HCK.out.2 HR.out.symm
      have hok : QOk (s, q.q.2.1, q.q.2.2) := ⟨HSS.out, by unfold i64k; dsimp only; omega, by unfold i64k; dsimp only; omega⟩
      have HNE := Lib.hid (And.intro hne hok)
      clear hne hok
      obtain ⟨W12, hW12⟩ : ∃ x, x = w12.setCell ⟨Q, 0, none⟩ (.string s) := ⟨_, rfl⟩
      have f12 : Fr (· = Q) w12 W12 := by rw [hW12]; exact (Fr.refl (· = Q) _).setCell (p := ⟨Q, 0, none⟩) (fun _ => rfl) _
      have mb12 : Blk W12 M 37 #[.int .u16 (q.id : Nat), .bool true, .int .i64 0, .bool false, .bool false, .bool true, .bool false, .bool false, .bool false, .int .i64 0, .int .i64 1, .int .i64 0, .int .i64 0, .int .i64 0, .slice (some ⟨g, 0, none⟩) 1 1, .slice none 0 0, .slice none 0 0, .slice none 0 0] := H11.out.1.mb.fr f12 (by omega)
      have gb12 := H11.out.1.gb.fr f12 (by omega)
      have qb12 : Blk W12 Q 25 #[.string s, .int .i64 q.q.2.1, .int .i64 q.q.2.2] := by rw [hW12]; exact H11.out.2.1.set_ 0 (.string s)
      have f5 := H11.out.1.f5.step f12 (fun k hk => .inr (by omega))
      have f0 := H11.out.1.fr.step f12 (fun k hk => .inr (by omega))
      rw [← hW12]
      clear hW12 f12
      have hidq : (0 : Int) ≤ (q.id : Nat) ∧ ((q.id : Nat) : Int) ≤ 65535 := (by have := HQ.out.2.1; omega)
      have hcnd : cond q ⟨(q.id : Nat), true, 0, false, false, true, false, false, false, 0, 1, 0, 0, 0⟩ [(s, q.q.2.1, q.q.2.2)] q.sv 4 = false := (by show sameQ q.q ((s, q.q.2.1, q.q.2.2) : Qn) = false; refine sameQ_not (.inl ?_); exact HNE.out.1)
      have HCD := Lib.hid (And.intro hidq (And.intro hcnd (show 4 < 5 by decide)))
      clear hidq hcnd
      have H12 := Lib.hid (And.intro mb12 (And.intro gb12 (And.intro qb12 (And.intro f5 f0))))
      have m14' := mb12.cell 14
      clear mb12 gb12 qb12 f5 f0
      go_wp2_with (first
        | (refine wpList_load_blk rfl 25 _ rfl Q (by rfl) 25 _ _ H12.out.2.2.1 Try.underlying25 rfl (by kernel_rfl) ?_)
        | (refine wpList_store_part rfl 25 _ _ rfl g 0 (by rfl) _ (by rfl) 25 _ H12.out.2.1 (by kernel_rfl) (by simp [Value.oneCell']) (by simp) #[.string s, .int .i64 q.q.2.1, .int .i64 q.q.2.2] (by rfl) ?_
           intro W13 b3 f3
           have H13 := Lib.hid (And.intro (H12.out.1.fr f3 (by omega)) (And.intro b3 (And.intro (H12.out.2.2.2.1.step f3 (fun k hk => .inr (by omega))) (H12.out.2.2.2.2.step f3 (fun k hk => .inr (by omega))))))
           clear b3 f3)
        | (refine wpList_load_blk rfl 37 _ rfl M (by rfl) 37 _ _ H13.out.1 Try.underlying37 rfl (by kernel_rfl) ?_)
        | (go_at_call 12
           (with_reducible refine (matchF_not q b A' c' g (q.id : Nat) true 0 q.sv s q.q.2.1 q.q.2.2 W13 (H11.out.1.b5.fr0 H13.out.2.2.1) H13.out.2.1 HNE.out.2 HQ.out.1 HCD.out.1 4 HCD.out.2.2 HCD.out.2.1).mono ?_)
           rintro e w14 ⟨rfl, f⟩
           have H14 := Lib.hid (H13.out.2.2.2.then f)
           clear f)
        | fail "no arm")
      go_ret
      exact ⟨rfl, H14.out⟩
  · have z0 := H11.out.1.mb.cell 2
    have zf := H11.out.1.mb.frozen 2
    go_upto_region 32 with fail
    clear z0 zf m14
    obtain ⟨W12, hW12⟩ : ∃ x, x = W11.setCell ⟨M, 2, none⟩ (.int .i64 (1 + (1 + p1) % 15)) := ⟨_, rfl⟩
    have f12 : Fr (· = M) W11 W12 := by rw [hW12]; exact (Fr.refl (· = M) _).setCell (p := ⟨M, 2, none⟩) (fun _ => rfl) _
    have mb12 : Blk W12 M 37 #[.int .u16 (q.id : Nat), .bool true, .int .i64 (1 + (1 + p1) % 15), .bool false, .bool false, .bool true, .bool false, .bool false, .bool false, .int .i64 0, .int .i64 1, .int .i64 0, .int .i64 0, .int .i64 0, .slice (some ⟨g, 0, none⟩) 1 1, .slice none 0 0, .slice none 0 0, .slice none 0 0] := by rw [hW12]; exact H11.out.1.mb.set_ 2 (.int .i64 (1 + (1 + p1) % 15))
    have gb12 := H11.out.1.gb.fr f12 (by omega)
    have qb12 : Blk W12 Q 25 #[.string q.q.1, .int .i64 q.q.2.1, .int .i64 q.q.2.2] := H11.out.2.1.fr f12 (by omega)
    have f5 := H11.out.1.f5.step f12 (fun k hk => .inr (by omega))
    have f0 := H11.out.1.fr.step f12 (fun k hk => .inr (by omega))
    rw [← hW12]
    clear hW12 f12
    have hidq : (0 : Int) ≤ (q.id : Nat) ∧ ((q.id : Nat) : Int) ≤ 65535 := (by have := HQ.out.2.1; omega)
    have hcnd : cond q ⟨(q.id : Nat), true, (1 + (1 + p1) % 15), false, false, true, false, false, false, 0, 1, 0, 0, 0⟩ [(q.q.1, q.q.2.1, q.q.2.2)] q.sv 0 = false := (by show (true && (1 + (1 + p1) % 15 == (0 : Int))) = false; rw [Bool.true_and]; exact beq_eq_false_iff_ne.2 (by omega))
    have HCD := Lib.hid (And.intro hidq (And.intro hcnd (show 0 < 5 by decide)))
    clear hidq hcnd
    have H12 := Lib.hid (And.intro mb12 (And.intro gb12 (And.intro qb12 (And.intro f5 f0))))
    have m14' := mb12.cell 14
    clear mb12 gb12 qb12 f5 f0
    go_wp2_with (first
      | (refine wpList_load_blk rfl 25 _ rfl Q (by rfl) 25 _ _ H12.out.2.2.1 Try.underlying25 rfl (by kernel_rfl) ?_)
      | (refine wpList_store_part rfl 25 _ _ rfl g 0 (by rfl) _ (by rfl) 25 _ H12.out.2.1 (by kernel_rfl) (by simp [Value.oneCell']) (by simp) #[.string q.q.1, .int .i64 q.q.2.1, .int .i64 q.q.2.2] (by rfl) ?_
         intro W13 b3 f3
         have H13 := Lib.hid (And.intro (H12.out.1.fr f3 (by omega)) (And.intro b3 (And.intro (H12.out.2.2.2.1.step f3 (fun k hk => .inr (by omega))) (H12.out.2.2.2.2.step f3 (fun k hk => .inr (by omega))))))
         clear b3 f3)
      | (refine wpList_load_blk rfl 37 _ rfl M (by rfl) 37 _ _ H13.out.1 Try.underlying37 rfl (by kernel_rfl) ?_)
      | (go_at_call 12
         (with_reducible refine (matchF_not q b A' c' g (q.id : Nat) true (1 + (1 + p1) % 15) q.sv q.q.1 q.q.2.1 q.q.2.2 W13 (H11.out.1.b5.fr0 H13.out.2.2.1) H13.out.2.1 HQ.out.1 HQ.out.1 HCD.out.1 0 HCD.out.2.2 HCD.out.2.1).mono ?_)
         rintro e w14 ⟨rfl, f⟩
         have H14 := Lib.hid (H13.out.2.2.2.then f)
         clear f)
      | fail "no arm")
    go_ret
    exact ⟨rfl, H14.out⟩
  · have z0 := H11.out.1.mb.cell 1
    have zf := H11.out.1.mb.frozen 1
    go_upto_region 32 with fail
    clear z0 zf m14
    obtain ⟨W12, hW12⟩ : ∃ x, x = W11.setCell ⟨M, 1, none⟩ (.bool false) := ⟨_, rfl⟩
    have f12 : Fr (· = M) W11 W12 := by rw [hW12]; exact (Fr.refl (· = M) _).setCell (p := ⟨M, 1, none⟩) (fun _ => rfl) _
    have mb12 : Blk W12 M 37 #[.int .u16 (q.id : Nat), .bool false, .int .i64 0, .bool false, .bool false, .bool true, .bool false, .bool false, .bool false, .int .i64 0, .int .i64 1, .int .i64 0, .int .i64 0, .int .i64 0, .slice (some ⟨g, 0, none⟩) 1 1, .slice none 0 0, .slice none 0 0, .slice none 0 0] := by rw [hW12]; exact H11.out.1.mb.set_ 1 (.bool false)
    have gb12 := H11.out.1.gb.fr f12 (by omega)
    have qb12 : Blk W12 Q 25 #[.string q.q.1, .int .i64 q.q.2.1, .int .i64 q.q.2.2] := H11.out.2.1.fr f12 (by omega)
    have f5 := H11.out.1.f5.step f12 (fun k hk => .inr (by omega))
    have f0 := H11.out.1.fr.step f12 (fun k hk => .inr (by omega))
    rw [← hW12]
    clear hW12 f12
    have hidq : (0 : Int) ≤ (q.id : Nat) ∧ ((q.id : Nat) : Int) ≤ 65535 := (by have := HQ.out.2.1; omega)
    have hcnd : cond q ⟨(q.id : Nat), false, 0, false, false, true, false, false, false, 0, 1, 0, 0, 0⟩ [(q.q.1, q.q.2.1, q.q.2.2)] q.sv 0 = false := (by rfl)
    have HCD := Lib.hid (And.intro hidq (And.intro hcnd (show 0 < 5 by decide)))
    clear hidq hcnd
    have H12 := Lib.hid (And.intro mb12 (And.intro gb12 (And.intro qb12 (And.intro f5 f0))))
    have m14' := mb12.cell 14
    clear mb12 gb12 qb12 f5 f0
    go_wp2_with (first
      | (refine wpList_load_blk rfl 25 _ rfl Q (by rfl) 25 _ _ H12.out.2.2.1 Try.underlying25 rfl (by kernel_rfl) ?_)
      | (refine wpList_store_part rfl 25 _ _ rfl g 0 (by rfl) _ (by rfl) 25 _ H12.out.2.1 (by kernel_rfl) (by simp [Value.oneCell']) (by simp) #[.string q.q.1, .int .i64 q.q.2.1, .int .i64 q.q.2.2] (by rfl) ?_
         intro W13 b3 f3
         have H13 := Lib.hid (And.intro (H12.out.1.fr f3 (by omega)) (And.intro b3 (And.intro (H12.out.2.2.2.1.step f3 (fun k hk => .inr (by omega))) (H12.out.2.2.2.2.step f3 (fun k hk => .inr (by omega))))))
         clear b3 f3)
      | (refine wpList_load_blk rfl 37 _ rfl M (by rfl) 37 _ _ H13.out.1 Try.underlying37 rfl (by kernel_rfl) ?_)
      | (go_at_call 12
         (with_reducible refine (matchF_not q b A' c' g (q.id : Nat) false 0 q.sv q.q.1 q.q.2.1 q.q.2.2 W13 (H11.out.1.b5.fr0 H13.out.2.2.1) H13.out.2.1 HQ.out.1 HQ.out.1 HCD.out.1 0 HCD.out.2.2 HCD.out.2.1).mono ?_)
         rintro e w14 ⟨rfl, f⟩
         have H14 := Lib.hid (H13.out.2.2.2.then f)
         clear f)
      | fail "no arm")
    go_ret
    exact ⟨rfl, H14.out⟩
  · obtain ⟨i0, hi, hz0, hz1, hz2⟩ := info_parts Try.infoQn25
    have HI := Lib.hid (And.intro hi (And.intro hz0 (And.intro hz1 hz2)))
    clear hi hz0 hz1 hz2
    have zf := H11.out.1.mb.frozen 14
    go_upto_region 32 with (first
      | (refine wpList_load_blk rfl 25 _ rfl Q (by rfl) 25 _ _ H11.out.2.1 Try.underlying25 rfl (by kernel_rfl) ?_)
      | (at_builtin; refine wpList_append_src rfl (.tmp 80) (.tmp 82) _ _ rfl 25 i0 _ 3 32 Try.underlying34 HI.out.1 HI.out.2.1 HI.out.2.2.1 HI.out.2.2.2 rfl (by decide) (some ⟨g, 0, none⟩) 1 1 [.string q.q.1, .int .i64 q.q.2.1, .int .i64 q.q.2.2] (by rfl) ((own3 H11.out.1.gb).alloc _) _ 1 [.string q.q.1, .int .i64 q.q.2.1, .int .i64 q.q.2.2] (by rfl)
           (Src.ofSlice _ Try.underlying34 ⟨W11.heap.size, 0, none⟩ 1 1 [.string q.q.1, .int .i64 q.q.2.1, .int .i64 q.q.2.2] rfl (new3 _ _ _ _) (by simp [Value.oneCell'])) (by simp only [maxLen]; omega) (by omega) ?_
         intro A7 c7 w12 o1 o2 o3
         obtain ⟨g7, cur, rfl, hg7, hcur, hsz⟩ := row6 o1
         have hg7' := o3 g7 ⟨_, rfl, rfl⟩
         have hgl := H11.out.1.gb.lt
         have hms := H11.out.1.mb.lt
         have hqs := H11.out.2.1.lt
         have hne7 : g7 ≠ M ∧ g7 ≠ Q ∧ w5.heap.size ≤ g7 := by
           rcases hg7' with ⟨a, ha, hk⟩ | hk
           · injection ha with ha
             subst ha
             dsimp only at hk
             omega
           · rw [World.size_alloc] at hk
             have := H11.out.1.f5.size
             omega
         have hrg : ∀ k, rowOf (some (⟨g, 0, none⟩ : Addr)) k → k = g := fun k ⟨a, ha, hk⟩ => by injection ha with ha; subst ha; exact hk.symm
         have f12 : Fr (· = g) W11 w12 := ((Fr.refl (· = g) W11).alloc _).then (o2.mono (fun k _ h => hrg k h))
         have H12 := Lib.hid (And.intro (H11.out.1.mb.fr f12 (by omega)) (And.intro hg7 (And.intro (H11.out.2.1.fr f12 (by omega)) (And.intro (H11.out.1.f5.step f12 (fun k hk => .inr (by omega))) (And.intro (H11.out.1.fr.step f12 (fun k hk => .inr (by omega))) (And.intro hcur hsz))))))
         have m14 := H12.out.1.cell 14
         have zf := H12.out.1.frozen 14
         clear o1 o2 o3 hg7 hcur hsz hg7' hgl hms hqs hrg f12)
      | fail "no arm")
    clear m14 zf
    obtain ⟨hn1, hn2, hn3⟩ := hne7
    obtain ⟨W13, hW13⟩ : ∃ x, x = w12.setCell ⟨M, 14, none⟩ (.slice (some ⟨g7, 0, none⟩) 2 c7) := ⟨_, rfl⟩
    have f13 : Fr (· = M) w12 W13 := by rw [hW13]; exact (Fr.refl (· = M) _).setCell (p := ⟨M, 14, none⟩) (fun _ => rfl) _
    have mb13 : Blk W13 M 37 #[.int .u16 (q.id : Nat), .bool true, .int .i64 0, .bool false, .bool false, .bool true, .bool false, .bool false, .bool false, .int .i64 0, .int .i64 1, .int .i64 0, .int .i64 0, .int .i64 0, .slice (some ⟨g7, 0, none⟩) 2 c7, .slice none 0 0, .slice none 0 0, .slice none 0 0] := by rw [hW13]; exact H12.out.1.set_ 14 (.slice (some ⟨g7, 0, none⟩) 2 c7)
    rw [← hW13]
    have m14' := mb13.cell 14
    have H13 := Lib.hid (And.intro mb13 (And.intro (H12.out.2.1.fr f13 hn1) (And.intro (H12.out.2.2.1.fr f13 (by omega)) (And.intro (H12.out.2.2.2.1.step f13 (fun k hk => .inr (by omega))) (H12.out.2.2.2.2.1.step f13 (fun k hk => .inr (by omega)))))))
    clear hW13 f13 mb13
    have hid : (0 : Int) ≤ (q.id : Nat) ∧ ((q.id : Nat) : Int) ≤ 65535 := by have := HQ.out.2.1; omega
    have hcs := H12.out.2.2.2.2.2.2
    have HCS := Lib.hid (And.intro hid (And.intro (lay_same H12.out.2.2.2.2.2.1) H12.out.2.2.2.2.2.1))
    have hcs3 : 0 + ([.string q.q.1, .int .i64 q.q.2.1, .int .i64 q.q.2.2] : List Value).length ≤ cur.size := by show 3 ≤ cur.size; omega
    clear hid
    go_wp2_with (first
      | (refine wpList_load_blk rfl 25 _ rfl Q (by rfl) 25 _ _ H13.out.2.2.1 Try.underlying25 rfl (by kernel_rfl) ?_)
      | (refine wpList_store_part rfl 25 _ _ rfl g7 0 (by rfl) [.string q.q.1, .int .i64 q.q.2.1, .int .i64 q.q.2.2] (by rfl) 25 cur H13.out.2.1 (by kernel_rfl) (by simp [Value.oneCell']) hcs3 cur HCS.out.2.1 ?_
         intro W14 b4 f4
         have H14 := Lib.hid (And.intro (H13.out.1.fr f4 (by omega)) (And.intro b4 (And.intro (H13.out.2.2.2.1.step f4 (fun k hk => .inr (by omega))) (H13.out.2.2.2.2.step f4 (fun k hk => .inr (by omega))))))
         clear b4 f4)
      | (refine wpList_load_blk rfl 37 _ rfl M (by rfl) 37 _ _ H14.out.1 Try.underlying37 rfl (by kernel_rfl) ?_)
      | (go_at_call 12
         (with_reducible refine (matchF_two q b A' c' g7 c7 cur q.q W14 (H11.out.1.b5.fr0 H14.out.2.2.1) H14.out.2.1 HCS.out.2.2 HQ.out.1 HQ.out.1 HCS.out.1).mono ?_)
         rintro e w15 ⟨rfl, f⟩
         have H15 := Lib.hid (H14.out.2.2.2.then f)
         clear f)
      | fail "no arm")
    go_ret
    exact ⟨rfl, H15.out⟩
set_option maxRecDepth 100000 in
theorem matchForged_walk (q : Pn) (A : Option Addr) (cap : Nat) (what by0 : Int) (s : ByteArray) (w : World) (hq : PnIn w A q) (hA : A = none → q.ws = []) (hcap : A = none → cap = 0)
    (b1 : -9223372036854775808 ≤ what ∧ what ≤ 9223372036854775807) (b2 : -9223372036854775808 ≤ by0 ∧ by0 ≤ 9223372036854775807) (hs : s.size ≤ 1048576) :
    Calls Try.prog 3 #[q.val A cap, .int .i64 what, .int .i64 by0, .string s] w fun e w' => e = .returned (.bool true) ∧ Below w.heap.size w w' := by
  by_cases h : lightP q = true ∧ q.may 64 = true ∧ (q.ws.length : Int) ≤ 4 ∧ ckN s = 0
  · exact (forged_on q A cap what by0 s w hq hA hcap h.1 h.2.1 h.2.2.1 h.2.2.2 hs).mono fun e w' ⟨h1, h2⟩ => ⟨h1, h2.below (fun k hk => hk.elim) (Nat.le_refl _)⟩
  · exact (forged_off q A cap what by0 s w hq h).mono fun e w' ⟨h1, h2⟩ => ⟨h1, h2.below (fun k hk => hk.elim) (Nat.le_refl _)⟩
end Go.Proofs.Ytncfdfgcnblicaa
