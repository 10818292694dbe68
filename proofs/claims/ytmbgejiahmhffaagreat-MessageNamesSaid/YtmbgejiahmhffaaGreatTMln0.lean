/-
  LAYER 11: MessageNames: the chapter's example, step by step.
-/
import Derived.Test.YtmbgejiahmhffaaGreatTMcs
namespace Go.Proofs.YtmbgejiahmhffaaGreat
open Go.RowKit
set_option linter.unusedVariables false
set_option linter.unusedSimpArgs false

theorem rd_err (s : ByteArray) (E : Int) (w : World) (hs : s.size ≤ 140737488351232) (h : mreadE s = E) (h0 : E ≠ 0) :
    Calls Tryz.prog 16 #[.string s] w fun e w' => e = .returned (.tuple #[.agg #[.int .u16 0, .bool false, .int .i64 0, .bool false, .bool false, .bool false, .bool false, .bool false, .bool false, .int .i64 0, .int .i64 0, .int .i64 0, .int .i64 0, .int .i64 0, .slice none 0 0, .slice none 0 0, .slice none 0 0, .slice none 0 0], .int .i64 E]) ∧ Fr (fun _ => False) w w' := by
  refine (mread_any s w hs).mono ?_
  rintro e w' ⟨f, ⟨hne, rfl⟩ | ⟨h1, _⟩⟩
  · exact ⟨by rw [h], f⟩
  · exact absurd (h.symm.trans h1) h0
theorem put_exM (M : Int) (r : List UInt8 × Int) (hr : mputR M (msOf exh [exq] [] [] []) = r) (g : Nat) (w : World) (hrow : RowIn w (some ⟨g, 0, none⟩) ([exq].flatMap qcl)) : Calls Tryz.prog 12 #[.agg #[.int .u16 1, .bool false, .int .i64 0, .bool false, .bool false, .bool true, .bool false, .bool false, .bool false, .int .i64 0, .int .i64 1, .int .i64 0, .int .i64 0, .int .i64 0, .slice (some ⟨g, 0, none⟩) 1 1, .slice none 0 0, .slice none 0 0, .slice none 0 0], .int .i64 M] w (PutPost w r) := by
  have := mput_any exh (some ⟨g, 0, none⟩) [exq] 1 none [] 0 none [] 0 none [] 0 M w ⟨by simp [Hd.ok, exh], hrow, fun x hx => by simp at hx; subst hx; exact ⟨by decide, by unfold i64k; decide, by unfold i64k; decide⟩, ⟨by decide, (fun h => by cases h), (fun h => by cases h), Nat.le_refl _, by decide⟩, (fun h => by simp at h), (fun x hx => by simp at hx), ⟨by decide, fun _ => rfl, fun _ => rfl, Nat.le_refl _, by decide⟩, (fun h => by simp at h), (fun x hx => by simp at hx), ⟨by decide, fun _ => rfl, fun _ => rfl, Nat.le_refl _, by decide⟩, (fun h => by simp at h), (fun x hx => by simp at hx), ⟨by decide, fun _ => rfl, fun _ => rfl, Nat.le_refl _, by decide⟩⟩ (by decide)
  rw [hr] at this
  exact this
def exhm : Hd := ⟨1, false, 0, false, false, true, false, false, false, 0, 1, 1, 0, 0⟩
def exhn : Hd := ⟨1, false, 0, false, false, true, false, false, false, 0, 1, 3, 0, 0⟩
def exra : Rcd := ⟨⟨#[1, 97]⟩, 1, 1, 0, ⟨false, 0, 7, ⟨#[]⟩, ⟨#[]⟩, 0, 0, 0, 0, 0, [], ⟨#[]⟩⟩⟩
def xa : Rcd × Option Addr × Nat := (exra, none, 0)
def extB : ByteArray := ⟨#[0, 1, 3, 0, 0, 1, 0, 2, 0, 0, 0, 0, 1, 97, 0, 0, 1, 0, 1, 192, 12, 0, 1, 0, 1, 0, 0, 0, 0, 0, 4, 0, 0, 0, 7, 192, 12, 0, 1, 0, 1, 0, 0, 0, 0, 0, 4, 0, 0, 0, 7]⟩
def exuB : ByteArray := ⟨#[0, 1, 1, 0, 0, 1, 0, 3, 0, 0, 0, 0, 1, 97, 0, 0, 1, 0, 1, 192, 12, 0, 1, 0, 1, 0, 0, 0, 0, 0, 4, 0, 0, 0, 7, 192, 12, 0, 1, 0, 1, 0, 0, 0, 0, 0, 4, 0, 0, 0, 7, 192, 12, 0, 1, 0, 1, 0, 0, 0, 0, 0, 4, 0, 0, 0, 7]⟩
theorem exra_in (w : World) : RcIn w none exra := ⟨⟨by decide, by decide, fun i => by
    unfold Dt.num
    split <;> decide, (fun h => by simp [exra] at h), by decide, by decide⟩, by decide, by decide, by decide⟩
theorem m_in (g : Nat) (w : World) (hrow : RowIn w (some ⟨g, 0, none⟩) ([exq].flatMap qcl)) : MsIn w exhm (some ⟨g, 0, none⟩) [exq] 1 none [] 0 none [] 0 none [] 0 :=
  ⟨by simp [Hd.ok, exhm], hrow, fun x hx => by simp at hx; subst hx; exact ⟨by decide, by unfold i64k; decide, by unfold i64k; decide⟩, ⟨by decide, (fun h => by cases h), (fun h => by cases h), Nat.le_refl _, by decide⟩, (fun h => by simp at h), (fun x hx => by simp at hx), ⟨by decide, fun _ => rfl, fun _ => rfl, Nat.le_refl _, by decide⟩, (fun h => by simp at h), (fun x hx => by simp at hx), ⟨by decide, fun _ => rfl, fun _ => rfl, Nat.le_refl _, by decide⟩, (fun h => by simp at h), (fun x hx => by simp at hx), ⟨by decide, fun _ => rfl, fun _ => rfl, Nat.le_refl _, by decide⟩⟩
theorem n_in (g G : Nat) (w : World) (hrow : RowIn w (some ⟨g, 0, none⟩) ([exq].flatMap qcl)) (ha : RowIn w (some ⟨G, 0, none⟩) ([xa, xa, xa].flatMap rcl)) : MsIn w exhn (some ⟨g, 0, none⟩) [exq] 1 (some ⟨G, 0, none⟩) [xa, xa, xa] 3 none [] 0 none [] 0 :=
  ⟨by simp [Hd.ok, exhn], hrow, fun x hx => by simp at hx; subst hx; exact ⟨by decide, by unfold i64k; decide, by unfold i64k; decide⟩, ⟨by decide, (fun h => by cases h), (fun h => by cases h), Nat.le_refl _, by decide⟩, ha, (fun x hx => by
    have : x = xa := by simpa using hx
    subst this
    exact ⟨exra_in w, by decide⟩), ⟨by decide, (fun h => by cases h), (fun h => by cases h), Nat.le_refl _, by decide⟩, (fun h => by simp at h), (fun x hx => by simp at hx), ⟨by decide, fun _ => rfl, fun _ => rfl, Nat.le_refl _, by decide⟩, (fun h => by simp at h), (fun x hx => by simp at hx), ⟨by decide, fun _ => rfl, fun _ => rfl, Nat.le_refl _, by decide⟩⟩
theorem exn_ck : mcheckB (msOf exhn [exq] [xa, xa, xa] [] []) = 0 := by kernel_rfl
theorem exn_sz : (msOf exhn [exq] [xa, xa, xa] [] []).size + 2000 ≤ 65535 := by decide
theorem exn_put : (mputB (msOf exhn [exq] [xa, xa, xa] [] [])).x.b = exuB.data.toList := by kernel_rfl
theorem exn_60 : cutFind 60 (cutMs exhn [exq] [xa, xa, xa] [] []) ([xa, xa, xa].length + ([] : RLm).length + ([] : RLm).length) = (extB.data.toList, 0) := by kernel_rfl
theorem exn_18 : cutFind 18 (cutMs exhn [exq] [xa, xa, xa] [] []) ([xa, xa, xa].length + ([] : RLm).length + ([] : RLm).length) = ([], 3) := by kernel_rfl
theorem exn_len : (mputB (msOf exhn [exq] [xa, xa, xa] [] [])).x.b.length = 67 := by rw [exn_put]; rfl
theorem cut_60 (g G : Nat) (w : World) (hq : RowIn w (some ⟨g, 0, none⟩) ([exq].flatMap qcl)) (ha : RowIn w (some ⟨G, 0, none⟩) ([xa, xa, xa].flatMap rcl)) :
    Calls Tryz.prog 15 #[.agg #[.int .u16 1, .bool false, .int .i64 0, .bool false, .bool false, .bool true, .bool false, .bool false, .bool false, .int .i64 0, .int .i64 1, .int .i64 3, .int .i64 0, .int .i64 0, .slice (some ⟨g, 0, none⟩) 1 1, .slice (some ⟨G, 0, none⟩) 3 3, .slice none 0 0, .slice none 0 0], .int .i64 60] w fun e w' => e = .returned (.tuple #[.string ⟨#[0, 1, 3, 0, 0, 1, 0, 2, 0, 0, 0, 0, 1, 97, 0, 0, 1, 0, 1, 192, 12, 0, 1, 0, 1, 0, 0, 0, 0, 0, 4, 0, 0, 0, 7, 192, 12, 0, 1, 0, 1, 0, 0, 0, 0, 0, 4, 0, 0, 0, 7]⟩, .int .i64 0]) ∧ Fr (fun _ => False) w w' := by
  have := cut_long exhn (some ⟨g, 0, none⟩) [exq] 1 (some ⟨G, 0, none⟩) [xa, xa, xa] 3 none [] 0 none [] 0 60 w (n_in g G w hq ha) exn_sz exn_ck (by rw [exn_len]; decide)
  rw [exn_60] at this
  exact this
theorem cut_18 (g G : Nat) (w : World) (hq : RowIn w (some ⟨g, 0, none⟩) ([exq].flatMap qcl)) (ha : RowIn w (some ⟨G, 0, none⟩) ([xa, xa, xa].flatMap rcl)) :
    Calls Tryz.prog 15 #[.agg #[.int .u16 1, .bool false, .int .i64 0, .bool false, .bool false, .bool true, .bool false, .bool false, .bool false, .int .i64 0, .int .i64 1, .int .i64 3, .int .i64 0, .int .i64 0, .slice (some ⟨g, 0, none⟩) 1 1, .slice (some ⟨G, 0, none⟩) 3 3, .slice none 0 0, .slice none 0 0], .int .i64 18] w fun e w' => e = .returned (.tuple #[.string ⟨#[]⟩, .int .i64 3]) ∧ Fr (fun _ => False) w w' := by
  have := cut_long exhn (some ⟨g, 0, none⟩) [exq] 1 (some ⟨G, 0, none⟩) [xa, xa, xa] 3 none [] 0 none [] 0 18 w (n_in g G w hq ha) exn_sz exn_ck (by rw [exn_len]; decide)
  rw [exn_18] at this
  exact this
theorem cut_99 (g G : Nat) (w : World) (hq : RowIn w (some ⟨g, 0, none⟩) ([exq].flatMap qcl)) (ha : RowIn w (some ⟨G, 0, none⟩) ([xa, xa, xa].flatMap rcl)) :
    Calls Tryz.prog 15 #[.agg #[.int .u16 1, .bool false, .int .i64 0, .bool false, .bool false, .bool true, .bool false, .bool false, .bool false, .int .i64 0, .int .i64 1, .int .i64 3, .int .i64 0, .int .i64 0, .slice (some ⟨g, 0, none⟩) 1 1, .slice (some ⟨G, 0, none⟩) 3 3, .slice none 0 0, .slice none 0 0], .int .i64 99] w fun e w' => e = .returned (.tuple #[.string ⟨#[0, 1, 1, 0, 0, 1, 0, 3, 0, 0, 0, 0, 1, 97, 0, 0, 1, 0, 1, 192, 12, 0, 1, 0, 1, 0, 0, 0, 0, 0, 4, 0, 0, 0, 7, 192, 12, 0, 1, 0, 1, 0, 0, 0, 0, 0, 4, 0, 0, 0, 7, 192, 12, 0, 1, 0, 1, 0, 0, 0, 0, 0, 4, 0, 0, 0, 7]⟩, .int .i64 0]) ∧ Fr (fun _ => False) w w' := by
  refine cut_fits exhn (some ⟨g, 0, none⟩) [exq] 1 (some ⟨G, 0, none⟩) [xa, xa, xa] 3 none [] 0 none [] 0 99 _ w fun W hW => ?_
  have := mput_any exhn (some ⟨g, 0, none⟩) [exq] 1 (some ⟨G, 0, none⟩) [xa, xa, xa] 3 none [] 0 none [] 0 99 W ((n_in g G w hq ha).fr0 hW) exn_sz
  rw [mputR_fits exn_ck (by rw [exn_len]; decide), exn_put] at this
  exact this
def RdT (w : World) (e : Ending) (w' : World) : Prop :=
  Fr (fun _ => False) w w' ∧ ∃ (h : Hd) (Aq : Option Addr) (nq cq : Nat) (Aa : Option Addr) (ca : Nat) (Ab : Option Addr) (nb cb : Nat) (Ac : Option Addr) (nc cc : Nat), e = .returned (.tuple #[.agg #[.int .u16 h.id, .bool h.resp, .int .i64 h.op, .bool h.aa, .bool true, .bool h.rd, .bool h.ra, .bool h.ad, .bool h.cd, .int .i64 h.rc, .int .i64 h.c0, .int .i64 h.c1, .int .i64 h.c2, .int .i64 h.c3, .slice Aq nq cq, .slice Aa 2 ca, .slice Ab nb cb, .slice Ac nc cc], .int .i64 0])
theorem ext_e : mreadE extB = 0 := by kernel_rfl
theorem ext_tc : (mreadM extB).h.tc = true := by kernel_rfl
theorem ext_an : (mreadM extB).an.length = 2 := by kernel_rfl
theorem read_t (w : World) : Calls Tryz.prog 16 #[.string ⟨#[0, 1, 3, 0, 0, 1, 0, 2, 0, 0, 0, 0, 1, 97, 0, 0, 1, 0, 1, 192, 12, 0, 1, 0, 1, 0, 0, 0, 0, 0, 4, 0, 0, 0, 7, 192, 12, 0, 1, 0, 1, 0, 0, 0, 0, 0, 4, 0, 0, 0, 7]⟩] w (RdT w) := by
  refine (mread_any extB w (by decide)).mono ?_
  rintro e w' ⟨f, ⟨hne, _⟩ | ⟨h0, h, Aq, lq, cq, Aa, la, ca, Ab, lb, cb, Ac, lc, cc, rfl, _, hms⟩⟩
  · exact absurd ext_e hne
  · have h1 : h.tc = true := (congrArg (fun m : Ms => m.h.tc) hms).trans ext_tc
    have h2 : la.length = 2 := by
      have := congrArg (fun m : Ms => m.an.length) hms
      have h3 : (la.map Prod.fst).length = 2 := this.trans ext_an
      rwa [List.length_map] at h3
    rw [h1, h2]
    exact ⟨f, h, Aq, lq.length, cq, Aa, ca, Ab, lb.length, cb, Ac, lc.length, cc, rfl⟩
theorem size_n (g G : Nat) (w : World) (hq : RowIn w (some ⟨g, 0, none⟩) ([exq].flatMap qcl)) (ha : RowIn w (some ⟨G, 0, none⟩) ([xa, xa, xa].flatMap rcl)) :
    Calls Tryz.prog 22 #[.agg #[.int .u16 1, .bool false, .int .i64 0, .bool false, .bool false, .bool true, .bool false, .bool false, .bool false, .int .i64 0, .int .i64 1, .int .i64 3, .int .i64 0, .int .i64 0, .slice (some ⟨g, 0, none⟩) 1 1, .slice (some ⟨G, 0, none⟩) 3 3, .slice none 0 0, .slice none 0 0]] w (IntPost w 70) := by
  have := msize_any exhn (some ⟨g, 0, none⟩) [exq] 1 (some ⟨G, 0, none⟩) [xa, xa, xa] 3 none [] 0 none [] 0 w (n_in g G w hq ha)
  rw [show msizeB (msOf exhn [exq] [xa, xa, xa] [] []) = 70 by kernel_rfl] at this
  exact this
theorem size_m (g : Nat) (w : World) (hq : RowIn w (some ⟨g, 0, none⟩) ([exq].flatMap qcl)) :
    Calls Tryz.prog 22 #[.agg #[.int .u16 1, .bool false, .int .i64 0, .bool false, .bool false, .bool true, .bool false, .bool false, .bool false, .int .i64 0, .int .i64 1, .int .i64 1, .int .i64 0, .int .i64 0, .slice (some ⟨g, 0, none⟩) 1 1, .slice none 0 0, .slice none 0 0, .slice none 0 0]] w (IntPost w 0) := by
  have := msize_any exhm (some ⟨g, 0, none⟩) [exq] 1 none [] 0 none [] 0 none [] 0 w (m_in g w hq)
  rw [show msizeB (msOf exhm [exq] [] [] []) = 0 by kernel_rfl] at this
  exact this
theorem check_m (g : Nat) (w : World) (hq : RowIn w (some ⟨g, 0, none⟩) ([exq].flatMap qcl)) :
    Calls Tryz.prog 11 #[.agg #[.int .u16 1, .bool false, .int .i64 0, .bool false, .bool false, .bool true, .bool false, .bool false, .bool false, .int .i64 0, .int .i64 1, .int .i64 1, .int .i64 0, .int .i64 0, .slice (some ⟨g, 0, none⟩) 1 1, .slice none 0 0, .slice none 0 0, .slice none 0 0]] w (IntPost w 2) := by
  have := mcheck_any exhm (some ⟨g, 0, none⟩) [exq] 1 none [] 0 none [] 0 none [] 0 w (m_in g w hq)
  rw [show mcheckB (msOf exhm [exq] [] [] []) = 2 by kernel_rfl] at this
  exact this
theorem same_nn (g G : Nat) (w : World) (hq : RowIn w (some ⟨g, 0, none⟩) ([exq].flatMap qcl)) (ha : RowIn w (some ⟨G, 0, none⟩) ([xa, xa, xa].flatMap rcl)) :
    Calls Tryz.prog 24 #[.agg #[.int .u16 1, .bool false, .int .i64 0, .bool false, .bool false, .bool true, .bool false, .bool false, .bool false, .int .i64 0, .int .i64 1, .int .i64 3, .int .i64 0, .int .i64 0, .slice (some ⟨g, 0, none⟩) 1 1, .slice (some ⟨G, 0, none⟩) 3 3, .slice none 0 0, .slice none 0 0], .agg #[.int .u16 1, .bool false, .int .i64 0, .bool false, .bool false, .bool true, .bool false, .bool false, .bool false, .int .i64 0, .int .i64 1, .int .i64 3, .int .i64 0, .int .i64 0, .slice (some ⟨g, 0, none⟩) 1 1, .slice (some ⟨G, 0, none⟩) 3 3, .slice none 0 0, .slice none 0 0]] w (EqPost w true) := by
  refine (msame_m exhn (some ⟨g, 0, none⟩) [exq] 1 (some ⟨G, 0, none⟩) [xa, xa, xa] 3 none [] 0 none [] 0 exhn (some ⟨g, 0, none⟩) [exq] 1 (some ⟨G, 0, none⟩) [xa, xa, xa] 3 none [] 0 none [] 0 w (n_in g G w hq ha) (n_in g G w hq ha)).mono ?_
  rintro e w' ⟨r, rfl, hr, f⟩
  have : r = true := hr.2 rfl
  subst this
  exact ⟨rfl, f⟩
theorem same_mn (g1 g G : Nat) (w : World) (hq1 : RowIn w (some ⟨g1, 0, none⟩) ([exq].flatMap qcl)) (hq : RowIn w (some ⟨g, 0, none⟩) ([exq].flatMap qcl)) (ha : RowIn w (some ⟨G, 0, none⟩) ([xa, xa, xa].flatMap rcl)) :
    Calls Tryz.prog 24 #[.agg #[.int .u16 1, .bool false, .int .i64 0, .bool false, .bool false, .bool true, .bool false, .bool false, .bool false, .int .i64 0, .int .i64 1, .int .i64 1, .int .i64 0, .int .i64 0, .slice (some ⟨g1, 0, none⟩) 1 1, .slice none 0 0, .slice none 0 0, .slice none 0 0], .agg #[.int .u16 1, .bool false, .int .i64 0, .bool false, .bool false, .bool true, .bool false, .bool false, .bool false, .int .i64 0, .int .i64 1, .int .i64 3, .int .i64 0, .int .i64 0, .slice (some ⟨g, 0, none⟩) 1 1, .slice (some ⟨G, 0, none⟩) 3 3, .slice none 0 0, .slice none 0 0]] w (EqPost w false) := by
  refine (msame_m exhm (some ⟨g1, 0, none⟩) [exq] 1 none [] 0 none [] 0 none [] 0 exhn (some ⟨g, 0, none⟩) [exq] 1 (some ⟨G, 0, none⟩) [xa, xa, xa] 3 none [] 0 none [] 0 w (m_in g1 w hq1) (n_in g G w hq ha)).mono ?_
  rintro e w' ⟨r, rfl, hr, f⟩
  have : r = false := by
    rw [Bool.eq_false_iff]
    intro h
    have := congrArg (fun m : Ms => m.h.c1) (hr.1 h)
    exact absurd this (by decide)
  subst this
  exact ⟨rfl, f⟩
theorem make_64 : ∃ C : Array Value, (∀ j, j < 65536 → C[j]? = some (.int .u8 0)) ∧ ∀ w, (Instr.makeSlice 66 (.int .i64 65536) (.int .i64 65536)).run Tryz.prog w = .ok (.slice (some ⟨w.heap.size, 0, none⟩) 65536 65536) (w.alloc (.cells C 5)) := by
  have hi : (Tryz.prog.info? 5).map (fun i => (i.zero, i.size, i.bytes)) = some (some (.int .u8 0), 1, 1) := by kernel_rfl
  obtain ⟨i, hi1, hz, hsz, hby⟩ := info_parts hi
  refine ⟨madeCells (Value.int .u8 0).cells ((65536 : Int).toNat * i.size), fun j hj => ?_, fun w => ?_⟩
  · rw [hsz]
    have hc : (Value.int .u8 0).cells = #[.int .u8 0] := rfl
    rw [hc]
    unfold madeCells
    have hj' : j < (65536 : Int).toNat * 1 := hj
    rw [Array.getElem?_map, Array.getElem?_range, if_pos hj']
    simp [Nat.mod_one]
  · exact run_makeSlice w 66 5 i (.int .u8 0) Tryz.underlying66 hi1 hz .i64 .i64 65536 65536 (by decide) (by decide) (by rw [hsz]; decide) (by rw [hby]; decide) (by decide)
theorem conv_64 (C : Array Value) (hC : ∀ j, j < 65536 → C[j]? = some (.int .u8 0)) (w : World) (g : Nat) (hg : ∀ j, w.cell? ⟨g, j, none⟩ = C[j]?) : (convert 66 9 (.slice (some ⟨g, 0, none⟩) 65536 65536)).run Tryz.prog w = .ok (.string ⟨(List.replicate 65536 (0 : UInt8)).toArray⟩) w := by
  have := run_convert_bytes_back (P := Tryz.prog) w 66 9 5 ⟨g, 0, none⟩ 65536 (List.replicate 65536 (0 : UInt8)) Tryz.underlying66 Tryz.underlying5 Tryz.underlying9 (fun j hj => by
    rw [List.length_replicate] at hj
    rw [add_off, Nat.zero_add, hg, hC j hj, List.getElem_replicate]
    rfl)
  rw [List.length_replicate] at this
  exact this
theorem err_64 : mreadE ⟨(List.replicate 65536 (0 : UInt8)).toArray⟩ = 3 := by
  unfold mreadE
  rw [if_pos]
  show 65535 < (List.replicate 65536 (0 : UInt8)).toArray.size
  rw [List.size_toArray, List.length_replicate]
  decide
theorem row_lt {w : World} {g : Nat} (h : RowIn w (some ⟨g, 0, none⟩) ([exq].flatMap qcl)) : g < w.heap.size := by
  obtain ⟨b, off, e, hb, _⟩ := h (by decide)
  injection e with e
  injection e with e1 _
  rw [e1]
  exact hb
end Go.Proofs.YtmbgejiahmhffaaGreat
