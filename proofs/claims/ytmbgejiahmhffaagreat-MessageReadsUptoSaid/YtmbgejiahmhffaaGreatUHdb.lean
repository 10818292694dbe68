/-
  LAYER 6: HeaderBack.
-/
import Derived.Test.YtmbgejiahmhffaaGreatUHdrlaw
import Derived.Test.YtmbgejiahmhffaaGreatUunL
import Derived.Test.YtmbgejiahmhffaaGreatUHdrput
import Derived.Test.YtmbgejiahmhffaaGreatUunB
namespace Go.Proofs.YtmbgejiahmhffaaGreat
open Go.RowKit

theorem readHd_cases (s : ByteArray) : (∃ g : Int, (g = 8 ∨ g = 4) ∧ readHd s = (Hd.zero, g)) ∨ (12 ≤ s.size ∧ ∃ y, readHd s = (y, 0) ∧ y.may = true ∧ y.ok ∧ y.put = s.extract 0 12) := by
  by_cases h1 : s.size < 12
  · exact .inl ⟨8, .inl rfl, by unfold readHd; rw [if_pos h1]⟩
  · by_cases h2 : bitB (word s 2) 6 = true
    · exact .inl ⟨4, .inr rfl, by unfold readHd; rw [if_neg h1, if_pos h2]⟩
    · have h3 : bitB (word s 2) 6 = false := by simpa using h2
      obtain ⟨a, b, c, d⟩ := put_read s (by omega) h3
      exact .inr ⟨by omega, (readHd s).1, by rw [← a], b, c, d⟩
theorem Hd.zero_ok : Hd.zero.ok := by
  have z : (-9223372036854775808 : Int) ≤ 0 ∧ (0 : Int) ≤ 9223372036854775807 := by decide
  exact ⟨by decide, z, z, z, z, z, z⟩
/-- What stands while the second half of the law runs. -/
def HB6 (w w' : World) (p : Nat) (h : Hd) : Prop := Blk w' p 25 h.cells.toArray ∧ Fr (fun _ => False) w w'
theorem HB6.fr {w a b : World} {p : Nat} {h : Hd} (x : HB6 w a p h) (f : Fr (fun _ => False) a b) : HB6 w b p h := ⟨x.1.fr f id, x.2.then f⟩
theorem HB6.alloc {w a : World} {p : Nat} {h : Hd} (x : HB6 w a p h) (o : Obj) : HB6 w (a.alloc o) p h := ⟨x.1.alloc o, x.2.alloc o⟩
end Go.Proofs.YtmbgejiahmhffaaGreat
