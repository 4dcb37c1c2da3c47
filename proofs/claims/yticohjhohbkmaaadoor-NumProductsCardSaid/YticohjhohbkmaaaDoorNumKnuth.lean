/- Chapter 01: plain laws: a digit of a long quotient by estimate and correction; a product in halves; a long division bit by bit. -/
import Derived.Test.YticohjhohbkmaaaDoorNumPlain
namespace Go.Proofs.YticohjhohbkmaaaDoor
open Go

section
variable {q r y1 y0 u c : Nat}
theorem kn_mul (hi : q * y1 + r = u) : q * (y1 * 4294967296 + y0) ≤ u * 4294967296 + c ↔ q * y0 ≤ 4294967296 * r + c := by
  subst hi
  rw [Nat.mul_add, Nat.add_mul, ← Nat.mul_assoc]
  omega
theorem kn_le (hi : q * y1 + r = u) (hy : 0 < y1) : q ≤ (u * 4294967296 + c) / (y1 * 4294967296 + y0) ↔ q * y0 ≤ 4294967296 * r + c := by
  rw [Nat.le_div_iff_mul_le (by omega)]
  exact kn_mul hi
theorem kn_lt (hu : u < y1 * 4294967296 + y0) (hc : c < 4294967296) : (u * 4294967296 + c) / (y1 * 4294967296 + y0) < 4294967296 := by
  rw [Nat.div_lt_iff_lt_mul (by omega)]
  omega
/-- the test says yes: the estimate is too great. -/
theorem kn_yes (hi : q * y1 + r = u) (hy : 0 < y1) (hu : u < y1 * 4294967296 + y0) (hc : c < 4294967296) (ht : 4294967296 ≤ q ∨ 4294967296 * r + c < q * y0) : (u * 4294967296 + c) / (y1 * 4294967296 + y0) < q := by
  rcases ht with h | h
  · exact Nat.lt_of_lt_of_le (kn_lt hu hc) h
  · rcases Nat.lt_or_ge ((u * 4294967296 + c) / (y1 * 4294967296 + y0)) q with h2 | h2
    · exact h2
    · have := (kn_le (c := c) (y0 := y0) hi hy).1 h2
      omega
theorem kn_no (hi : q * y1 + r = u) (hy : 0 < y1) (ht : q * y0 ≤ 4294967296 * r + c) (hq : (u * 4294967296 + c) / (y1 * 4294967296 + y0) ≤ q) : q = (u * 4294967296 + c) / (y1 * 4294967296 + y0) :=
  Nat.le_antisymm ((kn_le hi hy).2 ht) hq
theorem kn_break (hi : q * y1 + r = u) (hy : 0 < y1) (hr : 4294967296 ≤ r) (hq2 : q ≤ 4294967296) (h0 : y0 < 4294967296) (hq : (u * 4294967296 + c) / (y1 * 4294967296 + y0) ≤ q) : q = (u * 4294967296 + c) / (y1 * 4294967296 + y0) := by
  refine kn_no hi hy ?_ hq
  have h1 := Nat.mul_le_mul hq2 (show y0 ≤ 4294967295 by omega)
  have h2 := Nat.mul_le_mul_left 4294967296 hr
  omega
/-- the first estimate. -/
theorem kn_first (hy : 2147483648 ≤ y1) (h0 : y0 < 4294967296) (hu : u < y1 * 4294967296 + y0) (hc : c < 4294967296) :
    (u / y1) * y1 + u % y1 = u ∧ u % y1 < y1 ∧ u / y1 ≤ 4294967297 ∧ (u * 4294967296 + c) / (y1 * 4294967296 + y0) ≤ u / y1 := by
  have hp : 0 < y1 := by omega
  refine ⟨by rw [Nat.mul_comm]; exact Nat.div_add_mod u y1, Nat.mod_lt _ hp, ?_, ?_⟩
  · have h1 : u / y1 < 4294967298 := by rw [Nat.div_lt_iff_lt_mul hp]; omega
    clear hu hc
    generalize u / y1 = z at *
    omega
  · rw [Nat.le_div_iff_mul_le hp]
    have hq := Nat.div_mul_le_self (u * 4294967296 + c) (y1 * 4294967296 + y0)
    generalize (u * 4294967296 + c) / (y1 * 4294967296 + y0) = Q at *
    rw [Nat.mul_add, ← Nat.mul_assoc] at hq
    generalize Q * y1 = z at *
    generalize Q * y0 = v at *
    clear hu
    rcases Nat.lt_or_ge u z with h | h
    · have := Nat.mul_le_mul_right 4294967296 (show u + 1 ≤ z from h)
      omega
    · exact h
end
/-- the quotient of two digits. -/
theorem kn_two (A d y B : Nat) (hy : 0 < y) : (A * B + d) / y = A / y * B + (A % y * B + d) / y ∧ (A * B + d) % y = (A % y * B + d) % y := by
  have e : A * B + d = (A % y * B + d) + y * (A / y * B) := by
    conv => lhs; rw [← Nat.div_add_mod A y]
    rw [Nat.add_mul, Nat.mul_assoc]; omega
  rw [e]
  exact ⟨by rw [Nat.add_mul_div_left _ _ hy]; omega, Nat.add_mul_mod_self_left _ _ _⟩
end Go.Proofs.YticohjhohbkmaaaDoor
