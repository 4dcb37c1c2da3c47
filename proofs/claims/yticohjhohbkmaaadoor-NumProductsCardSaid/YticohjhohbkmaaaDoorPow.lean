/- Chapter 06: how many bits a number has, in plain Lean. -/
import Derived.Test.YticohjhohbkmaaaDoorCommon
import Derived.Lib.BitFns
namespace Go.Proofs.YticohjhohbkmaaaDoor
open Go Go.RowKit

theorem bitLen_bd : ∀ (k x : Nat), x < 2 ^ k → k ≤ 64 → 1 ≤ x → 1 ≤ Lib.bitLen x ∧ 2 ^ (Lib.bitLen x - 1) ≤ x ∧ x < 2 ^ Lib.bitLen x ∧ Lib.bitLen x ≤ k
  | 0, x, h, _, h1 => by simp at h; omega
  | k + 1, x, h, hk, h1 => by
    have hx64 : x < 2 ^ 64 := Nat.lt_of_lt_of_le h (Nat.pow_le_pow_right (by omega) hk)
    by_cases hx : x = 1
    · subst hx
      have : Lib.bitLen 1 = 1 := by decide
      rw [this]; exact ⟨by omega, by decide, by decide, by omega⟩
    · have e := Lib.bitLen_half x (by omega) hx64
      have ih := bitLen_bd k (x / 2) (by rw [Nat.pow_succ] at h; omega) (by omega) (by omega)
      generalize Lib.bitLen (x / 2) = m at *
      rw [e]
      obtain ⟨i1, i2, i3, i4⟩ := ih
      obtain ⟨q, rfl⟩ : ∃ q, m = q + 1 := ⟨m - 1, by omega⟩
      have e1 : 1 + (q + 1) - 1 = q + 1 := by omega
      have e2 : q + 1 - 1 = q := by omega
      rw [e1]; rw [e2] at i2
      rw [show 1 + (q + 1) = q + 1 + 1 from by omega]
      simp only [Nat.pow_succ] at *
      exact ⟨by omega, by omega, by omega, by omega⟩
theorem wrap64_pow {m : Nat} (h : m ≤ 62) : wrap64 (2 ^ m : Int) = ((2 ^ m : Nat) : Int) := by
  have h1 : (2 : Nat) ^ m ≤ 2 ^ 62 := Nat.pow_le_pow_right (by omega) h
  have e : ((2 : Int) ^ m) = ((2 ^ m : Nat) : Int) := by simp
  rw [e]
  generalize (2 : Nat) ^ m = q at *
  exact IntWalk.wrap64_in _ (by constructor <;> omega)
end Go.Proofs.YticohjhohbkmaaaDoor
