/- Chapter 01: plain laws on quotients, products and roots: no program in sight. -/
import Derived.Test.YticohjhohbkmaaaDoorCommon
namespace Go.Proofs.YticohjhohbkmaaaDoor
open Go

/-- the quotient rounded down. -/
def fl (a b : Int) : Int := if 0 < b then a / b else (-a) / (-b)
/-- what it leaves. -/
def lft (a b : Int) : Int := a - fl a b * b
theorem fl_left {a b : Int} (hb : b ≠ 0) : (0 < b → 0 ≤ lft a b ∧ lft a b < b) ∧ (b < 0 → b < lft a b ∧ lft a b ≤ 0) := by
  unfold lft fl
  constructor
  · intro h
    rw [if_pos h]
    have h1 := Int.emod_nonneg a hb
    have h2 := Int.emod_lt_of_pos a h
    have h3 := Int.mul_ediv_add_emod a b
    rw [Int.mul_comm] at h3
    omega
  · intro h
    rw [if_neg (by omega)]
    have h1 := Int.emod_nonneg (-a) (show -b ≠ 0 by omega)
    have h2 := Int.emod_lt_of_pos (-a) (show 0 < -b by omega)
    have h3 := Int.mul_ediv_add_emod (-a) (-b)
    rw [Int.mul_comm, Int.mul_neg] at h3
    omega
theorem fl_eq (a b : Int) : a = fl a b * b + lft a b := by unfold lft; omega
theorem mul_lt_abs {d b : Int} (h1 : -b < d * b) (h2 : d * b < b) (hb : 0 < b) : d = 0 := by
  rcases Int.lt_trichotomy d 0 with h | h | h
  · have := Int.mul_le_mul_of_nonneg_right (show d ≤ -1 by omega) (show 0 ≤ b by omega)
    omega
  · exact h
  · have := Int.mul_le_mul_of_nonneg_right (show 1 ≤ d by omega) (show 0 ≤ b by omega)
    omega
theorem fl_uniq {a b q m : Int} (hb : b ≠ 0) (h : a = q * b + m) (h1 : 0 < b → 0 ≤ m ∧ m < b) (h2 : b < 0 → b < m ∧ m ≤ 0) : q = fl a b ∧ m = lft a b := by
  have hl := fl_left (a := a) hb
  have he := fl_eq a b
  have hd : (q - fl a b) * b = lft a b - m := by rw [Int.sub_mul]; omega
  have h0 : q - fl a b = 0 := by
    rcases Int.lt_or_gt_of_ne hb with hn | hp
    · have l1 := hl.2 hn
      have l2 := h2 hn
      have hd' : (-(q - fl a b)) * (-b) = lft a b - m := by rw [Int.neg_mul_neg]; exact hd
      have := mul_lt_abs (d := -(q - fl a b)) (b := -b) (by omega) (by omega) (by omega)
      omega
    · have l1 := hl.1 hp
      have l2 := h1 hp
      exact mul_lt_abs (by omega) (by omega) hp
  have hq : q = fl a b := by omega
  refine ⟨hq, ?_⟩
  subst hq
  omega
theorem t_eq (a b : Int) : a = a.tdiv b * b + a.tmod b := by
  have := Int.mul_tdiv_add_tmod a b
  rw [Int.mul_comm] at this
  omega
theorem t_sign (a b : Int) (hb : b ≠ 0) : (0 ≤ a → 0 ≤ a.tmod b) ∧ (a ≤ 0 → a.tmod b ≤ 0) ∧ (a.tmod b).natAbs < b.natAbs := by
  refine ⟨fun h => Int.tmod_nonneg b h, fun h => ?_, ?_⟩
  · have := Int.tmod_nonneg b (show 0 ≤ -a by omega)
    rw [Int.neg_tmod] at this
    omega
  · rw [Int.natAbs_tmod]
    exact Nat.mod_lt _ (Int.natAbs_pos.2 hb)
/-- from the quotient cut towards nought to the one rounded down. -/
theorem fl_of_t {a b : Int} (hb : b ≠ 0) : (a.tmod b ≠ 0 ∧ ¬ ((a.tmod b < 0) ↔ (b < 0)) → fl a b = a.tdiv b - 1 ∧ lft a b = a.tmod b + b) ∧ (¬ (a.tmod b ≠ 0 ∧ ¬ ((a.tmod b < 0) ↔ (b < 0))) → fl a b = a.tdiv b ∧ lft a b = a.tmod b) := by
  have he := t_eq a b
  obtain ⟨s1, s2, s3⟩ := t_sign a b hb
  constructor
  · intro h
    have := fl_uniq (a := a) (b := b) (q := a.tdiv b - 1) (m := a.tmod b + b) hb (by rw [Int.sub_mul]; omega) (by omega) (by omega)
    exact ⟨this.1.symm, this.2.symm⟩
  · intro h
    have := fl_uniq (a := a) (b := b) (q := a.tdiv b) (m := a.tmod b) hb he (by omega) (by omega)
    exact ⟨this.1.symm, this.2.symm⟩
def inW (x : Int) : Prop := -9223372036854775808 ≤ x ∧ x ≤ 9223372036854775807
instance (x : Int) : Decidable (inW x) := by unfold inW; infer_instance
theorem fl_in {a b : Int} (hb : b ≠ 0) (ha : inW a) (hn : ¬ (a = -9223372036854775808 ∧ b = -1)) : inW (fl a b) := by
  unfold inW at *
  have he := fl_eq a b
  have hl := fl_left (a := a) hb
  rcases Int.lt_or_gt_of_ne hb with h | h
  · have h2 := hl.2 h
    by_cases h1 : b = -1
    · subst h1
      omega
    · constructor
      · rcases Int.lt_or_le (fl a b) (-9223372036854775808) with hq | hq
        · have := Int.mul_le_mul_of_nonneg_right (show fl a b ≤ -9223372036854775809 by omega) (show 0 ≤ -b by omega)
          rw [Int.mul_neg (fl a b) b] at this
          omega
        · exact hq
      · rcases Int.lt_or_le 9223372036854775807 (fl a b) with hq | hq
        · have := Int.mul_le_mul_of_nonneg_right (show 9223372036854775808 ≤ fl a b by omega) (show 0 ≤ -b by omega)
          rw [Int.mul_neg (fl a b) b] at this
          omega
        · exact hq
  · have h2 := hl.1 h
    constructor
    · rcases Int.lt_or_le (fl a b) (-9223372036854775808) with hq | hq
      · have := Int.mul_le_mul_of_nonneg_right (show fl a b ≤ -9223372036854775809 by omega) (show 0 ≤ b by omega)
        omega
      · exact hq
    · rcases Int.lt_or_le 9223372036854775807 (fl a b) with hq | hq
      · have := Int.mul_le_mul_of_nonneg_right (show 9223372036854775808 ≤ fl a b by omega) (show 0 ≤ b by omega)
        omega
      · exact hq
end Go.Proofs.YticohjhohbkmaaaDoor
