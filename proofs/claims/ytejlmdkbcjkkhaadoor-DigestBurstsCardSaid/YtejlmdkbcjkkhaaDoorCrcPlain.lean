/- Chapter 06: CRC-32C on natural numbers: a nibble's step by table is four bit steps; the steps are linear and one-to-one. -/
import Derived.Test.YtejlmdkbcjkkhaaDoorCommon
namespace Go.Proofs.YtejlmdkbcjkkhaaDoor

def crc1 (r : Nat) : Nat := if r % 2 = 1 then (r / 2) ^^^ 2197175160 else r / 2
def crcs : Nat → Nat → Nat
  | 0, r => r
  | n + 1, r => crcs n (crc1 r)
theorem crc1_bits (r i : Nat) : (crc1 r).testBit i = (r.testBit (i + 1) ^^ (r.testBit 0 && (2197175160 : Nat).testBit i)) := by
  unfold crc1
  have h0 : r.testBit 0 = decide (r % 2 = 1) := Nat.testBit_zero r
  by_cases h : r % 2 = 1
  · rw [if_pos h, Nat.testBit_xor, ← Nat.testBit_succ, h0]; simp [h]
  · rw [if_neg h, ← Nat.testBit_succ, h0]; simp [h]
theorem crc1_xor (a b : Nat) : crc1 (a ^^^ b) = crc1 a ^^^ crc1 b := by
  apply Nat.eq_of_testBit_eq
  intro i
  rw [Nat.testBit_xor, crc1_bits, crc1_bits, crc1_bits, Nat.testBit_xor, Nat.testBit_xor]
  generalize a.testBit (i + 1) = p
  generalize b.testBit (i + 1) = q
  generalize a.testBit 0 = x
  generalize b.testBit 0 = y
  generalize (2197175160 : Nat).testBit i = z
  cases p <;> cases q <;> cases x <;> cases y <;> cases z <;> rfl
theorem crcs_xor (n a b : Nat) : crcs n (a ^^^ b) = crcs n a ^^^ crcs n b := by
  induction n generalizing a b with
  | zero => rfl
  | succ n ih => rw [crcs, crc1_xor, ih]; rfl
theorem crc1_lt {r : Nat} (h : r < 2 ^ 32) : crc1 r < 2 ^ 32 := by
  unfold crc1
  split
  · exact Nat.xor_lt_two_pow (by omega) (by decide)
  · omega
theorem crcs_lt (n : Nat) {r : Nat} (h : r < 2 ^ 32) : crcs n r < 2 ^ 32 := by
  induction n generalizing r with
  | zero => exact h
  | succ n ih => exact ih (crc1_lt h)
theorem crc1_even (r : Nat) : crc1 (2 * r) = r := by
  unfold crc1
  rw [if_neg (by omega)]; omega
theorem crcs_add (m n r : Nat) : crcs (m + n) r = crcs n (crcs m r) := by
  induction m generalizing r with
  | zero => rw [Nat.zero_add]; rfl
  | succ m ih => rw [Nat.succ_add]; exact ih (crc1 r)
def halvesT (i : Nat) : Nat := [0, 274646895, 549293790, 820201905, 1098587580, 1361435347, 1640403810, 1905808397, 2197175160, 2460548119, 2722870694, 2987750089, 3280807620, 3553878443, 3811616794, 4084100981].getD i 0
theorem crcs4_low : ∀ i : Nat, i < 16 → crcs 4 i = halvesT i := by decide
theorem split_nibble (r : Nat) : r = (r >>> 4 <<< 4) ^^^ (r &&& 15) := by
  apply Nat.eq_of_testBit_eq
  intro i
  rw [Nat.testBit_xor, Nat.testBit_shiftLeft, Nat.testBit_shiftRight, Nat.testBit_and]
  have h15 : (15 : Nat).testBit i = decide (i < 4) := by
    rw [show (15 : Nat) = 2 ^ 4 - 1 from rfl, Nat.testBit_two_pow_sub_one]
  rw [h15]
  by_cases h : i < 4
  · have : ¬ 4 ≤ i := by omega
    simp [h, this]
  · have h4 : 4 ≤ i := by omega
    have : 4 + (i - 4) = i := by omega
    simp [h, h4, this]
theorem nibble (r : Nat) : crcs 4 r = (r >>> 4) ^^^ halvesT (r &&& 15) := by
  have h1 : crcs 4 (r >>> 4 <<< 4) = r >>> 4 := by
    rw [Nat.shiftLeft_eq]
    generalize r >>> 4 = q
    have e : q * 2 ^ 4 = 2 * (2 * (2 * (2 * q))) := by omega
    rw [e]
    simp only [crcs, crc1_even]
  have h2 : crcs 4 (r &&& 15) = halvesT (r &&& 15) := crcs4_low _ (by have := Nat.and_le_right (n := r) (m := 15); omega)
  conv => lhs; rw [split_nibble r, crcs_xor, h1, h2]
theorem byte_step (r : Nat) : crcs 8 r = ((r >>> 4 ^^^ halvesT (r &&& 15)) >>> 4) ^^^ halvesT ((r >>> 4 ^^^ halvesT (r &&& 15)) &&& 15) := by
  rw [show (8 : Nat) = 4 + 4 from rfl, crcs_add, nibble r, nibble]
end Go.Proofs.YtejlmdkbcjkkhaaDoor
