/- Chapter 01: Root, by walking its text. -/
import Derived.Test.YticohjhohbkmaaaDoorNumW1
namespace Go.Proofs.YticohjhohbkmaaaDoor
open Go Go.RowKit

theorem i64_or_nat (a b : Nat) (ha : a < 9223372036854775808) (hb : b < 9223372036854775808) : bits .or .i64 (a : Int) (b : Int) = ((a ||| b : Nat) : Int) := by
  have hx : a ||| b < 2 ^ 63 := Nat.or_lt_two_pow (by omega) (by omega)
  show IntKind.i64.wrap ((BitVec.ofInt 64 (a : Int) ||| BitVec.ofInt 64 (b : Int)).toNat : Int) = _
  rw [BitVec.toNat_or, BitVec.ofInt_natCast, BitVec.ofInt_natCast, BitVec.toNat_ofNat, BitVec.toNat_ofNat, Nat.mod_eq_of_lt (by omega), Nat.mod_eq_of_lt (by omega)]
  exact IntWalk.i64_in _ (by omega)
/-- the relation of the rounds: c * P squared is at most n, one P more is too great. -/
def RootInv (n r P : Nat) : Prop := (∃ c, r = c * P) ∧ r * r ≤ n ∧ n < (r + P) * (r + P)
theorem root_or {n r p : Nat} (h : RootInv n r (2 * p)) {j : Nat} (hp : p = 2 ^ j) : r ||| p = r + p := by
  obtain ⟨⟨c, hc⟩, _⟩ := h
  have e : r = 2 ^ (j + 1) * c := by rw [hc, hp, Nat.pow_succ, Nat.mul_comm, Nat.mul_comm (2 ^ j) 2]
  have := Nat.two_pow_add_eq_or_of_lt (i := j + 1) (b := p) (by rw [hp]; exact Nat.pow_lt_pow_right (by omega) (by omega)) c
  rw [e, ← this]
theorem root_yes {n r p : Nat} (h : RootInv n r (2 * p)) (ht : (r + p) * (r + p) ≤ n) : RootInv n (r + p) p := by
  obtain ⟨⟨c, hc⟩, _, h2⟩ := h
  refine ⟨⟨2 * c + 1, ?_⟩, ht, ?_⟩
  · rw [hc, Nat.add_mul, Nat.one_mul, Nat.mul_assoc, Nat.mul_left_comm]
  · rw [show r + p + p = r + 2 * p from by omega]; exact h2
theorem root_no {n r p : Nat} (h : RootInv n r (2 * p)) (ht : n < (r + p) * (r + p)) : RootInv n r p := by
  obtain ⟨⟨c, hc⟩, h1, h2⟩ := h
  exact ⟨⟨2 * c, by rw [hc, Nat.mul_assoc, Nat.mul_left_comm]⟩, h1, ht⟩
def RootRes (n : Nat) (w : World) (e : Ending) (w' : World) : Prop := ∃ r : Nat, e = .returned (.int .i64 r) ∧ r * r ≤ n ∧ n < (r + 1) * (r + 1) ∧ r < 4294967296 ∧ w = w'
set_option maxHeartbeats 400000 in
theorem root_neg (n : Int) (w : World) (h : n < 0) : Calls Tryd.prog 23 #[.int .i64 n] w fun e w' => e = .returned (.int .i64 0) ∧ w = w' := by
  go_enter Tryd.func23, Tryd.ntmps23
  go_wp2
  go_ret
  exact ⟨rfl, by trivial⟩
set_option maxHeartbeats 1000000 in
theorem root_any (n : Nat) (w : World) (h1 : n ≤ 9223372036854775807) : Calls Tryd.prog 23 #[.int .i64 n] w (RootRes n w) := by
  have h0 : ¬ (n : Int) < 0 := by omega
  go_enter Tryd.func23, Tryd.ntmps23
  go_wp2
  go_loop [3, 8] (fun r i => ∃ k m : Nat, k ≤ 32 ∧ i = .int .i64 k ∧ r = .int .i64 m ∧ m < 4294967296 ∧ Hid (RootInv n m (2 ^ (32 - k)))) (fun _ i => 32 - (intOf i).toNat)
  case atStart => exact ⟨0, 0, by omega, rfl, rfl, by omega, ⟨0, by simp⟩, by omega, by show n < (0 + 2 ^ 32) * (0 + 2 ^ 32); omega⟩
  case round =>
    obtain ⟨k, m, hk, rfl, rfl, hm, hi⟩ := hrel
    by_cases hlt : k < 32
    · have hp2 : 2 ^ (32 - k) = 2 * 2 ^ (31 - k) := by rw [show 32 - k = (31 - k) + 1 from by omega, Nat.pow_succ]; omega
      have hi' := hi.out
      rw [hp2] at hi'
      have hor := root_or hi' rfl
      have hpb : 2 ^ (31 - k) ≤ 2 ^ 31 := Nat.pow_le_pow_right (by omega) (by omega)
      have hpp : 0 < 2 ^ (31 - k) := Nat.two_pow_pos _
      have hw : wrap64 ((2 : Int) ^ (31 - k)) = (2 : Int) ^ (31 - k) := by
        have e : ((2 : Int) ^ (31 - k)) = ((2 ^ (31 - k) : Nat) : Int) := by simp
        rw [e]
        generalize (2 : Nat) ^ (31 - k) = q at *
        exact IntWalk.wrap64_in _ (by omega)
      have he : 32 - (k + 1) = 31 - k := by omega
      have hb := i64_or_nat m (2 ^ (31 - k)) (by omega) (by omega)
      rw [hor, show ((2 ^ (31 - k) : Nat) : Int) = (2 : Int) ^ (31 - k) by simp] at hb
      obtain ⟨t, ht⟩ : ∃ t, t = m + 2 ^ (31 - k) := ⟨_, rfl⟩
      rw [← ht] at hb
      have ht1 : 1 ≤ t := by omega
      have ht2 : t ≤ 9223372036854775807 := by omega
      have hdiv : t ≤ n / t ↔ t * t ≤ n := Nat.le_div_iff_mul_le (by omega)
      have hw2 : wrap64 ((n : Int) / (t : Int)) = ((n / t : Nat) : Int) := by
        have e : (n : Int) / (t : Int) = ((n / t : Nat) : Int) := (Int.natCast_ediv n t).symm
        have hle := Nat.div_le_self n t
        rw [e]
        clear hdiv ht hb e
        generalize n / t = q at *
        exact IntWalk.wrap64_in _ (by omega)
      generalize n / t = q at *
      have HE := Lib.hid he
      by_cases hc : t * t ≤ n
      · have hle : decide (t ≤ q) = true := decide_eq_true (hdiv.2 hc)
        have HI : Hid (RootInv n t (2 ^ (31 - k))) := by show RootInv _ _ _; rw [ht]; exact root_yes hi' (by rw [← ht]; exact hc)
        have ht3 : t < 4294967296 := by
          rcases Nat.lt_or_ge t 4294967296 with h | h
          · exact h
          · have := Nat.mul_le_mul h h; omega
        clear he hi' hi hor hp2 hpb hpp ht hc hdiv
        go_wp2
        go_round
        case rel => exact ⟨k + 1, t, by omega, by go_num, rfl, ht3, by rw [HE.out]; exact HI⟩
        case measure => simp [intOf]; omega
      · have hle : decide (t ≤ q) = false := decide_eq_false (fun h => hc (hdiv.1 h))
        have HI : Hid (RootInv n m (2 ^ (31 - k))) := by show RootInv _ _ _; exact root_no hi' (by rw [← ht]; omega)
        clear he hi' hi hor hp2 hpb hpp ht hc hdiv
        go_wp2
        go_round
        case rel => exact ⟨k + 1, m, by omega, by go_num, rfl, hm, by rw [HE.out]; exact HI⟩
        case measure => simp [intOf]; omega
    · obtain rfl : k = 32 := by omega
      go_wp2
      go_ret
      obtain ⟨_, i1, i2⟩ := hi.out
      exact ⟨m, rfl, i1, by simpa using i2, hm, by trivial⟩
end Go.Proofs.YticohjhohbkmaaaDoor
