/- Chapter 06: the greatest power of two below a number, of the program and of the reference, by walking their text. -/
import Derived.Test.YtejlmdkbcjkkhaaDoorDigCrc
import Derived.Test.YtejlmdkbcjkkhaaDoorShelf
import Derived.Test.YtejlmdkbcjkkhaaDoorPow
namespace Go.Proofs.YtejlmdkbcjkkhaaDoor
open Go Go.RowKit

/-- the greatest power of two below n (n above 1). -/
def splitN (n : Nat) : Nat := 2 ^ (Lib.bitLen (n - 1) - 1)

set_option maxHeartbeats 400000 in
theorem split_any (n : Nat) (w : World) (h1 : 2 ≤ n) (h2 : n ≤ 9223372036854775807) :
    Calls Tryd.prog 27 #[.int .i64 n] w fun e w' => e = .returned (.int .i64 (splitN n : Int)) ∧ w = w' := by
  go_enter Tryd.func27, Tryd.ntmps27
  go_wp2_with fail
  refine (Tryd.bits_Len ((n : Int) - 1) _ (by omega) (by omega)).mono ?_
  rintro e w' ⟨rfl, rfl⟩
  have e1 : ((n : Int) - 1).toNat = n - 1 := by omega
  rw [e1]
  have hbb := bitLen_bd 63 (n - 1) (by omega) (by omega) (by omega)
  have hm0 := hbb.1
  have hm1 := hbb.2.2.2
  clear hbb
  have HS : Hid (splitN n = 2 ^ (Lib.bitLen (n - 1) - 1)) := rfl
  generalize Lib.bitLen (n - 1) = m at *
  have hw := wrap64_pow (m := m - 1) (by omega)
  go_wp2
  go_ret
  exact ⟨ret_int (by rw [HS.out]; exact hw), rfl⟩
theorem splitN_bd {n : Nat} (h1 : 2 ≤ n) (h2 : n ≤ 9223372036854775807) : 1 ≤ splitN n ∧ splitN n < n ∧ n ≤ 2 * splitN n := by
  obtain ⟨a, b, c, d⟩ := bitLen_bd 63 (n - 1) (by omega) (by omega) (by omega)
  unfold splitN
  generalize Lib.bitLen (n - 1) = m at *
  obtain ⟨q, rfl⟩ : ∃ q, m = q + 1 := ⟨m - 1, by omega⟩
  rw [show q + 1 - 1 = q from by omega] at *
  have : 0 < 2 ^ q := Nat.two_pow_pos q
  rw [Nat.pow_succ] at c
  omega
theorem splitN_eq {n j : Nat} (h1 : 2 ≤ n) (h2 : n ≤ 9223372036854775807) (ha : 2 ^ j < n) (hb : n ≤ 2 * 2 ^ j) : splitN n = 2 ^ j := by
  have h := splitN_bd h1 h2
  unfold splitN at *
  generalize Lib.bitLen (n - 1) - 1 = q at *
  rcases Nat.lt_trichotomy q j with hq | hq | hq
  · have := Nat.pow_le_pow_right (n := 2) (by omega) (show q + 1 ≤ j from hq)
    rw [Nat.pow_succ] at this; omega
  · rw [hq]
  · have := Nat.pow_le_pow_right (n := 2) (by omega) (show j + 1 ≤ q from hq)
    rw [Nat.pow_succ] at this; omega

set_option maxHeartbeats 400000 in
theorem left_any (n : Nat) (w : World) (h1 : 2 ≤ n) (h2 : n ≤ 9223372036854775807) :
    Calls Tryd.prog 29 #[.int .i64 n] w fun e w' => e = .returned (.int .i64 (splitN n : Int)) ∧ w = w' := by
  go_enter Tryd.func29, Tryd.ntmps29
  go_wp2
  go_loop [3] (fun k => ∃ p : Nat, k = .int .i64 p ∧ 1 ≤ p ∧ p < n ∧ Hid (∃ j, p = 2 ^ j)) (fun k => n - (intOf k).toNat)
  case atStart => exact ⟨1, rfl, by omega, by omega, ⟨0, rfl⟩⟩
  case round =>
    obtain ⟨p, rfl, hp0, hp1, hj⟩ := hrel
    by_cases hlt : p < n - p
    · have hlt' : (p : Int) < (n : Int) - (p : Int) := by omega
      go_wp2
      go_round
      case rel => exact ⟨2 * p, by go_num, by omega, by omega, by obtain ⟨j, hj⟩ := hj.out; exact ⟨j + 1, by rw [hj, Nat.pow_succ]; omega⟩⟩
      case measure => simp [intOf]; omega
    · have hlt' : ¬ (p : Int) < (n : Int) - (p : Int) := by omega
      have HE : Hid (splitN n = p) := by obtain ⟨j, hj⟩ := hj.out; show splitN n = p; rw [hj]; exact splitN_eq h1 h2 (by rw [← hj]; exact hp1) (by rw [← hj]; omega)
      go_wp2
      go_ret
      exact ⟨ret_int (by rw [HE.out]), by trivial⟩
end Go.Proofs.YtejlmdkbcjkkhaaDoor
