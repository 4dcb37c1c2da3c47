/- Chapter 01: Gcd (both) and Root, by walking their text. -/
import Derived.Test.YticohjhohbkmaaaDoorNumW1
namespace Go.Proofs.YticohjhohbkmaaaDoor
open Go Go.RowKit

/-- the greatest common divisor, 0 where it is no int. -/
def gcdF (a b : Int) : Int := if Nat.gcd a.natAbs b.natAbs = 9223372036854775808 then 0 else (Nat.gcd a.natAbs b.natAbs : Int)
theorem gcd_le {x y : Nat} (hx : x ≤ 9223372036854775808) (hy : y ≤ 9223372036854775808) : Nat.gcd x y ≤ 9223372036854775808 := by
  rcases Nat.eq_zero_or_pos x with h | h
  · subst h; rw [Nat.gcd_zero_left]; exact hy
  · exact Nat.le_trans (Nat.gcd_le_left y h) hx
theorem i64_nat {n : Nat} (h : n ≤ 9223372036854775807) : IntKind.i64.wrap (n : Int) = (n : Int) := IntWalk.i64_in _ (by omega)

set_option maxHeartbeats 1000000 in
theorem gcd_any (a b : Int) (w : World) (h0 : -9223372036854775808 ≤ a) (h1 : a ≤ 9223372036854775807) (hb0 : -9223372036854775808 ≤ b) (hb1 : b ≤ 9223372036854775807) :
    Calls Tryd.prog 21 #[.int .i64 a, .int .i64 b] w fun e w' => e = .returned (.int .i64 (gcdF a b)) ∧ Qt w w' := by
  have M1 := Lib.hid (fun w => mag_any a w h0 h1)
  have M2 := Lib.hid (fun w => mag_any b w hb0 hb1)
  have HG : Hid (gcdF a b = if Nat.gcd a.natAbs b.natAbs = 9223372036854775808 then 0 else (Nat.gcd a.natAbs b.natAbs : Int)) := rfl
  have hx : a.natAbs ≤ 9223372036854775808 := by omega
  have hy : b.natAbs ≤ 9223372036854775808 := by omega
  generalize a.natAbs = x0 at *
  generalize b.natAbs = y0 at *
  go_enter Tryd.func21, Tryd.ntmps21
  go_wp2_with fail
  refine (M1.out _).mono ?_
  rintro e w1 ⟨rfl, rfl⟩
  go_wp2_with fail
  refine (M2.out _).mono ?_
  rintro e w1 ⟨rfl, rfl⟩
  go_wp2_with fail
  go_loopw [5, 6] (fun x y W => ∃ m n : Nat, x = .int .u64 m ∧ y = .int .u64 n ∧ m ≤ 9223372036854775808 ∧ n ≤ 9223372036854775808 ∧ Hid (Nat.gcd m n = Nat.gcd x0 y0) ∧ Qt w W) (fun _ y _ => (intOf y).toNat)
  case atStart => exact ⟨x0, y0, rfl, rfl, hx, hy, rfl, Qt.refl _⟩
  case round =>
    obtain ⟨m, n, rfl, rfl, hm, hn, hg, hq⟩ := hrel
    by_cases hz : n = 0
    · subst hz
      have hg' : m = Nat.gcd x0 y0 := by have := hg.out; rw [Nat.gcd_zero_right] at this; exact this
      clear hg
      by_cases hm' : m = 9223372036854775808
      · have HF : Hid (gcdF a b = 0) := by show _ = _; rw [HG.out, ← hg', if_pos hm']
        clear hg'
        subst hm'
        go_wp2
        go_ret
        exact ⟨ret_int HF.out.symm, hq⟩
      · have HF : Hid (gcdF a b = (m : Int)) := by show _ = _; rw [HG.out, ← hg', if_neg hm']
        have hm2 : m ≤ 9223372036854775807 := by omega
        have e3 : ((m : Int) == 9223372036854775808) = false := ieq_f (by omega)
        clear hg' hm
        go_wp2
        go_ret
        exact ⟨ret_int HF.out.symm, hq⟩
    · have hn1 : 1 ≤ n := by omega
      have hne : ((n : Int) != 0) = true := ine_t (by omega)
      have HM : Hid (Nat.gcd n (m % n) = Nat.gcd x0 y0) := by
        show _ = _
        rw [← hg.out, Nat.gcd_comm m n, Nat.gcd_rec n m, Nat.gcd_comm]
      have hlt := Nat.mod_lt m hn1
      clear hg
      go_wp2
      go_quiet (fail)
      go_wp2
      go_roundw
      case rel => exact ⟨n, m % n, rfl, by go_num, hn, by omega, HM, hq.drewN _⟩
      case measure => simp [intOf]; omega

set_option maxHeartbeats 1000000 in
theorem refGcd_any (a b : Int) (w : World) (h0 : -9223372036854775808 ≤ a) (h1 : a ≤ 9223372036854775807) (hb0 : -9223372036854775808 ≤ b) (hb1 : b ≤ 9223372036854775807) :
    Calls Tryd.prog 22 #[.int .i64 a, .int .i64 b] w fun e w' => e = .returned (.int .i64 (gcdF a b)) ∧ Qt w w' := by
  have M1 := Lib.hid (fun w => refMag_any a w h0 h1)
  have M2 := Lib.hid (fun w => refMag_any b w hb0 hb1)
  have HG : Hid (gcdF a b = if Nat.gcd a.natAbs b.natAbs = 9223372036854775808 then 0 else (Nat.gcd a.natAbs b.natAbs : Int)) := rfl
  have hx : a.natAbs ≤ 9223372036854775808 := by omega
  have hy : b.natAbs ≤ 9223372036854775808 := by omega
  generalize a.natAbs = x0 at *
  generalize b.natAbs = y0 at *
  go_enter Tryd.func22, Tryd.ntmps22
  go_wp2_with fail
  refine (M1.out _).mono ?_
  rintro e w1 ⟨rfl, rfl⟩
  go_wp2_with fail
  refine (M2.out _).mono ?_
  rintro e w1 ⟨rfl, rfl⟩
  go_wp2_with fail
  go_loopw [5, 6] (fun x y W => ∃ m n : Nat, x = .int .u64 m ∧ y = .int .u64 n ∧ m ≤ 9223372036854775808 ∧ n ≤ 9223372036854775808 ∧ Hid (Nat.gcd m n = Nat.gcd x0 y0) ∧ Qt w W) (fun _ y _ => (intOf y).toNat)
  case atStart => exact ⟨x0, y0, rfl, rfl, hx, hy, rfl, Qt.refl _⟩
  case round =>
    obtain ⟨m, n, rfl, rfl, hm, hn, hg, hq⟩ := hrel
    by_cases hz : n = 0
    · subst hz
      have hg' : m = Nat.gcd x0 y0 := by have := hg.out; rw [Nat.gcd_zero_right] at this; exact this
      clear hg
      by_cases hm' : m = 9223372036854775808
      · have HF : Hid (gcdF a b = 0) := by show _ = _; rw [HG.out, ← hg', if_pos hm']
        clear hg'
        subst hm'
        go_wp2
        go_ret
        exact ⟨ret_int HF.out.symm, hq⟩
      · have HF : Hid (gcdF a b = (m : Int)) := by show _ = _; rw [HG.out, ← hg', if_neg hm']
        have hm2 : m ≤ 9223372036854775807 := by omega
        have e3 : ((m : Int) == 9223372036854775808) = false := ieq_f (by omega)
        clear hg' hm
        go_wp2
        go_ret
        exact ⟨ret_int HF.out.symm, hq⟩
    · have hn1 : 1 ≤ n := by omega
      have hne : ((n : Int) != 0) = true := ine_t (by omega)
      have HM : Hid (Nat.gcd n (m % n) = Nat.gcd x0 y0) := by
        show _ = _
        rw [← hg.out, Nat.gcd_comm m n, Nat.gcd_rec n m, Nat.gcd_comm]
      have hlt := Nat.mod_lt m hn1
      clear hg
      go_wp2
      go_quiet (fail)
      go_wp2
      go_roundw
      case rel => exact ⟨n, m % n, rfl, by go_num, hn, by omega, HM, hq.drewN _⟩
      case measure => simp [intOf]; omega
end Go.Proofs.YticohjhohbkmaaaDoor
