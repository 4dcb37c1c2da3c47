/- Chapter 01: mag, divided, Floor, Ceil, Round, of the program and of the reference, by walking their text. -/
import Derived.Test.YticohjhohbkmaaaDoorChecked
import Derived.Test.YticohjhohbkmaaaDoorNumPlain
import Derived.BigQuiet
namespace Go.Proofs.YticohjhohbkmaaaDoor
open Go Go.RowKit

theorem ret_2 {a b c d : Int} (h1 : a = c) (h2 : b = d) : Ending.returned (.tuple #[.int .i64 a, .int .i64 b]) = .returned (.tuple #[.int .i64 c, .int .i64 d]) := by rw [h1, h2]
theorem ret_u {a b : Int} (h : a = b) : Ending.returned (.int .u64 a) = .returned (.int .u64 b) := by rw [h]
theorem u64_neg {n : Int} (h0 : n < 0) (h1 : -9223372036854775808 ≤ n) : IntKind.u64.wrap n = n + 18446744073709551616 := by rw [IntKind.wrap_u64]; omega
theorem u64_negneg {n : Int} (h0 : n < 0) (h1 : -9223372036854775808 ≤ n) : IntKind.u64.wrap (-(n + 18446744073709551616)) = -n := by rw [IntKind.wrap_u64]; omega
set_option maxHeartbeats 400000 in
theorem mag_any (n : Int) (w : World) (h0 : -9223372036854775808 ≤ n) (h1 : n ≤ 9223372036854775807) :
    Calls Tryd.prog 31 #[.int .i64 n] w fun e w' => e = .returned (.int .u64 (n.natAbs : Int)) ∧ w = w' := by
  by_cases hn : n < 0
  · have e1 := u64_neg hn h0
    have e2 := u64_negneg hn h0
    go_enter Tryd.func31, Tryd.ntmps31
    go_wp2
    go_ret
    exact ⟨ret_u (by omega), by trivial⟩
  · go_enter Tryd.func31, Tryd.ntmps31
    go_wp2
    go_ret
    exact ⟨ret_u (by omega), by trivial⟩
set_option maxHeartbeats 400000 in
theorem refMag_any (n : Int) (w : World) (h0 : -9223372036854775808 ≤ n) (h1 : n ≤ 9223372036854775807) :
    Calls Tryd.prog 35 #[.int .i64 n] w fun e w' => e = .returned (.int .u64 (n.natAbs : Int)) ∧ w = w' := by
  by_cases hn : n < 0
  · have e1 := u64_neg hn h0
    have e2 := u64_negneg hn h0
    go_enter Tryd.func35, Tryd.ntmps35
    go_wp2
    go_ret
    exact ⟨ret_u (by omega), by trivial⟩
  · go_enter Tryd.func35, Tryd.ntmps35
    go_wp2
    go_ret
    exact ⟨ret_u (by omega), by trivial⟩
def Bad (a b : Int) : Prop := a = -9223372036854775808 ∧ b = -1
theorem tdiv_in {a b : Int} (h0 : -9223372036854775808 ≤ a) (h1 : a ≤ 9223372036854775807) (hb : b ≠ 0) (hn : ¬ Bad a b) : -9223372036854775808 ≤ a.tdiv b ∧ a.tdiv b ≤ 9223372036854775807 := by
  obtain ⟨f1, f2⟩ := fl_of_t (a := a) hb
  have hi := fl_in hb (show inW a from ⟨h0, h1⟩) hn
  by_cases hc : a.tmod b ≠ 0 ∧ ¬ ((a.tmod b < 0) ↔ (b < 0))
  · have := (f1 hc).1
    -- the quotient cut towards nought lies between the quotient and nought
    have ht := t_eq a b
    have ha : (a.tdiv b).natAbs ≤ a.natAbs := Int.natAbs_tdiv_le_natAbs a b
    have : a.tdiv b = fl a b + 1 := by omega
    obtain ⟨g1, g2⟩ := hi
    refine ⟨by omega, ?_⟩
    rcases Int.lt_or_le 9223372036854775807 (a.tdiv b) with h | h
    · exfalso
      have h2 : fl a b = 9223372036854775807 := by omega
      have h3 := t_sign a b hb
      have h5 : a.natAbs = 9223372036854775808 := by omega
      have h6 : a = -9223372036854775808 := by omega
      have h7 : b.natAbs ≤ 1 := by
        have h8 := Int.natAbs_tdiv a b
        rcases Nat.lt_or_ge 1 b.natAbs with h9 | h9
        · have := Nat.div_le_div_left (a := a.natAbs) h9 (by omega)
          have h10 : (a.tdiv b).natAbs ≤ a.natAbs / 2 := by rw [h8]; exact this
          omega
        · exact h9
      have h11 : b = 1 ∨ b = -1 := by omega
      rcases h11 with rfl | rfl
      · rw [Int.tdiv_one] at h; omega
      · exact hn ⟨h6, rfl⟩
    · exact h
  · have := (f2 hc).1
    unfold inW at hi
    omega
set_option maxHeartbeats 400000 in
theorem div_zero (a : Int) (w : World) : Calls Tryd.prog 30 #[.int .i64 a, .int .i64 0] w fun e w' => e = .returned (.tuple #[.int .i64 0, .int .i64 0, .int .i64 22]) ∧ w = w' := by
  go_enter Tryd.func30, Tryd.ntmps30
  go_wp2
  go_ret3
  exact ⟨rfl, by trivial⟩
set_option maxHeartbeats 400000 in
theorem div_bad (w : World) : Calls Tryd.prog 30 #[.int .i64 (-9223372036854775808), .int .i64 (-1)] w fun e w' => e = .returned (.tuple #[.int .i64 0, .int .i64 0, .int .i64 21]) ∧ w = w' := by
  go_enter Tryd.func30, Tryd.ntmps30
  go_wp2
  go_ret3
  exact ⟨rfl, by trivial⟩
theorem guard_bad {a b : Int} (hn : ¬ Bad a b) : ((a == -9223372036854775808) = false) ∨ ((a == -9223372036854775808) = true ∧ (b == -1) = false) := by
  by_cases h : a = -9223372036854775808
  · exact .inr ⟨ieq_t h, ieq_f (fun e => hn ⟨h, e⟩)⟩
  · exact .inl (ieq_f h)
set_option maxHeartbeats 400000 in
theorem div_any (a b : Int) (w : World) (h0 : -9223372036854775808 ≤ a) (h1 : a ≤ 9223372036854775807) (hb : b ≠ 0) (hn : ¬ Bad a b) :
    Calls Tryd.prog 30 #[.int .i64 a, .int .i64 b] w fun e w' => e = .returned (.tuple #[.int .i64 (a.tdiv b), .int .i64 (a.tmod b), .int .i64 0]) ∧ Qt w w' := by
  have hb1 : (b == 0) = false := ieq_f hb
  have hq := IntWalk.i64_in _ (tdiv_in h0 h1 hb hn)
  have hq' := IntWalk.wrap64_in _ (tdiv_in h0 h1 hb hn)
  rcases guard_bad hn with g | ⟨g, g2⟩
  all_goals
    go_enter Tryd.func30, Tryd.ntmps30
    go_wp2
    go_quiet (fail)
    go_wp2
    go_ret3
    exact ⟨rfl, (Qt.refl _).drewN _⟩
def QRet (a b : Int) (w : World) (e : Ending) (w' : World) : Prop := e = .returned (.tuple #[.int .i64 a, .int .i64 b]) ∧ Qt w w'
def floorF (a b : Int) : Int × Int := if b = 0 then (0, 22) else if a = -9223372036854775808 ∧ b = -1 then (0, 21) else (fl a b, 0)
def ceilF (a b : Int) : Int × Int := if b = 0 then (0, 22) else if a = -9223372036854775808 ∧ b = -1 then (0, 21) else (if lft a b = 0 then fl a b else fl a b + 1, 0)
def roundF (a b : Int) : Int × Int := if b = 0 then (0, 22) else if a = -9223372036854775808 ∧ b = -1 then (0, 21) else (if b.natAbs ≤ 2 * (lft a b).natAbs then fl a b + 1 else fl a b, 0)
theorem lft_lt {a b : Int} (hb : b ≠ 0) : (lft a b).natAbs < b.natAbs := by
  have := fl_left (a := a) hb
  omega
theorem fl_in1 {a b : Int} (h0 : -9223372036854775808 ≤ a) (h1 : a ≤ 9223372036854775807) (hb : b ≠ 0) (hn : ¬ Bad a b) : -9223372036854775808 ≤ fl a b ∧ fl a b ≤ 9223372036854775807 := fl_in hb (show inW a from ⟨h0, h1⟩) hn
/-- one more still fits, where something is left. -/
theorem fl_in2 {a b : Int} (h0 : -9223372036854775808 ≤ a) (h1 : a ≤ 9223372036854775807) (hb : b ≠ 0) (hl : lft a b ≠ 0) : fl a b + 1 ≤ 9223372036854775807 := by
  rcases Int.lt_or_le 9223372036854775806 (fl a b) with h | h
  · exfalso
    have he := fl_eq a b
    have hl' := fl_left (a := a) hb
    have hb2 : b ≤ -2 ∨ 2 ≤ b := by
      have := lft_lt (a := a) hb
      omega
    rcases hb2 with h2 | h2
    · have := Int.mul_le_mul_of_nonneg_right (show 9223372036854775807 ≤ fl a b by omega) (show 0 ≤ -b by omega)
      rw [Int.mul_neg (fl a b) b] at this
      omega
    · have := Int.mul_le_mul_of_nonneg_right (show 9223372036854775807 ≤ fl a b by omega) (show 0 ≤ b by omega)
      omega
  · omega
set_option maxHeartbeats 1000000 in
theorem floor_any (a b : Int) (w : World) (h0 : -9223372036854775808 ≤ a) (h1 : a ≤ 9223372036854775807) (hb0 : -9223372036854775808 ≤ b) (hb1 : b ≤ 9223372036854775807) :
    Calls Tryd.prog 12 #[.int .i64 a, .int .i64 b] w (QRet (floorF a b).1 (floorF a b).2 w) := by
  by_cases hb : b = 0
  · subst hb
    go_enter Tryd.func12, Tryd.ntmps12
    go_wp2_with (go_at_call 30; refine (div_zero _ _).mono ?_; rintro e w' ⟨rfl, rfl⟩)
    go_ret2
    exact ⟨rfl, Qt.refl _⟩
  by_cases hn : Bad a b
  · obtain ⟨rfl, rfl⟩ := hn
    go_enter Tryd.func12, Tryd.ntmps12
    go_wp2_with (go_at_call 30; refine (div_bad _).mono ?_; rintro e w' ⟨rfl, rfl⟩)
    go_ret2
    exact ⟨rfl, Qt.refl _⟩
  have HF : Hid (floorF a b = (fl a b, 0)) := by show _ = _; unfold floorF; rw [if_neg hb, if_neg (show ¬ (a = -9223372036854775808 ∧ b = -1) from hn)]
  have hd := Lib.hid (fun w => div_any a b w h0 h1 hb hn)
  have ht := tdiv_in h0 h1 hb hn
  have hf := fl_in1 h0 h1 hb hn
  obtain ⟨f1, f2⟩ := fl_of_t (a := a) hb
  generalize a.tdiv b = q at *
  generalize a.tmod b = r at *
  generalize lft a b = m at *
  generalize fl a b = f at *
  obtain ⟨t1, t2⟩ := ht
  obtain ⟨t3, t4⟩ := hf
  by_cases hr : r = 0
  · obtain ⟨rfl, -⟩ := f2 (by omega)
    have e1 : (r != 0) = false := ine_f hr
    clear f1 f2 hr
    go_enter Tryd.func12, Tryd.ntmps12
    go_wp2_with (go_at_call 30; refine (hd.out _).mono ?_; rintro e w' ⟨rfl, hq⟩)
    go_ret2
    exact ⟨ret_2 (by rw [HF.out]) (by rw [HF.out]), hq⟩
  have e1 : (r != 0) = true := ine_t hr
  by_cases hr2 : r < 0 <;> by_cases hb2 : b < 0
  · obtain ⟨rfl, -⟩ := f2 (by omega)
    clear f1 f2
    have d1 : decide (r < 0) = true := by simp; omega
    have d2 : decide (b < 0) = true := by simp; omega
    go_enter Tryd.func12, Tryd.ntmps12
    go_wp2_with (go_at_call 30; refine (hd.out _).mono ?_; rintro e w' ⟨rfl, hq⟩)
    go_ret2
    exact ⟨ret_2 (by rw [HF.out]) (by rw [HF.out]), hq⟩
  · obtain ⟨HE, -⟩ := f1 (by omega)
    have HE' := Lib.hid HE
    have hq1 : -9223372036854775808 ≤ q - 1 := by omega
    clear f1 f2 HE
    have d1 : decide (r < 0) = true := by simp; omega
    have d2 : decide (b < 0) = false := by simp; omega
    go_enter Tryd.func12, Tryd.ntmps12
    go_wp2_with (go_at_call 30; refine (hd.out _).mono ?_; rintro e w' ⟨rfl, hq⟩)
    go_ret2
    exact ⟨ret_2 (by rw [HF.out, HE'.out]) (by rw [HF.out]), hq⟩
  · obtain ⟨HE, -⟩ := f1 (by omega)
    have HE' := Lib.hid HE
    have hq1 : -9223372036854775808 ≤ q - 1 := by omega
    clear f1 f2 HE
    have d1 : decide (r < 0) = false := by simp; omega
    have d2 : decide (b < 0) = true := by simp; omega
    go_enter Tryd.func12, Tryd.ntmps12
    go_wp2_with (go_at_call 30; refine (hd.out _).mono ?_; rintro e w' ⟨rfl, hq⟩)
    go_ret2
    exact ⟨ret_2 (by rw [HF.out, HE'.out]) (by rw [HF.out]), hq⟩
  · obtain ⟨rfl, -⟩ := f2 (by omega)
    clear f1 f2
    have d1 : decide (r < 0) = false := by simp; omega
    have d2 : decide (b < 0) = false := by simp; omega
    go_enter Tryd.func12, Tryd.ntmps12
    go_wp2_with (go_at_call 30; refine (hd.out _).mono ?_; rintro e w' ⟨rfl, hq⟩)
    go_ret2
    exact ⟨ret_2 (by rw [HF.out]) (by rw [HF.out]), hq⟩
end Go.Proofs.YticohjhohbkmaaaDoor
