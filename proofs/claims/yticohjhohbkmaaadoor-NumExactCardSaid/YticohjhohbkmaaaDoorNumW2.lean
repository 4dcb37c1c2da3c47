/- Chapter 01: Floor of the reference, Ceil and Round, by walking their text. -/
import Derived.Test.YticohjhohbkmaaaDoorNumW1
namespace Go.Proofs.YticohjhohbkmaaaDoor
open Go Go.RowKit

theorem q_pack {a b : Int} (h0 : -9223372036854775808 ≤ a) (h1 : a ≤ 9223372036854775807) (hb : b ≠ 0) (hn : ¬ Bad a b) :
    ∃ q r f m : Int, a.tdiv b = q ∧ a.tmod b = r ∧ fl a b = f ∧ lft a b = m ∧ (-9223372036854775808 ≤ q ∧ q ≤ 9223372036854775807 ∧ -9223372036854775808 ≤ f ∧ f ≤ 9223372036854775807) ∧
      (r = 0 ∧ f = q ∧ m = 0 ∨ r ≠ 0 ∧ m ≠ 0 ∧ f + 1 ≤ 9223372036854775807 ∧ (r < 0 ∧ a < 0 ∧ b < 0 ∧ f = q ∧ m = r ∨ 0 < r ∧ 0 < a ∧ 0 < b ∧ f = q ∧ m = r ∨ r < 0 ∧ a < 0 ∧ 0 < b ∧ f = q - 1 ∧ m = r + b ∨ 0 < r ∧ 0 < a ∧ b < 0 ∧ f = q - 1 ∧ m = r + b)) ∧
      (0 < b ∧ 0 ≤ m ∧ m < b ∨ b < 0 ∧ b < m ∧ m ≤ 0) ∧ f * b = a - m := by
  refine ⟨_, _, _, _, rfl, rfl, rfl, rfl, ⟨(tdiv_in h0 h1 hb hn).1, (tdiv_in h0 h1 hb hn).2, (fl_in1 h0 h1 hb hn).1, (fl_in1 h0 h1 hb hn).2⟩, ?_, ?_, ?_⟩
  · obtain ⟨f1, f2⟩ := fl_of_t (a := a) hb
    obtain ⟨s1, s2, s3⟩ := t_sign a b hb
    have hl := fl_in2 h0 h1 hb
    by_cases hr : a.tmod b = 0
    · obtain ⟨g1, g2⟩ := f2 (by omega)
      exact .inl ⟨hr, g1, by omega⟩
    · right
      have hm : lft a b ≠ 0 := by
        by_cases hc : a.tmod b ≠ 0 ∧ ¬ ((a.tmod b < 0) ↔ (b < 0))
        · obtain ⟨_, g2⟩ := f1 hc; omega
        · obtain ⟨_, g2⟩ := f2 hc; omega
      refine ⟨hr, hm, hl hm, ?_⟩
      have ha : a ≠ 0 := by rintro rfl; simp at hr
      by_cases hc : a.tmod b ≠ 0 ∧ ¬ ((a.tmod b < 0) ↔ (b < 0))
      · obtain ⟨g1, g2⟩ := f1 hc; omega
      · obtain ⟨g1, g2⟩ := f2 hc; omega
  · have := fl_left (a := a) hb
    omega
  · have := fl_eq a b
    omega

set_option maxHeartbeats 1000000 in
theorem refFloor_any (a b : Int) (w : World) (h0 : -9223372036854775808 ≤ a) (h1 : a ≤ 9223372036854775807) (hb0 : -9223372036854775808 ≤ b) (hb1 : b ≤ 9223372036854775807) :
    Calls Tryd.prog 13 #[.int .i64 a, .int .i64 b] w (QRet (floorF a b).1 (floorF a b).2 w) := by
  by_cases hb : b = 0
  · subst hb
    go_enter Tryd.func13, Tryd.ntmps13
    go_wp2
    go_ret2
    exact ⟨rfl, Qt.refl _⟩
  by_cases hn : Bad a b
  · obtain ⟨rfl, rfl⟩ := hn
    go_enter Tryd.func13, Tryd.ntmps13
    go_wp2
    go_ret2
    exact ⟨rfl, Qt.refl _⟩
  have HF0 : floorF a b = (fl a b, 0) := by unfold floorF; rw [if_neg hb, if_neg (show ¬ (a = -9223372036854775808 ∧ b = -1) from hn)]
  have g := guard_bad hn
  have eb : (b == 0) = false := ieq_f hb
  obtain ⟨q, r, f, m, hq, hr, hf, hm, ⟨t1, t2, t3, t4⟩, hc, -, -⟩ := q_pack h0 h1 hb hn
  rw [hf] at HF0
  have HF := Lib.hid HF0
  clear HF0 hf hm
  rcases g with g | ⟨g, g2⟩
  all_goals
    rcases hc with ⟨c0, rfl, c2⟩ | ⟨c0, c1, c2, ⟨d1, d2, d3, rfl, -⟩ | ⟨d1, d2, d3, rfl, -⟩ | ⟨d1, d2, d3, e, -⟩ | ⟨d1, d2, d3, e, -⟩⟩
    · have e1 : (r != 0) = false := ine_f c0
      clear c0
      go_enter Tryd.func13, Tryd.ntmps13
      go_wp2
      go_ret2
      exact ⟨ret_2 (by rw [HF.out]) (by rw [HF.out]), Qt.refl _⟩
    · have e1 : (r != 0) = true := ine_t c0
      have k1 : decide (a < 0) = true := by simp; omega
      have k2 : decide (b < 0) = true := by simp; omega
      go_enter Tryd.func13, Tryd.ntmps13
      go_wp2
      go_ret2
      exact ⟨ret_2 (by rw [HF.out]) (by rw [HF.out]), Qt.refl _⟩
    · have e1 : (r != 0) = true := ine_t c0
      have k1 : decide (a < 0) = false := by simp; omega
      have k2 : decide (b < 0) = false := by simp; omega
      go_enter Tryd.func13, Tryd.ntmps13
      go_wp2
      go_ret2
      exact ⟨ret_2 (by rw [HF.out]) (by rw [HF.out]), Qt.refl _⟩
    · have e1 : (r != 0) = true := ine_t c0
      have k1 : decide (a < 0) = true := by simp; omega
      have k2 : decide (b < 0) = false := by simp; omega
      have hq1 : -9223372036854775808 ≤ q - 1 := by omega
      have E := Lib.hid e
      clear e
      go_enter Tryd.func13, Tryd.ntmps13
      go_wp2
      go_ret2
      exact ⟨ret_2 (by rw [HF.out, E.out]) (by rw [HF.out]), Qt.refl _⟩
    · have e1 : (r != 0) = true := ine_t c0
      have k1 : decide (a < 0) = false := by simp; omega
      have k2 : decide (b < 0) = true := by simp; omega
      have hq1 : -9223372036854775808 ≤ q - 1 := by omega
      have E := Lib.hid e
      clear e
      go_enter Tryd.func13, Tryd.ntmps13
      go_wp2
      go_ret2
      exact ⟨ret_2 (by rw [HF.out, E.out]) (by rw [HF.out]), Qt.refl _⟩

set_option maxHeartbeats 1000000 in
theorem ceil_any (a b : Int) (w : World) (h0 : -9223372036854775808 ≤ a) (h1 : a ≤ 9223372036854775807) (hb0 : -9223372036854775808 ≤ b) (hb1 : b ≤ 9223372036854775807) :
    Calls Tryd.prog 14 #[.int .i64 a, .int .i64 b] w (QRet (ceilF a b).1 (ceilF a b).2 w) := by
  by_cases hb : b = 0
  · subst hb
    go_enter Tryd.func14, Tryd.ntmps14
    go_wp2_with (go_at_call 30; refine (div_zero _ _).mono ?_; rintro e w' ⟨rfl, rfl⟩)
    go_ret2
    exact ⟨rfl, Qt.refl _⟩
  by_cases hn : Bad a b
  · obtain ⟨rfl, rfl⟩ := hn
    go_enter Tryd.func14, Tryd.ntmps14
    go_wp2_with (go_at_call 30; refine (div_bad _).mono ?_; rintro e w' ⟨rfl, rfl⟩)
    go_ret2
    exact ⟨rfl, Qt.refl _⟩
  have HF0 : ceilF a b = (if lft a b = 0 then fl a b else fl a b + 1, 0) := by unfold ceilF; rw [if_neg hb, if_neg (show ¬ (a = -9223372036854775808 ∧ b = -1) from hn)]
  have hd0 := fun w => div_any a b w h0 h1 hb hn
  obtain ⟨q, r, f, m, hq, hr, hf, hm, ⟨t1, t2, t3, t4⟩, hc, -, -⟩ := q_pack h0 h1 hb hn
  rw [hf, hm] at HF0
  rw [hq, hr] at hd0
  have hd := Lib.hid hd0
  clear hd0 hq hr hf hm
  rcases hc with ⟨c0, rfl, c2⟩ | ⟨c0, c1, c2, ⟨d1, d2, d3, rfl, -⟩ | ⟨d1, d2, d3, rfl, -⟩ | ⟨d1, d2, d3, e, -⟩ | ⟨d1, d2, d3, e, -⟩⟩
  · have e1 : (r != 0) = false := ine_f c0
    rw [if_pos c2] at HF0
    have HF := Lib.hid HF0
    clear c0 HF0
    go_enter Tryd.func14, Tryd.ntmps14
    go_wp2_with (go_at_call 30; refine (hd.out _).mono ?_; rintro e w' ⟨rfl, hq⟩)
    go_ret2
    exact ⟨ret_2 (by rw [HF.out]) (by rw [HF.out]), hq⟩
  · have e1 : (r != 0) = true := ine_t c0
    have k1 : decide (r < 0) = true := by simp; omega
    have k2 : decide (b < 0) = true := by simp; omega
    rw [if_neg c1] at HF0
    have HF := Lib.hid HF0
    clear HF0
    go_enter Tryd.func14, Tryd.ntmps14
    go_wp2_with (go_at_call 30; refine (hd.out _).mono ?_; rintro e w' ⟨rfl, hq⟩)
    go_ret2
    exact ⟨ret_2 (by rw [HF.out]) (by rw [HF.out]), hq⟩
  · have e1 : (r != 0) = true := ine_t c0
    have k1 : decide (r < 0) = false := by simp; omega
    have k2 : decide (b < 0) = false := by simp; omega
    rw [if_neg c1] at HF0
    have HF := Lib.hid HF0
    clear HF0
    go_enter Tryd.func14, Tryd.ntmps14
    go_wp2_with (go_at_call 30; refine (hd.out _).mono ?_; rintro e w' ⟨rfl, hq⟩)
    go_ret2
    exact ⟨ret_2 (by rw [HF.out]) (by rw [HF.out]), hq⟩
  · have e1 : (r != 0) = true := ine_t c0
    have k1 : decide (r < 0) = true := by simp; omega
    have k2 : decide (b < 0) = false := by simp; omega
    rw [if_neg c1] at HF0
    have HF := Lib.hid HF0
    clear HF0
    have E := Lib.hid e
    clear e
    go_enter Tryd.func14, Tryd.ntmps14
    go_wp2_with (go_at_call 30; refine (hd.out _).mono ?_; rintro e w' ⟨rfl, hq⟩)
    go_ret2
    exact ⟨ret_2 (by rw [HF.out]; have := E.out; omega) (by rw [HF.out]), hq⟩
  · have e1 : (r != 0) = true := ine_t c0
    have k1 : decide (r < 0) = false := by simp; omega
    have k2 : decide (b < 0) = true := by simp; omega
    rw [if_neg c1] at HF0
    have HF := Lib.hid HF0
    clear HF0
    have E := Lib.hid e
    clear e
    go_enter Tryd.func14, Tryd.ntmps14
    go_wp2_with (go_at_call 30; refine (hd.out _).mono ?_; rintro e w' ⟨rfl, hq⟩)
    go_ret2
    exact ⟨ret_2 (by rw [HF.out]; have := E.out; omega) (by rw [HF.out]), hq⟩
end Go.Proofs.YticohjhohbkmaaaDoor
