/- Chapter 01: the law NumExact, by walking its text. -/
import Derived.Test.YticohjhohbkmaaaDoorNumLawA
namespace Go.Proofs.YticohjhohbkmaaaDoor
open Go Go.RowKit Go.ChangeShapes

theorem fl_mul (a c : Int) (hc : c ≠ 0) : fl (a * c) c = a := by
  have := fl_uniq (a := a * c) (b := c) (q := a) (m := 0) hc (by omega) (by omega) (by omega)
  exact this.1.symm
theorem fl_bd {a b N : Int} (hb : b ≠ 0) (h0 : -N ≤ a) (h1 : a ≤ N) : -N ≤ fl a b ∧ fl a b ≤ N := by
  have he := fl_eq a b
  obtain ⟨l1, l2⟩ := fl_left (a := a) hb
  generalize lft a b = m at *
  generalize fl a b = p at *
  rcases Int.lt_or_gt_of_ne hb with h | h
  · have l := l2 h
    constructor
    · rcases Int.lt_or_le p (-N) with hq | hq
      · have h3 := Int.mul_le_mul_of_nonneg_right (show p ≤ -N - 1 by omega) (show 0 ≤ -b by omega)
        have h4 := Int.mul_le_mul_of_nonneg_left (show 1 ≤ -b by omega) (show 0 ≤ N by omega)
        rw [Int.mul_neg p b, show (-N - 1) * -b = -(N * -b) + b by rw [Int.sub_mul, Int.neg_mul]; omega] at h3
        omega
      · exact hq
    · rcases Int.lt_or_le N p with hq | hq
      · have h3 := Int.mul_le_mul_of_nonneg_right (show N + 1 ≤ p by omega) (show 0 ≤ -b by omega)
        have h4 := Int.mul_le_mul_of_nonneg_left (show 1 ≤ -b by omega) (show 0 ≤ N by omega)
        rw [Int.mul_neg p b, show (N + 1) * -b = N * -b + -b by rw [Int.add_mul]; omega] at h3
        omega
      · exact hq
  · have l := l1 h
    constructor
    · rcases Int.lt_or_le p (-N) with hq | hq
      · have h3 := Int.mul_le_mul_of_nonneg_right (show p ≤ -N - 1 by omega) (show 0 ≤ b by omega)
        have h4 := Int.mul_le_mul_of_nonneg_left (show 1 ≤ b by omega) (show 0 ≤ N by omega)
        rw [show (-N - 1) * b = -(N * b) - b by rw [Int.sub_mul, Int.neg_mul]; omega] at h3
        omega
      · exact hq
    · rcases Int.lt_or_le N p with hq | hq
      · have h3 := Int.mul_le_mul_of_nonneg_right (show N + 1 ≤ p by omega) (show 0 ≤ b by omega)
        have h4 := Int.mul_le_mul_of_nonneg_left (show 1 ≤ b by omega) (show 0 ≤ N by omega)
        rw [show (N + 1) * b = N * b + b by rw [Int.add_mul]; omega] at h3
        omega
      · exact hq
theorem mul_in {a b : Int} (a0 : -2147483648 ≤ a) (a1 : a ≤ 2147483648) (b0 : -2147483648 ≤ b) (b1 : b ≤ 2147483648) : -4611686018427387904 ≤ a * b ∧ a * b ≤ 4611686018427387904 := by
  have h : (a * b).natAbs ≤ 2147483648 * 2147483648 := by
    rw [Int.natAbs_mul]
    exact Nat.mul_le_mul (by omega) (by omega)
  omega
theorem mdF_eq {a b c : Int} (hc : c ≠ 0) (h : -9223372036854775808 ≤ fl (a * b) c ∧ fl (a * b) c ≤ 9223372036854775807) : mdF a b c = (fl (a * b) c, 0) := by
  unfold mdF; rw [if_neg hc, if_pos h]
theorem mdF_one {a c : Int} (a0 : -9223372036854775808 ≤ a) (a1 : a ≤ 9223372036854775807) (hc : c ≠ 0) : mdF a 1 c = floorF a c := by
  unfold floorF
  rw [if_neg hc]
  by_cases hb : a = -9223372036854775808 ∧ c = -1
  · obtain ⟨rfl, rfl⟩ := hb
    rfl
  · rw [if_neg hb]
    have := mdF_eq (a := a) (b := 1) (c := c) hc (by rw [Int.mul_one]; exact fl_in1 a0 a1 hc hb)
    rw [this, Int.mul_one]
theorem exact_out {a b : Int} (h : ¬ (-2147483648 ≤ a ∧ a ≤ 2147483648 ∧ -2147483648 ≤ b ∧ b ≤ 2147483648)) :
    (a < -2147483648) ∨ (-2147483648 ≤ a ∧ 2147483648 < a) ∨ (-2147483648 ≤ a ∧ a ≤ 2147483648 ∧ b < -2147483648) ∨ (-2147483648 ≤ a ∧ a ≤ 2147483648 ∧ -2147483648 ≤ b ∧ 2147483648 < b) := by omega
set_option maxRecDepth 100000 in
set_option maxHeartbeats 4000000 in
theorem exact_law (a b c a' b' c' : Int) (w : World) (hT : TabP w) (ha : Rep.int.R w (Lt w) a' (Value.int .i64 a).cells.toList) (_ : True) (hb : Rep.int.R w (Lt w) b' (Value.int .i64 b).cells.toList) (_ : True) (hd : Rep.int.R w (Lt w) c' (Value.int .i64 c).cells.toList) (_ : True) :
    Calls Tryd.prog 11 #[.int .i64 a, .int .i64 b, .int .i64 c] w (Ret (.bool true) w) := by
  obtain ⟨rfl, a0, a1⟩ := i64_inv ha
  obtain ⟨rfl, b0, b1⟩ := i64_inv hb
  obtain ⟨rfl, c0, c1⟩ := i64_inv hd
  clear ha hb hd
  have HT := Lib.hid hT
  clear hT
  by_cases hc : c = 0
  · subst hc
    have C1 := Lib.hid (fun w => mulDiv_any a b 0 w a0 a1 b0 b1 c0 c1)
    rw [show mdF a b 0 = (0, 22) from rfl] at C1
    go_enter Tryd.func11, Tryd.ntmps11
    go_wp2_with fail
    refine (C1.out _).mono ?_
    rintro e w1 ⟨rfl, u1⟩
    have b6 := u1.below w.heap.size
    have HT6 := Lib.hid (HT.out.qt u1)
    clear u1
    go_wp2_with fail
    refine (alive_any _ HT6.out).mono ?_
    rintro e w7 ⟨rfl, hb⟩
    go_wp2_with fail
    go_ret
    exact ⟨rfl, bstep b6 b6.size hb⟩
  have C1 := Lib.hid (fun w => mulDiv_any a c c w a0 a1 c0 c1 c0 c1)
  have C2 := Lib.hid (fun w => mulDiv_any a 1 c w a0 a1 (by omega) (by omega) c0 c1)
  have C3 := Lib.hid (fun w => floor_any a c w a0 a1 c0 c1)
  have C4 := Lib.hid (fun w => mulDiv_any a b c w a0 a1 b0 b1 c0 c1)
  rw [mdF_eq hc (by rw [fl_mul a c hc]; exact ⟨a0, a1⟩), fl_mul a c hc] at C1
  rw [mdF_one a0 a1 hc] at C2
  generalize floorF a c = x at *
  obtain ⟨x1, x2⟩ := x
  have s1 := beq_self_int x1
  have s2 := beq_self_int x2
  have s3 := beq_self_int a
  have s4 : (x1 != x1) = false := ine_f rfl
  have s5 : (x2 != x2) = false := ine_f rfl
  have s6 : (a != a) = false := ine_f rfl
  have hc2 : (c == 0) = false := ieq_f hc
  by_cases hin : -2147483648 ≤ a ∧ a ≤ 2147483648 ∧ -2147483648 ≤ b ∧ b ≤ 2147483648
  · obtain ⟨a2, a3, b2, b3⟩ := hin
    have hz := mul_in a2 a3 b2 b3
    obtain ⟨g1, g2⟩ := fl_bd (a := a * b) (b := c) (N := 4611686018427387904) hc hz.1 hz.2
    rw [mdF_eq hc (by omega)] at C4
    have he := fl_eq (a * b) c
    obtain ⟨l1, l2⟩ := fl_left (a := a * b) hc
    have hlt := lft_lt (a := a * b) hc
    generalize lft (a * b) c = m at *
    generalize fl (a * b) c = s at *
    obtain ⟨z0, z1⟩ := hz
    have hw := wrap_left (a := a * b) (m := m) (z := s * c) (by omega) (by omega) (by omega)
    clear he
    have hcs : (m = 0) ∨ (m ≠ 0 ∧ 0 < c ∧ 0 < m ∧ m < c) ∨ (m ≠ 0 ∧ c < 0 ∧ m < 0 ∧ c < m) := by
      rcases Int.lt_or_gt_of_ne hc with h | h
      · have := l2 h; omega
      · have := l1 h; omega
    clear l1 l2 hlt
    rcases hcs with hm | ⟨hm, h1, h2, h3⟩ | ⟨hm, h1, h2, h3⟩
    all_goals
      first
        | have t1 : (m == 0) = true := ieq_t hm
        | have t1 : (m == 0) = false := ieq_f hm
      clear hm hc
      go_enter Tryd.func11, Tryd.ntmps11
      go_wp2_with fail
      refine (C1.out _).mono ?_
      rintro e w1 ⟨rfl, u1⟩
      go_wp2_with fail
      refine (C2.out _).mono ?_
      rintro e w2 ⟨rfl, hq⟩
      have u2 := u1.trans hq
      clear hq u1
      go_wp2_with fail
      refine (C3.out _).mono ?_
      rintro e w3 ⟨rfl, hq⟩
      have u3 := u2.trans hq
      clear hq u2
      go_wp2_with fail
      refine (C4.out _).mono ?_
      rintro e w4 ⟨rfl, hq⟩
      have u4 := u3.trans hq
      clear hq u3
      have b6 := u4.below w.heap.size
      have HT6 := Lib.hid (HT.out.qt u4)
      clear u4
      go_wp2_with fail
      refine (alive_any _ HT6.out).mono ?_
      rintro e w7 ⟨rfl, hb⟩
      go_wp2_with fail
      go_ret
      exact ⟨rfl, bstep b6 b6.size hb⟩
  · rcases exact_out hin with h | ⟨h, h2⟩ | ⟨h, h2, h3⟩ | ⟨h, h2, h3, h4⟩
    all_goals
      clear hin hc C4
      go_enter Tryd.func11, Tryd.ntmps11
      go_wp2_with fail
      refine (C1.out _).mono ?_
      rintro e w1 ⟨rfl, u1⟩
      go_wp2_with fail
      refine (C2.out _).mono ?_
      rintro e w2 ⟨rfl, hq⟩
      have u2 := u1.trans hq
      clear hq u1
      go_wp2_with fail
      refine (C3.out _).mono ?_
      rintro e w3 ⟨rfl, hq⟩
      have u3 := u2.trans hq
      clear hq u2
      have b6 := u3.below w.heap.size
      have HT6 := Lib.hid (HT.out.qt u3)
      clear u3
      go_wp2_with fail
      refine (alive_any _ HT6.out).mono ?_
      rintro e w7 ⟨rfl, hb⟩
      go_wp2_with fail
      go_ret
      exact ⟨rfl, bstep b6 b6.size hb⟩
end Go.Proofs.YticohjhohbkmaaaDoor
