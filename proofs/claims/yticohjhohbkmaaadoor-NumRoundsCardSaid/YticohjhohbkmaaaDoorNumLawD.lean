/- Chapter 01: the law NumRounds, by walking its text. -/
import Derived.Test.YticohjhohbkmaaaDoorNumLawA
namespace Go.Proofs.YticohjhohbkmaaaDoor
open Go Go.RowKit Go.ChangeShapes

theorem lft_tmod {a b : Int} (hb : b ≠ 0) : lft a b = 0 ↔ a.tmod b = 0 := by
  obtain ⟨f1, f2⟩ := fl_of_t (a := a) hb
  obtain ⟨s1, s2, s3⟩ := t_sign a b hb
  by_cases hc : a.tmod b ≠ 0 ∧ ¬ ((a.tmod b < 0) ↔ (b < 0))
  · have := (f1 hc).2
    omega
  · have := (f2 hc).2
    omega
def RF (a b p q r : Int) : Prop := -2147483648 ≤ p ∧ p ≤ 2147483648 ∧ p ≤ r ∧ r ≤ p + 1 ∧ p ≤ q ∧ q ≤ r ∧ ((r = p ∧ a.tmod b = 0) ∨ (r = p + 1 ∧ a.tmod b ≠ 0)) ∧
  (0 < b → p * b ≤ a ∧ a ≤ r * b ∧ 2 * q * b ≤ 2 * a + b ∧ 2 * a - b < 2 * q * b ∧ a - b ≤ p * b ∧ r * b ≤ a + b) ∧
  (b < 0 → p * -b ≤ -a ∧ -a ≤ r * -b ∧ 2 * q * -b ≤ 2 * -a + -b ∧ 2 * -a - -b < 2 * q * -b ∧ -a - -b ≤ p * -b ∧ r * -b ≤ -a + -b)
theorem rf_one {a p m r q b : Int} (hb : 0 < b) (he : a = p * b + m) (h0 : 0 ≤ m) (h1 : m < b) (hr : r = if m = 0 then p else p + 1) (hq : q = if b ≤ 2 * m then p + 1 else p) (ha0 : -2147483648 ≤ a) (ha1 : a ≤ 2147483648) :
    -2147483648 ≤ p ∧ p ≤ 2147483648 ∧ p * b ≤ a ∧ a ≤ r * b ∧ 2 * q * b ≤ 2 * a + b ∧ 2 * a - b < 2 * q * b ∧ a - b ≤ p * b ∧ r * b ≤ a + b := by
  have e1 : (p + 1) * b = p * b + b := by rw [Int.add_mul, Int.one_mul]
  have e2 : 2 * q * b = 2 * (q * b) := Int.mul_assoc ..
  have l1 : p ≤ 2147483648 := by
    rcases Int.lt_or_le 2147483648 p with h | h
    · have := Int.mul_le_mul_of_nonneg_right (show 2147483649 ≤ p by omega) (show 0 ≤ b by omega)
      omega
    · exact h
  have l2 : -2147483648 ≤ p := by
    rcases Int.lt_or_le p (-2147483648) with h | h
    · have := Int.mul_le_mul_of_nonneg_right (show p ≤ -2147483649 by omega) (show 0 ≤ b by omega)
      omega
    · exact h
  refine ⟨l2, l1, ?_⟩
  rw [e2]
  have hr' : (m = 0 ∧ r * b = p * b) ∨ (m ≠ 0 ∧ r * b = p * b + b) := by
    by_cases hm : m = 0
    · rw [if_pos hm] at hr; subst hr; exact .inl ⟨hm, rfl⟩
    · rw [if_neg hm] at hr; subst hr; exact .inr ⟨hm, e1⟩
  have hq' : (b ≤ 2 * m ∧ q * b = p * b + b) ∨ (2 * m < b ∧ q * b = p * b) := by
    by_cases hm : b ≤ 2 * m
    · rw [if_pos hm] at hq; subst hq; exact .inl ⟨hm, e1⟩
    · rw [if_neg hm] at hq; subst hq; exact .inr ⟨by omega, rfl⟩
  omega
theorem rf_all {a b : Int} (hb : b ≠ 0) (ha0 : -2147483648 ≤ a) (ha1 : a ≤ 2147483648) :
    RF a b (fl a b) (if b.natAbs ≤ 2 * (lft a b).natAbs then fl a b + 1 else fl a b) (if lft a b = 0 then fl a b else fl a b + 1) := by
  have ht := lft_tmod (a := a) hb
  obtain ⟨l1, l2⟩ := fl_left (a := a) hb
  have he := fl_eq a b
  generalize lft a b = m at *
  generalize fl a b = p at *
  have hmid : p ≤ (if m = 0 then p else p + 1) ∧ (if m = 0 then p else p + 1) ≤ p + 1 ∧ p ≤ (if b.natAbs ≤ 2 * m.natAbs then p + 1 else p) ∧ (if b.natAbs ≤ 2 * m.natAbs then p + 1 else p) ≤ (if m = 0 then p else p + 1) ∧ (((if m = 0 then p else p + 1) = p ∧ a.tmod b = 0) ∨ ((if m = 0 then p else p + 1) = p + 1 ∧ a.tmod b ≠ 0)) := by
    by_cases hm : m = 0
    · have := ht.1 hm
      rw [if_pos hm, if_neg (show ¬ b.natAbs ≤ 2 * m.natAbs by omega)]
      exact ⟨by omega, by omega, by omega, by omega, .inl ⟨rfl, this⟩⟩
    · have : a.tmod b ≠ 0 := fun h => hm (ht.2 h)
      rw [if_neg hm]
      refine ⟨by omega, by omega, ?_, ?_, .inr ⟨rfl, this⟩⟩ <;> split <;> omega
  obtain ⟨m1, m2, m3, m4, m5⟩ := hmid
  rcases Int.lt_or_gt_of_ne hb with h | h
  · have l := l2 h
    obtain ⟨f1, f2, f3⟩ := rf_one (a := -a) (p := p) (m := -m) (b := -b) (r := if m = 0 then p else p + 1) (q := if b.natAbs ≤ 2 * m.natAbs then p + 1 else p) (by omega) (by rw [Int.mul_neg]; omega) (by omega) (by omega)
      (by by_cases hm : m = 0
          · rw [if_pos hm, if_pos (by omega)]
          · rw [if_neg hm, if_neg (by omega)])
      (by by_cases hm : b.natAbs ≤ 2 * m.natAbs
          · rw [if_pos hm, if_pos (by omega)]
          · rw [if_neg hm, if_neg (by omega)]) (by omega) (by omega)
    exact ⟨f1, f2, m1, m2, m3, m4, m5, fun h' => by omega, fun _ => f3⟩
  · have l := l1 h
    obtain ⟨f1, f2, f3⟩ := rf_one (a := a) (p := p) (m := m) (b := b) (r := if m = 0 then p else p + 1) (q := if b.natAbs ≤ 2 * m.natAbs then p + 1 else p) h he (by omega) (by omega) rfl
      (by by_cases hm : b.natAbs ≤ 2 * m.natAbs
          · rw [if_pos hm, if_pos (by omega)]
          · rw [if_neg hm, if_neg (by omega)]) ha0 ha1
    exact ⟨f1, f2, m1, m2, m3, m4, m5, fun _ => f3, fun h' => by omega⟩
theorem rounds_out {a b : Int} (h : ¬ (-2147483648 ≤ a ∧ a ≤ 2147483648 ∧ -2147483648 ≤ b ∧ b ≤ 2147483648 ∧ b ≠ 0)) :
    (a < -2147483648) ∨ (-2147483648 ≤ a ∧ 2147483648 < a) ∨ (-2147483648 ≤ a ∧ a ≤ 2147483648 ∧ b < -2147483648) ∨ (-2147483648 ≤ a ∧ a ≤ 2147483648 ∧ -2147483648 ≤ b ∧ 2147483648 < b) ∨ (-2147483648 ≤ a ∧ a ≤ 2147483648 ∧ b = 0) := by omega
set_option maxRecDepth 100000 in
set_option maxHeartbeats 4000000 in
theorem rounds_law (a b a' b' : Int) (w : World) (hT : TabP w) (ha : Rep.int.R w (Lt w) a' (Value.int .i64 a).cells.toList) (_ : True) (hb : Rep.int.R w (Lt w) b' (Value.int .i64 b).cells.toList) (_ : True) :
    Calls Tryd.prog 10 #[.int .i64 a, .int .i64 b] w (Ret (.bool true) w) := by
  obtain ⟨rfl, a0, a1⟩ := i64_inv ha
  obtain ⟨rfl, b0, b1⟩ := i64_inv hb
  clear ha hb
  have HT := Lib.hid hT
  clear hT
  by_cases hin : -2147483648 ≤ a ∧ a ≤ 2147483648 ∧ -2147483648 ≤ b ∧ b ≤ 2147483648 ∧ b ≠ 0
  · obtain ⟨a2, a3, b2, b3, hb0⟩ := hin
    have c1 := Lib.hid (fun w => floor_any a b w a0 a1 b0 b1)
    have c3 := Lib.hid (fun w => ceil_any a b w a0 a1 b0 b1)
    have c5 := Lib.hid (fun w => round_any a b w a0 a1 b0 b1)
    have hbad : ¬ (a = -9223372036854775808 ∧ b = -1) := by omega
    rw [show floorF a b = (fl a b, 0) from by unfold floorF; rw [if_neg hb0, if_neg hbad]] at c1
    rw [show ceilF a b = (if lft a b = 0 then fl a b else fl a b + 1, 0) from by unfold ceilF; rw [if_neg hb0, if_neg hbad]] at c3
    rw [show roundF a b = (if b.natAbs ≤ 2 * (lft a b).natAbs then fl a b + 1 else fl a b, 0) from by unfold roundF; rw [if_neg hb0, if_neg hbad]] at c5
    have hf := rf_all hb0 a2 a3
    clear hbad
    generalize fl a b = p at *
    generalize (if lft a b = 0 then p else p + 1) = r at *
    generalize (if b.natAbs ≤ 2 * (lft a b).natAbs then p + 1 else p) = q at *
    obtain ⟨p0, p1, r0, r1, q0, q1, hm, hpos, hneg⟩ := hf
    have hbz : (b == 0) = false := ieq_f hb0
    rcases Int.lt_or_gt_of_ne hb0 with h | h
    · obtain ⟨f1, f2, f3, f4, f5, f6⟩ := hneg h
      clear hpos hneg
      rcases hm with ⟨hr, ht⟩ | ⟨hr, ht⟩
      all_goals
        first
          | have t1 : (a.tmod b == 0) = true := ieq_t ht
          | have t1 : (a.tmod b == 0) = false := ieq_f ht
        first
          | have t2 : (p == r) = true := ieq_t hr.symm
          | have t2 : (p == r) = false := ieq_f (by omega)
        clear hr ht hb0
        go_enter Tryd.func10, Tryd.ntmps10
        go_wp2_with fail
        refine (c1.out _).mono ?_
        rintro e w1 ⟨rfl, u1⟩
        go_wp2_with fail
        refine (c5.out _).mono ?_
        rintro e w2 ⟨rfl, hq⟩
        have u2 := u1.trans hq
        clear hq u1
        go_wp2_with fail
        refine (c3.out _).mono ?_
        rintro e w3 ⟨rfl, hq⟩
        have u3 := u2.trans hq
        clear hq u2
        have b6 := u3.below w.heap.size
        have HT6 := Lib.hid (HT.out.qt u3)
        clear u3
        go_wp2_with fail
        refine (alive_any _ HT6.out).mono ?_
        rintro e w7 ⟨rfl, hb⟩
        go_wp2_with fail
        go_ret
        exact ⟨rfl, bstep b6 b6.size hb⟩
    · obtain ⟨f1, f2, f3, f4, f5, f6⟩ := hpos h
      clear hpos hneg
      rcases hm with ⟨hr, ht⟩ | ⟨hr, ht⟩
      all_goals
        first
          | have t1 : (a.tmod b == 0) = true := ieq_t ht
          | have t1 : (a.tmod b == 0) = false := ieq_f ht
        first
          | have t2 : (p == r) = true := ieq_t hr.symm
          | have t2 : (p == r) = false := ieq_f (by omega)
        clear hr ht hb0
        go_enter Tryd.func10, Tryd.ntmps10
        go_wp2_with fail
        refine (c1.out _).mono ?_
        rintro e w1 ⟨rfl, u1⟩
        go_wp2_with fail
        refine (c5.out _).mono ?_
        rintro e w2 ⟨rfl, hq⟩
        have u2 := u1.trans hq
        clear hq u1
        go_wp2_with fail
        refine (c3.out _).mono ?_
        rintro e w3 ⟨rfl, hq⟩
        have u3 := u2.trans hq
        clear hq u2
        have b6 := u3.below w.heap.size
        have HT6 := Lib.hid (HT.out.qt u3)
        clear u3
        go_wp2_with fail
        refine (alive_any _ HT6.out).mono ?_
        rintro e w7 ⟨rfl, hb⟩
        go_wp2_with fail
        go_ret
        exact ⟨rfl, bstep b6 b6.size hb⟩
  · rcases rounds_out hin with h | ⟨h, h2⟩ | ⟨h, h2, h3⟩ | ⟨h, h2, h3, h4⟩ | ⟨h, h2, h3⟩
    all_goals
      clear hin
      try subst h3
      go_enter Tryd.func10, Tryd.ntmps10
      go_wp2_with fail
      refine (alive_any _ HT.out).mono ?_
      rintro e w4 ⟨rfl, hb⟩
      go_wp2_with fail
      go_ret
      exact ⟨rfl, hb⟩
end Go.Proofs.YticohjhohbkmaaaDoor
