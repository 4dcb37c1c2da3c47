/- Chapter 01: MulDiv of the program, by walking its text. -/
import Derived.Test.YticohjhohbkmaaaDoorNumDiv
namespace Go.Proofs.YticohjhohbkmaaaDoor
open Go Go.RowKit

def mdF (a b c : Int) : Int × Int := if c = 0 then (0, 22) else if -9223372036854775808 ≤ fl (a * b) c ∧ fl (a * b) c ≤ 9223372036854775807 then (fl (a * b) c, 0) else (0, 21)
/-- the quotient of magnitudes, with its sign. -/
theorem md_sign {a b c : Int} {q r : Nat} (hc : c ≠ 0) (hq : q = a.natAbs * b.natAbs / c.natAbs) (hr : r = a.natAbs * b.natAbs % c.natAbs) :
    (((decide (a < 0) != decide (b < 0)) != decide (c < 0)) = false → fl (a * b) c = (q : Int)) ∧ (((decide (a < 0) != decide (b < 0)) != decide (c < 0)) = true → fl (a * b) c = -((q : Int) + (if r = 0 then 0 else 1))) := by
  have hd : 0 < c.natAbs := Int.natAbs_pos.2 hc
  have hm := Nat.div_add_mod (a.natAbs * b.natAbs) c.natAbs
  have hlt := Nat.mod_lt (a.natAbs * b.natAbs) hd
  rw [← hq, ← hr] at hm
  rw [← hr] at hlt
  have hab : ((a.natAbs * b.natAbs : Nat) : Int) = (a * b).natAbs := by rw [Int.natAbs_mul]
  have hpos : ((a < 0) ↔ (b < 0)) → 0 ≤ a * b := by
    intro h
    rcases Int.lt_or_le a 0 with h1 | h1
    · exact Int.mul_nonneg_of_nonpos_of_nonpos (Int.le_of_lt h1) (Int.le_of_lt (h.1 h1))
    · exact Int.mul_nonneg h1 (by omega)
  have hneg : ¬ ((a < 0) ↔ (b < 0)) → a * b ≤ 0 := by
    intro h
    rcases Int.lt_or_le a 0 with h1 | h1
    · exact Int.mul_nonpos_of_nonpos_of_nonneg (Int.le_of_lt h1) (by omega)
    · exact Int.mul_nonpos_of_nonneg_of_nonpos h1 (by omega)
  have hcm : ((c.natAbs * q : Nat) : Int) = (q : Int) * (c.natAbs : Int) := by rw [Int.natCast_mul, Int.mul_comm]
  generalize a.natAbs * b.natAbs = P at *
  generalize c.natAbs * q = z at *
  have hz : (q : Int) * c = if 0 < c then (z : Int) else -(z : Int) := by
    split
    · rename_i h; rw [hcm, show ((c.natAbs : Nat) : Int) = c by omega]
    · rename_i h; rw [hcm, show ((c.natAbs : Nat) : Int) = -c by omega, Int.mul_neg]; omega
  generalize a * b = e at *
  constructor
  · intro hs
    have h1 : ¬ (((a < 0) ↔ (b < 0)) ∧ c < 0) ∧ ¬ (¬ ((a < 0) ↔ (b < 0)) ∧ ¬ c < 0) := by
      by_cases h1 : a < 0 <;> by_cases h2 : b < 0 <;> by_cases h3 : c < 0 <;> simp [h1, h2, h3] at hs ⊢
    have h2 := Int.lt_or_gt_of_ne hc
    symm
    rcases h2 with h2 | h2
    · rw [if_neg (by omega)] at hz
      have h3 : e ≤ 0 := hneg (fun h => h1.1 ⟨h, h2⟩)
      exact (fl_uniq (m := -(r : Int)) hc (by omega) (by omega) (by omega)).1
    · rw [if_pos h2] at hz
      have h3 : 0 ≤ e := hpos (Classical.byContradiction fun h => h1.2 ⟨h, by omega⟩)
      exact (fl_uniq (m := (r : Int)) hc (by omega) (by omega) (by omega)).1
  · intro hs
    have h1 : ¬ (((a < 0) ↔ (b < 0)) ∧ ¬ c < 0) ∧ ¬ (¬ ((a < 0) ↔ (b < 0)) ∧ c < 0) := by
      by_cases h1 : a < 0 <;> by_cases h2 : b < 0 <;> by_cases h3 : c < 0 <;> simp [h1, h2, h3] at hs ⊢
    have h2 := Int.lt_or_gt_of_ne hc
    symm
    rcases h2 with h2 | h2
    · rw [if_neg (by omega)] at hz
      have h3 : 0 ≤ e := hpos (Classical.byContradiction fun h => h1.2 ⟨h, h2⟩)
      by_cases hr0 : r = 0
      · rw [if_pos hr0]
        exact (fl_uniq (m := 0) hc (by simp only [Int.add_zero, Int.neg_mul]; omega) (by omega) (by omega)).1
      · rw [if_neg hr0]
        exact (fl_uniq (m := (r : Int) + c) hc (by rw [Int.neg_mul, Int.add_mul]; omega) (by omega) (by omega)).1
    · rw [if_pos h2] at hz
      have h3 : e ≤ 0 := hneg (fun h => h1.1 ⟨h, by omega⟩)
      by_cases hr0 : r = 0
      · rw [if_pos hr0]
        exact (fl_uniq (m := 0) hc (by simp only [Int.add_zero, Int.neg_mul]; omega) (by omega) (by omega)).1
      · rw [if_neg hr0]
        exact (fl_uniq (m := c - (r : Int)) hc (by rw [Int.neg_mul, Int.add_mul]; omega) (by omega) (by omega)).1
theorem div_any64 (h l y : Nat) (w : World) (hh : h < y) (hl : l < 18446744073709551616) (hy : y < 18446744073709551616) : Calls Tryd.prog 33 #[.int .u64 h, .int .u64 l, .int .u64 y] w (DivRes h l y w) := by
  rcases Nat.eq_zero_or_pos h with h0 | h0
  · subst h0; exact div_small l y w hl hy (by omega)
  · exact div_big h l y w h0 hh hl hy
theorem neg_back {q : Nat} (h : q ≤ 9223372036854775808) : IntKind.i64.wrap (IntKind.u64.wrap (-(q : Int))) = -(q : Int) := by
  rw [IntKind.wrap_i64, IntKind.wrap_u64]; omega
theorem neg_back' {q : Nat} (h : q ≤ 9223372036854775808) : wrap64 (IntKind.u64.wrap (-(q : Int))) = -(q : Int) := by
  rw [IntKind.wrap_u64]; unfold wrap64; omega
set_option maxRecDepth 100000 in
set_option maxHeartbeats 4000000 in
theorem mulDiv_any (a b c : Int) (w : World) (ha0 : -9223372036854775808 ≤ a) (ha1 : a ≤ 9223372036854775807) (hb0 : -9223372036854775808 ≤ b) (hb1 : b ≤ 9223372036854775807) (hc0 : -9223372036854775808 ≤ c) (hc1 : c ≤ 9223372036854775807) :
    Calls Tryd.prog 19 #[.int .i64 a, .int .i64 b, .int .i64 c] w (QRet (mdF a b c).1 (mdF a b c).2 w) := by
  by_cases hc : c = 0
  · subst hc
    have HF : Hid (mdF a b 0 = (0, 22)) := rfl
    go_enter Tryd.func19, Tryd.ntmps19
    go_wp2_with fail
    go_ret2
    exact ⟨ret_2 (by rw [HF.out]) (by rw [HF.out]), Qt.refl _⟩
  have ec : (c == 0) = false := ieq_f hc
  obtain ⟨q, hq⟩ : ∃ q, q = a.natAbs * b.natAbs / c.natAbs := ⟨_, rfl⟩
  obtain ⟨r, hr⟩ : ∃ r, r = a.natAbs * b.natAbs % c.natAbs := ⟨_, rfl⟩
  have hsg := md_sign hc hq hr
  have HF : Hid (mdF a b c = if -9223372036854775808 ≤ fl (a * b) c ∧ fl (a * b) c ≤ 9223372036854775807 then (fl (a * b) c, 0) else (0, 21)) := by show _ = _; unfold mdF; rw [if_neg hc]
  have M1 := Lib.hid (fun w => mag_any a w ha0 ha1)
  have M2 := Lib.hid (fun w => mag_any b w hb0 hb1)
  have M3 := Lib.hid (fun w => mag_any c w hc0 hc1)
  have hx : a.natAbs < 18446744073709551616 := by omega
  have hy : b.natAbs < 18446744073709551616 := by omega
  have hz : c.natAbs < 18446744073709551616 := by omega
  have hzp : 0 < c.natAbs := Int.natAbs_pos.2 hc
  obtain ⟨sa, hsa⟩ : ∃ sa, decide (a < 0) = sa := ⟨_, rfl⟩
  obtain ⟨sb, hsb⟩ : ∃ sb, decide (b < 0) = sb := ⟨_, rfl⟩
  obtain ⟨sc, hsc⟩ : ∃ sc, decide (c < 0) = sc := ⟨_, rfl⟩
  rw [hsa, hsb, hsc] at hsg
  obtain ⟨ng, hng⟩ : ∃ ng, ((sa != sb) != sc) = ng := ⟨_, rfl⟩
  rw [hng] at hsg
  generalize fl (a * b) c = f at *
  have C1 := Lib.hid (fun w => Tryd.bits_Mul64 a.natAbs b.natAbs hx hy w)
  generalize a.natAbs = x at *
  generalize b.natAbs = y at *
  generalize c.natAbs = d at *
  generalize x * y = P at *
  clear hx hy
  have hP : P / 18446744073709551616 * 18446744073709551616 + P % 18446744073709551616 = P := by omega
  have hlo : P % 18446744073709551616 < 18446744073709551616 := Nat.mod_lt _ (by omega)
  have C2 : Hid (P / 18446744073709551616 < d → ∀ w, Calls Tryd.prog 33 #[.int .u64 ((P / 18446744073709551616 : Nat) : Int), .int .u64 ((P % 18446744073709551616 : Nat) : Int), .int .u64 (d : Int)] w fun e w' => e = .returned (.tuple #[.int .u64 q, .int .u64 r]) ∧ Qt w w') := fun h w => by
    have := div_any64 (P / 18446744073709551616) (P % 18446744073709551616) d w h hlo hz
    unfold DivRes at this
    rw [hP, ← hq, ← hr] at this
    exact this
  have hbigq : ¬ P / 18446744073709551616 < d → 18446744073709551616 ≤ q := fun h => by
    rw [hq, Nat.le_div_iff_mul_le hzp]
    have h2 := Nat.mul_le_mul_left 18446744073709551616 (Nat.not_lt.1 h)
    omega
  have hqs : P / 18446744073709551616 < d → q < 18446744073709551616 := fun h => by
    rw [hq, Nat.div_lt_iff_lt_mul hzp]
    have h2 := Nat.mul_le_mul_left 18446744073709551616 (show P / 18446744073709551616 + 1 ≤ d from h)
    omega
  have hrd : r < d := by rw [hr]; exact Nat.mod_lt _ hzp
  generalize P / 18446744073709551616 = hi at *
  generalize P % 18446744073709551616 = lo at *
  clear hP hlo hq hr
  go_enter Tryd.func19, Tryd.ntmps19
  go_wp2_with fail
  refine (M1.out _).mono ?_
  rintro e w1 ⟨rfl, rfl⟩
  go_wp2_with fail
  refine (M2.out _).mono ?_
  rintro e w1 ⟨rfl, rfl⟩
  go_wp2_with fail
  refine (C1.out _).mono ?_
  rintro e w1 ⟨rfl, rfl⟩
  go_wp2_with fail
  refine (M3.out _).mono ?_
  rintro e w1 ⟨rfl, rfl⟩
  by_cases hlt : hi < d
  · have hlt' : ¬ (d : Int) ≤ (hi : Int) := by omega
    have hq64 := hqs hlt
    have HC := Lib.hid (C2.out hlt)
    have hrn : r < 18446744073709551616 := by omega
    clear hbigq hqs hlt C2
    go_wp2_with fail
    refine (M3.out _).mono ?_
    rintro e w1 ⟨rfl, rfl⟩
    go_wp2_with fail
    refine (HC.out _).mono ?_
    rintro e w2 ⟨rfl, hqt⟩
    obtain ⟨hs1, hs2⟩ := hsg
    have hng2 : ((!(sa == sb)) == sc) = !ng := by revert hng; cases sa <;> cases sb <;> cases sc <;> cases ng <;> simp
    clear hng
    cases ng
    · have hf := hs1 rfl
      rw [Bool.not_false] at hng2
      clear hs1 hs2
      by_cases hbig : 9223372036854775807 < q
      · have HR : Hid (mdF a b c = (0, 21)) := by show _ = _; rw [HF.out, if_neg (by omega)]
        have hb' : (9223372036854775807 : Int) < (q : Int) := by omega
        clear hbig hf
        go_wp2
        go_ret2
        exact ⟨ret_2 (by rw [HR.out]) (by rw [HR.out]), hqt⟩
      · have HR : Hid (mdF a b c = ((q : Int), 0)) := by show _ = _; rw [HF.out, hf, if_pos (by omega)]
        have hb' : ¬ (9223372036854775807 : Int) < (q : Int) := by omega
        have hb2 : (q : Int) ≤ 9223372036854775807 := by omega
        clear hbig hf
        go_wp2
        go_ret2
        exact ⟨ret_2 (by rw [HR.out]) (by rw [HR.out]), hqt⟩
    · have hf := hs2 rfl
      rw [Bool.not_true] at hng2
      clear hs1 hs2
      by_cases hbig : 9223372036854775808 < q
      · have HR : Hid (mdF a b c = (0, 21)) := by
          show _ = _; rw [HF.out, if_neg (by split at hf <;> omega)]
        have hb' : (9223372036854775808 : Int) < (q : Int) := by omega
        clear hbig hf
        go_wp2
        go_ret2
        exact ⟨ret_2 (by rw [HR.out]) (by rw [HR.out]), hqt⟩
      by_cases hr0 : r = 0
      · have HR : Hid (mdF a b c = (-(q : Int), 0)) := by
          rw [if_pos hr0] at hf
          show _ = _; rw [HF.out, hf, if_pos (by omega)]
          congr 1
        have hb' : ¬ (9223372036854775808 : Int) < (q : Int) := by omega
        have hr' : ¬ (0 : Int) < (r : Int) := by omega
        have n1 := neg_back (q := q) (by omega)
        have n2 := neg_back' (q := q) (by omega)
        have d0 : decide (0 < r) = false := decide_eq_false (by omega)
        clear hf
        rcases Classical.em (q = 9223372036854775808) with he | he
        · have e1 : ((q : Int) == 9223372036854775808) = true := ieq_t (by omega)
          clear hbig hr0 he
          go_wp2
          go_ret2
          exact ⟨ret_2 (by rw [HR.out]) (by rw [HR.out]), hqt⟩
        · have e1 : ((q : Int) == 9223372036854775808) = false := ieq_f (by omega)
          clear hbig hr0 he
          go_wp2
          go_ret2
          exact ⟨ret_2 (by rw [HR.out]) (by rw [HR.out]), hqt⟩
      · rw [if_neg hr0] at hf
        have hr' : (0 : Int) < (r : Int) := by omega
        have d0 : decide (0 < r) = true := decide_eq_true (by omega)
        by_cases he : q = 9223372036854775808
        · have HR : Hid (mdF a b c = (0, 21)) := by show _ = _; rw [HF.out, if_neg (by omega)]
          have hb' : ¬ (9223372036854775808 : Int) < (q : Int) := by omega
          have e1 : ((q : Int) == 9223372036854775808) = true := ieq_t (by omega)
          clear hbig hr0 he hf
          go_wp2
          go_ret2
          exact ⟨ret_2 (by rw [HR.out]) (by rw [HR.out]), hqt⟩
        · have HR : Hid (mdF a b c = (-((q + 1 : Nat) : Int), 0)) := by
            show _ = _; rw [HF.out, hf, if_pos (by omega)]
            congr 1
          have hb' : ¬ (9223372036854775808 : Int) < (q : Int) := by omega
          have e1 : ((q : Int) == 9223372036854775808) = false := ieq_f (by omega)
          have n1 := neg_back (q := q + 1) (by omega)
          have n2 := neg_back' (q := q + 1) (by omega)
          have hqq : IntKind.u64.wrap ((q : Int) + 1) = ((q + 1 : Nat) : Int) := IntWalk.u64_in _ (by omega)
          have hqq' : (q : Int) + 1 = ((q + 1 : Nat) : Int) := by omega
          have hq1 : q + 1 ≤ 9223372036854775808 := by omega
          generalize q + 1 = z at *
          clear hbig hr0 he hf
          go_wp2
          go_ret2
          exact ⟨ret_2 (by rw [HR.out]) (by rw [HR.out]), hqt⟩
  · have hge : (d : Int) ≤ (hi : Int) := by omega
    have hq64 := hbigq hlt
    have HR : Hid (mdF a b c = (0, 21)) := by
      show _ = _
      rw [HF.out, if_neg]
      cases ng
      · have := hsg.1 rfl; omega
      · have := hsg.2 rfl
        split at this <;> omega
    clear hbigq hqs hlt C2 hsg hq64
    go_wp2
    go_ret2
    exact ⟨ret_2 (by rw [HR.out]) (by rw [HR.out]), Qt.refl _⟩
end Go.Proofs.YticohjhohbkmaaaDoor
