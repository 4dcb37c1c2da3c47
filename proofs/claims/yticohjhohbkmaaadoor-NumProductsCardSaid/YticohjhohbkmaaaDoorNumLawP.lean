/- Chapter 01: MulDiv of the reference, and the law NumProducts, by walking their text. -/
import Derived.Test.YticohjhohbkmaaaDoorNumProd
import Derived.Test.YticohjhohbkmaaaDoorNumLawA
namespace Go.Proofs.YticohjhohbkmaaaDoor
open Go Go.RowKit Go.ChangeShapes

theorem MB.round {P d i rest hi lo q : Nat} {g : Bool} (h : MB P d i rest hi lo q g) (hd : d ≤ 9223372036854775808) :
    ∃ (r2 hb R h2 lb H l2 q2 : Nat) (gb : Bool), IntKind.u64.wrap ((rest : Int) * 2) = (r2 : Int) ∧ (hi : Int) / 9223372036854775808 = (hb : Int) ∧ bits .or .u64 (r2 : Int) (hb : Int) = (R : Int) ∧ IntKind.u64.wrap ((hi : Int) * 2) = (h2 : Int) ∧ (lo : Int) / 9223372036854775808 = (lb : Int) ∧
      bits .or .u64 (h2 : Int) (lb : Int) = (H : Int) ∧ IntKind.u64.wrap ((lo : Int) * 2) = (l2 : Int) ∧ decide ((9223372036854775808 : Int) ≤ (q : Int)) = gb ∧ IntKind.u64.wrap ((q : Int) * 2) = (q2 : Int) ∧
      Hid (d ≤ R → ∃ R1 q3 : Nat, IntKind.u64.wrap ((R : Int) - (d : Int)) = (R1 : Int) ∧ IntKind.u64.wrap ((q2 : Int) + 1) = (q3 : Int) ∧ MB P d (i + 1) R1 H l2 q3 (g || gb)) ∧ Hid (R < d → MB P d (i + 1) R H l2 q2 (g || gb)) := by
  have hs := MB.step h rfl rfl rfl rfl rfl
  obtain ⟨T, Q, A, t1, t2, t3, t4, t5, t6, t7⟩ := h
  clear t1 t2 t4
  have hq : q < 18446744073709551616 := by omega
  clear t3
  refine ⟨rest * 2, hi / 9223372036854775808, rest * 2 + hi / 9223372036854775808, hi * 2 % 18446744073709551616, lo / 9223372036854775808, hi * 2 % 18446744073709551616 + lo / 9223372036854775808, lo * 2 % 18446744073709551616, q * 2 % 18446744073709551616, decide (9223372036854775808 ≤ q), ?_, ?_, ?_, ?_, ?_, ?_, ?_, ?_, ?_, ?_, ?_⟩
  · rw [IntKind.wrap_u64]; omega
  · omega
  · have ho : rest * 2 ||| hi / 9223372036854775808 = rest * 2 + hi / 9223372036854775808 := or_add (b := rest) (s := 1) (show _ < 2 by omega) rfl
    rw [u64_or_nat _ _ (by omega) (by omega), ho]
  · rw [IntKind.wrap_u64]; omega
  · omega
  · have ho : hi * 2 % 18446744073709551616 ||| lo / 9223372036854775808 = hi * 2 % 18446744073709551616 + lo / 9223372036854775808 := or_add (b := hi * 2 % 18446744073709551616 / 2) (s := 1) (show _ < 2 by omega) (show _ = _ * 2 by omega)
    rw [u64_or_nat _ _ (by omega) (by omega), ho]
  · rw [IntKind.wrap_u64]; omega
  · exact decide_eq_decide.2 (by omega)
  · rw [IntKind.wrap_u64]; omega
  · intro hR
    exact ⟨_, _, by rw [IntKind.wrap_u64]; omega, by rw [IntKind.wrap_u64]; omega, hs.1 hR⟩
  · exact hs.2
theorem sgF_big {ng : Bool} {m : Nat} (h : 9223372036854775809 ≤ m) : sgF ng m = (0, 21) := by
  unfold sgF
  split
  · rw [if_neg (by omega)]
  · rw [if_neg (by omega)]
set_option maxRecDepth 100000 in
set_option maxHeartbeats 4000000 in
theorem refMulDiv_any (a b c : Int) (w : World) (ha0 : -9223372036854775808 ≤ a) (ha1 : a ≤ 9223372036854775807) (hb0 : -9223372036854775808 ≤ b) (hb1 : b ≤ 9223372036854775807) (hc0 : -9223372036854775808 ≤ c) (hc1 : c ≤ 9223372036854775807) :
    Calls Tryd.prog 20 #[.int .i64 a, .int .i64 b, .int .i64 c] w fun e w' => e = .returned (.tuple #[.int .i64 (mdF a b c).1, .int .i64 (mdF a b c).2]) ∧ w = w' := by
  by_cases hc : c = 0
  · subst hc
    have HF : Hid (mdF a b 0 = (0, 22)) := rfl
    go_enter Tryd.func20, Tryd.ntmps20
    go_wp2_with fail
    go_ret2
    exact ⟨ret_2 (by rw [HF.out]) (by rw [HF.out]), by first | exact rfl | exact True.intro⟩
  have ec : (c == 0) = false := ieq_f hc
  obtain ⟨ng, hng⟩ : ∃ ng, ((decide (a < 0) != decide (b < 0)) != decide (c < 0)) = ng := ⟨_, rfl⟩
  have HA := Lib.hid (md_answer hc rfl rfl ng hng)
  have M1 := Lib.hid (fun w => refMag_any a w ha0 ha1)
  have M2 := Lib.hid (fun w => refMag_any b w hb0 hb1)
  have M3 := Lib.hid (fun w => refMag_any c w hc0 hc1)
  have C1 := Lib.hid (fun w => product_any a.natAbs b.natAbs w (by omega) (by omega))
  obtain ⟨sa, hsa⟩ : ∃ sa, decide (a < 0) = sa := ⟨_, rfl⟩
  obtain ⟨sb, hsb⟩ : ∃ sb, decide (b < 0) = sb := ⟨_, rfl⟩
  obtain ⟨sc, hsc⟩ : ∃ sc, decide (c < 0) = sc := ⟨_, rfl⟩
  rw [hsa, hsb, hsc] at hng
  have hng2 : ((!(sa == sb)) == sc) = !ng := by revert hng; cases sa <;> cases sb <;> cases sc <;> cases ng <;> simp
  have hPb : a.natAbs * b.natAbs < 340282366920938463463374607431768211456 := by
    have := Nat.mul_le_mul (show a.natAbs ≤ 9223372036854775808 by omega) (show b.natAbs ≤ 9223372036854775808 by omega)
    omega
  have hd : 0 < c.natAbs := Int.natAbs_pos.2 hc
  have HD2 := Lib.hid (show c.natAbs ≤ 9223372036854775808 by omega)
  generalize a.natAbs * b.natAbs = P at *
  have HS : Hid (MB P c.natAbs 0 0 (P / 18446744073709551616) (P % 18446744073709551616) 0 false) := by
    rcases MB.start (P := P) hd with h | h
    · exact h
    · omega
  generalize a.natAbs = x at *
  generalize b.natAbs = y at *
  generalize c.natAbs = d at *
  have HD := Lib.hid hd
  clear hPb hd hng hc ha0 ha1 hb0 hb1 hc0 hc1
  generalize P / 18446744073709551616 = hi0 at *
  generalize P % 18446744073709551616 = lo0 at *
  go_enter Tryd.func20, Tryd.ntmps20
  go_wp2_with fail
  refine (M1.out _).mono ?_
  rintro e w1 ⟨rfl, rfl⟩
  go_wp2_with fail
  refine (M2.out _).mono ?_
  rintro e w1 ⟨rfl, rfl⟩
  go_wp2_with fail
  refine (C1.out _).mono ?_
  rintro e w1 ⟨rfl, rfl⟩
  go_wp2_with fail
  refine (M3.out _).mono ?_
  rintro e w1 ⟨rfl, rfl⟩
  clear M1 M2 M3 C1
  go_wp2_with fail
  go_loop [8, 9, 11, 12, 13, 14] (fun h l r q g i => ∃ (k hi lo rest q0 : Nat) (g0 : Bool), k ≤ 128 ∧ i = .int .i64 k ∧ h = .int .u64 hi ∧ l = .int .u64 lo ∧ r = .int .u64 rest ∧ q = .int .u64 q0 ∧ g = .bool g0 ∧ Hid (MB P d k rest hi lo q0 g0)) (fun _ _ _ _ _ i => 128 - (intOf i).toNat)
  case atStart => exact ⟨0, hi0, lo0, 0, 0, false, by omega, rfl, rfl, rfl, rfl, rfl, rfl, HS⟩
  case round =>
    obtain ⟨k, hi, lo, rest, q, g, hk, rfl, rfl, rfl, rfl, rfl, rfl, hM⟩ := hrel
    by_cases hlt : k < 128
    · obtain ⟨r2, hb, R, h2, lb, H, l2, q2, gb, e1, e2, e3, e4, e5, e6, e7, e8, e9, HY, HN⟩ := MB.round hM.out HD2.out
      clear hng2 hsa hsb hsc
      rcases Nat.lt_or_ge R d with hR | hR
      · have HM := Lib.hid (HN.out hR)
        have hR' : ¬ (d : Int) ≤ (R : Int) := by omega
        have hR2 : decide (d ≤ R) = false := decide_eq_false (by omega)
        clear HY HN hR hM
        cases g
        all_goals
          go_wp2_with fail
          go_round
          case rel => exact ⟨k + 1, H, l2, R, q2, _, by omega, by go_num, rfl, rfl, rfl, rfl, rfl, HM⟩
          case measure => simp [intOf] <;> omega
      · obtain ⟨R1, q3, f1, f2, hm⟩ := HY.out hR
        have HM := Lib.hid hm
        have hR' : (d : Int) ≤ (R : Int) := by omega
        have hR2 : decide (d ≤ R) = true := decide_eq_true (by omega)
        clear HY HN hR hM hm
        cases g
        all_goals
          go_wp2_with fail
          go_round
          case rel => exact ⟨k + 1, H, l2, R1, q3, _, by omega, by go_num, rfl, rfl, rfl, rfl, rfl, HM⟩
          case measure => simp [intOf] <;> omega
    · obtain rfl : k = 128 := by omega
      obtain ⟨hr, hq, hg⟩ := MB.done hM.out HD.out
      rw [← hr] at HA
      generalize P / d = Q at *
      clear hM hr
      cases ng
      · have HA' : Hid (mdF a b c = sgF false Q) := by show _ = _; rw [HA.out]; simp
        clear HA
        by_cases hb : 18446744073709551616 ≤ Q
        · have HR : Hid (mdF a b c = (0, 21)) := by show _ = _; rw [HA'.out]; exact sgF_big (by omega)
          rw [decide_eq_true hb] at hg
          subst hg
          clear hb hq
          go_wp2_with fail
          go_ret2
          exact ⟨ret_2 (by rw [HR.out]) (by rw [HR.out]), by first | exact rfl | exact True.intro⟩
        · rw [decide_eq_false hb] at hg
          obtain rfl : q = Q := by omega
          have HC := Lib.hid (fun w => signed_any false q w)
          subst hg
          clear hb hq
          go_wp2_with fail
          refine (HC.out _).mono ?_
          rintro e w1 ⟨rfl, rfl⟩
          go_wp2_with fail
          go_ret2
          exact ⟨ret_2 (by rw [HA'.out]) (by rw [HA'.out]), by first | exact rfl | exact True.intro⟩
      · by_cases hr0 : rest = 0
        · subst hr0
          have HA' : Hid (mdF a b c = sgF true Q) := by show _ = _; rw [HA.out]; simp
          clear HA
          by_cases hb : 18446744073709551616 ≤ Q
          · have HR : Hid (mdF a b c = (0, 21)) := by show _ = _; rw [HA'.out]; exact sgF_big (by omega)
            rw [decide_eq_true hb] at hg
            subst hg
            clear hb hq
            go_wp2_with fail
            go_ret2
            exact ⟨ret_2 (by rw [HR.out]) (by rw [HR.out]), by first | exact rfl | exact True.intro⟩
          · rw [decide_eq_false hb] at hg
            obtain rfl : q = Q := by omega
            have HC := Lib.hid (fun w => signed_any true q w)
            subst hg
            clear hb hq
            go_wp2_with fail
            refine (HC.out _).mono ?_
            rintro e w1 ⟨rfl, rfl⟩
            go_wp2_with fail
            go_ret2
            exact ⟨ret_2 (by rw [HA'.out]) (by rw [HA'.out]), by first | exact rfl | exact True.intro⟩
        · have HA' : Hid (mdF a b c = sgF true (Q + 1)) := by show _ = _; rw [HA.out, if_pos ⟨rfl, by omega⟩]
          have hr' : (0 : Int) < (rest : Int) := by omega
          have d0 : decide (0 < rest) = true := decide_eq_true (by omega)
          clear HA hr0
          by_cases hb : 18446744073709551616 ≤ Q
          · have HR : Hid (mdF a b c = (0, 21)) := by show _ = _; rw [HA'.out]; exact sgF_big (by omega)
            rw [decide_eq_true hb] at hg
            subst hg
            clear hb hq
            go_wp2_with fail
            go_ret2
            exact ⟨ret_2 (by rw [HR.out]) (by rw [HR.out]), by first | exact rfl | exact True.intro⟩
          · rw [decide_eq_false hb] at hg
            obtain rfl : q = Q := by omega
            by_cases hm : q = 18446744073709551615
            · have HR : Hid (mdF a b c = (0, 21)) := by show _ = _; rw [HA'.out]; exact sgF_big (by omega)
              have k1 : ((q : Int) == 18446744073709551615) = true := ieq_t (by omega)
              subst hg
              clear hb hq hm
              go_wp2_with fail
              go_ret2
              exact ⟨ret_2 (by rw [HR.out]) (by rw [HR.out]), by first | exact rfl | exact True.intro⟩
            · have k1 : ((q : Int) == 18446744073709551615) = false := ieq_f (by omega)
              have k2 : IntKind.u64.wrap ((q : Int) + 1) = ((q + 1 : Nat) : Int) := IntWalk.u64_in _ (by omega)
              have HC := Lib.hid (fun w => signed_any true (q + 1) w)
              generalize hz : q + 1 = z at *
              subst hg
              clear hb hq hm hz
              go_wp2_with fail
              refine (HC.out _).mono ?_
              rintro e w1 ⟨rfl, rfl⟩
              go_wp2_with fail
              go_ret2
              exact ⟨ret_2 (by rw [HA'.out]) (by rw [HA'.out]), by first | exact rfl | exact True.intro⟩
set_option maxRecDepth 100000 in
set_option maxHeartbeats 2000000 in
theorem products_law (a b c a' b' c' : Int) (w : World) (hT : TabP w) (ha : Rep.int.R w (Lt w) a' (Value.int .i64 a).cells.toList) (_ : True) (hb : Rep.int.R w (Lt w) b' (Value.int .i64 b).cells.toList) (_ : True) (hd : Rep.int.R w (Lt w) c' (Value.int .i64 c).cells.toList) (_ : True) :
    Calls Tryd.prog 4 #[.int .i64 a, .int .i64 b, .int .i64 c] w (Ret (.bool true) w) := by
  obtain ⟨rfl, a0, a1⟩ := i64_inv ha
  obtain ⟨rfl, b0, b1⟩ := i64_inv hb
  obtain ⟨rfl, c0, c1⟩ := i64_inv hd
  clear ha hb hd
  have HT := Lib.hid hT
  clear hT
  have C1 := Lib.hid (fun w => mulDiv_any a b c w a0 a1 b0 b1 c0 c1)
  have C2 := Lib.hid (fun w => refMulDiv_any a b c w a0 a1 b0 b1 c0 c1)
  generalize mdF a b c = x at *
  obtain ⟨x1, x2⟩ := x
  have s1 := beq_self_int x1
  have s2 := beq_self_int x2
  go_enter Tryd.func4, Tryd.ntmps4
  go_wp2_with fail
  refine (C1.out _).mono ?_
  rintro e w1 ⟨rfl, u1⟩
  have b6 := u1.below w.heap.size
  have HT6 := Lib.hid (HT.out.qt u1)
  clear u1
  go_wp2_with fail
  refine (C2.out _).mono ?_
  rintro e w2 ⟨rfl, rfl⟩
  go_wp2_with fail
  refine (alive_any _ HT6.out).mono ?_
  rintro e w7 ⟨rfl, hb⟩
  go_wp2_with fail
  go_ret
  exact ⟨rfl, bstep b6 b6.size hb⟩
end Go.Proofs.YticohjhohbkmaaaDoor
