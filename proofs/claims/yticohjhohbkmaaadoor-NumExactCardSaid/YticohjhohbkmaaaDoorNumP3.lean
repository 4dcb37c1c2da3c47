/- Chapter 01: Parse of the reference, by walking its text. -/
import Derived.Test.YticohjhohbkmaaaDoorNumP2
namespace Go.Proofs.YticohjhohbkmaaaDoor
open Go Go.RowKit

set_option maxHeartbeats 2000000 in
theorem refParse_pos (s : ByteArray) (c : UInt8) (t : List UInt8) (w : World) (hl : s.data.toList = c :: t) (hz : s.size ≤ 1000000000) (hc : c ≠ 45) :
    Calls Tryd.prog 29 #[.string s] w fun e w' => e = .returned (.tuple #[.int .i64 (parseL s.data.toList).1, .int .i64 (parseL s.data.toList).2]) ∧ w = w' := by
  have hsz : s.size = t.length + 1 := by have := congrArg List.length hl; simpa using this
  have hpos : 0 < s.size := by omega
  have hs0 : s[0] = c := by
    have : s.data.toList[0]? = some c := by rw [hl]; rfl
    rw [List.getElem?_eq_getElem (by simpa using hpos)] at this
    injection this
  have hemp : s.toList.isEmpty = false := by rw [ByteArray.toList_eq, hl]; rfl
  have hcn : ((c.toNat : Int) == 45) = false := ieq_f (fun e => hc (UInt8.toNat_inj.1 (by have h45 : (45 : UInt8).toNat = 45 := rfl; omega)))
  have HDD := Lib.hid hl
  obtain ⟨e1, e2⟩ := mgn_pos (s := s.data.toList) (by rw [hl]; simpa using hc)
  have hp1 : ¬ ((c :: t).head? = some 48 ∧ (c :: t) ≠ [48]) → parseL s.data.toList = parseD false (c :: t) := fun h => by
    unfold parseL; rw [e1, e2, hl, if_neg (by simp), if_neg (by simp), if_neg h]
  have hp2 : ((c :: t).head? = some 48 ∧ (c :: t) ≠ [48]) → parseL s.data.toList = (0, 5) := fun h => by
    unfold parseL; rw [e2, hl, if_neg (by simp), if_neg (by simp), if_pos h]
  by_cases h48 : c = 48
  · have hcc : ((c.toNat : Int) == 48) = true := ieq_t (by rw [h48]; rfl)
    by_cases ht : t = []
    · have hq : (s.toList == [48]) = true := by rw [ByteArray.toList_eq, hl, h48, ht]; rfl
      have HP := Lib.hid (hp1 (by rw [h48, ht]; simp))
      clear hl hsz hp1 hp2 e1 e2 h48 ht hc
      go_enter Tryd.func29, Tryd.ntmps29
      go_wp2
      go_loop [5, 6] (fun n i => ∃ (k : Nat) (m : Nat), k ≤ s.size ∧ i = .int .i64 k ∧ n = .int .i64 m ∧ m ≤ 1125899906842624 ∧ Hid (m = min (dval ((c :: t).take k)) 1125899906842624) ∧ Hid (((c :: t).take k).all isDig = true)) (fun _ i => s.size - (intOf i).toNat)
      case atStart => exact ⟨0, 0, Nat.zero_le _, rfl, rfl, by omega, by show 0 = min (dval ((c :: t).take 0)) 1125899906842624; rw [List.take_zero]; rfl, by show ((c :: t).take 0).all isDig = true; rw [List.take_zero]; rfl⟩
      case round =>
        obtain ⟨k, m, hk, rfl, rfl, hmc, hm, ha⟩ := hrel
        by_cases hlt : k < s.size
        · have hDk : (c :: t)[k]? = some s[k] := by rw [← HDD.out]; exact List.getElem?_eq_getElem (by simpa using hlt)
          have hxb := UInt8.toNat_lt s[k]
          by_cases hdig : isDig s[k] = true
          · have hd2 := isDig_iff.1 hdig
            have HN : Hid (min (dval ((c :: t).take (k + 1))) 1125899906842624 = min (10 * m + (s[k].toNat - 48)) 1125899906842624) := by
              show _ = _; rw [take_one hDk, dval_snoc, hm.out]; exact min_step _ _ _
            have HA : Hid (((c :: t).take (k + 1)).all isDig = true) := all_take_succ ha.out hDk hdig
            obtain ⟨g1, g2⟩ := hd2
            have g3 : ((s[k].toNat : Nat) : Int) - 48 = ((s[k].toNat - 48 : Nat) : Int) := by omega
            have hw1 : 0 ≤ (s[k].toNat : Int) - 48 := by omega
            have d1 : decide (s[k].toNat < 48) = false := decide_eq_false (by omega)
            have d2 : decide (57 < s[k].toNat) = false := decide_eq_false (by omega)
            clear hdig hDk
            by_cases hmin : 10 * m + (s[k].toNat - 48) ≤ 1125899906842624
            · have hmi : (10 : Int) * (m : Int) + ((s[k].toNat : Int) - 48) ≤ 1125899906842624 := by omega
              have HX : Hid (min (10 * m + (s[k].toNat - 48)) 1125899906842624 = 10 * m + (s[k].toNat - 48)) := Nat.min_eq_left hmin
              have HY : 10 * m + (s[k].toNat - 48) ≤ 1125899906842624 := hmin
              clear hmin
              go_wp2
              go_round
              case rel => exact ⟨k + 1, 10 * m + (s[k].toNat - 48), by omega, by go_num, by first | rfl | (congr 1; omega), HY, by show _ = _; rw [HN.out, HX.out], HA⟩
              case measure => simp [intOf]; omega
            · have hmi : ¬ (10 : Int) * (m : Int) + ((s[k].toNat : Int) - 48) ≤ 1125899906842624 := by omega
              have HX : Hid (min (10 * m + (s[k].toNat - 48)) 1125899906842624 = 1125899906842624) := Nat.min_eq_right (by omega)
              clear hmin
              go_wp2
              go_round
              case rel => exact ⟨k + 1, 1125899906842624, by omega, by go_num, by first | rfl | (congr 1; omega), Nat.le_refl _, by show _ = _; rw [HN.out, HX.out], HA⟩
              case measure => simp [intOf]; omega
          · have HB : Hid ((c :: t).all isDig = false) := all_bad hDk (by simpa using hdig)
            have HR : Hid (parseL s.data.toList = (0, 5)) := by show _ = _; rw [HP.out]; unfold parseD; rw [if_neg (by rw [HB.out]; simp)]
            have hnd : s[k].toNat < 48 ∨ 57 < s[k].toNat := by
              have : ¬ (48 ≤ s[k].toNat ∧ s[k].toNat ≤ 57) := fun h => hdig (isDig_iff.2 h)
              omega
            clear hdig hDk
            rcases Classical.em (s[k].toNat < 48) with hx | hx
            · have d1 : decide (s[k].toNat < 48) = true := decide_eq_true hx
              go_wp2
              go_ret2
              exact ⟨ret_2 (by rw [HR.out]) (by rw [HR.out]), by trivial⟩
            · have d1 : decide (s[k].toNat < 48) = false := decide_eq_false hx
              have d2 : decide (57 < s[k].toNat) = true := decide_eq_true (by omega)
              go_wp2
              go_ret2
              exact ⟨ret_2 (by rw [HR.out]) (by rw [HR.out]), by trivial⟩
        · have hke : (c :: t).take k = (c :: t) := List.take_of_length_le (by rw [← HDD.out]; simp; omega)
          rw [hke] at hm ha
          clear hke
          by_cases hbig : 1099511627776 < dval (c :: t)
          · have HR : Hid (parseL s.data.toList = (0, 9)) := by show _ = _; rw [HP.out]; unfold parseD; rw [if_pos ha.out, if_pos hbig]
            have hmb : 1099511627776 < m := by have := hm.out; omega
            clear hbig
            go_wp2
            go_ret2
            exact ⟨ret_2 (by rw [HR.out]) (by rw [HR.out]), by trivial⟩
          · have HR : Hid (parseL s.data.toList = ((m : Int), 0)) := by
              show _ = _; rw [HP.out]; unfold parseD; rw [if_pos ha.out, if_neg hbig, if_neg (by simp)]
              have := hm.out
              have e : dval (c :: t) = m := by omega
              rw [e]
            have hmb : m ≤ 1099511627776 := by have := hm.out; omega
            clear hbig
            go_wp2
            go_ret2
            exact ⟨ret_2 (by rw [HR.out]) (by rw [HR.out]), by trivial⟩
    · have hq : (s.toList == [48]) = false := by rw [ByteArray.toList_eq, hl, h48]; simp [ht]
      have HP := Lib.hid (hp2 (by rw [h48]; simp [ht]))
      clear hl hsz hp1 hp2 e1 e2 h48 ht hc
      go_enter Tryd.func29, Tryd.ntmps29
      go_wp2
      go_ret2
      exact ⟨ret_2 (by rw [HP.out]) (by rw [HP.out]), by trivial⟩
  · have hcc : ((c.toNat : Int) == 48) = false := ieq_f (fun e => h48 (UInt8.toNat_inj.1 (by have h48 : (48 : UInt8).toNat = 48 := rfl; omega)))
    have HP := Lib.hid (hp1 (by simp [h48]))
    clear hl hsz hp1 hp2 e1 e2 h48 hc
    go_enter Tryd.func29, Tryd.ntmps29
    go_wp2
    go_loop [5, 6] (fun n i => ∃ (k : Nat) (m : Nat), k ≤ s.size ∧ i = .int .i64 k ∧ n = .int .i64 m ∧ m ≤ 1125899906842624 ∧ Hid (m = min (dval ((c :: t).take k)) 1125899906842624) ∧ Hid (((c :: t).take k).all isDig = true)) (fun _ i => s.size - (intOf i).toNat)
    case atStart => exact ⟨0, 0, Nat.zero_le _, rfl, rfl, by omega, by show 0 = min (dval ((c :: t).take 0)) 1125899906842624; rw [List.take_zero]; rfl, by show ((c :: t).take 0).all isDig = true; rw [List.take_zero]; rfl⟩
    case round =>
      obtain ⟨k, m, hk, rfl, rfl, hmc, hm, ha⟩ := hrel
      by_cases hlt : k < s.size
      · have hDk : (c :: t)[k]? = some s[k] := by rw [← HDD.out]; exact List.getElem?_eq_getElem (by simpa using hlt)
        have hxb := UInt8.toNat_lt s[k]
        by_cases hdig : isDig s[k] = true
        · have hd2 := isDig_iff.1 hdig
          have HN : Hid (min (dval ((c :: t).take (k + 1))) 1125899906842624 = min (10 * m + (s[k].toNat - 48)) 1125899906842624) := by
            show _ = _; rw [take_one hDk, dval_snoc, hm.out]; exact min_step _ _ _
          have HA : Hid (((c :: t).take (k + 1)).all isDig = true) := all_take_succ ha.out hDk hdig
          obtain ⟨g1, g2⟩ := hd2
          have g3 : ((s[k].toNat : Nat) : Int) - 48 = ((s[k].toNat - 48 : Nat) : Int) := by omega
          have hw1 : 0 ≤ (s[k].toNat : Int) - 48 := by omega
          have d1 : decide (s[k].toNat < 48) = false := decide_eq_false (by omega)
          have d2 : decide (57 < s[k].toNat) = false := decide_eq_false (by omega)
          clear hdig hDk
          by_cases hmin : 10 * m + (s[k].toNat - 48) ≤ 1125899906842624
          · have hmi : (10 : Int) * (m : Int) + ((s[k].toNat : Int) - 48) ≤ 1125899906842624 := by omega
            have HX : Hid (min (10 * m + (s[k].toNat - 48)) 1125899906842624 = 10 * m + (s[k].toNat - 48)) := Nat.min_eq_left hmin
            have HY : 10 * m + (s[k].toNat - 48) ≤ 1125899906842624 := hmin
            clear hmin
            go_wp2
            go_round
            case rel => exact ⟨k + 1, 10 * m + (s[k].toNat - 48), by omega, by go_num, by first | rfl | (congr 1; omega), HY, by show _ = _; rw [HN.out, HX.out], HA⟩
            case measure => simp [intOf]; omega
          · have hmi : ¬ (10 : Int) * (m : Int) + ((s[k].toNat : Int) - 48) ≤ 1125899906842624 := by omega
            have HX : Hid (min (10 * m + (s[k].toNat - 48)) 1125899906842624 = 1125899906842624) := Nat.min_eq_right (by omega)
            clear hmin
            go_wp2
            go_round
            case rel => exact ⟨k + 1, 1125899906842624, by omega, by go_num, by first | rfl | (congr 1; omega), Nat.le_refl _, by show _ = _; rw [HN.out, HX.out], HA⟩
            case measure => simp [intOf]; omega
        · have HB : Hid ((c :: t).all isDig = false) := all_bad hDk (by simpa using hdig)
          have HR : Hid (parseL s.data.toList = (0, 5)) := by show _ = _; rw [HP.out]; unfold parseD; rw [if_neg (by rw [HB.out]; simp)]
          have hnd : s[k].toNat < 48 ∨ 57 < s[k].toNat := by
            have : ¬ (48 ≤ s[k].toNat ∧ s[k].toNat ≤ 57) := fun h => hdig (isDig_iff.2 h)
            omega
          clear hdig hDk
          rcases Classical.em (s[k].toNat < 48) with hx | hx
          · have d1 : decide (s[k].toNat < 48) = true := decide_eq_true hx
            go_wp2
            go_ret2
            exact ⟨ret_2 (by rw [HR.out]) (by rw [HR.out]), by trivial⟩
          · have d1 : decide (s[k].toNat < 48) = false := decide_eq_false hx
            have d2 : decide (57 < s[k].toNat) = true := decide_eq_true (by omega)
            go_wp2
            go_ret2
            exact ⟨ret_2 (by rw [HR.out]) (by rw [HR.out]), by trivial⟩
      · have hke : (c :: t).take k = (c :: t) := List.take_of_length_le (by rw [← HDD.out]; simp; omega)
        rw [hke] at hm ha
        clear hke
        by_cases hbig : 1099511627776 < dval (c :: t)
        · have HR : Hid (parseL s.data.toList = (0, 9)) := by show _ = _; rw [HP.out]; unfold parseD; rw [if_pos ha.out, if_pos hbig]
          have hmb : 1099511627776 < m := by have := hm.out; omega
          clear hbig
          go_wp2
          go_ret2
          exact ⟨ret_2 (by rw [HR.out]) (by rw [HR.out]), by trivial⟩
        · have HR : Hid (parseL s.data.toList = ((m : Int), 0)) := by
            show _ = _; rw [HP.out]; unfold parseD; rw [if_pos ha.out, if_neg hbig, if_neg (by simp)]
            have := hm.out
            have e : dval (c :: t) = m := by omega
            rw [e]
          have hmb : m ≤ 1099511627776 := by have := hm.out; omega
          clear hbig
          go_wp2
          go_ret2
          exact ⟨ret_2 (by rw [HR.out]) (by rw [HR.out]), by trivial⟩
end Go.Proofs.YticohjhohbkmaaaDoor
