/- Chapter 01: Parse of the reference, by walking its text. -/
import Derived.Test.YticohjhohbkmaaaDoorNumP3
namespace Go.Proofs.YticohjhohbkmaaaDoor
open Go Go.RowKit

set_option maxHeartbeats 2000000 in
theorem refParse_neg (s : ByteArray) (t : List UInt8) (w : World) (hl : s.data.toList = 45 :: t) (hz : s.size ≤ 1000000000) :
    Calls Tryd.prog 29 #[.string s] w fun e w' => e = .returned (.tuple #[.int .i64 (parseL s.data.toList).1, .int .i64 (parseL s.data.toList).2]) ∧ w = w' := by
  have hsz : s.size = t.length + 1 := by have := congrArg List.length hl; simpa using this
  have hpos : 0 < s.size := by omega
  have hs0' : s[0] = 45 := by
    have : s.data.toList[0]? = some 45 := by rw [hl]; rfl
    rw [List.getElem?_eq_getElem (by simpa using hpos)] at this
    injection this
  obtain ⟨c0, hs0, hcn⟩ : ∃ c0 : UInt8, s[0] = c0 ∧ ((c0.toNat : Int) == 45) = true := ⟨45, hs0', rfl⟩
  have hemp : s.toList.isEmpty = false := by rw [ByteArray.toList_eq, hl]; rfl
  have hq : (s.toList == [48]) = false := by rw [ByteArray.toList_eq, hl]; rfl
  obtain ⟨e1, e2⟩ := mgn_neg t
  obtain ⟨dd, hdd⟩ : ∃ dd, s.extract 1 s.size = dd := ⟨_, rfl⟩
  have hdt : dd.data.toList = t := by rw [← hdd, Lib.extract_data, hl, List.drop_one, List.tail_cons]; exact List.take_of_length_le (by omega)
  have hds : dd.size = t.length := by have := congrArg List.length hdt; simpa using this
  have hdz : dd.size ≤ 1000000000 := by omega
  have HDD := Lib.hid hdt
  have hp0 : t = [] → parseL s.data.toList = (0, 5) := fun h => by
    unfold parseL; rw [hl, e2, if_neg (by simp), if_pos h]
  have hp1 : t ≠ [] → t.head? ≠ some 48 → parseL s.data.toList = parseD true t := fun h h' => by
    unfold parseL; rw [hl, e1, e2, if_neg (by simp), if_neg h, if_neg (fun x => h' x.1)]
  have hp2 : t ≠ [] → t.head? = some 48 → parseL s.data.toList = (0, 5) := fun h h' => by
    unfold parseL; rw [hl, e2, if_neg (by simp), if_neg h, if_pos ⟨h', by simp⟩]
  have hs1 : 1 ≤ s.size := hpos
  rcases ht : t with _ | ⟨c, t'⟩
  · have hde : dd.toList.isEmpty = true := by rw [ByteArray.toList_eq, hdt, ht]; rfl
    have HP := Lib.hid (hp0 ht)
    clear hl hsz hp0 hp1 hp2 e1 e2 ht hdt hds hs0' HDD
    go_enter Tryd.func29, Tryd.ntmps29
    go_wp2
    go_ret2
    exact ⟨ret_2 (by rw [HP.out]) (by rw [HP.out]), by trivial⟩
  have hde : dd.toList.isEmpty = false := by rw [ByteArray.toList_eq, hdt, ht]; rfl
  have hdp : 0 < dd.size := by rw [hds, ht]; simp
  have hd0 : dd[0] = c := by
    have : dd.data.toList[0]? = some c := by rw [hdt, ht]; rfl
    rw [List.getElem?_eq_getElem (by simpa using hdp)] at this
    injection this
  by_cases h48 : c = 48
  · have hcc : ((c.toNat : Int) == 48) = true := ieq_t (by rw [h48]; rfl)
    have HP := Lib.hid (hp2 (by rw [ht]; simp) (by rw [ht, h48]; rfl))
    clear hl hsz hp0 hp1 hp2 e1 e2 ht hdt hds hs0' HDD h48
    go_enter Tryd.func29, Tryd.ntmps29
    go_wp2
    go_ret2
    exact ⟨ret_2 (by rw [HP.out]) (by rw [HP.out]), by trivial⟩
  · have hcc : ((c.toNat : Int) == 48) = false := ieq_f (fun e => h48 (UInt8.toNat_inj.1 (by have h48 : (48 : UInt8).toNat = 48 := rfl; omega)))
    have HP := Lib.hid (hp1 (by rw [ht]; simp) (by rw [ht]; simp [h48]))
    clear hl hsz hp0 hp1 hp2 e1 e2 ht hdt hds hs0' h48
    go_enter Tryd.func29, Tryd.ntmps29
    go_wp2
    go_loop [5, 6] (fun n i => ∃ (k : Nat) (m : Nat), k ≤ dd.size ∧ i = .int .i64 k ∧ n = .int .i64 m ∧ m ≤ 1125899906842624 ∧ Hid (m = min (dval (t.take k)) 1125899906842624) ∧ Hid ((t.take k).all isDig = true)) (fun _ i => dd.size - (intOf i).toNat)
    case atStart => exact ⟨0, 0, Nat.zero_le _, rfl, rfl, by omega, by show 0 = min (dval (t.take 0)) 1125899906842624; rw [List.take_zero]; rfl, by show (t.take 0).all isDig = true; rw [List.take_zero]; rfl⟩
    case round =>
      obtain ⟨k, m, hk, rfl, rfl, hmc, hm, ha⟩ := hrel
      by_cases hlt : k < dd.size
      · have hDk : t[k]? = some dd[k] := by rw [← HDD.out]; exact List.getElem?_eq_getElem (by simpa using hlt)
        have hxb := UInt8.toNat_lt dd[k]
        by_cases hdig : isDig dd[k] = true
        · have hd2 := isDig_iff.1 hdig
          have HN : Hid (min (dval (t.take (k + 1))) 1125899906842624 = min (10 * m + (dd[k].toNat - 48)) 1125899906842624) := by
            show _ = _; rw [take_one hDk, dval_snoc, hm.out]; exact min_step _ _ _
          have HA : Hid ((t.take (k + 1)).all isDig = true) := all_take_succ ha.out hDk hdig
          obtain ⟨g1, g2⟩ := hd2
          have g3 : ((dd[k].toNat : Nat) : Int) - 48 = ((dd[k].toNat - 48 : Nat) : Int) := by omega
          have hw1 : 0 ≤ (dd[k].toNat : Int) - 48 := by omega
          have d1 : decide (dd[k].toNat < 48) = false := decide_eq_false (by omega)
          have d2 : decide (57 < dd[k].toNat) = false := decide_eq_false (by omega)
          clear hdig hDk
          by_cases hmin : 10 * m + (dd[k].toNat - 48) ≤ 1125899906842624
          · have hmi : (10 : Int) * (m : Int) + ((dd[k].toNat : Int) - 48) ≤ 1125899906842624 := by omega
            have HX : Hid (min (10 * m + (dd[k].toNat - 48)) 1125899906842624 = 10 * m + (dd[k].toNat - 48)) := Nat.min_eq_left hmin
            have HY : 10 * m + (dd[k].toNat - 48) ≤ 1125899906842624 := hmin
            clear hmin
            go_wp2
            go_round
            case rel => exact ⟨k + 1, 10 * m + (dd[k].toNat - 48), by omega, by go_num, by first | rfl | (congr 1; omega), HY, by show _ = _; rw [HN.out, HX.out], HA⟩
            case measure => simp [intOf]; omega
          · have hmi : ¬ (10 : Int) * (m : Int) + ((dd[k].toNat : Int) - 48) ≤ 1125899906842624 := by omega
            have HX : Hid (min (10 * m + (dd[k].toNat - 48)) 1125899906842624 = 1125899906842624) := Nat.min_eq_right (by omega)
            clear hmin
            go_wp2
            go_round
            case rel => exact ⟨k + 1, 1125899906842624, by omega, by go_num, by first | rfl | (congr 1; omega), Nat.le_refl _, by show _ = _; rw [HN.out, HX.out], HA⟩
            case measure => simp [intOf]; omega
        · have HB : Hid (t.all isDig = false) := all_bad hDk (by simpa using hdig)
          have HR : Hid (parseL s.data.toList = (0, 5)) := by show _ = _; rw [HP.out]; unfold parseD; rw [if_neg (by rw [HB.out]; simp)]
          have hnd : dd[k].toNat < 48 ∨ 57 < dd[k].toNat := by
            have : ¬ (48 ≤ dd[k].toNat ∧ dd[k].toNat ≤ 57) := fun h => hdig (isDig_iff.2 h)
            omega
          clear hdig hDk
          rcases Classical.em (dd[k].toNat < 48) with hx | hx
          · have d1 : decide (dd[k].toNat < 48) = true := decide_eq_true hx
            go_wp2
            go_ret2
            exact ⟨ret_2 (by rw [HR.out]) (by rw [HR.out]), by trivial⟩
          · have d1 : decide (dd[k].toNat < 48) = false := decide_eq_false hx
            have d2 : decide (57 < dd[k].toNat) = true := decide_eq_true (by omega)
            go_wp2
            go_ret2
            exact ⟨ret_2 (by rw [HR.out]) (by rw [HR.out]), by trivial⟩
      · have hke : t.take k = t := List.take_of_length_le (by rw [← HDD.out]; simp; omega)
        rw [hke] at hm ha
        clear hke
        by_cases hbig : 1099511627776 < dval t
        · have HR : Hid (parseL s.data.toList = (0, 9)) := by show _ = _; rw [HP.out]; unfold parseD; rw [if_pos ha.out, if_pos hbig]
          have hmb : 1099511627776 < m := by have := hm.out; omega
          clear hbig
          go_wp2
          go_ret2
          exact ⟨ret_2 (by rw [HR.out]) (by rw [HR.out]), by trivial⟩
        · have HR : Hid (parseL s.data.toList = (-(m : Int), 0)) := by
            show _ = _; rw [HP.out]; unfold parseD; rw [if_pos ha.out, if_neg hbig, if_pos rfl]
            have := hm.out
            have e : dval t = m := by omega
            rw [e]
          have hmb : m ≤ 1099511627776 := by have := hm.out; omega
          clear hbig
          go_wp2
          go_ret2
          exact ⟨ret_2 (by rw [HR.out]) (by rw [HR.out]), by trivial⟩

theorem refParse_nil (s : ByteArray) (w : World) (hl : s.data.toList = []) :
    Calls Tryd.prog 29 #[.string s] w fun e w' => e = .returned (.tuple #[.int .i64 (parseL s.data.toList).1, .int .i64 (parseL s.data.toList).2]) ∧ w = w' := by
  have hemp : s.toList.isEmpty = true := by rw [ByteArray.toList_eq, hl]; rfl
  have HP : Hid (parseL s.data.toList = (0, 3)) := by show _ = _; rw [hl]; rfl
  clear hl
  go_enter Tryd.func29, Tryd.ntmps29
  go_wp2
  go_ret2
  exact ⟨ret_2 (by rw [HP.out]) (by rw [HP.out]), by trivial⟩
theorem refParse_any (s : ByteArray) (w : World) (hz : s.size ≤ 1000000000) :
    Calls Tryd.prog 29 #[.string s] w fun e w' => e = .returned (.tuple #[.int .i64 (parseL s.data.toList).1, .int .i64 (parseL s.data.toList).2]) ∧ w = w' := by
  rcases hl : s.data.toList with _ | ⟨c, t⟩
  · have := refParse_nil s w hl
    rw [hl] at this; exact this
  · by_cases hc : c = 45
    · subst hc
      have := refParse_neg s t w hl hz
      rw [hl] at this; exact this
    · have := refParse_pos s c t w hl hz hc
      rw [hl] at this; exact this
end Go.Proofs.YticohjhohbkmaaaDoor
