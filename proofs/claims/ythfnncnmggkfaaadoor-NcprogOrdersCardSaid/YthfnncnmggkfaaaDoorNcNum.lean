/- The program's number functions that chapter 27 leans on: Parse and Text, by walking their text (the walks of chapter 01). -/
import Derived.Test.YthfnncnmggkfaaaDoorLexNum
import Derived.Test.YthfnncnmggkfaaaDoorLexShelf
namespace Go.Proofs.YthfnncnmggkfaaaDoor
open Go Go.RowKit


set_option maxHeartbeats 2000000 in
theorem parse_pos (s : ByteArray) (c : UInt8) (t : List UInt8) (w : World) (hl : s.data.toList = c :: t) (hz : s.size ≤ 1000000000) (hc : c ≠ 45) :
    Calls Tryd.prog 97 #[.string s] w fun e w' => e = .returned (.tuple #[.int .i64 (parseL s.data.toList).1, .int .i64 (parseL s.data.toList).2]) ∧ w = w' := by
  have hsz : s.size = t.length + 1 := by have := congrArg List.length hl; simpa using this
  have hpos : 0 < s.size := by omega
  have hs0 : s[0] = c := by
    have : s.data.toList[0]? = some c := by rw [hl]; rfl
    rw [List.getElem?_eq_getElem (by simpa using hpos)] at this
    injection this
  have hemp : s.toList.isEmpty = false := by rw [ByteArray.toList_eq, hl]; rfl
  have hcn : ((c.toNat : Int) == 45) = false := ieq_f (fun e => hc (UInt8.toNat_inj.1 (by have h45 : (45 : UInt8).toNat = 45 := rfl; omega)))
  have HDD := Lib.hid hl
  obtain ⟨e1, e2⟩ := mgn_pos (s := s.data.toList) (by rw [hl]; simpa using hc)
  have hp1 : ¬ ((c :: t).head? = some 48 ∧ (c :: t) ≠ [48]) → parseL s.data.toList = parseD false (c :: t) := fun h => by
    unfold parseL; rw [e1, e2, hl, if_neg (by simp), if_neg (by simp), if_neg h]
  have hp2 : ((c :: t).head? = some 48 ∧ (c :: t) ≠ [48]) → parseL s.data.toList = (0, 5) := fun h => by
    unfold parseL; rw [e2, hl, if_neg (by simp), if_neg (by simp), if_pos h]
  by_cases h48 : c = 48
  · have hcc : ((c.toNat : Int) == 48) = true := ieq_t (by rw [h48]; rfl)
    by_cases ht : t = []
    · have hq : (s.toList == [48]) = true := by rw [ByteArray.toList_eq, hl, h48, ht]; rfl
      have HP := Lib.hid (hp1 (by rw [h48, ht]; simp))
      clear hl hsz hp1 hp2 e1 e2 h48 ht hc
      go_enter Tryd.func97, Tryd.ntmps97
      go_wp2
      go_loop [5, 28] (fun n i => ∃ (k : Nat) (m : Nat), k ≤ s.size ∧ i = .int .i64 k ∧ n = .int .i64 m ∧ m ≤ 1099511627777 ∧ Hid (m = min (dval ((c :: t).take k)) 1099511627777) ∧ Hid (((c :: t).take k).all isDig = true)) (fun _ i => s.size - (intOf i).toNat)
      case atStart => exact ⟨0, 0, Nat.zero_le _, rfl, rfl, by omega, by show 0 = min (dval ((c :: t).take 0)) 1099511627777; rw [List.take_zero]; rfl, by show ((c :: t).take 0).all isDig = true; rw [List.take_zero]; rfl⟩
      case round =>
        obtain ⟨k, m, hk, rfl, rfl, hmc, hm, ha⟩ := hrel
        by_cases hlt : k < s.size
        · have hDk : (c :: t)[k]? = some s[k] := by rw [← HDD.out]; exact List.getElem?_eq_getElem (by simpa using hlt)
          have hxb := UInt8.toNat_lt s[k]
          by_cases hdig : isDig s[k] = true
          · have hd2 := isDig_iff.1 hdig
            have HN : Hid (min (dval ((c :: t).take (k + 1))) 1099511627777 = min (10 * m + (s[k].toNat - 48)) 1099511627777) := by
              show _ = _; rw [take_one hDk, dval_snoc, hm.out]; exact min_step _ _ _
            have HA : Hid (((c :: t).take (k + 1)).all isDig = true) := all_take_succ ha.out hDk hdig
            obtain ⟨g1, g2⟩ := hd2
            have g3 : ((s[k].toNat : Nat) : Int) - 48 = ((s[k].toNat - 48 : Nat) : Int) := by omega
            have hw1 : 0 ≤ (s[k].toNat : Int) - 48 := by omega
            have d1 : decide (s[k].toNat < 48) = false := decide_eq_false (by omega)
            have d2 : decide (57 < s[k].toNat) = false := decide_eq_false (by omega)
            clear hdig hDk
            by_cases hmin : 10 * m + (s[k].toNat - 48) ≤ 1099511627777
            · have hmi : (10 : Int) * (m : Int) + ((s[k].toNat : Int) - 48) ≤ 1099511627777 := by omega
              have HX : Hid (min (10 * m + (s[k].toNat - 48)) 1099511627777 = 10 * m + (s[k].toNat - 48)) := Nat.min_eq_left hmin
              have HY : 10 * m + (s[k].toNat - 48) ≤ 1099511627777 := hmin
              clear hmin
              go_wp2
              go_round
              case rel => exact ⟨k + 1, 10 * m + (s[k].toNat - 48), by omega, by go_num, by first | rfl | (congr 1; omega), HY, by show _ = _; rw [HN.out, HX.out], HA⟩
              case measure => simp [intOf]; omega
            · have hmi : ¬ (10 : Int) * (m : Int) + ((s[k].toNat : Int) - 48) ≤ 1099511627777 := by omega
              have HX : Hid (min (10 * m + (s[k].toNat - 48)) 1099511627777 = 1099511627777) := Nat.min_eq_right (by omega)
              clear hmin
              go_wp2
              go_round
              case rel => exact ⟨k + 1, 1099511627777, by omega, by go_num, by first | rfl | (congr 1; omega), Nat.le_refl _, by show _ = _; rw [HN.out, HX.out], HA⟩
              case measure => simp [intOf]; omega
          · have HB : Hid ((c :: t).all isDig = false) := all_bad hDk (by simpa using hdig)
            have HR : Hid (parseL s.data.toList = (0, 5)) := by show _ = _; rw [HP.out]; unfold parseD; rw [if_neg (by rw [HB.out]; simp)]
            have hnd : s[k].toNat < 48 ∨ 57 < s[k].toNat := by
              have : ¬ (48 ≤ s[k].toNat ∧ s[k].toNat ≤ 57) := fun h => hdig (isDig_iff.2 h)
              omega
            clear hdig hDk
            rcases Classical.em (s[k].toNat < 48) with hx | hx
            · have d1 : decide (s[k].toNat < 48) = true := decide_eq_true hx
              go_wp2
              go_ret2
              exact ⟨ret_2 (by rw [HR.out]) (by rw [HR.out]), by trivial⟩
            · have d1 : decide (s[k].toNat < 48) = false := decide_eq_false hx
              have d2 : decide (57 < s[k].toNat) = true := decide_eq_true (by omega)
              go_wp2
              go_ret2
              exact ⟨ret_2 (by rw [HR.out]) (by rw [HR.out]), by trivial⟩
        · have hke : (c :: t).take k = (c :: t) := List.take_of_length_le (by rw [← HDD.out]; simp; omega)
          rw [hke] at hm ha
          clear hke
          by_cases hbig : 1099511627776 < dval (c :: t)
          · have HR : Hid (parseL s.data.toList = (0, 9)) := by show _ = _; rw [HP.out]; unfold parseD; rw [if_pos ha.out, if_pos hbig]
            have hmb : 1099511627776 < m := by have := hm.out; omega
            clear hbig
            go_wp2
            go_ret2
            exact ⟨ret_2 (by rw [HR.out]) (by rw [HR.out]), by trivial⟩
          · have HR : Hid (parseL s.data.toList = ((m : Int), 0)) := by
              show _ = _; rw [HP.out]; unfold parseD; rw [if_pos ha.out, if_neg hbig, if_neg (by simp)]
              have := hm.out
              have e : dval (c :: t) = m := by omega
              rw [e]
            have hmb : m ≤ 1099511627776 := by have := hm.out; omega
            clear hbig
            go_wp2
            go_ret2
            exact ⟨ret_2 (by rw [HR.out]) (by rw [HR.out]), by trivial⟩
    · have hq : (s.toList == [48]) = false := by rw [ByteArray.toList_eq, hl, h48]; simp [ht]
      have HP := Lib.hid (hp2 (by rw [h48]; simp [ht]))
      clear hl hsz hp1 hp2 e1 e2 h48 ht hc
      go_enter Tryd.func97, Tryd.ntmps97
      go_wp2
      go_ret2
      exact ⟨ret_2 (by rw [HP.out]) (by rw [HP.out]), by trivial⟩
  · have hcc : ((c.toNat : Int) == 48) = false := ieq_f (fun e => h48 (UInt8.toNat_inj.1 (by have h48 : (48 : UInt8).toNat = 48 := rfl; omega)))
    have HP := Lib.hid (hp1 (by simp [h48]))
    clear hl hsz hp1 hp2 e1 e2 h48 hc
    go_enter Tryd.func97, Tryd.ntmps97
    go_wp2
    go_loop [5, 28] (fun n i => ∃ (k : Nat) (m : Nat), k ≤ s.size ∧ i = .int .i64 k ∧ n = .int .i64 m ∧ m ≤ 1099511627777 ∧ Hid (m = min (dval ((c :: t).take k)) 1099511627777) ∧ Hid (((c :: t).take k).all isDig = true)) (fun _ i => s.size - (intOf i).toNat)
    case atStart => exact ⟨0, 0, Nat.zero_le _, rfl, rfl, by omega, by show 0 = min (dval ((c :: t).take 0)) 1099511627777; rw [List.take_zero]; rfl, by show ((c :: t).take 0).all isDig = true; rw [List.take_zero]; rfl⟩
    case round =>
      obtain ⟨k, m, hk, rfl, rfl, hmc, hm, ha⟩ := hrel
      by_cases hlt : k < s.size
      · have hDk : (c :: t)[k]? = some s[k] := by rw [← HDD.out]; exact List.getElem?_eq_getElem (by simpa using hlt)
        have hxb := UInt8.toNat_lt s[k]
        by_cases hdig : isDig s[k] = true
        · have hd2 := isDig_iff.1 hdig
          have HN : Hid (min (dval ((c :: t).take (k + 1))) 1099511627777 = min (10 * m + (s[k].toNat - 48)) 1099511627777) := by
            show _ = _; rw [take_one hDk, dval_snoc, hm.out]; exact min_step _ _ _
          have HA : Hid (((c :: t).take (k + 1)).all isDig = true) := all_take_succ ha.out hDk hdig
          obtain ⟨g1, g2⟩ := hd2
          have g3 : ((s[k].toNat : Nat) : Int) - 48 = ((s[k].toNat - 48 : Nat) : Int) := by omega
          have hw1 : 0 ≤ (s[k].toNat : Int) - 48 := by omega
          have d1 : decide (s[k].toNat < 48) = false := decide_eq_false (by omega)
          have d2 : decide (57 < s[k].toNat) = false := decide_eq_false (by omega)
          clear hdig hDk
          by_cases hmin : 10 * m + (s[k].toNat - 48) ≤ 1099511627777
          · have hmi : (10 : Int) * (m : Int) + ((s[k].toNat : Int) - 48) ≤ 1099511627777 := by omega
            have HX : Hid (min (10 * m + (s[k].toNat - 48)) 1099511627777 = 10 * m + (s[k].toNat - 48)) := Nat.min_eq_left hmin
            have HY : 10 * m + (s[k].toNat - 48) ≤ 1099511627777 := hmin
            clear hmin
            go_wp2
            go_round
            case rel => exact ⟨k + 1, 10 * m + (s[k].toNat - 48), by omega, by go_num, by first | rfl | (congr 1; omega), HY, by show _ = _; rw [HN.out, HX.out], HA⟩
            case measure => simp [intOf]; omega
          · have hmi : ¬ (10 : Int) * (m : Int) + ((s[k].toNat : Int) - 48) ≤ 1099511627777 := by omega
            have HX : Hid (min (10 * m + (s[k].toNat - 48)) 1099511627777 = 1099511627777) := Nat.min_eq_right (by omega)
            clear hmin
            go_wp2
            go_round
            case rel => exact ⟨k + 1, 1099511627777, by omega, by go_num, by first | rfl | (congr 1; omega), Nat.le_refl _, by show _ = _; rw [HN.out, HX.out], HA⟩
            case measure => simp [intOf]; omega
        · have HB : Hid ((c :: t).all isDig = false) := all_bad hDk (by simpa using hdig)
          have HR : Hid (parseL s.data.toList = (0, 5)) := by show _ = _; rw [HP.out]; unfold parseD; rw [if_neg (by rw [HB.out]; simp)]
          have hnd : s[k].toNat < 48 ∨ 57 < s[k].toNat := by
            have : ¬ (48 ≤ s[k].toNat ∧ s[k].toNat ≤ 57) := fun h => hdig (isDig_iff.2 h)
            omega
          clear hdig hDk
          rcases Classical.em (s[k].toNat < 48) with hx | hx
          · have d1 : decide (s[k].toNat < 48) = true := decide_eq_true hx
            go_wp2
            go_ret2
            exact ⟨ret_2 (by rw [HR.out]) (by rw [HR.out]), by trivial⟩
          · have d1 : decide (s[k].toNat < 48) = false := decide_eq_false hx
            have d2 : decide (57 < s[k].toNat) = true := decide_eq_true (by omega)
            go_wp2
            go_ret2
            exact ⟨ret_2 (by rw [HR.out]) (by rw [HR.out]), by trivial⟩
      · have hke : (c :: t).take k = (c :: t) := List.take_of_length_le (by rw [← HDD.out]; simp; omega)
        rw [hke] at hm ha
        clear hke
        by_cases hbig : 1099511627776 < dval (c :: t)
        · have HR : Hid (parseL s.data.toList = (0, 9)) := by show _ = _; rw [HP.out]; unfold parseD; rw [if_pos ha.out, if_pos hbig]
          have hmb : 1099511627776 < m := by have := hm.out; omega
          clear hbig
          go_wp2
          go_ret2
          exact ⟨ret_2 (by rw [HR.out]) (by rw [HR.out]), by trivial⟩
        · have HR : Hid (parseL s.data.toList = ((m : Int), 0)) := by
            show _ = _; rw [HP.out]; unfold parseD; rw [if_pos ha.out, if_neg hbig, if_neg (by simp)]
            have := hm.out
            have e : dval (c :: t) = m := by omega
            rw [e]
          have hmb : m ≤ 1099511627776 := by have := hm.out; omega
          clear hbig
          go_wp2
          go_ret2
          exact ⟨ret_2 (by rw [HR.out]) (by rw [HR.out]), by trivial⟩

set_option maxHeartbeats 2000000 in
theorem parse_neg (s : ByteArray) (t : List UInt8) (w : World) (hl : s.data.toList = 45 :: t) (hz : s.size ≤ 1000000000) :
    Calls Tryd.prog 97 #[.string s] w fun e w' => e = .returned (.tuple #[.int .i64 (parseL s.data.toList).1, .int .i64 (parseL s.data.toList).2]) ∧ w = w' := by
  have hsz : s.size = t.length + 1 := by have := congrArg List.length hl; simpa using this
  have hpos : 0 < s.size := by omega
  have hs0' : s[0] = 45 := by
    have : s.data.toList[0]? = some 45 := by rw [hl]; rfl
    rw [List.getElem?_eq_getElem (by simpa using hpos)] at this
    injection this
  obtain ⟨c0, hs0, hcn⟩ : ∃ c0 : UInt8, s[0] = c0 ∧ ((c0.toNat : Int) == 45) = true := ⟨45, hs0', rfl⟩
  have hemp : s.toList.isEmpty = false := by rw [ByteArray.toList_eq, hl]; rfl
  have hq : (s.toList == [48]) = false := by rw [ByteArray.toList_eq, hl]; rfl
  obtain ⟨e1, e2⟩ := mgn_neg t
  obtain ⟨dd, hdd⟩ : ∃ dd, s.extract 1 s.size = dd := ⟨_, rfl⟩
  have hdt : dd.data.toList = t := by rw [← hdd, Lib.extract_data, hl, List.drop_one, List.tail_cons]; exact List.take_of_length_le (by omega)
  have hds : dd.size = t.length := by have := congrArg List.length hdt; simpa using this
  have hdz : dd.size ≤ 1000000000 := by omega
  have HDD := Lib.hid hdt
  have hp0 : t = [] → parseL s.data.toList = (0, 5) := fun h => by
    unfold parseL; rw [hl, e2, if_neg (by simp), if_pos h]
  have hp1 : t ≠ [] → t.head? ≠ some 48 → parseL s.data.toList = parseD true t := fun h h' => by
    unfold parseL; rw [hl, e1, e2, if_neg (by simp), if_neg h, if_neg (fun x => h' x.1)]
  have hp2 : t ≠ [] → t.head? = some 48 → parseL s.data.toList = (0, 5) := fun h h' => by
    unfold parseL; rw [hl, e2, if_neg (by simp), if_neg h, if_pos ⟨h', by simp⟩]
  have hs1 : 1 ≤ s.size := hpos
  rcases ht : t with _ | ⟨c, t'⟩
  · have hde : dd.toList.isEmpty = true := by rw [ByteArray.toList_eq, hdt, ht]; rfl
    have HP := Lib.hid (hp0 ht)
    clear hl hsz hp0 hp1 hp2 e1 e2 ht hdt hds hs0' HDD
    go_enter Tryd.func97, Tryd.ntmps97
    go_wp2
    go_ret2
    exact ⟨ret_2 (by rw [HP.out]) (by rw [HP.out]), by trivial⟩
  have hde : dd.toList.isEmpty = false := by rw [ByteArray.toList_eq, hdt, ht]; rfl
  have hdp : 0 < dd.size := by rw [hds, ht]; simp
  have hd0 : dd[0] = c := by
    have : dd.data.toList[0]? = some c := by rw [hdt, ht]; rfl
    rw [List.getElem?_eq_getElem (by simpa using hdp)] at this
    injection this
  by_cases h48 : c = 48
  · have hcc : ((c.toNat : Int) == 48) = true := ieq_t (by rw [h48]; rfl)
    have HP := Lib.hid (hp2 (by rw [ht]; simp) (by rw [ht, h48]; rfl))
    clear hl hsz hp0 hp1 hp2 e1 e2 ht hdt hds hs0' HDD h48
    go_enter Tryd.func97, Tryd.ntmps97
    go_wp2
    go_ret2
    exact ⟨ret_2 (by rw [HP.out]) (by rw [HP.out]), by trivial⟩
  · have hcc : ((c.toNat : Int) == 48) = false := ieq_f (fun e => h48 (UInt8.toNat_inj.1 (by have h48 : (48 : UInt8).toNat = 48 := rfl; omega)))
    have HP := Lib.hid (hp1 (by rw [ht]; simp) (by rw [ht]; simp [h48]))
    clear hl hsz hp0 hp1 hp2 e1 e2 ht hdt hds hs0' h48
    go_enter Tryd.func97, Tryd.ntmps97
    go_wp2
    go_loop [5, 28] (fun n i => ∃ (k : Nat) (m : Nat), k ≤ dd.size ∧ i = .int .i64 k ∧ n = .int .i64 m ∧ m ≤ 1099511627777 ∧ Hid (m = min (dval (t.take k)) 1099511627777) ∧ Hid ((t.take k).all isDig = true)) (fun _ i => dd.size - (intOf i).toNat)
    case atStart => exact ⟨0, 0, Nat.zero_le _, rfl, rfl, by omega, by show 0 = min (dval (t.take 0)) 1099511627777; rw [List.take_zero]; rfl, by show (t.take 0).all isDig = true; rw [List.take_zero]; rfl⟩
    case round =>
      obtain ⟨k, m, hk, rfl, rfl, hmc, hm, ha⟩ := hrel
      by_cases hlt : k < dd.size
      · have hDk : t[k]? = some dd[k] := by rw [← HDD.out]; exact List.getElem?_eq_getElem (by simpa using hlt)
        have hxb := UInt8.toNat_lt dd[k]
        by_cases hdig : isDig dd[k] = true
        · have hd2 := isDig_iff.1 hdig
          have HN : Hid (min (dval (t.take (k + 1))) 1099511627777 = min (10 * m + (dd[k].toNat - 48)) 1099511627777) := by
            show _ = _; rw [take_one hDk, dval_snoc, hm.out]; exact min_step _ _ _
          have HA : Hid ((t.take (k + 1)).all isDig = true) := all_take_succ ha.out hDk hdig
          obtain ⟨g1, g2⟩ := hd2
          have g3 : ((dd[k].toNat : Nat) : Int) - 48 = ((dd[k].toNat - 48 : Nat) : Int) := by omega
          have hw1 : 0 ≤ (dd[k].toNat : Int) - 48 := by omega
          have d1 : decide (dd[k].toNat < 48) = false := decide_eq_false (by omega)
          have d2 : decide (57 < dd[k].toNat) = false := decide_eq_false (by omega)
          clear hdig hDk
          by_cases hmin : 10 * m + (dd[k].toNat - 48) ≤ 1099511627777
          · have hmi : (10 : Int) * (m : Int) + ((dd[k].toNat : Int) - 48) ≤ 1099511627777 := by omega
            have HX : Hid (min (10 * m + (dd[k].toNat - 48)) 1099511627777 = 10 * m + (dd[k].toNat - 48)) := Nat.min_eq_left hmin
            have HY : 10 * m + (dd[k].toNat - 48) ≤ 1099511627777 := hmin
            clear hmin
            go_wp2
            go_round
            case rel => exact ⟨k + 1, 10 * m + (dd[k].toNat - 48), by omega, by go_num, by first | rfl | (congr 1; omega), HY, by show _ = _; rw [HN.out, HX.out], HA⟩
            case measure => simp [intOf]; omega
          · have hmi : ¬ (10 : Int) * (m : Int) + ((dd[k].toNat : Int) - 48) ≤ 1099511627777 := by omega
            have HX : Hid (min (10 * m + (dd[k].toNat - 48)) 1099511627777 = 1099511627777) := Nat.min_eq_right (by omega)
            clear hmin
            go_wp2
            go_round
            case rel => exact ⟨k + 1, 1099511627777, by omega, by go_num, by first | rfl | (congr 1; omega), Nat.le_refl _, by show _ = _; rw [HN.out, HX.out], HA⟩
            case measure => simp [intOf]; omega
        · have HB : Hid (t.all isDig = false) := all_bad hDk (by simpa using hdig)
          have HR : Hid (parseL s.data.toList = (0, 5)) := by show _ = _; rw [HP.out]; unfold parseD; rw [if_neg (by rw [HB.out]; simp)]
          have hnd : dd[k].toNat < 48 ∨ 57 < dd[k].toNat := by
            have : ¬ (48 ≤ dd[k].toNat ∧ dd[k].toNat ≤ 57) := fun h => hdig (isDig_iff.2 h)
            omega
          clear hdig hDk
          rcases Classical.em (dd[k].toNat < 48) with hx | hx
          · have d1 : decide (dd[k].toNat < 48) = true := decide_eq_true hx
            go_wp2
            go_ret2
            exact ⟨ret_2 (by rw [HR.out]) (by rw [HR.out]), by trivial⟩
          · have d1 : decide (dd[k].toNat < 48) = false := decide_eq_false hx
            have d2 : decide (57 < dd[k].toNat) = true := decide_eq_true (by omega)
            go_wp2
            go_ret2
            exact ⟨ret_2 (by rw [HR.out]) (by rw [HR.out]), by trivial⟩
      · have hke : t.take k = t := List.take_of_length_le (by rw [← HDD.out]; simp; omega)
        rw [hke] at hm ha
        clear hke
        by_cases hbig : 1099511627776 < dval t
        · have HR : Hid (parseL s.data.toList = (0, 9)) := by show _ = _; rw [HP.out]; unfold parseD; rw [if_pos ha.out, if_pos hbig]
          have hmb : 1099511627776 < m := by have := hm.out; omega
          clear hbig
          go_wp2
          go_ret2
          exact ⟨ret_2 (by rw [HR.out]) (by rw [HR.out]), by trivial⟩
        · have HR : Hid (parseL s.data.toList = (-(m : Int), 0)) := by
            show _ = _; rw [HP.out]; unfold parseD; rw [if_pos ha.out, if_neg hbig, if_pos rfl]
            have := hm.out
            have e : dval t = m := by omega
            rw [e]
          have hmb : m ≤ 1099511627776 := by have := hm.out; omega
          clear hbig
          go_wp2
          go_ret2
          exact ⟨ret_2 (by rw [HR.out]) (by rw [HR.out]), by trivial⟩

theorem parse_nil (s : ByteArray) (w : World) (hl : s.data.toList = []) :
    Calls Tryd.prog 97 #[.string s] w fun e w' => e = .returned (.tuple #[.int .i64 (parseL s.data.toList).1, .int .i64 (parseL s.data.toList).2]) ∧ w = w' := by
  have hemp : s.toList.isEmpty = true := by rw [ByteArray.toList_eq, hl]; rfl
  have HP : Hid (parseL s.data.toList = (0, 3)) := by show _ = _; rw [hl]; rfl
  clear hl
  go_enter Tryd.func97, Tryd.ntmps97
  go_wp2
  go_ret2
  exact ⟨ret_2 (by rw [HP.out]) (by rw [HP.out]), by trivial⟩
theorem parse_any (s : ByteArray) (w : World) (hz : s.size ≤ 1000000000) :
    Calls Tryd.prog 97 #[.string s] w fun e w' => e = .returned (.tuple #[.int .i64 (parseL s.data.toList).1, .int .i64 (parseL s.data.toList).2]) ∧ w = w' := by
  rcases hl : s.data.toList with _ | ⟨c, t⟩
  · have := parse_nil s w hl
    rw [hl] at this; exact this
  · by_cases hc : c = 45
    · subst hc
      have := parse_neg s t w hl hz
      rw [hl] at this; exact this
    · have := parse_pos s c t w hl hz hc
      rw [hl] at this; exact this

theorem below_grow {w : World} (n : Nat) (os : Array Obj) : Below w.heap.size w (Go.Sort.grow (w.drewN n) os) :=
  ⟨rfl, rfl, rfl, by show w.heap.size ≤ (w.heap ++ os).size; simp, fun i hi => by
    show (w.heap ++ os)[i]? = w.heap[i]?
    rw [Array.getElem?_append_left hi]⟩
def TabP (w : World) : Prop := Lib.TabIs Tryd.prog w "internal/strconv.uint64pow10" .u64 Lib.pow10Tab
set_option maxHeartbeats 400000 in
theorem text_any (n : Int) (w : World) (h0 : -9223372036854775808 ≤ n) (h1 : n ≤ 9223372036854775807) (hT : TabP w) :
    Calls Tryd.prog 34 #[.int .i64 n] w (Ret (.string ⟨(Lib.itoa n).toArray⟩) w) := by
  have HT := Lib.hid (show Lib.TabIs Tryd.prog w "internal/strconv.uint64pow10" .u64 Lib.pow10Tab from hT)
  clear hT
  go_enter Tryd.func34, Tryd.ntmps34
  go_wp2_with fail
  refine (Tryd.strconv_Itoa n h0 h1 _ HT.out).mono ?_
  rintro e w' ⟨rfl, k, os, rfl⟩
  go_wp2_with fail
  go_ret
  exact ⟨rfl, below_grow k os⟩
theorem TabP.below {w w' : World} (h : TabP w) (hb : Below w.heap.size w w') : TabP w' := by
  unfold TabP Lib.TabIs at *
  unfold World.var? at *
  have hg : Tryd.prog.globalNamed "internal/strconv.uint64pow10" = some 0 := by kernel_rfl
  rw [hg] at h ⊢
  simp only [Option.bind_some] at h ⊢
  have hlt : 0 < w.heap.size := by
    rcases Nat.lt_or_ge 0 w.heap.size with h' | h'
    · exact h'
    · rw [Array.getElem?_eq_none h'] at h; cases h
  rw [hb.block _ hlt]
  exact h
end Go.Proofs.YthfnncnmggkfaaaDoor
