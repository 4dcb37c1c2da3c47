/- The number functions of the first reference, for the chapters that lean on them: mag, Parse, Text, by walking their text. -/
import Derived.Test.YtacbmmnipedpdaaDoorChecked
import Derived.Test.YtacbmmnipedpdaaDoorNumText
import Derived.BigQuiet
import Derived.WalkSpells
import Derived.WalkLawsBesides
import Derived.Laws.IdiomStrings
import Derived.Lib.SlBytesRow
import Derived.Lib.ItoaLen
import Derived.ShutString
namespace Go.Proofs.YtacbmmnipedpdaaDoor
open Go Go.RowKit Go.ChangeShapes

theorem ret_2 {a b c d : Int} (h1 : a = c) (h2 : b = d) : Ending.returned (.tuple #[.int .i64 a, .int .i64 b]) = .returned (.tuple #[.int .i64 c, .int .i64 d]) := by rw [h1, h2]
theorem ret_u {a b : Int} (h : a = b) : Ending.returned (.int .u64 a) = .returned (.int .u64 b) := by rw [h]
theorem u64_neg {n : Int} (h0 : n < 0) (h1 : -9223372036854775808 ≤ n) : IntKind.u64.wrap n = n + 18446744073709551616 := by rw [IntKind.wrap_u64]; omega
theorem u64_negneg {n : Int} (h0 : n < 0) (h1 : -9223372036854775808 ≤ n) : IntKind.u64.wrap (-(n + 18446744073709551616)) = -n := by rw [IntKind.wrap_u64]; omega
set_option maxHeartbeats 400000 in
theorem refMag_any (n : Int) (w : World) (h0 : -9223372036854775808 ≤ n) (h1 : n ≤ 9223372036854775807) :
    Calls Tryd.prog 61 #[.int .i64 n] w fun e w' => e = .returned (.int .u64 (n.natAbs : Int)) ∧ w = w' := by
  by_cases hn : n < 0
  · have e1 := u64_neg hn h0
    have e2 := u64_negneg hn h0
    go_enter Tryd.func61, Tryd.ntmps61
    go_wp2
    go_ret
    exact ⟨ret_u (by omega), by trivial⟩
  · go_enter Tryd.func61, Tryd.ntmps61
    go_wp2
    go_ret
    exact ⟨ret_u (by omega), by trivial⟩
theorem min_step (a d c : Nat) : min (10 * a + d) c = min (10 * min a c + d) c := by omega

set_option maxHeartbeats 2000000 in
theorem refParse_pos (s : ByteArray) (c : UInt8) (t : List UInt8) (w : World) (hl : s.data.toList = c :: t) (hz : s.size ≤ 1000000000) (hc : c ≠ 45) :
    Calls Tryd.prog 94 #[.string s] w fun e w' => e = .returned (.tuple #[.int .i64 (parseL s.data.toList).1, .int .i64 (parseL s.data.toList).2]) ∧ w = w' := by
  have hsz : s.size = t.length + 1 := by have := congrArg List.length hl; simpa using this
  have hpos : 0 < s.size := by omega
  have hs0 : s[0] = c := by
    have : s.data.toList[0]? = some c := by rw [hl]; rfl
    rw [List.getElem?_eq_getElem (by simpa using hpos)] at this
    injection this
  have hemp : s.toList.isEmpty = false := by rw [ByteArray.toList_eq, hl]; rfl
  have hcn : ((c.toNat : Int) == 45) = false := ieq_f (fun e => hc (UInt8.toNat_inj.1 (by have h45 : (45 : UInt8).toNat = 45 := rfl; omega)))
  have HDD := Lib.hid hl
  obtain ⟨e1, e2⟩ := mgn_pos (s := s.data.toList) (by rw [hl]; simpa using hc)
  have hp1 : ¬ ((c :: t).head? = some 48 ∧ (c :: t) ≠ [48]) → parseL s.data.toList = parseD false (c :: t) := fun h => by
    unfold parseL; rw [e1, e2, hl, if_neg (by simp), if_neg (by simp), if_neg h]
  have hp2 : ((c :: t).head? = some 48 ∧ (c :: t) ≠ [48]) → parseL s.data.toList = (0, 5) := fun h => by
    unfold parseL; rw [e2, hl, if_neg (by simp), if_neg (by simp), if_pos h]
  by_cases h48 : c = 48
  · have hcc : ((c.toNat : Int) == 48) = true := ieq_t (by rw [h48]; rfl)
    by_cases ht : t = []
    · have hq : (s.toList == [48]) = true := by rw [ByteArray.toList_eq, hl, h48, ht]; rfl
      have HP := Lib.hid (hp1 (by rw [h48, ht]; simp))
      clear hl hsz hp1 hp2 e1 e2 h48 ht hc
      go_enter Tryd.func94, Tryd.ntmps94
      go_wp2
      go_loop [5, 6] (fun n i => ∃ (k : Nat) (m : Nat), k ≤ s.size ∧ i = .int .i64 k ∧ n = .int .i64 m ∧ m ≤ 1125899906842624 ∧ Hid (m = min (dval ((c :: t).take k)) 1125899906842624) ∧ Hid (((c :: t).take k).all isDig = true)) (fun _ i => s.size - (intOf i).toNat)
      case atStart => exact ⟨0, 0, Nat.zero_le _, rfl, rfl, by omega, by show 0 = min (dval ((c :: t).take 0)) 1125899906842624; rw [List.take_zero]; rfl, by show ((c :: t).take 0).all isDig = true; rw [List.take_zero]; rfl⟩
      case round =>
        obtain ⟨k, m, hk, rfl, rfl, hmc, hm, ha⟩ := hrel
        by_cases hlt : k < s.size
        · have hDk : (c :: t)[k]? = some s[k] := by rw [← HDD.out]; exact List.getElem?_eq_getElem (by simpa using hlt)
          have hxb := UInt8.toNat_lt s[k]
          by_cases hdig : isDig s[k] = true
          · have hd2 := isDig_iff.1 hdig
            have HN : Hid (min (dval ((c :: t).take (k + 1))) 1125899906842624 = min (10 * m + (s[k].toNat - 48)) 1125899906842624) := by
              show _ = _; rw [take_one hDk, dval_snoc, hm.out]; exact min_step _ _ _
            have HA : Hid (((c :: t).take (k + 1)).all isDig = true) := all_take_succ ha.out hDk hdig
            obtain ⟨g1, g2⟩ := hd2
            have g3 : ((s[k].toNat : Nat) : Int) - 48 = ((s[k].toNat - 48 : Nat) : Int) := by omega
            have hw1 : 0 ≤ (s[k].toNat : Int) - 48 := by omega
            have d1 : decide (s[k].toNat < 48) = false := decide_eq_false (by omega)
            have d2 : decide (57 < s[k].toNat) = false := decide_eq_false (by omega)
            clear hdig hDk
            by_cases hmin : 10 * m + (s[k].toNat - 48) ≤ 1125899906842624
            · have hmi : (10 : Int) * (m : Int) + ((s[k].toNat : Int) - 48) ≤ 1125899906842624 := by omega
              have HX : Hid (min (10 * m + (s[k].toNat - 48)) 1125899906842624 = 10 * m + (s[k].toNat - 48)) := Nat.min_eq_left hmin
              have HY : 10 * m + (s[k].toNat - 48) ≤ 1125899906842624 := hmin
              clear hmin
              go_wp2
              go_round
              case rel => exact ⟨k + 1, 10 * m + (s[k].toNat - 48), by omega, by go_num, by first | rfl | (congr 1; omega), HY, by show _ = _; rw [HN.out, HX.out], HA⟩
              case measure => simp [intOf]; omega
            · have hmi : ¬ (10 : Int) * (m : Int) + ((s[k].toNat : Int) - 48) ≤ 1125899906842624 := by omega
              have HX : Hid (min (10 * m + (s[k].toNat - 48)) 1125899906842624 = 1125899906842624) := Nat.min_eq_right (by omega)
              clear hmin
              go_wp2
              go_round
              case rel => exact ⟨k + 1, 1125899906842624, by omega, by go_num, by first | rfl | (congr 1; omega), Nat.le_refl _, by show _ = _; rw [HN.out, HX.out], HA⟩
              case measure => simp [intOf]; omega
          · have HB : Hid ((c :: t).all isDig = false) := all_bad hDk (by simpa using hdig)
            have HR : Hid (parseL s.data.toList = (0, 5)) := by show _ = _; rw [HP.out]; unfold parseD; rw [if_neg (by rw [HB.out]; simp)]
            have hnd : s[k].toNat < 48 ∨ 57 < s[k].toNat := by
              have : ¬ (48 ≤ s[k].toNat ∧ s[k].toNat ≤ 57) := fun h => hdig (isDig_iff.2 h)
              omega
            clear hdig hDk
            rcases Classical.em (s[k].toNat < 48) with hx | hx
            · have d1 : decide (s[k].toNat < 48) = true := decide_eq_true hx
              go_wp2
              go_ret2
              exact ⟨ret_2 (by rw [HR.out]) (by rw [HR.out]), by trivial⟩
            · have d1 : decide (s[k].toNat < 48) = false := decide_eq_false hx
              have d2 : decide (57 < s[k].toNat) = true := decide_eq_true (by omega)
              go_wp2
              go_ret2
              exact ⟨ret_2 (by rw [HR.out]) (by rw [HR.out]), by trivial⟩
        · have hke : (c :: t).take k = (c :: t) := List.take_of_length_le (by rw [← HDD.out]; simp; omega)
          rw [hke] at hm ha
          clear hke
          by_cases hbig : 1099511627776 < dval (c :: t)
          · have HR : Hid (parseL s.data.toList = (0, 9)) := by show _ = _; rw [HP.out]; unfold parseD; rw [if_pos ha.out, if_pos hbig]
            have hmb : 1099511627776 < m := by have := hm.out; omega
            clear hbig
            go_wp2
            go_ret2
            exact ⟨ret_2 (by rw [HR.out]) (by rw [HR.out]), by trivial⟩
          · have HR : Hid (parseL s.data.toList = ((m : Int), 0)) := by
              show _ = _; rw [HP.out]; unfold parseD; rw [if_pos ha.out, if_neg hbig, if_neg (by simp)]
              have := hm.out
              have e : dval (c :: t) = m := by omega
              rw [e]
            have hmb : m ≤ 1099511627776 := by have := hm.out; omega
            clear hbig
            go_wp2
            go_ret2
            exact ⟨ret_2 (by rw [HR.out]) (by rw [HR.out]), by trivial⟩
    · have hq : (s.toList == [48]) = false := by rw [ByteArray.toList_eq, hl, h48]; simp [ht]
      have HP := Lib.hid (hp2 (by rw [h48]; simp [ht]))
      clear hl hsz hp1 hp2 e1 e2 h48 ht hc
      go_enter Tryd.func94, Tryd.ntmps94
      go_wp2
      go_ret2
      exact ⟨ret_2 (by rw [HP.out]) (by rw [HP.out]), by trivial⟩
  · have hcc : ((c.toNat : Int) == 48) = false := ieq_f (fun e => h48 (UInt8.toNat_inj.1 (by have h48 : (48 : UInt8).toNat = 48 := rfl; omega)))
    have HP := Lib.hid (hp1 (by simp [h48]))
    clear hl hsz hp1 hp2 e1 e2 h48 hc
    go_enter Tryd.func94, Tryd.ntmps94
    go_wp2
    go_loop [5, 6] (fun n i => ∃ (k : Nat) (m : Nat), k ≤ s.size ∧ i = .int .i64 k ∧ n = .int .i64 m ∧ m ≤ 1125899906842624 ∧ Hid (m = min (dval ((c :: t).take k)) 1125899906842624) ∧ Hid (((c :: t).take k).all isDig = true)) (fun _ i => s.size - (intOf i).toNat)
    case atStart => exact ⟨0, 0, Nat.zero_le _, rfl, rfl, by omega, by show 0 = min (dval ((c :: t).take 0)) 1125899906842624; rw [List.take_zero]; rfl, by show ((c :: t).take 0).all isDig = true; rw [List.take_zero]; rfl⟩
    case round =>
      obtain ⟨k, m, hk, rfl, rfl, hmc, hm, ha⟩ := hrel
      by_cases hlt : k < s.size
      · have hDk : (c :: t)[k]? = some s[k] := by rw [← HDD.out]; exact List.getElem?_eq_getElem (by simpa using hlt)
        have hxb := UInt8.toNat_lt s[k]
        by_cases hdig : isDig s[k] = true
        · have hd2 := isDig_iff.1 hdig
          have HN : Hid (min (dval ((c :: t).take (k + 1))) 1125899906842624 = min (10 * m + (s[k].toNat - 48)) 1125899906842624) := by
            show _ = _; rw [take_one hDk, dval_snoc, hm.out]; exact min_step _ _ _
          have HA : Hid (((c :: t).take (k + 1)).all isDig = true) := all_take_succ ha.out hDk hdig
          obtain ⟨g1, g2⟩ := hd2
          have g3 : ((s[k].toNat : Nat) : Int) - 48 = ((s[k].toNat - 48 : Nat) : Int) := by omega
          have hw1 : 0 ≤ (s[k].toNat : Int) - 48 := by omega
          have d1 : decide (s[k].toNat < 48) = false := decide_eq_false (by omega)
          have d2 : decide (57 < s[k].toNat) = false := decide_eq_false (by omega)
          clear hdig hDk
          by_cases hmin : 10 * m + (s[k].toNat - 48) ≤ 1125899906842624
          · have hmi : (10 : Int) * (m : Int) + ((s[k].toNat : Int) - 48) ≤ 1125899906842624 := by omega
            have HX : Hid (min (10 * m + (s[k].toNat - 48)) 1125899906842624 = 10 * m + (s[k].toNat - 48)) := Nat.min_eq_left hmin
            have HY : 10 * m + (s[k].toNat - 48) ≤ 1125899906842624 := hmin
            clear hmin
            go_wp2
            go_round
            case rel => exact ⟨k + 1, 10 * m + (s[k].toNat - 48), by omega, by go_num, by first | rfl | (congr 1; omega), HY, by show _ = _; rw [HN.out, HX.out], HA⟩
            case measure => simp [intOf]; omega
          · have hmi : ¬ (10 : Int) * (m : Int) + ((s[k].toNat : Int) - 48) ≤ 1125899906842624 := by omega
            have HX : Hid (min (10 * m + (s[k].toNat - 48)) 1125899906842624 = 1125899906842624) := Nat.min_eq_right (by omega)
            clear hmin
            go_wp2
            go_round
            case rel => exact ⟨k + 1, 1125899906842624, by omega, by go_num, by first | rfl | (congr 1; omega), Nat.le_refl _, by show _ = _; rw [HN.out, HX.out], HA⟩
            case measure => simp [intOf]; omega
        · have HB : Hid ((c :: t).all isDig = false) := all_bad hDk (by simpa using hdig)
          have HR : Hid (parseL s.data.toList = (0, 5)) := by show _ = _; rw [HP.out]; unfold parseD; rw [if_neg (by rw [HB.out]; simp)]
          have hnd : s[k].toNat < 48 ∨ 57 < s[k].toNat := by
            have : ¬ (48 ≤ s[k].toNat ∧ s[k].toNat ≤ 57) := fun h => hdig (isDig_iff.2 h)
            omega
          clear hdig hDk
          rcases Classical.em (s[k].toNat < 48) with hx | hx
          · have d1 : decide (s[k].toNat < 48) = true := decide_eq_true hx
            go_wp2
            go_ret2
            exact ⟨ret_2 (by rw [HR.out]) (by rw [HR.out]), by trivial⟩
          · have d1 : decide (s[k].toNat < 48) = false := decide_eq_false hx
            have d2 : decide (57 < s[k].toNat) = true := decide_eq_true (by omega)
            go_wp2
            go_ret2
            exact ⟨ret_2 (by rw [HR.out]) (by rw [HR.out]), by trivial⟩
      · have hke : (c :: t).take k = (c :: t) := List.take_of_length_le (by rw [← HDD.out]; simp; omega)
        rw [hke] at hm ha
        clear hke
        by_cases hbig : 1099511627776 < dval (c :: t)
        · have HR : Hid (parseL s.data.toList = (0, 9)) := by show _ = _; rw [HP.out]; unfold parseD; rw [if_pos ha.out, if_pos hbig]
          have hmb : 1099511627776 < m := by have := hm.out; omega
          clear hbig
          go_wp2
          go_ret2
          exact ⟨ret_2 (by rw [HR.out]) (by rw [HR.out]), by trivial⟩
        · have HR : Hid (parseL s.data.toList = ((m : Int), 0)) := by
            show _ = _; rw [HP.out]; unfold parseD; rw [if_pos ha.out, if_neg hbig, if_neg (by simp)]
            have := hm.out
            have e : dval (c :: t) = m := by omega
            rw [e]
          have hmb : m ≤ 1099511627776 := by have := hm.out; omega
          clear hbig
          go_wp2
          go_ret2
          exact ⟨ret_2 (by rw [HR.out]) (by rw [HR.out]), by trivial⟩

set_option maxHeartbeats 2000000 in
theorem refParse_neg (s : ByteArray) (t : List UInt8) (w : World) (hl : s.data.toList = 45 :: t) (hz : s.size ≤ 1000000000) :
    Calls Tryd.prog 94 #[.string s] w fun e w' => e = .returned (.tuple #[.int .i64 (parseL s.data.toList).1, .int .i64 (parseL s.data.toList).2]) ∧ w = w' := by
  have hsz : s.size = t.length + 1 := by have := congrArg List.length hl; simpa using this
  have hpos : 0 < s.size := by omega
  have hs0' : s[0] = 45 := by
    have : s.data.toList[0]? = some 45 := by rw [hl]; rfl
    rw [List.getElem?_eq_getElem (by simpa using hpos)] at this
    injection this
  obtain ⟨c0, hs0, hcn⟩ : ∃ c0 : UInt8, s[0] = c0 ∧ ((c0.toNat : Int) == 45) = true := ⟨45, hs0', rfl⟩
  have hemp : s.toList.isEmpty = false := by rw [ByteArray.toList_eq, hl]; rfl
  have hq : (s.toList == [48]) = false := by rw [ByteArray.toList_eq, hl]; rfl
  obtain ⟨e1, e2⟩ := mgn_neg t
  obtain ⟨dd, hdd⟩ : ∃ dd, s.extract 1 s.size = dd := ⟨_, rfl⟩
  have hdt : dd.data.toList = t := by rw [← hdd, Lib.extract_data, hl, List.drop_one, List.tail_cons]; exact List.take_of_length_le (by omega)
  have hds : dd.size = t.length := by have := congrArg List.length hdt; simpa using this
  have hdz : dd.size ≤ 1000000000 := by omega
  have HDD := Lib.hid hdt
  have hp0 : t = [] → parseL s.data.toList = (0, 5) := fun h => by
    unfold parseL; rw [hl, e2, if_neg (by simp), if_pos h]
  have hp1 : t ≠ [] → t.head? ≠ some 48 → parseL s.data.toList = parseD true t := fun h h' => by
    unfold parseL; rw [hl, e1, e2, if_neg (by simp), if_neg h, if_neg (fun x => h' x.1)]
  have hp2 : t ≠ [] → t.head? = some 48 → parseL s.data.toList = (0, 5) := fun h h' => by
    unfold parseL; rw [hl, e2, if_neg (by simp), if_neg h, if_pos ⟨h', by simp⟩]
  have hs1 : 1 ≤ s.size := hpos
  rcases ht : t with _ | ⟨c, t'⟩
  · have hde : dd.toList.isEmpty = true := by rw [ByteArray.toList_eq, hdt, ht]; rfl
    have HP := Lib.hid (hp0 ht)
    clear hl hsz hp0 hp1 hp2 e1 e2 ht hdt hds hs0' HDD
    go_enter Tryd.func94, Tryd.ntmps94
    go_wp2
    go_ret2
    exact ⟨ret_2 (by rw [HP.out]) (by rw [HP.out]), by trivial⟩
  have hde : dd.toList.isEmpty = false := by rw [ByteArray.toList_eq, hdt, ht]; rfl
  have hdp : 0 < dd.size := by rw [hds, ht]; simp
  have hd0 : dd[0] = c := by
    have : dd.data.toList[0]? = some c := by rw [hdt, ht]; rfl
    rw [List.getElem?_eq_getElem (by simpa using hdp)] at this
    injection this
  by_cases h48 : c = 48
  · have hcc : ((c.toNat : Int) == 48) = true := ieq_t (by rw [h48]; rfl)
    have HP := Lib.hid (hp2 (by rw [ht]; simp) (by rw [ht, h48]; rfl))
    clear hl hsz hp0 hp1 hp2 e1 e2 ht hdt hds hs0' HDD h48
    go_enter Tryd.func94, Tryd.ntmps94
    go_wp2
    go_ret2
    exact ⟨ret_2 (by rw [HP.out]) (by rw [HP.out]), by trivial⟩
  · have hcc : ((c.toNat : Int) == 48) = false := ieq_f (fun e => h48 (UInt8.toNat_inj.1 (by have h48 : (48 : UInt8).toNat = 48 := rfl; omega)))
    have HP := Lib.hid (hp1 (by rw [ht]; simp) (by rw [ht]; simp [h48]))
    clear hl hsz hp0 hp1 hp2 e1 e2 ht hdt hds hs0' h48
    go_enter Tryd.func94, Tryd.ntmps94
    go_wp2
    go_loop [5, 6] (fun n i => ∃ (k : Nat) (m : Nat), k ≤ dd.size ∧ i = .int .i64 k ∧ n = .int .i64 m ∧ m ≤ 1125899906842624 ∧ Hid (m = min (dval (t.take k)) 1125899906842624) ∧ Hid ((t.take k).all isDig = true)) (fun _ i => dd.size - (intOf i).toNat)
    case atStart => exact ⟨0, 0, Nat.zero_le _, rfl, rfl, by omega, by show 0 = min (dval (t.take 0)) 1125899906842624; rw [List.take_zero]; rfl, by show (t.take 0).all isDig = true; rw [List.take_zero]; rfl⟩
    case round =>
      obtain ⟨k, m, hk, rfl, rfl, hmc, hm, ha⟩ := hrel
      by_cases hlt : k < dd.size
      · have hDk : t[k]? = some dd[k] := by rw [← HDD.out]; exact List.getElem?_eq_getElem (by simpa using hlt)
        have hxb := UInt8.toNat_lt dd[k]
        by_cases hdig : isDig dd[k] = true
        · have hd2 := isDig_iff.1 hdig
          have HN : Hid (min (dval (t.take (k + 1))) 1125899906842624 = min (10 * m + (dd[k].toNat - 48)) 1125899906842624) := by
            show _ = _; rw [take_one hDk, dval_snoc, hm.out]; exact min_step _ _ _
          have HA : Hid ((t.take (k + 1)).all isDig = true) := all_take_succ ha.out hDk hdig
          obtain ⟨g1, g2⟩ := hd2
          have g3 : ((dd[k].toNat : Nat) : Int) - 48 = ((dd[k].toNat - 48 : Nat) : Int) := by omega
          have hw1 : 0 ≤ (dd[k].toNat : Int) - 48 := by omega
          have d1 : decide (dd[k].toNat < 48) = false := decide_eq_false (by omega)
          have d2 : decide (57 < dd[k].toNat) = false := decide_eq_false (by omega)
          clear hdig hDk
          by_cases hmin : 10 * m + (dd[k].toNat - 48) ≤ 1125899906842624
          · have hmi : (10 : Int) * (m : Int) + ((dd[k].toNat : Int) - 48) ≤ 1125899906842624 := by omega
            have HX : Hid (min (10 * m + (dd[k].toNat - 48)) 1125899906842624 = 10 * m + (dd[k].toNat - 48)) := Nat.min_eq_left hmin
            have HY : 10 * m + (dd[k].toNat - 48) ≤ 1125899906842624 := hmin
            clear hmin
            go_wp2
            go_round
            case rel => exact ⟨k + 1, 10 * m + (dd[k].toNat - 48), by omega, by go_num, by first | rfl | (congr 1; omega), HY, by show _ = _; rw [HN.out, HX.out], HA⟩
            case measure => simp [intOf]; omega
          · have hmi : ¬ (10 : Int) * (m : Int) + ((dd[k].toNat : Int) - 48) ≤ 1125899906842624 := by omega
            have HX : Hid (min (10 * m + (dd[k].toNat - 48)) 1125899906842624 = 1125899906842624) := Nat.min_eq_right (by omega)
            clear hmin
            go_wp2
            go_round
            case rel => exact ⟨k + 1, 1125899906842624, by omega, by go_num, by first | rfl | (congr 1; omega), Nat.le_refl _, by show _ = _; rw [HN.out, HX.out], HA⟩
            case measure => simp [intOf]; omega
        · have HB : Hid (t.all isDig = false) := all_bad hDk (by simpa using hdig)
          have HR : Hid (parseL s.data.toList = (0, 5)) := by show _ = _; rw [HP.out]; unfold parseD; rw [if_neg (by rw [HB.out]; simp)]
          have hnd : dd[k].toNat < 48 ∨ 57 < dd[k].toNat := by
            have : ¬ (48 ≤ dd[k].toNat ∧ dd[k].toNat ≤ 57) := fun h => hdig (isDig_iff.2 h)
            omega
          clear hdig hDk
          rcases Classical.em (dd[k].toNat < 48) with hx | hx
          · have d1 : decide (dd[k].toNat < 48) = true := decide_eq_true hx
            go_wp2
            go_ret2
            exact ⟨ret_2 (by rw [HR.out]) (by rw [HR.out]), by trivial⟩
          · have d1 : decide (dd[k].toNat < 48) = false := decide_eq_false hx
            have d2 : decide (57 < dd[k].toNat) = true := decide_eq_true (by omega)
            go_wp2
            go_ret2
            exact ⟨ret_2 (by rw [HR.out]) (by rw [HR.out]), by trivial⟩
      · have hke : t.take k = t := List.take_of_length_le (by rw [← HDD.out]; simp; omega)
        rw [hke] at hm ha
        clear hke
        by_cases hbig : 1099511627776 < dval t
        · have HR : Hid (parseL s.data.toList = (0, 9)) := by show _ = _; rw [HP.out]; unfold parseD; rw [if_pos ha.out, if_pos hbig]
          have hmb : 1099511627776 < m := by have := hm.out; omega
          clear hbig
          go_wp2
          go_ret2
          exact ⟨ret_2 (by rw [HR.out]) (by rw [HR.out]), by trivial⟩
        · have HR : Hid (parseL s.data.toList = (-(m : Int), 0)) := by
            show _ = _; rw [HP.out]; unfold parseD; rw [if_pos ha.out, if_neg hbig, if_pos rfl]
            have := hm.out
            have e : dval t = m := by omega
            rw [e]
          have hmb : m ≤ 1099511627776 := by have := hm.out; omega
          clear hbig
          go_wp2
          go_ret2
          exact ⟨ret_2 (by rw [HR.out]) (by rw [HR.out]), by trivial⟩

theorem refParse_nil (s : ByteArray) (w : World) (hl : s.data.toList = []) :
    Calls Tryd.prog 94 #[.string s] w fun e w' => e = .returned (.tuple #[.int .i64 (parseL s.data.toList).1, .int .i64 (parseL s.data.toList).2]) ∧ w = w' := by
  have hemp : s.toList.isEmpty = true := by rw [ByteArray.toList_eq, hl]; rfl
  have HP : Hid (parseL s.data.toList = (0, 3)) := by show _ = _; rw [hl]; rfl
  clear hl
  go_enter Tryd.func94, Tryd.ntmps94
  go_wp2
  go_ret2
  exact ⟨ret_2 (by rw [HP.out]) (by rw [HP.out]), by trivial⟩
theorem refParse_any (s : ByteArray) (w : World) (hz : s.size ≤ 1000000000) :
    Calls Tryd.prog 94 #[.string s] w fun e w' => e = .returned (.tuple #[.int .i64 (parseL s.data.toList).1, .int .i64 (parseL s.data.toList).2]) ∧ w = w' := by
  rcases hl : s.data.toList with _ | ⟨c, t⟩
  · have := refParse_nil s w hl
    rw [hl] at this; exact this
  · by_cases hc : c = 45
    · subst hc
      have := refParse_neg s t w hl hz
      rw [hl] at this; exact this
    · have := refParse_pos s c t w hl hz hc
      rw [hl] at this; exact this

/-- the digits of what is left, none for 0. -/
def decP (m : Nat) : List UInt8 := if m = 0 then [] else Lib.decDigits m
def TextInv (M m : Nat) (s : List UInt8) : Prop := (s = [] ∧ m = M) ∨ (s ≠ [] ∧ Lib.decDigits M = decP m ++ s)
theorem text_step {M m : Nat} {s : List UInt8} (h : TextInv M m s) (hc : 0 < m ∨ s = []) : TextInv M (m / 10) (UInt8.ofNat (48 + m % 10) :: s) := by
  refine .inr ⟨by simp, ?_⟩
  rcases h with ⟨rfl, rfl⟩ | ⟨hs, h⟩
  · rw [Lib.decDigits]
    by_cases hm : m < 10
    · rw [dif_pos hm]
      have : m / 10 = 0 := by omega
      rw [this, show m % 10 = m from by omega]; rfl
    · rw [dif_neg hm]
      unfold decP
      rw [if_neg (by omega)]
  · rw [h]
    have hm : 0 < m := by
      rcases hc with hc | hc
      · exact hc
      · exact absurd hc hs
    have e : decP m = decP (m / 10) ++ [UInt8.ofNat (48 + m % 10)] := by
      unfold decP
      rw [if_neg (by omega), Lib.decDigits]
      by_cases hm : m < 10
      · rw [dif_pos hm, if_pos (by omega), show m % 10 = m from by omega]; rfl
      · rw [dif_neg hm, if_neg (by omega)]
    rw [e, List.append_assoc]; rfl
theorem text_end {M m : Nat} {s : List UInt8} (h : TextInv M m s) (h0 : m = 0) (hs : s ≠ []) : Lib.decDigits M = s := by
  rcases h with ⟨h, _⟩ | ⟨_, h⟩
  · exact absurd h hs
  · rw [h, h0]; rfl
theorem text_len {M m : Nat} {s : List UInt8} (h : TextInv M m s) (hM : M ≤ 18446744073709551615) : s.length ≤ 21 := by
  rcases h with ⟨rfl, _⟩ | ⟨_, h⟩
  · simp
  · have h1 : (Lib.decDigits M).length ≤ 20 := by
      rw [Lib.decDigits_length]
      exact Lib.nDigits_le20 M (by omega)
    rw [h, List.length_append] at h1
    omega
theorem conv_one (w : World) (z : Int) (b : UInt8) (h : (b.toNat : Int) = z) :
    (convert 61 9 (.slice (some ⟨w.heap.size, 0, none⟩) 1 1)).run Tryd.prog (w.alloc (.cells #[.int .u8 z] 5)) = .ok (.string ⟨#[b]⟩) (w.alloc (.cells #[.int .u8 z] 5)) :=
  run_convert_bytes_back _ _ _ _ _ 1 [b] Tryd.underlying61 Tryd.underlying5 Tryd.underlying9 (fun j hj => new1_cells w (.int .u8 z) 5 j _ (by
    simp at hj; subst hj; simp [h]))
theorem str_val {a b : ByteArray} (h : a = b) : Value.string a = .string b := by rw [h]
theorem ret_str {a b : ByteArray} (h : a = b) : Ending.returned (.string a) = .returned (.string b) := by rw [h]
theorem str_cons {b : UInt8} {S : ByteArray} {l : List UInt8} (h : S.data.toList = l) : (⟨#[b]⟩ ++ S : ByteArray) = ⟨(b :: l).toArray⟩ := by
  apply ByteArray.ext
  apply Array.toList_inj.1
  simp [h]
set_option maxHeartbeats 1000000 in
theorem refText_any (n : Int) (w : World) (h0 : -9223372036854775808 ≤ n) (h1 : n ≤ 9223372036854775807) :
    Calls Tryd.prog 42 #[.int .i64 n] w (Ret (.string ⟨(Lib.itoa n).toArray⟩) w) := by
  have M1 := Lib.hid (fun w => refMag_any n w h0 h1)
  have hM : n.natAbs ≤ 9223372036854775808 := by omega
  have HI : Hid (Lib.itoa n = if n < 0 then 45 :: Lib.decDigits n.natAbs else Lib.decDigits n.natAbs) := by
    show Lib.itoa n = _
    unfold Lib.itoa
    by_cases hn : n < 0
    · rw [if_pos hn, if_pos hn]
    · rw [if_neg hn, if_neg hn, show n.toNat = n.natAbs from by omega]
  generalize n.natAbs = M at *
  go_enter Tryd.func42, Tryd.ntmps42
  go_wp2_with fail
  refine (M1.out _).mono ?_
  rintro e w1 ⟨rfl, rfl⟩
  go_wp2_with fail
  go_loopw [3, 4] (fun s x W => ∃ (m : Nat) (l : List UInt8) (S : ByteArray), s = .string S ∧ Hid (S.data.toList = l) ∧ x = .int .u64 m ∧ m ≤ 9223372036854775808 ∧ Hid (TextInv M m l) ∧ Below w.heap.size w W) (fun s x _ => (intOf x).toNat + (match s with | .string S => if S.size = 0 then 1 else 0 | _ => 0))
  case atStart => exact ⟨M, [], ⟨#[]⟩, rfl, rfl, rfl, hM, .inl ⟨rfl, rfl⟩, Below.refl _ _⟩
  case round =>
    obtain ⟨m, l, S, rfl, hS, rfl, hm, hi, hb⟩ := hrel
    have hSl := text_len hi.out (by omega)
    have hSs : S.size ≤ 21 := by
      have := congrArg List.length hS.out
      have e : S.size = S.data.toList.length := by simp
      omega
    have hz := hb.size
    by_cases hc : 0 < m ∨ l = []
    · have HN := Lib.hid (text_step hi.out hc)
      have hbt : ((UInt8.ofNat (48 + m % 10)).toNat : Int) = 48 + (m : Int) % 10 := by rw [dig_nat (by omega)]; omega
      generalize hbe : UInt8.ofNat (48 + m % 10) = b at *
      have hcv := conv_one wr (48 + (m : Int) % 10) b hbt
      have HB := Lib.hid hbe
      have HBT := Lib.hid hbt
      clear hbe hbt
      have hsz : ({ data := #[b] } ++ S : ByteArray).size = 1 + S.size := by rw [ByteArray.size_append]; rfl
      rcases Classical.em (0 < m) with hp | hp
      · have d1 : decide (0 < m) = true := decide_eq_true hp
        clear hc
        have HSZ := Lib.hid hsz
        clear hsz
        go_wp2
        go_roundw
        case rel => exact ⟨m / 10, b :: l, _, rfl, by show _ = _; rw [str_cons hS.out], by go_num, by omega, HN, hb.alloc hz _⟩
        case measure =>
          show ((m : Int) / 10).toNat + (if ({ data := #[b] } ++ S : ByteArray).size = 0 then 1 else 0) < ((m : Int)).toNat + (if S.size = 0 then 1 else 0)
          rw [HSZ.out, if_neg (show ¬ 1 + S.size = 0 by omega)]
          split <;> omega
      · have hl0 : l = [] := hc.resolve_left hp
        have hm0 : m = 0 := by omega
        have he : S.toList.isEmpty = true := by rw [ByteArray.toList_eq, hS.out, hl0]; rfl
        have hS0 : S.size = 0 := by
          have := congrArg List.length hS.out
          rw [hl0] at this
          simpa using this
        have d1 : decide (0 < m) = false := decide_eq_false hp
        have HSZ := Lib.hid hsz
        have HS0 := Lib.hid hS0
        have HM0 := Lib.hid hm0
        clear hc hsz hS0 hm0 hl0
        go_wp2
        go_roundw
        case rel => exact ⟨m / 10, b :: l, _, rfl, by show _ = _; rw [str_cons hS.out], by go_num, by omega, HN, hb.alloc hz _⟩
        case measure =>
          show ((m : Int) / 10).toNat + (if ({ data := #[b] } ++ S : ByteArray).size = 0 then 1 else 0) < ((m : Int)).toNat + (if S.size = 0 then 1 else 0)
          rw [HSZ.out, if_neg (show ¬ 1 + S.size = 0 by omega), if_pos HS0.out]
          have := HM0.out
          omega
    · have hm0 : m = 0 := by rcases Nat.eq_zero_or_pos m with h | h; exact h; exact absurd (Or.inl h) hc
      have hl0 : l ≠ [] := fun h => hc (.inr h)
      have he : S.toList.isEmpty = false := by rw [ByteArray.toList_eq, hS.out]; cases l with | nil => exact absurd rfl hl0 | cons x l => rfl
      have HE := Lib.hid (text_end hi.out hm0 hl0)
      clear hc hl0
      subst hm0
      by_cases hn : n < 0
      · have hsz : ({ data := #[45] } ++ S : ByteArray).size = 1 + S.size := by rw [ByteArray.size_append]; rfl
        have HF : Hid (Lib.itoa n = 45 :: l) := by show _ = _; rw [HI.out, if_pos hn, HE.out]
        clear hsz
        go_wp2
        go_ret
        exact ⟨ret_str (by rw [HF.out, str_cons hS.out]), hb⟩
      · have HF : Hid (Lib.itoa n = l) := by show _ = _; rw [HI.out, if_neg hn, HE.out]
        go_wp2
        go_ret
        exact ⟨ret_str (by rw [HF.out, ← hS.out]), hb⟩
end Go.Proofs.YtacbmmnipedpdaaDoor
