/- Chapter 07: number and IsMark of the program, by walking their text. -/
import Derived.Test.YtacbmmnipedpdaaDoorLexW4
import Derived.Test.YtacbmmnipedpdaaDoorLexShelf
import Derived.Test.YtacbmmnipedpdaaDoorLexLawsB
namespace Go.Proofs.YtacbmmnipedpdaaDoor
open Go Go.RowKit

theorem dg_at (D : List UInt8) (k : Nat) : dgLen (D.drop k) = if isDig (hdB D k) then dgLen (D.drop (k + 1)) + 1 else 0 := by
  rcases Nat.lt_or_ge k D.length with h | h
  · obtain ⟨c, t, hd, hc, hd2⟩ := drop_at h
    rw [hd, hd2, hdB_lt hc, dgLen]
  · rw [List.drop_of_length_le h, hdB_end h, show isDig 0 = false from by decide, if_neg (by simp), dgLen]
theorem parse_dig {c : UInt8} {d : List UInt8} (h : (c :: d).all isDig = true) :
    parseL (c :: d) = if c = 48 ∧ d ≠ [] then (0, 5) else if 1099511627776 < dval (c :: d) then (0, 9) else ((dval (c :: d) : Int), 0) := by
  have hc : isDig c = true := by rw [List.all_cons, Bool.and_eq_true] at h; exact h.1
  have h45 : c ≠ 45 := by rintro rfl; exact absurd hc (by decide)
  obtain ⟨e1, e2⟩ := mgn_pos (s := c :: d) (by simpa using h45)
  unfold parseL parseD
  rw [if_neg (by simp), e1, e2, if_neg (by simp), if_pos h]
  by_cases h0 : c = 48 ∧ d ≠ []
  · rw [if_pos h0, if_pos ⟨by simp [h0.1], by simp [h0.2]⟩]
  · rw [if_neg h0, if_neg (fun hh => h0 ⟨by simpa using hh.1, fun hd => hh.2 (by rw [hd]; have := hh.1; simp at this; rw [this])⟩)]
    by_cases h2 : 1099511627776 < dval (c :: d)
    · rw [if_pos h2, if_pos h2]
    · rw [if_neg h2, if_neg h2]; rfl
theorem min_step7 (a d c : Nat) : min (10 * a + d) c = min (10 * min a c + d) c := by omega
set_option maxRecDepth 100000 in
set_option maxHeartbeats 4000000 in
theorem number_any (s : ByteArray) (i : Nat) (c0 : UInt8) (t : List UInt8) (w : World) (hs : s.size ≤ 4611686018427387904) (hd : s.data.toList.drop i = c0 :: t) (hl : lxLet c0 = false) (hg : isDig c0 = true) :
    Calls Tryd.prog 76 #[.string s, .int .i64 (i : Int)] w (Ret (oneV (lxOne (c0 :: t)) i) w) := by
  have hi : i < s.size := by
    have := congrArg List.length hd
    rw [List.length_drop, size_list, List.length_cons] at this; omega
  have hc0 : s.data.toList[i]? = some c0 := by
    have : (s.data.toList.drop i)[0]? = some c0 := by rw [hd]; rfl
    rw [List.getElem?_drop] at this; exact this
  have CA0 := Lib.hid (fun w => at_lt s i c0 w (by omega) hc0)
  have HD := Lib.hid hd
  have hfirst : dgLen (c0 :: t) = dgLen t + 1 := by rw [dgLen, if_pos hg]
  have hdl : (c0 :: t).take (dgLen (c0 :: t)) = c0 :: t.take (dgLen t) := by rw [hfirst]; rfl
  have hall := dg_all (c0 :: t)
  have hp : parseL ((c0 :: t).take (dgLen (c0 :: t))) = if c0 = 48 ∧ t.take (dgLen t) ≠ [] then (0, 5) else if 1099511627776 < dval ((c0 :: t).take (dgLen (c0 :: t))) then (0, 9) else ((dval ((c0 :: t).take (dgLen (c0 :: t))) : Int), 0) := by
    rw [hdl] at hall ⊢; exact parse_dig hall
  have htake : t.take (dgLen t) ≠ [] ↔ 1 < dgLen (c0 :: t) := by
    have := dg_le t
    rw [hfirst]
    cases hdt : dgLen t with
    | zero => simp
    | succ n =>
      cases t with
      | nil => simp [dgLen] at hdt
      | cons a b => simp
  have HO : Hid (lxOne (c0 :: t) = if (parseL ((c0 :: t).take (dgLen (c0 :: t)))).2 = 0 then (2, (c0 :: t).take (dgLen (c0 :: t)), (parseL ((c0 :: t).take (dgLen (c0 :: t)))).1, dgLen (c0 :: t), 0) else (0, [], 0, 0, (parseL ((c0 :: t).take (dgLen (c0 :: t)))).2)) := by
    show _ = _; rw [lxOne, if_neg (by rw [hl]; simp), if_pos hg]
  simp only [htake] at hp
  have HP := Lib.hid hp
  have HF : Hid (1 ≤ dgLen (c0 :: t)) := by show 1 ≤ _; omega
  have h48 : ((c0.toNat : Int) == 48) = (c0 == 48) := (u8eq c0 48 (by decide)).symm
  clear hd hl hall hdl hp hfirst htake hc0 hg
  go_enter Tryd.func76, Tryd.ntmps76
  go_wp2
  go_loop [7, 8] (fun k n => ∃ (m v : Nat), m ≤ s.size ∧ i ≤ m ∧ k = .int .i64 m ∧ n = .int .i64 v ∧ v ≤ 1099511627777 ∧ Hid (m - i + dgLen (s.data.toList.drop m) = dgLen (s.data.toList.drop i)) ∧ Hid (v = min (dval ((s.data.toList.drop i).take (m - i))) 1099511627777)) (fun k _ => s.size - (intOf k).toNat)
  case atStart => exact ⟨i, 0, by omega, Nat.le_refl _, rfl, rfl, by omega, by show _ = _; omega, by show _ = _; rw [Nat.sub_self, List.take_zero]; rfl⟩
  case round =>
    obtain ⟨m, v, hm, him, rfl, rfl, hv, hN, hV⟩ := hrel
    have hstep := dg_at s.data.toList m
    obtain ⟨d, hdm⟩ : ∃ d, hdB s.data.toList m = d := ⟨_, rfl⟩
    have CA := Lib.hid (fun w => at_hd s m w hs (by omega))
    rw [hdm] at hstep CA
    have hdb := UInt8.toNat_lt d
    by_cases hb : isDig d = true
    · have hlt : m < s.size := by
        rcases Nat.lt_or_ge m s.size with h | h
        · exact h
        · rw [hdB_end (by rw [size_list]; exact h)] at hdm
          rw [← hdm] at hb; exact absurd hb (by decide)
      have hdd : s.data.toList[m]? = some d := by
        obtain ⟨d', _, _, hd', _⟩ := drop_at (D := s.data.toList) (k := m) (by rw [size_list]; exact hlt)
        rw [hdB_lt hd'] at hdm; rw [hd', hdm]
      have hsm := byte_at hlt hdd
      rw [if_pos hb] at hstep
      have HS : Hid (m + 1 - i + dgLen (s.data.toList.drop (m + 1)) = dgLen (s.data.toList.drop i)) := by have := hN.out; show _ = _; omega
      have HV : Hid (min (dval ((s.data.toList.drop i).take (m + 1 - i))) 1099511627777 = min (10 * v + (d.toNat - 48)) 1099511627777) := by
        show _ = _
        have : (s.data.toList.drop i)[m - i]? = some d := by rw [List.getElem?_drop, show i + (m - i) = m by omega]; exact hdd
        rw [show m + 1 - i = m - i + 1 by omega, take_one this, dval_snoc, hV.out]; exact min_step7 _ _ _
      obtain ⟨g1, g2⟩ := isDig_iff.1 hb
      have g3 : ((d.toNat : Nat) : Int) - 48 = ((d.toNat - 48 : Nat) : Int) := by omega
      have hw1 : 0 ≤ (d.toNat : Int) - 48 := by omega
      clear hstep hN hV hdm hdd
      by_cases hmin : 10 * v + (d.toNat - 48) ≤ 1099511627777
      · have hmi : (10 : Int) * (v : Int) + ((d.toNat : Int) - 48) ≤ 1099511627777 := by omega
        have HX : Hid (min (10 * v + (d.toNat - 48)) 1099511627777 = 10 * v + (d.toNat - 48)) := Nat.min_eq_left hmin
        have HY : 10 * v + (d.toNat - 48) ≤ 1099511627777 := hmin
        clear hmin
        go_wp2_with (first | (go_at_call 75; refine (isDigit_any d _).mono ?_; rintro e w' ⟨rfl, rfl⟩) | (go_at_call 72; refine (CA.out _).mono ?_; rintro e w' ⟨rfl, rfl⟩))
        go_round
        case rel => exact ⟨m + 1, 10 * v + (d.toNat - 48), by omega, by omega, by go_num, by first | rfl | (congr 1; omega), HY, HS, by show _ = _; rw [HV.out, HX.out]⟩
        case measure => simp [intOf] <;> omega
      · have hmi : ¬ (10 : Int) * (v : Int) + ((d.toNat : Int) - 48) ≤ 1099511627777 := by omega
        have HX : Hid (min (10 * v + (d.toNat - 48)) 1099511627777 = 1099511627777) := Nat.min_eq_right (by omega)
        clear hmin
        go_wp2_with (first | (go_at_call 75; refine (isDigit_any d _).mono ?_; rintro e w' ⟨rfl, rfl⟩) | (go_at_call 72; refine (CA.out _).mono ?_; rintro e w' ⟨rfl, rfl⟩))
        go_round
        case rel => exact ⟨m + 1, 1099511627777, by omega, by omega, by go_num, by first | rfl | (congr 1; omega), Nat.le_refl _, HS, by show _ = _; rw [HV.out, HX.out]⟩
        case measure => simp [intOf] <;> omega
    · have hb' : isDig d = false := by simpa using hb
      rw [if_neg hb] at hstep
      have hk : m - i = dgLen (c0 :: t) := by have := hN.out; rw [HD.out] at this; omega
      have hval := hV.out
      rw [hk, HD.out] at hval
      have hF := HF.out
      generalize hD2 : dval ((c0 :: t).take (dgLen (c0 :: t))) = V at *
      have hp2 := HP.out
      clear hstep hN hV hb hdm HF
      by_cases h5 : c0 = 48 ∧ 1 < dgLen (c0 :: t)
      · rw [if_pos h5] at hp2
        have HR : Hid (oneV (lxOne (c0 :: t)) i = .tuple #[.agg #[.int .i64 0, .string ⟨#[]⟩, .int .i64 0, .int .i64 0], .int .i64 (i : Int), .int .i64 5]) := by
          show _ = _; rw [HO.out, hp2]; simp [oneV, oneX, lxV]
        have e48 : ((c0.toNat : Int) == 48) = true := by rw [h48, h5.1]; rfl
        have hgt : (i : Int) + 1 < (m : Int) := by have := h5.2; omega
        clear h5 hp2 hval hk h48 hD2 HP
        go_wp2_with (first | (go_at_call 75; refine (isDigit_any d _).mono ?_; rintro e w' ⟨rfl, rfl⟩) | (go_at_call 72; (first | (refine (CA.out _).mono ?_; rintro e w' ⟨rfl, rfl⟩; clear CA) | (refine (CA0.out _).mono ?_; rintro e w' ⟨rfl, rfl⟩))))
        rw [HR.out]
        exact bodyPost_ret (v := .tuple #[.agg #[.int .i64 0, .string ⟨#[]⟩, .int .i64 0, .int .i64 0], .int .i64 (i : Int), .int .i64 5]) (by simp [results, Tryd.results76, go_sem]) rfl ⟨rfl, (Below.refl _ _).alloc (Nat.le_refl _) _⟩
      · rw [if_neg h5] at hp2
        have hcs : ((c0.toNat : Int) == 48) = false ∨ (((c0.toNat : Int) == 48) = true ∧ ¬ (i : Int) + 1 < (m : Int)) := by
          by_cases h6 : c0 = 48
          · exact .inr ⟨by rw [h48, h6]; rfl, by have : ¬ 1 < dgLen (c0 :: t) := fun h => h5 ⟨h6, h⟩; omega⟩
          · exact .inl (by rw [h48]; simpa using h6)
        clear h5 h48
        by_cases h9 : 1099511627776 < V
        · rw [if_pos h9] at hp2
          have HR : Hid (oneV (lxOne (c0 :: t)) i = .tuple #[.agg #[.int .i64 0, .string ⟨#[]⟩, .int .i64 0, .int .i64 0], .int .i64 (i : Int), .int .i64 9]) := by
            show _ = _; rw [HO.out, hp2]; simp [oneV, oneX, lxV]
          have hgt : (1099511627776 : Int) < (v : Int) := by omega
          clear hp2 hval hk h9 hD2 HP
          rcases hcs with e48 | ⟨e48, hng⟩
          all_goals
            go_wp2_with (first | (go_at_call 75; refine (isDigit_any d _).mono ?_; rintro e w' ⟨rfl, rfl⟩) | (go_at_call 72; (first | (refine (CA.out _).mono ?_; rintro e w' ⟨rfl, rfl⟩; clear CA) | (refine (CA0.out _).mono ?_; rintro e w' ⟨rfl, rfl⟩))))
            rw [HR.out]
            exact bodyPost_ret (v := .tuple #[.agg #[.int .i64 0, .string ⟨#[]⟩, .int .i64 0, .int .i64 0], .int .i64 (i : Int), .int .i64 9]) (by simp [results, Tryd.results76, go_sem]) rfl ⟨rfl, (Below.refl _ _).alloc (Nat.le_refl _) _⟩
        · rw [if_neg h9] at hp2
          have hvV : v = V := by omega
          have HR : Hid (oneV (lxOne (c0 :: t)) i = .tuple #[.agg #[.int .i64 2, .string (s.extract i m), .int .i64 v, .int .i64 i], .int .i64 (m : Int), .int .i64 0]) := by
            show _ = _; rw [HO.out, hp2, extract_eq, HD.out, hk, hvV]; simp [oneV, oneX, lxV]; omega
          have hgt : ¬ (1099511627776 : Int) < (v : Int) := by omega
          clear hp2 hval hk h9 hD2 HP hvV
          rcases hcs with e48 | ⟨e48, hng⟩
          all_goals
            go_wp2_with (first | (go_at_call 75; refine (isDigit_any d _).mono ?_; rintro e w' ⟨rfl, rfl⟩) | (go_at_call 72; (first | (refine (CA.out _).mono ?_; rintro e w' ⟨rfl, rfl⟩; clear CA) | (refine (CA0.out _).mono ?_; rintro e w' ⟨rfl, rfl⟩))))
            rw [HR.out]
            exact bodyPost_ret (v := .tuple #[.agg #[.int .i64 2, .string (s.extract i m), .int .i64 v, .int .i64 i], .int .i64 (m : Int), .int .i64 0]) (by simp [results, Tryd.results76, go_sem]) rfl ⟨rfl, (Below.refl _ _).alloc (Nat.le_refl _) _⟩
end Go.Proofs.YtacbmmnipedpdaaDoor
