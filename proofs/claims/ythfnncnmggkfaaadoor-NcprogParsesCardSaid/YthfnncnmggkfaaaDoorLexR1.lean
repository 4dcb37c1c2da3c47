/- Chapter 07: name and IsMark of the reference, and IsName, by walking their text. -/
import Derived.Test.YthfnncnmggkfaaaDoorNcParM
import Derived.Test.YthfnncnmggkfaaaDoorLexW3M
namespace Go.Proofs.YthfnncnmggkfaaaDoor
open Go Go.RowKit

set_option maxRecDepth 100000 in
set_option maxHeartbeats 4000000 in
theorem refName_any (s : ByteArray) (i : Nat) (w : World) (hs : s.size ≤ 4611686018427387904) (hi : i ≤ s.size) :
    Calls Tryd.prog 84 #[.string s, .int .i64 (i : Int)] w fun e w' => e = .returned (.int .i64 ((i + nmLen (s.data.toList.drop i) : Nat) : Int)) ∧ w = w' := by
  obtain ⟨N, hN0⟩ : ∃ N, N = nmLen (s.data.toList.drop i) := ⟨_, rfl⟩
  rw [← hN0]
  have HN0 := Lib.hid hN0
  clear hN0
  go_enter Tryd.func84, Tryd.ntmps84
  go_wp2
  go_loop [1] (fun k => ∃ m : Nat, m ≤ s.size ∧ i ≤ m ∧ k = .int .i64 m ∧ Hid (nmLen (s.data.toList.drop m) + (m - i) = N)) (fun k => s.size - (intOf k).toNat)
  case atStart => exact ⟨i, hi, Nat.le_refl _, rfl, by show _ = _; rw [HN0.out]; omega⟩
  case round =>
    obtain ⟨m, hm, him, rfl, hN⟩ := hrel
    clear HN0
    have hstep := nm_at s.data.toList m
    by_cases hlt : m < s.size
    · obtain ⟨d, u, hd, hc, hd2⟩ := drop_at (D := s.data.toList) (k := m) (by rw [size_list]; exact hlt)
      have hsm := byte_at hlt hc
      rw [hdB_lt hc] at hstep
      obtain ⟨n, hn⟩ : ∃ n, hdB s.data.toList (m + 1) = n := ⟨_, rfl⟩
      rw [hn] at hstep
      have hdb := UInt8.toNat_lt d
      have hnx : (m + 1 < s.size ∧ ∃ h : m + 1 < s.size, s[m + 1] = n) ∨ (m + 1 = s.size ∧ n = 0) := by
        rcases Nat.lt_or_ge (m + 1) s.size with h | h
        · obtain ⟨d', _, _, hc', _⟩ := drop_at (D := s.data.toList) (k := m + 1) (by rw [size_list]; exact h)
          exact .inl ⟨h, h, by rw [byte_at h hc', ← hn, hdB_lt hc']⟩
        · exact .inr ⟨by omega, by rw [← hn, hdB_end (by rw [size_list]; exact h)]⟩
      clear hd hc hd2 hn
      by_cases hb : nmB d n = true
      · rw [if_pos hb] at hstep
        have HS : Hid (nmLen (s.data.toList.drop (m + 1)) + (m + 1 - i) = N) := by have := hN.out; show _ = _; omega
        clear hstep hN
        rcases nm_split hb with h1 | ⟨h1, h2⟩ | ⟨h1, h2, h3⟩ | ⟨h1, h2, h3, h4, h5⟩
        · have e45 : ((d.toNat : Int) == 45) = false := ieq_f (by intro e; simp only [lxLet, Bool.or_eq_true, Bool.and_eq_true, decide_eq_true_eq] at h1; omega)
          clear hb hnx
          go_wp2_with (first | (go_at_call 83; refine (refLetter_any d _).mono ?_; rintro e w' ⟨rfl, rfl⟩) | (go_at_call 86; refine (refDigit_any d _).mono ?_; rintro e w' ⟨rfl, rfl⟩))
          go_round
          case rel => exact ⟨m + 1, by omega, by omega, by go_num, HS⟩
          case measure => simp [intOf] <;> omega
        · have e45 : ((d.toNat : Int) == 45) = false := ieq_f (by intro e; have := isDig_iff.1 h2; omega)
          clear hb hnx
          go_wp2_with (first | (go_at_call 83; refine (refLetter_any d _).mono ?_; rintro e w' ⟨rfl, rfl⟩) | (go_at_call 86; refine (refDigit_any d _).mono ?_; rintro e w' ⟨rfl, rfl⟩))
          go_round
          case rel => exact ⟨m + 1, by omega, by omega, by go_num, HS⟩
          case measure => simp [intOf] <;> omega
        · have e45 : ((d.toNat : Int) == 45) = false := ieq_f (by intro e; have := of_decide_eq_true h3; omega)
          clear hb hnx
          go_wp2_with (first | (go_at_call 83; refine (refLetter_any d _).mono ?_; rintro e w' ⟨rfl, rfl⟩) | (go_at_call 86; refine (refDigit_any d _).mono ?_; rintro e w' ⟨rfl, rfl⟩))
          go_round
          case rel => exact ⟨m + 1, by omega, by omega, by go_num, HS⟩
          case measure => simp [intOf] <;> omega
        · clear hb
          rcases hnx with ⟨hm1, hm2, hsn⟩ | ⟨hm1, hn0⟩
          · go_wp2_with (first | (go_at_call 83; refine (refLetter_any d _).mono ?_; rintro e w' ⟨rfl, rfl⟩) | (go_at_call 86; refine (refDigit_any d _).mono ?_; rintro e w' ⟨rfl, rfl⟩))
            go_round
            case rel => exact ⟨m + 1, by omega, by omega, by go_num, HS⟩
            case measure => simp [intOf] <;> omega
          · have hlast : ¬ (m : Int) + 1 < (s.size : Int) := by omega
            clear hm1 hn0 h5
            go_wp2_with (first | (go_at_call 83; refine (refLetter_any d _).mono ?_; rintro e w' ⟨rfl, rfl⟩) | (go_at_call 86; refine (refDigit_any d _).mono ?_; rintro e w' ⟨rfl, rfl⟩))
            go_round
            case rel => exact ⟨m + 1, by omega, by omega, by go_num, HS⟩
            case measure => simp [intOf] <;> omega
      · have hb' : nmB d n = false := by simpa using hb
        rw [if_neg hb] at hstep
        have HE : Hid (m = i + N) := by have := hN.out; show _ = _; omega
        clear hstep hN hb
        obtain ⟨h1, h2, h3, h4⟩ := nm_split2 hb'
        rcases h4 with h4 | ⟨h4, h5⟩
        · clear hb' hnx
          go_wp2_with (first | (go_at_call 83; refine (refLetter_any d _).mono ?_; rintro e w' ⟨rfl, rfl⟩) | (go_at_call 86; refine (refDigit_any d _).mono ?_; rintro e w' ⟨rfl, rfl⟩))
          go_ret
          exact ⟨ret_int (by have := HE.out; omega), by first | exact rfl | exact True.intro⟩
        · rcases hnx with ⟨hm1, hm2, hsn⟩ | ⟨hm1, hn0⟩
          · clear hb'
            go_wp2_with (first | (go_at_call 83; refine (refLetter_any d _).mono ?_; rintro e w' ⟨rfl, rfl⟩) | (go_at_call 86; refine (refDigit_any d _).mono ?_; rintro e w' ⟨rfl, rfl⟩))
            go_ret
            exact ⟨ret_int (by have := HE.out; omega), by first | exact rfl | exact True.intro⟩
          · rw [hn0] at h5; exact absurd h5 (by decide)
    · obtain rfl : m = s.size := by omega
      have HE : Hid (s.size = i + N) := by
        have := hN.out; rw [List.drop_of_length_le (by rw [size_list]; omega)] at this; show _ = _
        simp [nmLen] at this; omega
      clear hstep hN
      go_wp2_with fail
      go_ret
      exact ⟨ret_int (by have := HE.out; omega), by first | exact rfl | exact True.intro⟩
def nmAll (c : UInt8) : Bool := lxNm c || c == 45
def isNameF : List UInt8 → Bool
  | [] => false
  | c :: t => decide (t.length + 1 ≤ 16) && lxLet c && (c :: t).all nmAll
theorem isNameF_cons (c : UInt8) (t : List UInt8) : isNameF (c :: t) = (decide (t.length + 1 ≤ 16) && lxLet c && (c :: t).all nmAll) := rfl
set_option maxRecDepth 100000 in
set_option maxHeartbeats 4000000 in
theorem isName_any (s : ByteArray) (w : World) (hs : s.size ≤ 4611686018427387904) :
    Calls Tryd.prog 85 #[.string s] w fun e w' => e = .returned (.bool (isNameF s.data.toList)) ∧ w = w' := by
  cases hl : s.data.toList with
  | nil =>
    have he : s.toList.isEmpty = true := by rw [ByteArray.toList_eq, hl]; rfl
    have he2 : (s.toList == []) = true := by rw [ByteArray.toList_eq, hl]; rfl
    have he3 : s.toList = [] := by rw [ByteArray.toList_eq, hl]
    clear hl
    go_enter Tryd.func85, Tryd.ntmps85
    go_wp2_with fail
    go_ret
    exact ⟨rfl, by first | exact rfl | exact True.intro⟩
  | cons c t =>
    have he : s.toList.isEmpty = false := by rw [ByteArray.toList_eq, hl]; rfl
    have hz : s.size = t.length + 1 := by rw [← size_list, hl]; rfl
    have h0 : 0 < s.size := by omega
    have hs0 : s[0] = c := byte_at h0 (by rw [hl]; rfl)
    have HL := Lib.hid hl
    by_cases hlong : 16 < s.size
    · have HF : Hid (isNameF (c :: t) = false) := by show _ = _; rw [isNameF_cons, decide_eq_false (by omega)]; rfl
      have hgt : (16 : Int) < (s.size : Int) := by omega
      clear hl hz hlong
      go_enter Tryd.func85, Tryd.ntmps85
      go_wp2_with fail
      go_ret
      exact ⟨ret_bool HF.out.symm, by first | exact rfl | exact True.intro⟩
    have hgt : ¬ (16 : Int) < (s.size : Int) := by omega
    by_cases hlet : lxLet c = true
    · have HF : Hid (isNameF (c :: t) = s.data.toList.all nmAll) := by show _ = _; rw [isNameF_cons, decide_eq_true (by omega), hlet, hl]; rfl
      obtain ⟨B, hB⟩ : ∃ B, B = s.data.toList.all nmAll := ⟨_, rfl⟩
      rw [show isNameF (c :: t) = B from HF.out.trans hB.symm]
      have HBD := Lib.hid hB
      clear hB
      clear hl hz
      go_enter Tryd.func85, Tryd.ntmps85
      go_wp2_with (go_at_call 98; refine (r4Letter_any c _).mono ?_; rintro e w' ⟨rfl, rfl⟩)
      clear hs0
      go_loop [3] (fun k => ∃ m : Nat, m ≤ s.size ∧ k = .int .i64 m ∧ Hid ((s.data.toList.take m).all nmAll = true)) (fun k => s.size - (intOf k).toNat)
      case atStart => exact ⟨0, by omega, rfl, rfl⟩
      case round =>
        obtain ⟨m, hm, rfl, hA⟩ := hrel
        by_cases hlt : m < s.size
        · obtain ⟨d, u, hd, hc, hd2⟩ := drop_at (D := s.data.toList) (k := m) (by rw [size_list]; exact hlt)
          have hsm := byte_at hlt hc
          have hdb := UInt8.toNat_lt d
          by_cases hb : nmAll d = true
          · have HA : Hid ((s.data.toList.take (m + 1)).all nmAll = true) := all_take_succ hA.out hc hb
            have hcs : lxLet d = true ∨ (lxLet d = false ∧ isDig d = true) ∨ (lxLet d = false ∧ isDig d = false ∧ ((d.toNat : Int) != 95) = false) ∨ (lxLet d = false ∧ isDig d = false ∧ ((d.toNat : Int) != 95) = true ∧ ((d.toNat : Int) != 45) = false) := by
              unfold nmAll lxNm at hb
              rw [show (95 : UInt8) = UInt8.ofNat 95 from rfl, show (45 : UInt8) = UInt8.ofNat 45 from rfl, u8eq d 95 (by decide), u8eq d 45 (by decide)] at hb
              have e95 : ((d.toNat : Int) == ((95 : Nat) : Int)) = ((d.toNat : Int) == 95) := rfl
              have e45 : ((d.toNat : Int) == ((45 : Nat) : Int)) = ((d.toNat : Int) == 45) := rfl
              rw [e95, e45] at hb
              rw [bne, bne]
              cases h1 : lxLet d <;> cases h2 : isDig d <;> cases h3 : ((d.toNat : Int) == 95) <;> cases h4 : ((d.toNat : Int) == 45) <;> simp_all
            clear hd hc hd2 hb hA
            rcases hcs with h1 | ⟨h1, h2⟩ | ⟨h1, h2, h3⟩ | ⟨h1, h2, h3, h4⟩
            all_goals
              go_wp2_with (first | (go_at_call 98; refine (r4Letter_any d _).mono ?_; rintro e w' ⟨rfl, rfl⟩) | (go_at_call 99; refine (r4Digit_any d _).mono ?_; rintro e w' ⟨rfl, rfl⟩))
              go_round
              case rel => exact ⟨m + 1, by omega, by go_num, HA⟩
              case measure => simp [intOf] <;> omega
          · have HB : Hid (s.data.toList.all nmAll = false) := all_bad hc (by simpa using hb)
            have hcs : lxLet d = false ∧ isDig d = false ∧ ((d.toNat : Int) != 95) = true ∧ ((d.toNat : Int) != 45) = true := by
              unfold nmAll lxNm at hb
              rw [show (95 : UInt8) = UInt8.ofNat 95 from rfl, show (45 : UInt8) = UInt8.ofNat 45 from rfl, u8eq d 95 (by decide), u8eq d 45 (by decide)] at hb
              have e95 : ((d.toNat : Int) == ((95 : Nat) : Int)) = ((d.toNat : Int) == 95) := rfl
              have e45 : ((d.toNat : Int) == ((45 : Nat) : Int)) = ((d.toNat : Int) == 45) := rfl
              rw [e95, e45] at hb
              rw [bne, bne]
              cases h1 : lxLet d <;> cases h2 : isDig d <;> cases h3 : ((d.toNat : Int) == 95) <;> cases h4 : ((d.toNat : Int) == 45) <;> simp_all
            obtain ⟨h1, h2, h3, h4⟩ := hcs
            clear hd hc hd2 hb hA
            go_wp2_with (first | (go_at_call 98; refine (r4Letter_any d _).mono ?_; rintro e w' ⟨rfl, rfl⟩) | (go_at_call 99; refine (r4Digit_any d _).mono ?_; rintro e w' ⟨rfl, rfl⟩))
            go_ret
            exact ⟨ret_bool (by rw [HBD.out, HB.out]), by first | exact rfl | exact True.intro⟩
        · obtain rfl : m = s.size := by omega
          have HA : Hid (s.data.toList.all nmAll = true) := by have := hA.out; rw [List.take_of_length_le (by rw [size_list]; omega)] at this; exact this
          clear hA
          go_wp2_with fail
          go_ret
          exact ⟨ret_bool (by rw [HBD.out, HA.out]), by first | exact rfl | exact True.intro⟩
    · have hlet' : lxLet c = false := by simpa using hlet
      have HF : Hid (isNameF (c :: t) = false) := by show _ = _; rw [isNameF_cons, hlet']; simp
      clear hl hz hlet
      go_enter Tryd.func85, Tryd.ntmps85
      go_wp2_with (go_at_call 98; refine (r4Letter_any c _).mono ?_; rintro e w' ⟨rfl, rfl⟩)
      go_ret
      exact ⟨ret_bool HF.out.symm, by first | exact rfl | exact True.intro⟩
end Go.Proofs.YthfnncnmggkfaaaDoor
