/- Chapter 07: the reference of the lexer, by walking its text. -/
import Derived.Test.YtacbmmnipedpdaaDoorLexW2
import Derived.Test.YtacbmmnipedpdaaDoorLexW8
import Derived.Laws.IdiomStrings
import Derived.Test.YtacbmmnipedpdaaDoorLexNum
import Derived.Deep.QuietTactic
import Derived.RegionTactic
namespace Go.Proofs.YtacbmmnipedpdaaDoor
open Go Go.RowKit

theorem bl_cases {c : UInt8} (h : lxBl c = true) : ((c.toNat : Int) == 32) = true ∨ (((c.toNat : Int) == 32) = false ∧ ((c.toNat : Int) == 9) = true) ∨ (((c.toNat : Int) == 32) = false ∧ ((c.toNat : Int) == 9) = false ∧ ((c.toNat : Int) == 10) = true) ∨
    (((c.toNat : Int) == 32) = false ∧ ((c.toNat : Int) == 9) = false ∧ ((c.toNat : Int) == 10) = false ∧ ((c.toNat : Int) == 13) = true) := by
  rw [lxBl_int] at h
  cases h1 : ((c.toNat : Int) == 32) <;> cases h2 : ((c.toNat : Int) == 9) <;> cases h3 : ((c.toNat : Int) == 10) <;> cases h4 : ((c.toNat : Int) == 13) <;> simp_all
theorem bl_none {c : UInt8} (h : lxBl c = false) : ((c.toNat : Int) == 32) = false ∧ ((c.toNat : Int) == 9) = false ∧ ((c.toNat : Int) == 10) = false ∧ ((c.toNat : Int) == 13) = false := by
  rw [lxBl_int] at h
  cases h1 : ((c.toNat : Int) == 32) <;> cases h2 : ((c.toNat : Int) == 9) <;> cases h3 : ((c.toNat : Int) == 10) <;> cases h4 : ((c.toNat : Int) == 13) <;> simp_all
theorem bl_not35 {c : UInt8} (h : lxBl c = true) : (c == 35) = false := by
  rw [beq_eq_false_iff_ne]; rintro rfl; exact absurd h (by decide)
set_option maxHeartbeats 2000000 in
theorem refSkip_any (s : ByteArray) (i0 : Nat) (w : World) (hs : s.size ≤ 4611686018427387904) (hi : i0 ≤ s.size) : Calls Tryd.prog 65 #[.string s, .int .i64 (i0 : Int)] w (SkipRes s i0 w) := by
  go_enter Tryd.func65, Tryd.ntmps65
  go_wp2
  go_loop [1] (fun i => ∃ k : Nat, k ≤ s.size ∧ i = .int .i64 k ∧ Hid (lxSkip false (s.data.toList.drop k) = lxSkip false (s.data.toList.drop i0))) (fun i => s.size - (intOf i).toNat)
  case atStart => exact ⟨i0, hi, rfl, rfl⟩
  case round =>
    obtain ⟨k, hk, rfl, hR⟩ := hrel
    by_cases hlt : k < s.size
    · obtain ⟨c, t, hd, hc, hd2⟩ := drop_at (D := s.data.toList) (k := k) (by rw [size_list]; exact hlt)
      have HC := Lib.hid hc
      rw [hd] at hR
      have hsk := byte_at hlt hc
      clear hc
      by_cases hb : lxBl c = true
      · have HR : Hid (lxSkip false (s.data.toList.drop (k + 1)) = lxSkip false (s.data.toList.drop i0)) := by show _ = _; rw [hd2, ← hR.out, skip_bl hb]
        have e35 : ((c.toNat : Int) == 35) = false := u8ne (k := 35) (by decide) (bl_not35 hb)
        have hbc := bl_cases hb
        clear hd hd2 hR hb
        rcases hbc with h1 | ⟨h1, h2⟩ | ⟨h1, h2, h3⟩ | ⟨h1, h2, h3, h4⟩
        all_goals
          go_wp2
          go_round
          case rel => exact ⟨k + 1, by omega, by go_num, HR⟩
          case measure => simp [intOf] <;> omega
      have hb2 : lxBl c = false := by simpa using hb
      clear hb
      by_cases h35 : (c == 35) = true
      · have e35 : ((c.toNat : Int) == 35) = true := u8yes (k := 35) (by decide) h35
        have HR : Hid (lxSkip true (s.data.toList.drop k) = lxSkip false (s.data.toList.drop i0)) := by show _ = _; rw [hd, ← hR.out, skip_rem hb2 h35]
        have HK : Hid (s.data.toList[k]? = some 35) := by show _ = _; rw [HC.out]; congr 1; simpa using h35
        clear hd hd2 hR h35 hb2
        go_wp2
        go_loop [1] (fun i => ∃ m : Nat, m ≤ s.size ∧ k ≤ m ∧ i = .int .i64 m ∧ Hid (lxSkip true (s.data.toList.drop m) = lxSkip false (s.data.toList.drop i0))) (fun i => s.size - (intOf i).toNat)
        case atStart => exact ⟨k, hk, Nat.le_refl _, rfl, HR⟩
        case round =>
          obtain ⟨m, hm, hkm, rfl, hM⟩ := hrel
          clear HR HC e35 hsk
          by_cases hlt2 : m < s.size
          · obtain ⟨d, u, hd, hc, hd2⟩ := drop_at (D := s.data.toList) (k := m) (by rw [size_list]; exact hlt2)
            rw [hd] at hM
            have HC := Lib.hid hc
            have hsm := byte_at hlt2 hc
            clear hc
            by_cases h10 : (d == 10) = true
            · have e10 : ((d.toNat : Int) == 10) = true := u8yes (k := 10) (by decide) h10
              have HR : Hid (lxSkip false (s.data.toList.drop m) = lxSkip false (s.data.toList.drop i0)) := by show _ = _; rw [hd, ← hM.out, skip_out h10]
              have hne : k < m := by
                rcases Nat.lt_or_ge k m with h | h
                · exact h
                · have e : m = k := by omega
                  have := HC.out
                  rw [e, HK.out] at this
                  injection this with this
                  rw [← this] at h10
                  exact absurd h10 (by decide)
              clear hd hd2 hM h10 HK
              go_wp2
              go_round
              case rel => exact ⟨m, hm, rfl, HR⟩
              case measure => simp [intOf] <;> omega
            · have e10 : ((d.toNat : Int) == 10) = false := u8ne (k := 10) (by decide) (by simpa using h10)
              have HR : Hid (lxSkip true (s.data.toList.drop (m + 1)) = lxSkip false (s.data.toList.drop i0)) := by show _ = _; rw [hd2, ← hM.out, skip_in (by simpa using h10)]
              clear hd hd2 hM h10 HK
              go_wp2
              go_round
              case rel => exact ⟨m + 1, by omega, by omega, by go_num, HR⟩
              case measure => simp [intOf] <;> omega
          · obtain rfl : m = s.size := by omega
            have HR : Hid (lxSkip false (s.data.toList.drop s.size) = lxSkip false (s.data.toList.drop i0)) := by
              show _ = _; rw [← hM.out, List.drop_of_length_le (by rw [size_list]; omega)]; simp [lxSkip]
            clear hM HK
            go_wp2_with fail
            go_round
            case rel => exact ⟨s.size, hm, rfl, HR⟩
            case measure => simp [intOf] <;> omega
      · have e35 : ((c.toNat : Int) == 35) = false := u8ne (k := 35) (by decide) (by simpa using h35)
        have HR : Hid (s.data.toList.drop k = lxSkip false (s.data.toList.drop i0)) := by show _ = _; rw [← hR.out, skip_same hb2 (by simpa using h35), hd]
        obtain ⟨h1, h2, h3, h4⟩ := bl_none hb2
        clear hd hd2 hR h35
        go_wp2
        go_ret
        exact ⟨k, rfl, hk, HR.out, rfl⟩
    · obtain rfl : k = s.size := by omega
      have HR : Hid (s.data.toList.drop s.size = lxSkip false (s.data.toList.drop i0)) := by
        show _ = _; rw [← hR.out, List.drop_of_length_le (by rw [size_list]; omega)]; simp [lxSkip]
      clear hR
      go_wp2_with fail
      go_ret
      exact ⟨s.size, rfl, hk, HR.out, rfl⟩
end Go.Proofs.YtacbmmnipedpdaaDoor
namespace Go.Proofs.YtacbmmnipedpdaaDoor
open Go Go.RowKit

set_option maxRecDepth 100000 in
set_option maxHeartbeats 4000000 in
theorem lxRefName_any (s : ByteArray) (i : Nat) (w : World) (hs : s.size ≤ 4611686018427387904) (hi : i ≤ s.size) :
    Calls Tryd.prog 81 #[.string s, .int .i64 (i : Int)] w fun e w' => e = .returned (.int .i64 ((i + nmLen (s.data.toList.drop i) : Nat) : Int)) ∧ w = w' := by
  obtain ⟨N, hN0⟩ : ∃ N, N = nmLen (s.data.toList.drop i) := ⟨_, rfl⟩
  rw [← hN0]
  have HN0 := Lib.hid hN0
  clear hN0
  go_enter Tryd.func81, Tryd.ntmps81
  go_wp2
  go_loop [1] (fun k => ∃ m : Nat, m ≤ s.size ∧ i ≤ m ∧ k = .int .i64 m ∧ Hid (nmLen (s.data.toList.drop m) + (m - i) = N)) (fun k => s.size - (intOf k).toNat)
  case atStart => exact ⟨i, hi, Nat.le_refl _, rfl, by show _ = _; rw [HN0.out]; omega⟩
  case round =>
    obtain ⟨m, hm, him, rfl, hN⟩ := hrel
    clear HN0
    have hstep := nm_at s.data.toList m
    by_cases hlt : m < s.size
    · obtain ⟨d, u, hd, hc, hd2⟩ := drop_at (D := s.data.toList) (k := m) (by rw [size_list]; exact hlt)
      have hsm := byte_at hlt hc
      rw [hdB_lt hc] at hstep
      obtain ⟨n, hn⟩ : ∃ n, hdB s.data.toList (m + 1) = n := ⟨_, rfl⟩
      rw [hn] at hstep
      have hdb := UInt8.toNat_lt d
      have hnx : (m + 1 < s.size ∧ ∃ h : m + 1 < s.size, s[m + 1] = n) ∨ (m + 1 = s.size ∧ n = 0) := by
        rcases Nat.lt_or_ge (m + 1) s.size with h | h
        · obtain ⟨d', _, _, hc', _⟩ := drop_at (D := s.data.toList) (k := m + 1) (by rw [size_list]; exact h)
          exact .inl ⟨h, h, by rw [byte_at h hc', ← hn, hdB_lt hc']⟩
        · exact .inr ⟨by omega, by rw [← hn, hdB_end (by rw [size_list]; exact h)]⟩
      clear hd hc hd2 hn
      by_cases hb : nmB d n = true
      · rw [if_pos hb] at hstep
        have HS : Hid (nmLen (s.data.toList.drop (m + 1)) + (m + 1 - i) = N) := by have := hN.out; show _ = _; omega
        clear hstep hN
        rcases nm_split hb with h1 | ⟨h1, h2⟩ | ⟨h1, h2, h3⟩ | ⟨h1, h2, h3, h4, h5⟩
        · have e45 : ((d.toNat : Int) == 45) = false := ieq_f (by intro e; simp only [lxLet, Bool.or_eq_true, Bool.and_eq_true, decide_eq_true_eq] at h1; omega)
          clear hb hnx
          go_wp2_with (first | (go_at_call 80; refine (refLetter_any d _).mono ?_; rintro e w' ⟨rfl, rfl⟩) | (go_at_call 82; refine (refDigit_any d _).mono ?_; rintro e w' ⟨rfl, rfl⟩))
          go_round
          case rel => exact ⟨m + 1, by omega, by omega, by go_num, HS⟩
          case measure => simp [intOf] <;> omega
        · have e45 : ((d.toNat : Int) == 45) = false := ieq_f (by intro e; have := isDig_iff.1 h2; omega)
          clear hb hnx
          go_wp2_with (first | (go_at_call 80; refine (refLetter_any d _).mono ?_; rintro e w' ⟨rfl, rfl⟩) | (go_at_call 82; refine (refDigit_any d _).mono ?_; rintro e w' ⟨rfl, rfl⟩))
          go_round
          case rel => exact ⟨m + 1, by omega, by omega, by go_num, HS⟩
          case measure => simp [intOf] <;> omega
        · have e45 : ((d.toNat : Int) == 45) = false := ieq_f (by intro e; have := of_decide_eq_true h3; omega)
          clear hb hnx
          go_wp2_with (first | (go_at_call 80; refine (refLetter_any d _).mono ?_; rintro e w' ⟨rfl, rfl⟩) | (go_at_call 82; refine (refDigit_any d _).mono ?_; rintro e w' ⟨rfl, rfl⟩))
          go_round
          case rel => exact ⟨m + 1, by omega, by omega, by go_num, HS⟩
          case measure => simp [intOf] <;> omega
        · clear hb
          rcases hnx with ⟨hm1, hm2, hsn⟩ | ⟨hm1, hn0⟩
          · go_wp2_with (first | (go_at_call 80; refine (refLetter_any d _).mono ?_; rintro e w' ⟨rfl, rfl⟩) | (go_at_call 82; refine (refDigit_any d _).mono ?_; rintro e w' ⟨rfl, rfl⟩))
            go_round
            case rel => exact ⟨m + 1, by omega, by omega, by go_num, HS⟩
            case measure => simp [intOf] <;> omega
          · have hlast : ¬ (m : Int) + 1 < (s.size : Int) := by omega
            clear hm1 hn0 h5
            go_wp2_with (first | (go_at_call 80; refine (refLetter_any d _).mono ?_; rintro e w' ⟨rfl, rfl⟩) | (go_at_call 82; refine (refDigit_any d _).mono ?_; rintro e w' ⟨rfl, rfl⟩))
            go_round
            case rel => exact ⟨m + 1, by omega, by omega, by go_num, HS⟩
            case measure => simp [intOf] <;> omega
      · have hb' : nmB d n = false := by simpa using hb
        rw [if_neg hb] at hstep
        have HE : Hid (m = i + N) := by have := hN.out; show _ = _; omega
        clear hstep hN hb
        obtain ⟨h1, h2, h3, h4⟩ := nm_split2 hb'
        rcases h4 with h4 | ⟨h4, h5⟩
        · clear hb' hnx
          go_wp2_with (first | (go_at_call 80; refine (refLetter_any d _).mono ?_; rintro e w' ⟨rfl, rfl⟩) | (go_at_call 82; refine (refDigit_any d _).mono ?_; rintro e w' ⟨rfl, rfl⟩))
          go_ret
          exact ⟨ret_int (by have := HE.out; omega), by first | exact rfl | exact True.intro⟩
        · rcases hnx with ⟨hm1, hm2, hsn⟩ | ⟨hm1, hn0⟩
          · clear hb'
            go_wp2_with (first | (go_at_call 80; refine (refLetter_any d _).mono ?_; rintro e w' ⟨rfl, rfl⟩) | (go_at_call 82; refine (refDigit_any d _).mono ?_; rintro e w' ⟨rfl, rfl⟩))
            go_ret
            exact ⟨ret_int (by have := HE.out; omega), by first | exact rfl | exact True.intro⟩
          · rw [hn0] at h5; exact absurd h5 (by decide)
    · obtain rfl : m = s.size := by omega
      have HE : Hid (s.size = i + N) := by
        have := hN.out; rw [List.drop_of_length_le (by rw [size_list]; omega)] at this; show _ = _
        simp [nmLen] at this; omega
      clear hstep hN
      go_wp2_with fail
      go_ret
      exact ⟨ret_int (by have := HE.out; omega), by first | exact rfl | exact True.intro⟩
def nmAll (c : UInt8) : Bool := lxNm c || c == 45
def lxIsNameF : List UInt8 → Bool
  | [] => false
  | c :: t => decide (t.length + 1 ≤ 16) && lxLet c && (c :: t).all nmAll
theorem isNameF_cons (c : UInt8) (t : List UInt8) : lxIsNameF (c :: t) = (decide (t.length + 1 ≤ 16) && lxLet c && (c :: t).all nmAll) := rfl
set_option maxRecDepth 100000 in
set_option maxHeartbeats 4000000 in
theorem lxIsName_any (s : ByteArray) (w : World) (hs : s.size ≤ 4611686018427387904) :
    Calls Tryd.prog 30 #[.string s] w fun e w' => e = .returned (.bool (lxIsNameF s.data.toList)) ∧ w = w' := by
  cases hl : s.data.toList with
  | nil =>
    have he : s.toList.isEmpty = true := by rw [ByteArray.toList_eq, hl]; rfl
    have he2 : (s.toList == []) = true := by rw [ByteArray.toList_eq, hl]; rfl
    have he3 : s.toList = [] := by rw [ByteArray.toList_eq, hl]
    clear hl
    go_enter Tryd.func30, Tryd.ntmps30
    go_wp2_with fail
    go_ret
    exact ⟨rfl, by first | exact rfl | exact True.intro⟩
  | cons c t =>
    have he : s.toList.isEmpty = false := by rw [ByteArray.toList_eq, hl]; rfl
    have hz : s.size = t.length + 1 := by rw [← size_list, hl]; rfl
    have h0 : 0 < s.size := by omega
    have hs0 : s[0] = c := byte_at h0 (by rw [hl]; rfl)
    have HL := Lib.hid hl
    by_cases hlong : 16 < s.size
    · have HF : Hid (lxIsNameF (c :: t) = false) := by show _ = _; rw [isNameF_cons, decide_eq_false (by omega)]; rfl
      have hgt : (16 : Int) < (s.size : Int) := by omega
      clear hl hz hlong
      go_enter Tryd.func30, Tryd.ntmps30
      go_wp2_with fail
      go_ret
      exact ⟨ret_bool HF.out.symm, by first | exact rfl | exact True.intro⟩
    have hgt : ¬ (16 : Int) < (s.size : Int) := by omega
    by_cases hlet : lxLet c = true
    · have HF : Hid (lxIsNameF (c :: t) = s.data.toList.all nmAll) := by show _ = _; rw [isNameF_cons, decide_eq_true (by omega), hlet, hl]; rfl
      obtain ⟨B, hB⟩ : ∃ B, B = s.data.toList.all nmAll := ⟨_, rfl⟩
      rw [show lxIsNameF (c :: t) = B from HF.out.trans hB.symm]
      have HBD := Lib.hid hB
      clear hB
      clear hl hz
      go_enter Tryd.func30, Tryd.ntmps30
      go_wp2_with (go_at_call 56; refine (r4Letter_any c _).mono ?_; rintro e w' ⟨rfl, rfl⟩)
      clear hs0
      go_loop [3] (fun k => ∃ m : Nat, m ≤ s.size ∧ k = .int .i64 m ∧ Hid ((s.data.toList.take m).all nmAll = true)) (fun k => s.size - (intOf k).toNat)
      case atStart => exact ⟨0, by omega, rfl, rfl⟩
      case round =>
        obtain ⟨m, hm, rfl, hA⟩ := hrel
        by_cases hlt : m < s.size
        · obtain ⟨d, u, hd, hc, hd2⟩ := drop_at (D := s.data.toList) (k := m) (by rw [size_list]; exact hlt)
          have hsm := byte_at hlt hc
          have hdb := UInt8.toNat_lt d
          by_cases hb : nmAll d = true
          · have HA : Hid ((s.data.toList.take (m + 1)).all nmAll = true) := all_take_succ hA.out hc hb
            have hcs : lxLet d = true ∨ (lxLet d = false ∧ isDig d = true) ∨ (lxLet d = false ∧ isDig d = false ∧ ((d.toNat : Int) != 95) = false) ∨ (lxLet d = false ∧ isDig d = false ∧ ((d.toNat : Int) != 95) = true ∧ ((d.toNat : Int) != 45) = false) := by
              unfold nmAll lxNm at hb
              rw [show (95 : UInt8) = UInt8.ofNat 95 from rfl, show (45 : UInt8) = UInt8.ofNat 45 from rfl, u8eq d 95 (by decide), u8eq d 45 (by decide)] at hb
              have e95 : ((d.toNat : Int) == ((95 : Nat) : Int)) = ((d.toNat : Int) == 95) := rfl
              have e45 : ((d.toNat : Int) == ((45 : Nat) : Int)) = ((d.toNat : Int) == 45) := rfl
              rw [e95, e45] at hb
              rw [bne, bne]
              cases h1 : lxLet d <;> cases h2 : isDig d <;> cases h3 : ((d.toNat : Int) == 95) <;> cases h4 : ((d.toNat : Int) == 45) <;> simp_all
            clear hd hc hd2 hb hA
            rcases hcs with h1 | ⟨h1, h2⟩ | ⟨h1, h2, h3⟩ | ⟨h1, h2, h3, h4⟩
            all_goals
              go_wp2_with (first | (go_at_call 56; refine (r4Letter_any d _).mono ?_; rintro e w' ⟨rfl, rfl⟩) | (go_at_call 57; refine (r4Digit_any d _).mono ?_; rintro e w' ⟨rfl, rfl⟩))
              go_round
              case rel => exact ⟨m + 1, by omega, by go_num, HA⟩
              case measure => simp [intOf] <;> omega
          · have HB : Hid (s.data.toList.all nmAll = false) := all_bad hc (by simpa using hb)
            have hcs : lxLet d = false ∧ isDig d = false ∧ ((d.toNat : Int) != 95) = true ∧ ((d.toNat : Int) != 45) = true := by
              unfold nmAll lxNm at hb
              rw [show (95 : UInt8) = UInt8.ofNat 95 from rfl, show (45 : UInt8) = UInt8.ofNat 45 from rfl, u8eq d 95 (by decide), u8eq d 45 (by decide)] at hb
              have e95 : ((d.toNat : Int) == ((95 : Nat) : Int)) = ((d.toNat : Int) == 95) := rfl
              have e45 : ((d.toNat : Int) == ((45 : Nat) : Int)) = ((d.toNat : Int) == 45) := rfl
              rw [e95, e45] at hb
              rw [bne, bne]
              cases h1 : lxLet d <;> cases h2 : isDig d <;> cases h3 : ((d.toNat : Int) == 95) <;> cases h4 : ((d.toNat : Int) == 45) <;> simp_all
            obtain ⟨h1, h2, h3, h4⟩ := hcs
            clear hd hc hd2 hb hA
            go_wp2_with (first | (go_at_call 56; refine (r4Letter_any d _).mono ?_; rintro e w' ⟨rfl, rfl⟩) | (go_at_call 57; refine (r4Digit_any d _).mono ?_; rintro e w' ⟨rfl, rfl⟩))
            go_ret
            exact ⟨ret_bool (by rw [HBD.out, HB.out]), by first | exact rfl | exact True.intro⟩
        · obtain rfl : m = s.size := by omega
          have HA : Hid (s.data.toList.all nmAll = true) := by have := hA.out; rw [List.take_of_length_le (by rw [size_list]; omega)] at this; exact this
          clear hA
          go_wp2_with fail
          go_ret
          exact ⟨ret_bool (by rw [HBD.out, HA.out]), by first | exact rfl | exact True.intro⟩
    · have hlet' : lxLet c = false := by simpa using hlet
      have HF : Hid (lxIsNameF (c :: t) = false) := by show _ = _; rw [isNameF_cons, hlet']; simp
      clear hl hz hlet
      go_enter Tryd.func30, Tryd.ntmps30
      go_wp2_with (go_at_call 56; refine (r4Letter_any c _).mono ?_; rintro e w' ⟨rfl, rfl⟩)
      go_ret
      exact ⟨ret_bool HF.out.symm, by first | exact rfl | exact True.intro⟩
end Go.Proofs.YtacbmmnipedpdaaDoor
namespace Go.Proofs.YtacbmmnipedpdaaDoor
open Go Go.RowKit

def OwnB (w : World) (base : Nat) (v : Value) (l : List UInt8) : Prop := w.ownsRow base 5 1 v l.length (Lib.byteCells l)
theorem ownB_snoc {w : World} {base : Nat} {v : Value} {l : List UInt8} {c : UInt8} (h : w.ownsRow base 5 1 v (l.length + 1) (Lib.byteCells l ++ [.int .u8 (c.toNat : Int)])) : OwnB w base v (l ++ [c]) := by
  unfold OwnB
  rw [List.length_append, ← bc_one]
  exact h
theorem conv_own {w : World} {base : Nat} {v : Value} {l : List UInt8} (h : OwnB w base v l) : (convert 61 9 v).run Tryd.prog w = .ok (.string ⟨l.toArray⟩) w := by
  have h0 := h
  unfold OwnB at h
  rcases h.2 with ⟨rfl, hn⟩ | ⟨g, cap, cur, rfl, hb, hh, hnc, hcm, hcs, ht⟩
  · have : l = [] := List.eq_nil_of_length_eq_zero hn
    subst this
    rw [run_convert_bytes_string w 61 9 5 none 0 0 Tryd.underlying61 Tryd.underlying5 Tryd.underlying9]
    rfl
  · exact run_convert_bytes_back w _ _ _ _ cap l Tryd.underlying61 Tryd.underlying5 Tryd.underlying9 (fun j hj => World.ownsRow.cells h0 (g := g) rfl j _ (by rw [Lib.byteCells, List.getElem?_map, List.getElem?_eq_getElem hj]; rfl))
def TextRes (t : List UInt8) (i : Nat) (w : World) (e : Ending) (w' : World) : Prop :=
  e = .returned (.tuple #[.string (if (qs t).2.2 = true then ⟨(qs t).1.toArray⟩ else ⟨#[]⟩), .int .i64 ((i : Int) + 1 + ((qs t).2.1 : Int)), .int .i64 (if (qs t).2.2 = true then 0 else 5)]) ∧ Below w.heap.size w w'
theorem pl_int {c : UInt8} (h : lxPl c = true) : ¬ (c.toNat : Int) < 32 ∧ ¬ (126 : Int) < (c.toNat : Int) ∧ ((c.toNat : Int) == 34) = false ∧ ((c.toNat : Int) != 92) = true := by
  rw [lxPl_int] at h
  rw [bne]
  cases h3 : ((c.toNat : Int) == 34) <;> cases h4 : ((c.toNat : Int) == 92) <;> simp_all
set_option maxRecDepth 100000 in
set_option maxHeartbeats 8000000 in
theorem refText7_any (s : ByteArray) (i : Nat) (c0 : UInt8) (t : List UInt8) (w : World) (hz : s.size ≤ 140737488355000) (hd : s.data.toList.drop i = c0 :: t) :
    Calls Tryd.prog 84 #[.string s, .int .i64 (i : Int)] w (TextRes t i w) := by
  have hi : i < s.size := by
    have := congrArg List.length hd
    rw [List.length_drop, size_list, List.length_cons] at this; omega
  have ht : s.data.toList.drop (i + 1) = t := by
    have := congrArg (List.drop 1) hd
    rw [List.drop_drop] at this; exact this
  obtain ⟨i0, hinf, hz0, hz1, hz2⟩ := info_parts byte_info
  have HQ0 : Hid (QRel s t i (i + 1) []) := by
    show QRel _ _ _ _ _
    unfold QRel
    rw [ht]; simp
  clear hd ht
  go_enter Tryd.func84, Tryd.ntmps84
  go_wp2
  go_loopw [7, 8] (fun o e wr => ∃ (m : Nat) (acc : List UInt8), m ≤ s.size ∧ i + 1 ≤ m ∧ e = .int .i64 m ∧ Hid (QRel s t i m acc) ∧ acc.length ≤ m ∧ OwnB wr w.heap.size o acc ∧ Below w.heap.size w wr) (fun _ e _ => s.size - (intOf e).toNat)
  case atStart => exact ⟨i + 1, [], by omega, Nat.le_refl _, by go_num, HQ0, by simp, World.ownsRow_nil _ _ _ _, Below.refl _ _⟩
  case round =>
    obtain ⟨m, acc, hm, him, rfl, hQ, hal, hown, hbw⟩ := hrel
    have hsz := hbw.size
    have hbl := Lib.byteCells_length acc
    by_cases hlt : m < s.size
    · obtain ⟨c, u, hd, hc, hd2⟩ := drop_at (D := s.data.toList) (k := m) (by rw [size_list]; exact hlt)
      have hsm := byte_at hlt hc
      have hcb := UInt8.toNat_lt c
      obtain ⟨d, hdm⟩ : ∃ d, hdB s.data.toList (m + 1) = d := ⟨_, rfl⟩
      have hud : u.headD 0 = d := by rw [← hdm]; exact (hdB_of hd2).symm
      have hnx : (∃ h : m + 1 < s.size, s[m + 1] = d) ∨ (m + 1 = s.size ∧ d = 0) := by
        rcases Nat.lt_or_ge (m + 1) s.size with h | h
        · obtain ⟨d', _, _, hc', _⟩ := drop_at (D := s.data.toList) (k := m + 1) (by rw [size_list]; exact h)
          exact .inl ⟨h, by rw [byte_at h hc', ← hdm, hdB_lt hc']⟩
        · exact .inr ⟨by omega, by rw [← hdm, hdB_end (by rw [size_list]; exact h)]⟩
      have HD := Lib.hid hd
      have HD2 := Lib.hid hd2
      have HDM := Lib.hid hdm
      have HUD := Lib.hid hud
      clear hd hd2 hdm hud hc
      by_cases h34 : (c == 34) = true
      · have e34 : ((c.toNat : Int) == 34) = true := u8yes (k := 34) (by decide) h34
        have HR : Hid ((qs t).2.2 = true ∧ (qs t).1 = acc ∧ (i : Int) + 1 + ((qs t).2.1 : Int) = (m : Int) + 1) := by
          have hq := hQ.out
          unfold QRel at hq
          have ec : c = 34 := by simpa using h34
          rw [HD.out, ec, qs_quote] at hq
          show _ ∧ _; rw [hq]; simp; omega
        have hcv := conv_own hown
        clear h34 hQ hnx
        go_wp2_with fail
        go_ret3
        obtain ⟨r1, r2, r3⟩ := HR.out
        unfold TextRes
        rw [r1, if_pos rfl, if_pos rfl, r2, r3]
        exact ⟨rfl, hbw⟩
      have h34' : (c == 34) = false := by simpa using h34
      have e34 : ((c.toNat : Int) == 34) = false := u8ne (k := 34) (by decide) h34'
      by_cases hp : lxPl c = true
      · have HQ := Lib.hid (hQ.out.pl him HD.out HD2.out hp)
        obtain ⟨p1, p2, -, p4⟩ := pl_int hp
        clear h34 h34' hQ HD HD2 HDM HUD hp hnx
        go_wp2_with (at_builtin; refine wpList_append_own _ rfl _ _ 61 rfl w.heap.size 5 i0 (.int .u8 0) 1 1 Tryd.underlying61 hinf hz0 hz1 hz2 rfl (by decide) _ _ _ rfl (World.ownsRow.alloc hown _) ⟨wr.heap.size, 0, none⟩ 1 1 [.int .u8 (c.toNat : Int)] rfl rfl (new1_cells _ _ _) (one_oneCell rfl) (by unfold maxLen; omega) (by omega) (by simp; omega) ?_)
        intro v2 w2 hown2 hg2 _
        have hown3 := ownB_snoc hown2
        have hbw2 := (hbw.alloc hsz _).grown hg2 (by simp; omega) (fun j hj => (World.ownsRow.lt hown j hj).1)
        clear hown2 hg2
        go_wp2_with fail
        go_roundw
        case rel => exact ⟨m + 1, acc ++ [c], by omega, by omega, by go_num, HQ, by simp; omega, hown3, hbw2⟩
        case measure => simp [intOf] <;> omega
      have hp' : lxPl c = false := by simpa using hp
      have hpc : (c.toNat : Int) < 32 ∨ (¬ (c.toNat : Int) < 32 ∧ (126 : Int) < (c.toNat : Int)) ∨ (¬ (c.toNat : Int) < 32 ∧ ¬ (126 : Int) < (c.toNat : Int) ∧ ((c.toNat : Int) == 92) = true) := by
        rw [lxPl_int, e34] at hp'
        cases h4 : ((c.toNat : Int) == 92)
        · rw [h4] at hp'
          simp at hp'
          omega
        · have := of_decide_eq_true h4
          exact .inr (.inr ⟨by omega, by omega, rfl⟩)
      have hbadE : qs (c :: u) = ([], 0, false) → Hid ((qs t).2.2 = false ∧ (i : Int) + 1 + ((qs t).2.1 : Int) = (m : Int)) := fun hbad => by
        have hq := hQ.out
        unfold QRel at hq
        rw [HD.out, hbad] at hq
        show _ ∧ _; rw [hq]; simp; omega
      rcases hpc with p1 | ⟨p1, p2⟩ | ⟨p1, p2, h92i⟩
      · have h92 : (c == 92) = false := by rw [beq_eq_false_iff_ne]; rintro rfl; exact absurd p1 (by decide)
        have HR := hbadE (qs_bad (u := u) h34' hp' (.inl h92))
        clear h34 h34' hQ HD HD2 HDM HUD hp hp' hnx hbadE h92
        go_wp2_with fail
        go_ret3
        obtain ⟨r1, r2⟩ := HR.out
        unfold TextRes
        rw [r1, if_neg (by simp), if_neg (by simp), r2]
        exact ⟨rfl, hbw⟩
      · have h92 : (c == 92) = false := by rw [beq_eq_false_iff_ne]; rintro rfl; exact absurd p2 (by decide)
        have HR := hbadE (qs_bad (u := u) h34' hp' (.inl h92))
        clear h34 h34' hQ HD HD2 HDM HUD hp hp' hnx hbadE h92
        go_wp2_with fail
        go_ret3
        obtain ⟨r1, r2⟩ := HR.out
        unfold TextRes
        rw [r1, if_neg (by simp), if_neg (by simp), r2]
        exact ⟨rfl, hbw⟩
      · have h92 : (c == 92) = true := by
          have := of_decide_eq_true h92i
          have e : c = 92 := UInt8.toNat_inj.1 (by have h92n : (92 : UInt8).toNat = 92 := rfl; omega)
          rw [e]; rfl
        have e92 : ((c.toNat : Int) != 92) = false := by rw [bne, h92i]; rfl
        rcases hnx with ⟨hm1, hsn⟩ | ⟨hm1, hd0⟩
        · have hdb := UInt8.toNat_lt d
          have hl1 : ((m : Int) + 1 == (s.size : Int)) = false := ieq_f (by omega)
          have hl2 : (m + 1 == s.size) = false := by simp; omega
          by_cases g34 : (d == 34) = true
          · have ed : ((d.toNat : Int) != 34) = false := by rw [bne, show ((d.toNat : Int) == 34) = true from u8yes (k := 34) (by decide) g34]; rfl
            have ed2 : ((d.toNat : Int) == 110) = false := ieq_f (by have := of_decide_eq_true (u8yes (k := 34) (by decide) g34); omega)
            have hd0 : d ≠ 0 := by rintro rfl; exact absurd g34 (by decide)
            have HQ := Lib.hid (hQ.out.two him HD.out (drop_hd HDM.out hd0) HD2.out h92 (by rw [g34]; rfl))
            clear h34 h34' hQ HD HD2 HDM HUD hp hp' hbadE h92 g34 hd0 h92i
            go_wp2_with (at_builtin; refine wpList_append_own _ rfl _ _ 61 rfl w.heap.size 5 i0 (.int .u8 0) 1 1 Tryd.underlying61 hinf hz0 hz1 hz2 rfl (by decide) _ _ _ rfl (World.ownsRow.alloc hown _) ⟨wr.heap.size, 0, none⟩ 1 1 [.int .u8 (d.toNat : Int)] rfl rfl (new1_cells _ _ _) (one_oneCell rfl) (by unfold maxLen; omega) (by omega) (by simp; omega) ?_)
            intro v2 w2 hown2 hg2 _
            have hown3 := ownB_snoc hown2
            have hbw2 := (hbw.alloc hsz _).grown hg2 (by simp; omega) (fun j hj => (World.ownsRow.lt hown j hj).1)
            clear hown2 hg2
            go_wp2_with fail
            go_roundw
            case rel => exact ⟨m + 1 + 1, acc ++ [d], by omega, by omega, by go_num, HQ, by simp; omega, hown3, hbw2⟩
            case measure => simp [intOf] <;> omega
          have e34d : ((d.toNat : Int) != 34) = true := by rw [bne, show ((d.toNat : Int) == 34) = false from u8ne (k := 34) (by decide) (by simpa using g34)]; rfl
          by_cases g92 : (d == 92) = true
          · have ed : ((d.toNat : Int) != 92) = false := by rw [bne, show ((d.toNat : Int) == 92) = true from u8yes (k := 92) (by decide) g92]; rfl
            have ed2 : ((d.toNat : Int) == 110) = false := ieq_f (by have := of_decide_eq_true (u8yes (k := 92) (by decide) g92); omega)
            have hd0 : d ≠ 0 := by rintro rfl; exact absurd g92 (by decide)
            have HQ := Lib.hid (hQ.out.two him HD.out (drop_hd HDM.out hd0) HD2.out h92 (by rw [g92]; simp))
            clear h34 h34' hQ HD HD2 HDM HUD hp hp' hbadE h92 g34 g92 hd0 h92i
            go_wp2_with (at_builtin; refine wpList_append_own _ rfl _ _ 61 rfl w.heap.size 5 i0 (.int .u8 0) 1 1 Tryd.underlying61 hinf hz0 hz1 hz2 rfl (by decide) _ _ _ rfl (World.ownsRow.alloc hown _) ⟨wr.heap.size, 0, none⟩ 1 1 [.int .u8 (d.toNat : Int)] rfl rfl (new1_cells _ _ _) (one_oneCell rfl) (by unfold maxLen; omega) (by omega) (by simp; omega) ?_)
            intro v2 w2 hown2 hg2 _
            have hown3 := ownB_snoc hown2
            have hbw2 := (hbw.alloc hsz _).grown hg2 (by simp; omega) (fun j hj => (World.ownsRow.lt hown j hj).1)
            clear hown2 hg2
            go_wp2_with fail
            go_roundw
            case rel => exact ⟨m + 1 + 1, acc ++ [d], by omega, by omega, by go_num, HQ, by simp; omega, hown3, hbw2⟩
            case measure => simp [intOf] <;> omega
          have e92d : ((d.toNat : Int) != 92) = true := by rw [bne, show ((d.toNat : Int) == 92) = false from u8ne (k := 92) (by decide) (by simpa using g92)]; rfl
          by_cases g110 : (d == 110) = true
          · have ed : ((d.toNat : Int) != 110) = false := by rw [bne, show ((d.toNat : Int) == 110) = true from u8yes (k := 110) (by decide) g110]; rfl
            have ed2 : ((d.toNat : Int) == 110) = true := u8yes (k := 110) (by decide) g110
            have hd0 : d ≠ 0 := by rintro rfl; exact absurd g110 (by decide)
            have HQ := Lib.hid (hQ.out.n him HD.out (drop_hd HDM.out hd0) HD2.out h92 g110)
            clear h34 h34' hQ HD HD2 HDM HUD hp hp' hbadE h92 g34 g92 g110 hd0 h92i
            go_wp2_with (at_builtin; refine wpList_append_own _ rfl _ _ 61 rfl w.heap.size 5 i0 (.int .u8 0) 1 1 Tryd.underlying61 hinf hz0 hz1 hz2 rfl (by decide) _ _ _ rfl (World.ownsRow.alloc hown _) ⟨wr.heap.size, 0, none⟩ 1 1 [.int .u8 10] rfl rfl (new1_cells _ _ _) (one_oneCell rfl) (by unfold maxLen; omega) (by omega) (by simp; omega) ?_)
            intro v2 w2 hown2 hg2 _
            have hown3 := ownB_snoc (c := 10) hown2
            have hbw2 := (hbw.alloc hsz _).grown hg2 (by simp; omega) (fun j hj => (World.ownsRow.lt hown j hj).1)
            clear hown2 hg2
            go_wp2_with fail
            go_roundw
            case rel => exact ⟨m + 1 + 1, acc ++ [10], by omega, by omega, by go_num, HQ, by simp; omega, hown3, hbw2⟩
            case measure => simp [intOf] <;> omega
          · have e110d : ((d.toNat : Int) != 110) = true := by rw [bne, show ((d.toNat : Int) == 110) = false from u8ne (k := 110) (by decide) (by simpa using g110)]; rfl
            have HR := hbadE (qs_bad (u := u) h34' hp' (.inr ⟨by rw [HUD.out]; simpa using g34, by rw [HUD.out]; simpa using g92, by rw [HUD.out]; simpa using g110⟩))
            clear h34 h34' hQ HD HD2 HDM HUD hp hp' hbadE h92 g34 g92 g110 h92i
            go_wp2_with fail
            go_ret3
            obtain ⟨r1, r2⟩ := HR.out
            unfold TextRes
            rw [r1, if_neg (by simp), if_neg (by simp), r2]
            exact ⟨rfl, hbw⟩
        · have HR := hbadE (qs_bad (u := u) h34' hp' (.inr ⟨by rw [HUD.out, hd0]; rfl, by rw [HUD.out, hd0]; rfl, by rw [HUD.out, hd0]; rfl⟩))
          have hl1 : ((m : Int) + 1 == (s.size : Int)) = true := ieq_t (by omega)
          have hl2 : (m + 1 == s.size) = true := by simp; omega
          clear h34 h34' hQ HD HD2 HDM HUD hp hp' hbadE h92 h92i hm1 hd0
          go_wp2_with fail
          go_ret3
          obtain ⟨r1, r2⟩ := HR.out
          unfold TextRes
          rw [r1, if_neg (by simp), if_neg (by simp), r2]
          exact ⟨rfl, hbw⟩
    · obtain rfl : m = s.size := by omega
      have HR : Hid ((qs t).2.2 = false ∧ (i : Int) + 1 + ((qs t).2.1 : Int) = (s.size : Int)) := by
        have hq := hQ.out
        unfold QRel at hq
        rw [List.drop_of_length_le (by rw [size_list]; omega), qs] at hq
        show _ ∧ _; rw [hq]; simp; omega
      clear hQ
      go_wp2_with fail
      go_ret3
      obtain ⟨r1, r2⟩ := HR.out
      unfold TextRes
      rw [r1, if_neg (by simp), if_neg (by simp), r2]
      exact ⟨rfl, hbw⟩
end Go.Proofs.YtacbmmnipedpdaaDoor
namespace Go.Proofs.YtacbmmnipedpdaaDoor
open Go Go.RowKit

set_option maxRecDepth 100000 in
set_option maxHeartbeats 2000000 in
theorem refIsMark_any (s : ByteArray) (w : World) (hs : s.size ≤ 4611686018427387904) : Calls Tryd.prog 85 #[.string s] w fun e w' => e = .returned (.bool (isMkF s.data.toList)) ∧ Qt w w' := by
  by_cases h1 : s.data.toList = [45, 62]
  · have e1 : (s.toList == [45, 62]) = true := by rw [ByteArray.toList_eq, h1]; rfl
    have HR : Hid (isMkF s.data.toList = true) := by show _ = _; unfold isMkF; rw [h1]; rfl
    clear h1
    go_enter Tryd.func85, Tryd.ntmps85
    go_wp2_with fail
    go_ret
    exact ⟨ret_bool HR.out.symm, Qt.refl _⟩
  have e1 : (s.toList == [45, 62]) = false := by rw [ByteArray.toList_eq]; exact beq_eq_false_iff_ne.2 h1
  by_cases h2 : s.size = 1
  · obtain ⟨c, hc⟩ : ∃ c, s = ⟨#[c]⟩ := by
      obtain ⟨⟨l⟩⟩ := s
      match l, h2 with
      | [c], _ => exact ⟨c, rfl⟩
    have HR : Hid (isMkF s.data.toList = lxMk c) := by subst hc; show _ = _; unfold isMkF; rw [beq_eq_false_iff_ne.2 h1]; rfl
    have h0 : 0 < s.size := by omega
    have hs0 : s[0] = c := byte_at h0 (by rw [hc]; rfl)
    have e2 : ((s.size : Int) != 1) = false := ine_f (by omega)
    have e3 : (s.size != 1) = false := by simp [h2]
    rw [HR.out]
    obtain ⟨B, hB⟩ : ∃ B, B = lxMk c := ⟨_, rfl⟩
    rw [← hB]
    have HB := Lib.hid hB
    clear hc h1 h2 hB
    go_enter Tryd.func85, Tryd.ntmps85
    go_wp2_with fail
    obtain ⟨M, hMM⟩ : ∃ M : ByteArray, M = ⟨#[123, 125, 40, 41, 91, 93, 44, 59, 58, 61, 43, 45, 42, 47, 46]⟩ := ⟨_, rfl⟩
    rw [← hMM]
    have hM : M.size = 15 := by rw [hMM]; rfl
    have hL : Hid (M.data.toList = lxMks) := by show _ = _; rw [hMM]; rfl
    clear hMM
    have HM := Lib.hid hM
    clear hM
    go_loopw [4] (fun k wr => ∃ (m : Nat), k = .int .i64 m ∧ m ≤ 15 ∧ Hid ((lxMks.take m).contains c = false) ∧ Qt w wr) (fun k _ => 15 - (intOf k).toNat)
    case atStart => exact ⟨0, rfl, by omega, by rfl, Qt.refl _⟩
    case round =>
      obtain ⟨m, rfl, hm, hN, hq⟩ := hrel
      have hM := HM.out
      by_cases hlt : m < 15
      · have hltM : m < M.size := by omega
        obtain ⟨x, hx⟩ : ∃ x, lxMks[m]? = some x := ⟨_, List.getElem?_eq_getElem hlt⟩
        have hMx : M[m] = x := byte_at hltM (by rw [hL.out]; exact hx)
        have ht : lxMks.take (m + 1) = lxMks.take m ++ [x] := take_one hx
        have hcon : ∀ b, (c == x) = b → (lxMks.take (m + 1)).contains c = b := fun b hb => by
          have h3 := hN.out
          rw [ht, List.contains_eq_mem] at *
          simp at h3 ⊢
          rw [← hb]
          by_cases h4 : c = x
          · simp [h4]
          · simp [h3, h4]
        by_cases hcx : c = x
        · have hin : lxMk c = true := by
            unfold lxMk
            rw [List.contains_eq_mem, decide_eq_true_eq, hcx]
            exact List.mem_of_getElem? hx
          have HT : Hid (B = true) := by show _ = _; rw [HB.out, hin]
          have q1 : (x.toNat == c.toNat) = true := by rw [hcx]; simp
          have q2 : ((x.toNat : Int) == (c.toNat : Int)) = true := by rw [hcx]; simp
          clear hM hx ht hcon hin hcx hlt hN
          go_wp2_with fail
          go_quiet (fail)
          go_wp2_with fail
          go_ret
          exact ⟨ret_bool HT.out.symm, hq.drewN _⟩
        · have HN := Lib.hid (hcon false (by simpa using hcx))
          have hne : x.toNat ≠ c.toNat := fun e => hcx (UInt8.toNat_inj.1 e.symm)
          have q1 : (x.toNat == c.toNat) = false := by simpa using hne
          have q2 : ((x.toNat : Int) == (c.toNat : Int)) = false := ieq_f (by omega)
          clear hM hx ht hcon hcx hN hne
          go_wp2_with fail
          go_quiet (fail)
          go_wp2_with fail
          go_roundw
          case rel => exact ⟨m + 1, by go_num, by omega, HN, hq.drewN _⟩
          case measure => simp [intOf] <;> omega
      · obtain rfl : m = 15 := by omega
        have HT : Hid (B = false) := by show _ = _; rw [HB.out]; have := hN.out; rw [List.take_of_length_le (by decide)] at this; exact this
        have hltM : ¬ (15 : Int) < (M.size : Int) := by omega
        have hltM2 : ¬ 15 < M.size := by omega
        clear hM hN
        go_wp2_with fail
        go_ret
        exact ⟨ret_bool HT.out.symm, hq⟩
  · have e2 : ((s.size : Int) != 1) = true := ine_t (by omega)
    have e3 : (s.size != 1) = true := by simpa using h2
    have HR : Hid (isMkF s.data.toList = false) := by
      show _ = _; unfold isMkF; rw [beq_eq_false_iff_ne.2 h1]
      have hl := size_list s
      match hm : s.data.toList with
      | [] => rfl
      | [c] => rw [hm] at hl; simp at hl; omega
      | a :: b :: r => rfl
    clear h1 h2
    go_enter Tryd.func85, Tryd.ntmps85
    go_wp2_with fail
    go_ret
    exact ⟨ret_bool HR.out.symm, Qt.refl _⟩
def NumRes (d : List UInt8) (i : Nat) (w : World) (e : Ending) (w' : World) : Prop :=
  e = .returned (.tuple #[.agg #[.int .i64 2, .string ⟨(d.take (dgLen d)).toArray⟩, .int .i64 (parseL (d.take (dgLen d))).1, .int .i64 (i : Int)], .int .i64 (parseL (d.take (dgLen d))).2]) ∧ Below w.heap.size w w'
set_option maxRecDepth 100000 in
set_option maxHeartbeats 2000000 in
theorem refNumber7_any (s : ByteArray) (i : Nat) (w : World) (hz : s.size ≤ 1000000000) (hi : i ≤ s.size) :
    Calls Tryd.prog 83 #[.string s, .int .i64 (i : Int)] w (NumRes (s.data.toList.drop i) i w) := by
  go_enter Tryd.func83, Tryd.ntmps83
  go_wp2
  go_loop [6] (fun k => ∃ m : Nat, m ≤ s.size ∧ i ≤ m ∧ k = .int .i64 m ∧ Hid (m - i + dgLen (s.data.toList.drop m) = dgLen (s.data.toList.drop i))) (fun k => s.size - (intOf k).toNat)
  case atStart => exact ⟨i, hi, Nat.le_refl _, rfl, by show _ = _; omega⟩
  case round =>
    obtain ⟨m, hm, him, rfl, hN⟩ := hrel
    have hstep := dg_at s.data.toList m
    have hexit : dgLen (s.data.toList.drop m) = 0 → Hid ((s.data.toList.drop i).take (dgLen (s.data.toList.drop i)) = (s.extract i m).data.toList) := fun h => by
      have := hN.out; show _ = _; rw [extract_list]; congr 1; omega
    by_cases hb : m < s.size ∧ isDig (hdB s.data.toList m) = true
    · obtain ⟨hlt, hb⟩ := hb
      obtain ⟨c, u, hd, hc, hd2⟩ := drop_at (D := s.data.toList) (k := m) (by rw [size_list]; exact hlt)
      have hsm := byte_at hlt hc
      rw [hdB_lt hc] at hb hstep
      rw [if_pos hb] at hstep
      have HS : Hid (m + 1 - i + dgLen (s.data.toList.drop (m + 1)) = dgLen (s.data.toList.drop i)) := by have := hN.out; show _ = _; omega
      clear hstep hN hd hc hd2 hexit
      go_wp2_with (go_at_call 82; refine (refDigit_any c _).mono ?_; rintro e w' ⟨rfl, rfl⟩)
      go_round
      case rel => exact ⟨m + 1, by omega, by omega, by go_num, HS⟩
      case measure => simp [intOf] <;> omega
    · have h0 : dgLen (s.data.toList.drop m) = 0 := by
        rcases Nat.lt_or_ge m s.size with h | h
        · rw [hstep, if_neg (fun h2 => hb ⟨h, h2⟩)]
        · rw [List.drop_of_length_le (by rw [size_list]; exact h)]; rfl
      have HX := hexit h0
      have CP := Lib.hid (fun w => refParse_any (s.extract i m) w (by rw [← size_list, extract_list, List.length_take, List.length_drop, size_list]; omega))
      rw [← HX.out] at CP
      have hxe : s.extract i m = ⟨((s.data.toList.drop i).take (dgLen (s.data.toList.drop i))).toArray⟩ := by rw [HX.out]
      have HXE := Lib.hid hxe
      have hcs : m = s.size ∨ ∃ (h : m < s.size) (c : UInt8), s[m] = c ∧ isDig c = false := by
        rcases Nat.lt_or_ge m s.size with h | h
        · obtain ⟨c, u, hd, hc, hd2⟩ := drop_at (D := s.data.toList) (k := m) (by rw [size_list]; exact h)
          exact .inr ⟨h, c, byte_at h hc, by
            cases hdg : isDig c with
            | false => rfl
            | true => exact absurd ⟨h, by rw [hdB_lt hc]; exact hdg⟩ hb⟩
        · exact .inl (by omega)
      obtain ⟨p, hp⟩ : ∃ p, parseL ((s.data.toList.drop i).take (dgLen (s.data.toList.drop i))) = p := ⟨_, rfl⟩
      rw [hp] at CP
      obtain ⟨p1, p2⟩ := p
      have HP := Lib.hid hp
      clear hp
      clear hstep hN hexit hb h0 hxe HX
      rcases hcs with rfl | ⟨hlt, c, hsc, hdg⟩
      · go_wp2_with fail
        refine (CP.out _).mono ?_
        rintro e w1 ⟨rfl, rfl⟩
        go_wp2_with fail
        exact bodyPost_ret (v := .tuple #[.agg #[.int .i64 2, .string (s.extract i s.size), .int .i64 p1, .int .i64 i], .int .i64 p2]) (by simp [results, Tryd.results83, go_sem]) rfl ⟨by rw [HP.out, ← HXE.out], (Below.refl _ _).alloc (Nat.le_refl _) _⟩
      · go_wp2_with (go_at_call 82; refine (refDigit_any c _).mono ?_; rintro e w' ⟨rfl, rfl⟩)
        refine (CP.out _).mono ?_
        rintro e w1 ⟨rfl, rfl⟩
        go_wp2_with fail
        exact bodyPost_ret (v := .tuple #[.agg #[.int .i64 2, .string (s.extract i m), .int .i64 p1, .int .i64 i], .int .i64 p2]) (by simp [results, Tryd.results83, go_sem]) rfl ⟨by rw [HP.out, ← HXE.out], (Below.refl _ _).alloc (Nat.le_refl _) _⟩
end Go.Proofs.YtacbmmnipedpdaaDoor
namespace Go.Proofs.YtacbmmnipedpdaaDoor
open Go Go.RowKit

theorem nm_all : ∀ t : List UInt8, (t.take (nmLen t)).all nmAll = true
  | [] => by simp [nmLen]
  | c :: t => by
    by_cases hc : nmC c t = true
    · have e : nmLen (c :: t) = nmLen t + 1 := by rw [nmLen, if_pos hc]
      rw [e, List.take_succ_cons, List.all_cons, nm_all t, Bool.and_true]
      unfold nmC at hc
      unfold nmAll
      cases h1 : lxNm c <;> simp_all
    · have e : nmLen (c :: t) = 0 := by rw [nmLen, if_neg hc]
      rw [e]; simp
theorem isNameF_name {c : UInt8} {t : List UInt8} (h : lxLet c = true) : lxIsNameF ((c :: t).take (nmLen t + 1)) = decide (nmLen t + 1 ≤ 16) := by
  rw [List.take_succ_cons, isNameF_cons, h, List.all_cons, nm_all, List.length_take_of_le (nm_le t)]
  have : nmAll c = true := by unfold nmAll lxNm; rw [h]; rfl
  rw [this]; simp
theorem lxName_len {c : UInt8} {t : List UInt8} (h : lxLet c = true) : nmLen (c :: t) = nmLen t + 1 := by
  rw [nmLen, if_pos (by unfold nmC lxNm; rw [h]; rfl)]
set_option maxRecDepth 100000 in
set_option maxHeartbeats 4000000 in
theorem refOne_let (s : ByteArray) (i : Nat) (c : UInt8) (t : List UInt8) (w : World) (hz : s.size ≤ 1000000000) (hd : s.data.toList.drop i = c :: t) (h1 : lxLet c = true) :
    Calls Tryd.prog 66 #[.string s, .int .i64 (i : Int)] w (Ret (oneV (lxOne (c :: t)) i) w) := by
  have hi : i < s.size := by
    have := congrArg List.length hd
    rw [List.length_drop, size_list, List.length_cons] at this; omega
  have hc0 : s.data.toList[i]? = some c := by
    have : (s.data.toList.drop i)[0]? = some c := by rw [hd]; rfl
    rw [List.getElem?_drop] at this; exact this
  have hsi := byte_at hi hc0
  have hnl := lxName_len (t := t) h1
  obtain ⟨m, hm⟩ : ∃ m, m = i + (nmLen t + 1) := ⟨_, rfl⟩
  have CN := Lib.hid (fun w => lxRefName_any s i w (by omega) (by omega))
  rw [hd, hnl, ← hm] at CN
  have hmb : m ≤ s.size := by
    have h2 := nm_le t
    have h3 := congrArg List.length hd
    rw [List.length_drop, size_list, List.length_cons] at h3
    omega
  have CI := Lib.hid (fun w => lxIsName_any (s.extract i m) w (by rw [← size_list, extract_list, List.length_take, List.length_drop, size_list]; omega))
  rw [extract_list, hd, show m - i = nmLen t + 1 by omega, isNameF_name h1] at CI
  have HX : Hid (s.extract i m = ⟨((c :: t).take (nmLen t + 1)).toArray⟩) := by show _ = _; rw [extract_eq, hd, show m - i = nmLen t + 1 by omega]
  have HO : Hid (lxOne (c :: t) = if 16 < nmLen t + 1 then (0, [], 0, 0, 6) else (1, (c :: t).take (nmLen t + 1), 0, nmLen t + 1, 0)) := by show _ = _; rw [lxOne, if_pos h1]
  have him : i ≤ m := by omega
  by_cases hlong : 16 < nmLen t + 1
  · have HR : Hid (oneV (lxOne (c :: t)) i = .tuple #[.agg #[.int .i64 0, .string ⟨#[]⟩, .int .i64 0, .int .i64 0], .int .i64 (i : Int), .int .i64 6]) := by
      show _ = _; rw [HO.out, if_pos hlong]; simp [oneV, oneX, lxV]
    rw [decide_eq_false (by omega)] at CI
    clear hd hc0 hnl hm hlong HO HX
    go_enter Tryd.func66, Tryd.ntmps66
    go_wp2_with (first | (go_at_call 80; refine (refLetter_any c _).mono ?_; rintro e w' ⟨rfl, rfl⟩) | (go_at_call 81; refine (CN.out _).mono ?_; rintro e w' ⟨rfl, rfl⟩) | (go_at_call 30; refine (CI.out _).mono ?_; rintro e w' ⟨rfl, rfl⟩))
    rw [HR.out]
    exact bodyPost_ret (v := .tuple #[.agg #[.int .i64 0, .string ⟨#[]⟩, .int .i64 0, .int .i64 0], .int .i64 (i : Int), .int .i64 6]) (by simp [results, Tryd.results66, go_sem]) rfl ⟨rfl, ((Below.refl w.heap.size w).alloc (Nat.le_refl _) _).alloc (by simp) _⟩
  · have HR : Hid (oneV (lxOne (c :: t)) i = .tuple #[.agg #[.int .i64 1, .string (s.extract i m), .int .i64 0, .int .i64 i], .int .i64 (m : Int), .int .i64 0]) := by
      show _ = _; rw [HO.out, if_neg hlong, HX.out]; simp [oneV, oneX, lxV]; omega
    rw [decide_eq_true (by omega)] at CI
    clear hd hc0 hnl hm hlong HO HX
    go_enter Tryd.func66, Tryd.ntmps66
    go_wp2_with (first | (go_at_call 80; refine (refLetter_any c _).mono ?_; rintro e w' ⟨rfl, rfl⟩) | (go_at_call 81; refine (CN.out _).mono ?_; rintro e w' ⟨rfl, rfl⟩) | (go_at_call 30; refine (CI.out _).mono ?_; rintro e w' ⟨rfl, rfl⟩))
    rw [HR.out]
    exact bodyPost_ret (v := .tuple #[.agg #[.int .i64 1, .string (s.extract i m), .int .i64 0, .int .i64 i], .int .i64 (m : Int), .int .i64 0]) (by simp [results, Tryd.results66, go_sem]) rfl ⟨rfl, ((Below.refl w.heap.size w).alloc (Nat.le_refl _) _).alloc (by simp) _⟩
set_option maxRecDepth 100000 in
set_option maxHeartbeats 4000000 in
theorem refOne_dig (s : ByteArray) (i : Nat) (c : UInt8) (t : List UInt8) (w : World) (hz : s.size ≤ 1000000000) (hd : s.data.toList.drop i = c :: t) (h1 : lxLet c = false) (h2 : isDig c = true) :
    Calls Tryd.prog 66 #[.string s, .int .i64 (i : Int)] w (Ret (oneV (lxOne (c :: t)) i) w) := by
  have hi : i < s.size := by
    have := congrArg List.length hd
    rw [List.length_drop, size_list, List.length_cons] at this; omega
  have hc0 : s.data.toList[i]? = some c := by
    have : (s.data.toList.drop i)[0]? = some c := by rw [hd]; rfl
    rw [List.getElem?_drop] at this; exact this
  have hsi := byte_at hi hc0
  have CN := Lib.hid (fun w => refNumber7_any s i w hz (by omega))
  rw [hd] at CN
  unfold NumRes at CN
  have hdl : ((c :: t).take (dgLen (c :: t))).length = dgLen (c :: t) := List.length_take_of_le (dg_le _)
  have hdb : dgLen (c :: t) ≤ s.size - i := by
    have h3 := dg_le (c :: t)
    have h4 := congrArg List.length hd
    rw [List.length_drop, size_list] at h4
    omega
  have HO : Hid (lxOne (c :: t) = if (parseL ((c :: t).take (dgLen (c :: t)))).2 = 0 then (2, (c :: t).take (dgLen (c :: t)), (parseL ((c :: t).take (dgLen (c :: t)))).1, dgLen (c :: t), 0) else (0, [], 0, 0, (parseL ((c :: t).take (dgLen (c :: t)))).2)) := by
    show _ = _; rw [lxOne, if_neg (by rw [h1]; simp), if_pos h2]
  obtain ⟨d, hdd⟩ : ∃ d, d = (c :: t).take (dgLen (c :: t)) := ⟨_, rfl⟩
  rw [← hdd] at CN HO hdl
  obtain ⟨p, hp⟩ : ∃ p, parseL d = p := ⟨_, rfl⟩
  rw [hp] at CN HO
  obtain ⟨p1, p2⟩ := p
  obtain ⟨k, hk⟩ : ∃ k, k = dgLen (c :: t) := ⟨_, rfl⟩
  rw [← hk] at HO hdl hdb
  obtain ⟨x, hx⟩ : ∃ x : ByteArray, x = ⟨d.toArray⟩ := ⟨_, rfl⟩
  have hxs : x.size = k := by rw [← size_list, hx]; simpa using hdl
  simp only at CN
  rw [← hx] at CN
  have HXX := Lib.hid hx
  have HXS := Lib.hid hxs
  have hxb : x.size ≤ s.size - i := by omega
  clear hd hc0 hdd hp hk hx hxs hdl hdb
  by_cases hp0 : p2 = 0
  · subst hp0
    have HR : Hid (oneV (lxOne (c :: t)) i = .tuple #[.agg #[.int .i64 2, .string x, .int .i64 p1, .int .i64 i], .int .i64 ((i : Int) + (x.size : Int)), .int .i64 0]) := by
      show _ = _; rw [HO.out, if_pos rfl, HXS.out, HXX.out]; simp [oneV, oneX, lxV]
    clear HO
    go_enter Tryd.func66, Tryd.ntmps66
    go_wp2_with (first | (go_at_call 80; refine (refLetter_any c _).mono ?_; rintro e w' ⟨rfl, rfl⟩) | (go_at_call 82; refine (refDigit_any c _).mono ?_; rintro e w' ⟨rfl, rfl⟩))
    refine (CN.out _).mono ?_
    rintro e w2 ⟨rfl, hb⟩
    have hblk := ((Blk.new w 81 lx0).alloc (.cells lx0 81)).below hb (by simp; omega)
    have hsz := hb.size
    obtain ⟨q0, q1, q2, q3, f0, f1, f2, f3⟩ := lx_cells hblk
    have hb2 := (((Below.refl w.heap.size w).alloc (Nat.le_refl _) (.cells lx0 81)).alloc (by simp) (.cells lx0 81)).trans (hb.mono (by simp; omega))
    have hsz2 : w.heap.size + 2 ≤ w2.heap.size := by simpa using hsz
    have hlt2 : w.heap.size < w2.heap.size := by omega
    go_wp2_with fail
    go_region
    all_goals
      go_wp2_with fail
      rw [HR.out]
      exact bodyPost_ret (v := .tuple #[.agg #[.int .i64 2, .string x, .int .i64 p1, .int .i64 i], .int .i64 ((i : Int) + (x.size : Int)), .int .i64 0]) (by simp [results, Tryd.results66, go_sem, q0, q1, q2, q3, hlt2]) rfl ⟨rfl, (by have hB := (((hb2.setCell (p := ⟨w.heap.size, 0, none⟩) (by simp) (.int .i64 2)).setCell (p := ⟨w.heap.size, 1, none⟩) (by simp) (.string x)).setCell (p := ⟨w.heap.size, 2, none⟩) (by simp) (.int .i64 p1)).setCell (p := ⟨w.heap.size, 3, none⟩) (by simp) (.int .i64 i); exact (hB.alloc hB.size _).drew)⟩
  · have hpn : (p2 != 0) = true := ine_t hp0
    have HR : Hid (oneV (lxOne (c :: t)) i = .tuple #[.agg #[.int .i64 0, .string ⟨#[]⟩, .int .i64 0, .int .i64 0], .int .i64 (i : Int), .int .i64 p2]) := by
      show _ = _; rw [HO.out, if_neg hp0]; simp [oneV, oneX, lxV, hp0]
    clear HO hp0
    go_enter Tryd.func66, Tryd.ntmps66
    go_wp2_with (first | (go_at_call 80; refine (refLetter_any c _).mono ?_; rintro e w' ⟨rfl, rfl⟩) | (go_at_call 82; refine (refDigit_any c _).mono ?_; rintro e w' ⟨rfl, rfl⟩))
    refine (CN.out _).mono ?_
    rintro e w2 ⟨rfl, hb⟩
    have hblk := ((Blk.new w 81 lx0).alloc (.cells lx0 81)).below hb (by simp; omega)
    have hblk1 := (Blk.new (w.alloc (.cells lx0 81)) 81 lx0).below hb (by simp)
    rw [show (w.alloc (.cells lx0 81)).heap.size = w.heap.size + 1 from by simp] at hblk1
    have hsz := hb.size
    obtain ⟨q0, q1, q2, q3, f0, f1, f2, f3⟩ := lx_cells hblk
    obtain ⟨r0, r1, r2, r3, g0, g1, g2, g3⟩ := lx_cells hblk1
    have hb2 := (((Below.refl w.heap.size w).alloc (Nat.le_refl _) (.cells lx0 81)).alloc (by simp) (.cells lx0 81)).trans (hb.mono (by simp; omega))
    have hsz2 : w.heap.size + 2 ≤ w2.heap.size := by simpa using hsz
    have hlt2 : w.heap.size < w2.heap.size := by omega
    have hlt3 : w.heap.size + 1 < w2.heap.size := by omega
    go_wp2_with fail
    rw [HR.out]
    exact bodyPost_ret (v := .tuple #[.agg #[.int .i64 0, .string ⟨#[]⟩, .int .i64 0, .int .i64 0], .int .i64 (i : Int), .int .i64 p2]) (by simp [results, Tryd.results66, go_sem, q0, q1, q2, q3, hlt2]) rfl ⟨rfl, (by have hB := (((hb2.setCell (p := ⟨w.heap.size, 0, none⟩) (by simp) (.int .i64 0)).setCell (p := ⟨w.heap.size, 1, none⟩) (by simp) (.string ⟨#[]⟩)).setCell (p := ⟨w.heap.size, 2, none⟩) (by simp) (.int .i64 0)).setCell (p := ⟨w.heap.size, 3, none⟩) (by simp) (.int .i64 0); exact (hB.alloc hB.size _))⟩
set_option maxRecDepth 100000 in
set_option maxHeartbeats 4000000 in
theorem refOne_str (s : ByteArray) (i : Nat) (c : UInt8) (t : List UInt8) (w : World) (hz : s.size ≤ 1000000000) (hd : s.data.toList.drop i = c :: t) (h1 : lxLet c = false) (h2 : isDig c = false) (h34 : (c == 34) = true) :
    Calls Tryd.prog 66 #[.string s, .int .i64 (i : Int)] w (Ret (oneV (lxOne (c :: t)) i) w) := by
  have hi : i < s.size := by
    have := congrArg List.length hd
    rw [List.length_drop, size_list, List.length_cons] at this; omega
  have hc0 : s.data.toList[i]? = some c := by
    have : (s.data.toList.drop i)[0]? = some c := by rw [hd]; rfl
    rw [List.getElem?_drop] at this; exact this
  have hsi := byte_at hi hc0
  have e34 : ((c.toNat : Int) == 34) = true := u8yes (k := 34) (by decide) h34
  have CN := Lib.hid (fun w => refText7_any s i c t w (by omega) hd)
  unfold TextRes at CN
  have HO : Hid (lxOne (c :: t) = if (qs t).2.2 then (3, (qs t).1, 0, (qs t).2.1 + 1, 0) else (0, [], 0, (qs t).2.1 + 1, 5)) := by
    show _ = _; rw [lxOne, if_neg (by rw [h1]; simp), if_neg (by rw [h2]; simp), if_pos h34]
  obtain ⟨q, hq⟩ : ∃ q, qs t = q := ⟨_, rfl⟩
  rw [hq] at CN HO
  obtain ⟨x, k, b⟩ := q
  clear hd hc0 hq h34
  cases b
  · have HR : Hid (oneV (lxOne (c :: t)) i = .tuple #[.agg #[.int .i64 0, .string ⟨#[]⟩, .int .i64 0, .int .i64 0], .int .i64 ((i : Int) + 1 + (k : Int)), .int .i64 5]) := by
      show _ = _; rw [HO.out]; simp [oneV, oneX, lxV]; omega
    have CN2 : Hid (∀ w, Calls Tryd.prog 84 #[.string s, .int .i64 (i : Int)] w fun e w' => e = .returned (.tuple #[.string ⟨#[]⟩, .int .i64 ((i : Int) + 1 + (k : Int)), .int .i64 5]) ∧ Below w.heap.size w w') := CN.out
    obtain ⟨en, hen⟩ : ∃ en, (i : Int) + 1 + (k : Int) = en := ⟨_, rfl⟩
    rw [hen] at HR CN2
    clear HO CN hen
    go_enter Tryd.func66, Tryd.ntmps66
    go_wp2_with (first | (go_at_call 80; refine (refLetter_any c _).mono ?_; rintro e w' ⟨rfl, rfl⟩) | (go_at_call 82; refine (refDigit_any c _).mono ?_; rintro e w' ⟨rfl, rfl⟩))
    refine (CN2.out _).mono ?_
    rintro e w2 ⟨rfl, hb⟩
    have hblk := ((Blk.new w 81 lx0).alloc (.cells lx0 81)).below hb (by simp; omega)
    have hblk1 := (Blk.new (w.alloc (.cells lx0 81)) 81 lx0).below hb (by simp)
    rw [show (w.alloc (.cells lx0 81)).heap.size = w.heap.size + 1 from by simp] at hblk1
    have hsz := hb.size
    obtain ⟨q0, q1, q2, q3, f0, f1, f2, f3⟩ := lx_cells hblk
    obtain ⟨r0, r1, r2, r3, g0, g1, g2, g3⟩ := lx_cells hblk1
    have hb2 := (((Below.refl w.heap.size w).alloc (Nat.le_refl _) (.cells lx0 81)).alloc (by simp) (.cells lx0 81)).trans (hb.mono (by simp; omega))
    have hsz2 : w.heap.size + 2 ≤ w2.heap.size := by simpa using hsz
    go_wp2_with fail
    rw [HR.out]
    exact bodyPost_ret (v := .tuple #[.agg #[.int .i64 0, .string ⟨#[]⟩, .int .i64 0, .int .i64 0], .int .i64 en, .int .i64 5]) (by simp [results, Tryd.results66, go_sem, q0, q1, q2, q3]) rfl ⟨rfl, (((hb2.setCell (by simp) _).setCell (by simp) _).setCell (by simp) _).setCell (by simp) _⟩
  · have HR : Hid (oneV (lxOne (c :: t)) i = .tuple #[.agg #[.int .i64 3, .string ⟨x.toArray⟩, .int .i64 0, .int .i64 i], .int .i64 ((i : Int) + 1 + (k : Int)), .int .i64 0]) := by
      show _ = _; rw [HO.out]; simp [oneV, oneX, lxV]; omega
    have CN2 : Hid (∀ w, Calls Tryd.prog 84 #[.string s, .int .i64 (i : Int)] w fun e w' => e = .returned (.tuple #[.string ⟨x.toArray⟩, .int .i64 ((i : Int) + 1 + (k : Int)), .int .i64 0]) ∧ Below w.heap.size w w') := CN.out
    obtain ⟨en, hen⟩ : ∃ en, (i : Int) + 1 + (k : Int) = en := ⟨_, rfl⟩
    rw [hen] at HR CN2
    clear HO CN hen
    go_enter Tryd.func66, Tryd.ntmps66
    go_wp2_with (first | (go_at_call 80; refine (refLetter_any c _).mono ?_; rintro e w' ⟨rfl, rfl⟩) | (go_at_call 82; refine (refDigit_any c _).mono ?_; rintro e w' ⟨rfl, rfl⟩))
    refine (CN2.out _).mono ?_
    rintro e w2 ⟨rfl, hb⟩
    have hblk := ((Blk.new w 81 lx0).alloc (.cells lx0 81)).below hb (by simp; omega)
    have hsz := hb.size
    obtain ⟨q0, q1, q2, q3, f0, f1, f2, f3⟩ := lx_cells hblk
    have hb2 := (((Below.refl w.heap.size w).alloc (Nat.le_refl _) (.cells lx0 81)).alloc (by simp) (.cells lx0 81)).trans (hb.mono (by simp; omega))
    have hsz2 : w.heap.size + 2 ≤ w2.heap.size := by simpa using hsz
    go_wp2_with fail
    rw [HR.out]
    exact bodyPost_ret (v := .tuple #[.agg #[.int .i64 3, .string ⟨x.toArray⟩, .int .i64 0, .int .i64 i], .int .i64 en, .int .i64 0]) (by simp [results, Tryd.results66, go_sem, q0, q1, q2, q3]) rfl ⟨rfl, (((hb2.setCell (by simp) _).setCell (by simp) _).setCell (by simp) _).setCell (by simp) _⟩
end Go.Proofs.YtacbmmnipedpdaaDoor
namespace Go.Proofs.YtacbmmnipedpdaaDoor
open Go Go.RowKit

set_option maxRecDepth 100000 in
set_option maxHeartbeats 4000000 in
theorem refOne_mark (s : ByteArray) (i : Nat) (c : UInt8) (t : List UInt8) (w : World) (hz : s.size ≤ 1000000000) (hd : s.data.toList.drop i = c :: t) (h1 : lxLet c = false) (h2 : isDig c = false) (h34 : (c == 34) = false) :
    Calls Tryd.prog 66 #[.string s, .int .i64 (i : Int)] w (Ret (oneV (lxOne (c :: t)) i) w) := by
  have hlen : s.size - i = t.length + 1 := by
    have := congrArg List.length hd
    rw [List.length_drop, size_list, List.length_cons] at this; exact this
  have hi : i < s.size := by omega
  have hc0 : s.data.toList[i]? = some c := by
    have : (s.data.toList.drop i)[0]? = some c := by rw [hd]; rfl
    rw [List.getElem?_drop] at this; exact this
  have hsi := byte_at hi hc0
  have e34 : ((c.toNat : Int) == 34) = false := u8ne (k := 34) (by decide) h34
  have HO : Hid (lxOne (c :: t) = if (c == 45 && t.head? == some 62) = true then (4, [45, 62], 0, 2, 0) else if lxMk c = true then (4, [c], 0, 1, 0) else (0, [], 0, 0, 5)) := by
    show _ = _; rw [lxOne, if_neg (by rw [h1]; simp), if_neg (by rw [h2]; simp), if_neg (by rw [h34]; simp)]
  obtain ⟨ba, hba⟩ : ∃ ba, (c == 45 && t.head? == some 62) = ba := ⟨_, rfl⟩
  obtain ⟨bm, hbm⟩ : ∃ bm, lxMk c = bm := ⟨_, rfl⟩
  have hm1 : (s.extract i (i + 1)).data.toList = [c] := by rw [extract_list, hd, show i + 1 - i = 1 by omega]; rfl
  have CM1 := Lib.hid (fun w => refIsMark_any (s.extract i (i + 1)) w (by rw [← size_list, hm1]; simp))
  rw [hm1, show isMkF [c] = lxMk c from by simp [isMkF], hbm] at CM1
  have hex : s.extract i (i + 1) = ⟨#[c]⟩ := by rw [extract_eq, hd, show i + 1 - i = 1 by omega]; rfl
  have HEX := Lib.hid hex
  -- two bytes
  have CM2 : Hid (i + 2 ≤ s.size → ∀ w, Calls Tryd.prog 85 #[.string (s.extract i (i + 2))] w fun e w' => e = .returned (.bool ba) ∧ Qt w w') := fun hle w => by
    have hm2 : isMkF (s.extract i (i + 2)).data.toList = ba := by
      rw [extract_list, hd, show i + 2 - i = 2 by omega, ← hba]
      cases t with
      | nil => simp at hlen; omega
      | cons d u =>
        show isMkF [c, d] = _
        unfold isMkF
        rw [Bool.eq_iff_iff]; simp
    have := refIsMark_any (s.extract i (i + 2)) w (by rw [← size_list, extract_list, List.length_take]; omega)
    rw [hm2] at this; exact this
  have hex2 : ba = true → s.extract i (i + 2) = ⟨#[45, 62]⟩ ∧ i + 2 ≤ s.size := fun hb => by
    rw [hb, Bool.and_eq_true] at hba
    cases t with
    | nil => simp at hba
    | cons d u =>
      have ec : c = 45 := by simpa using hba.1
      have ed : d = 62 := by simpa using hba.2
      refine ⟨?_, by simp at hlen; omega⟩
      rw [extract_eq, hd, show i + 2 - i = 2 by omega, ec, ed]; rfl
  rw [hba, hbm] at HO
  have HR : Hid (oneV (lxOne (c :: t)) i = if ba = true then .tuple #[.agg #[.int .i64 4, .string (s.extract i (i + 2)), .int .i64 0, .int .i64 i], .int .i64 ((i : Int) + 2), .int .i64 0] else if bm = true then .tuple #[.agg #[.int .i64 4, .string (s.extract i (i + 1)), .int .i64 0, .int .i64 i], .int .i64 ((i : Int) + 1), .int .i64 0] else
      .tuple #[.agg #[.int .i64 0, .string ⟨#[]⟩, .int .i64 0, .int .i64 0], .int .i64 (i : Int), .int .i64 5]) := by
    show _ = _
    rw [HO.out]
    cases ba with
    | true => rw [if_pos rfl, if_pos rfl, (hex2 rfl).1]; simp [oneV, oneX, lxV]
    | false => cases bm with
      | true => rw [if_neg (by simp), if_pos rfl, if_neg (by simp), if_pos rfl, HEX.out]; simp [oneV, oneX, lxV]
      | false => rw [if_neg (by simp), if_neg (by simp), if_neg (by simp), if_neg (by simp)]; simp [oneV, oneX, lxV]
  have hle2 : ba = true → i + 2 ≤ s.size := fun h => (hex2 h).2
  have HLE := Lib.hid hle2
  clear hd hc0 hm1 hex hba hbm hex2 hle2 HO HEX h34 hlen
  go_enter Tryd.func66, Tryd.ntmps66
  go_wp2_with (first | (go_at_call 80; refine (refLetter_any c _).mono ?_; rintro e w' ⟨rfl, rfl⟩) | (go_at_call 82; refine (refDigit_any c _).mono ?_; rintro e w' ⟨rfl, rfl⟩))
  obtain ⟨w0, hw0⟩ : ∃ w0, w0 = (w.alloc (.cells lx0 81)).alloc (.cells lx0 81) := ⟨_, rfl⟩
  have hb0 : Below w.heap.size w w0 := by rw [hw0]; exact ((Below.refl w.heap.size w).alloc (Nat.le_refl _) _).alloc (by simp) _
  have hblk0 : Blk w0 w.heap.size 81 lx0 := by rw [hw0]; exact (Blk.new w 81 lx0).alloc _
  have hblk10 : Blk w0 (w.heap.size + 1) 81 lx0 := by
    rw [hw0]
    have := Blk.new (w.alloc (.cells lx0 81)) 81 lx0
    rw [show (w.alloc (.cells lx0 81)).heap.size = w.heap.size + 1 from by simp] at this
    exact this
  go_loopw [15] (fun n wr => ∃ k : Nat, n = .int .i64 k ∧ k ≤ 2 ∧ (k < 2 → ba = false) ∧ (k < 1 → bm = false) ∧ Qt w0 wr) (fun n _ => (intOf n).toNat)
  case atStart => exact ⟨2, rfl, Nat.le_refl _, fun h => absurd h (by omega), fun h => absurd h (by omega), by rw [hw0]; exact Qt.refl _⟩
  case round =>
    obtain ⟨k, rfl, hk, hka, hkm, hq⟩ := hrel
    have hbw := hb0.trans (hq.below w.heap.size)
    have hblk := hblk0.qt hq
    have hblk1 := hblk10.qt hq
    have hlt0 := hblk.lt
    obtain ⟨q0, q1, q2, q3, f0, f1, f2, f3⟩ := lx_cells hblk
    obtain ⟨r0, r1, r2, r3, g0, g1, g2, g3⟩ := lx_cells hblk1
    have hcs : k = 2 ∨ (k = 1 ∧ ba = false) ∨ (k = 0 ∧ ba = false ∧ bm = false) := by
      rcases Nat.lt_or_ge k 2 with h | h
      · rcases Nat.lt_or_ge k 1 with h' | h'
        · exact .inr (.inr ⟨by omega, hka h, hkm h'⟩)
        · exact .inr (.inl ⟨by omega, hka h⟩)
      · exact .inl (by omega)
    clear hka hkm q0 q1 q2 q3 f0 f1 f2 f3 r0 r1 r2 r3 g0 g1 g2 g3
    rcases hcs with rfl | ⟨rfl, hba0⟩ | ⟨rfl, hba0, hbm0⟩
    · by_cases hle : i + 2 ≤ s.size
      · have CM : Hid (∀ w, Calls Tryd.prog 85 #[.string (s.extract i (i + 2))] w fun e w' => e = .returned (.bool ba) ∧ Qt w w') := by
          exact CM2.out hle
        clear CM2
        cases ba
        · go_wp2_with (go_at_call 85; (with_reducible refine (CM.out _).mono ?_); rintro e w' ⟨rfl, hq2⟩)
          go_roundw
          case rel => exact ⟨1, by first | exact rfl | exact True.intro, by omega, fun _ => (by first | exact rfl | exact True.intro), fun h => absurd h (by omega), hq.trans hq2⟩
          case measure => simp [intOf] <;> omega
        · have HRk : Hid (oneV (lxOne (c :: t)) i = .tuple #[.agg #[.int .i64 4, .string (s.extract i (i + 2)), .int .i64 0, .int .i64 i], .int .i64 ((i : Int) + 2), .int .i64 0]) := by
            show _ = _; rw [HR.out, if_pos rfl]
          go_wp2_with (go_at_call 85; (with_reducible refine (CM.out _).mono ?_); rintro e w3 ⟨rfl, hq2⟩; obtain ⟨q0, q1, q2, q3, f0, f1, f2, f3⟩ := lx_cells (hblk.qt hq2); obtain ⟨r0, r1, r2, r3, g0, g1, g2, g3⟩ := lx_cells (hblk1.qt hq2); have hbw' := hbw.trans (hq2.below w.heap.size))
          rw [HRk.out]
          exact bodyPost_ret (v := .tuple #[.agg #[.int .i64 4, .string (s.extract i (i + 2)), .int .i64 0, .int .i64 i], .int .i64 ((i : Int) + 2), .int .i64 0]) (by simp [results, Tryd.results66, go_sem, q0, q1, q2, q3]) rfl ⟨rfl, (((hbw'.setCell (by simp) _).setCell (by simp) _).setCell (by simp) _).setCell (by simp) _⟩
      · have hba0 : ba = false := by
          cases ba with
          | false => rfl
          | true => exact absurd (HLE.out rfl) hle
        have hle' : ¬ (i : Int) + 2 ≤ (s.size : Int) := by omega
        clear hle CM2
        go_wp2_with fail
        go_roundw
        case rel => exact ⟨1, by first | exact rfl | exact True.intro, by omega, fun _ => hba0, fun h => absurd h (by omega), hq⟩
        case measure => simp [intOf] <;> omega
    · have CM : Hid (∀ w, Calls Tryd.prog 85 #[.string (s.extract i (i + 1))] w fun e w' => e = .returned (.bool bm) ∧ Qt w w') := by
        exact CM1.out
      clear CM2 CM1
      cases bm
      · go_wp2_with (go_at_call 85; (with_reducible refine (CM.out _).mono ?_); rintro e w' ⟨rfl, hq2⟩)
        go_roundw
        case rel => exact ⟨0, by first | exact rfl | exact True.intro, by omega, fun _ => hba0, fun _ => (by first | exact rfl | exact True.intro), hq.trans hq2⟩
        case measure => simp [intOf] <;> omega
      · have HRk : Hid (oneV (lxOne (c :: t)) i = .tuple #[.agg #[.int .i64 4, .string (s.extract i (i + 1)), .int .i64 0, .int .i64 i], .int .i64 ((i : Int) + 1), .int .i64 0]) := by
          show _ = _; rw [HR.out, hba0, if_neg (by simp), if_pos rfl]
        go_wp2_with (go_at_call 85; (with_reducible refine (CM.out _).mono ?_); rintro e w3 ⟨rfl, hq2⟩; obtain ⟨q0, q1, q2, q3, f0, f1, f2, f3⟩ := lx_cells (hblk.qt hq2); obtain ⟨r0, r1, r2, r3, g0, g1, g2, g3⟩ := lx_cells (hblk1.qt hq2); have hbw' := hbw.trans (hq2.below w.heap.size))
        rw [HRk.out]
        exact bodyPost_ret (v := .tuple #[.agg #[.int .i64 4, .string (s.extract i (i + 1)), .int .i64 0, .int .i64 i], .int .i64 ((i : Int) + 1), .int .i64 0]) (by simp [results, Tryd.results66, go_sem, q0, q1, q2, q3]) rfl ⟨rfl, (((hbw'.setCell (by simp) _).setCell (by simp) _).setCell (by simp) _).setCell (by simp) _⟩
    · have HRk : Hid (oneV (lxOne (c :: t)) i = .tuple #[.agg #[.int .i64 0, .string ⟨#[]⟩, .int .i64 0, .int .i64 0], .int .i64 (i : Int), .int .i64 5]) := by
        show _ = _; rw [HR.out, hba0, hbm0, if_neg (by simp), if_neg (by simp)]
      obtain ⟨q0, q1, q2, q3, f0, f1, f2, f3⟩ := lx_cells hblk
      obtain ⟨r0, r1, r2, r3, g0, g1, g2, g3⟩ := lx_cells hblk1
      have hbw' := hbw
      clear CM2 CM1
      go_wp2_with fail
      rw [HRk.out]
      exact bodyPost_ret (v := .tuple #[.agg #[.int .i64 0, .string ⟨#[]⟩, .int .i64 0, .int .i64 0], .int .i64 (i : Int), .int .i64 5]) (by simp [results, Tryd.results66, go_sem, q0, q1, q2, q3]) rfl ⟨rfl, (((hbw'.setCell (by simp) _).setCell (by simp) _).setCell (by simp) _).setCell (by simp) _⟩
theorem refOne_any (s : ByteArray) (i : Nat) (c : UInt8) (t : List UInt8) (w : World) (hz : s.size ≤ 1000000000) (hd : s.data.toList.drop i = c :: t) :
    Calls Tryd.prog 66 #[.string s, .int .i64 (i : Int)] w (Ret (oneV (lxOne (c :: t)) i) w) := by
  by_cases h1 : lxLet c = true
  · exact refOne_let s i c t w hz hd h1
  have h1' : lxLet c = false := by simpa using h1
  by_cases h2 : isDig c = true
  · exact refOne_dig s i c t w hz hd h1' h2
  have h2' : isDig c = false := by simpa using h2
  by_cases h3 : (c == 34) = true
  · exact refOne_str s i c t w hz hd h1' h2' h3
  · exact refOne_mark s i c t w hz hd h1' h2' (by simpa using h3)
end Go.Proofs.YtacbmmnipedpdaaDoor
namespace Go.Proofs.YtacbmmnipedpdaaDoor
open Go Go.RowKit

set_option maxRecDepth 100000 in
set_option maxHeartbeats 4000000 in
theorem refScan_any (s : ByteArray) (w : World) (hz : s.size ≤ 140737488350000) : Calls Tryd.prog 49 #[.string s] w (ScanPost s.data.toList w) := by
  by_cases hbig : 16384 < s.size
  · have HS : Hid (scanS s.data.toList = ([], 4, 16384)) := by show _ = _; unfold scanS; rw [if_pos (by rw [size_list]; exact hbig)]
    go_enter Tryd.func49, Tryd.ntmps49
    go_wp2_with fail
    go_ret3
    unfold ScanPost
    rw [HS.out]
    exact ⟨_, rfl, Rep.slice_nil _ _ _, Below.refl _ _⟩
  have HS : Hid (scanS s.data.toList = scanF 0 s.data.toList) := by show _ = _; unfold scanS; rw [if_neg (by rw [size_list]; exact hbig)]
  obtain ⟨i0, hi, hz0, hz1, hz2⟩ := info_parts lx_info
  go_enter Tryd.func49, Tryd.ntmps49
  go_wp2_with fail
  refine (refSkip_any s 0 _ (by omega) (by omega)).mono ?_
  rintro e w1 ⟨j0, rfl, hj0, hjd0, rfl⟩
  have H0 := Lib.hid (ScAt.start hj0 hjd0)
  clear hjd0
  go_wp2_with fail
  go_loopw [5, 6] (fun l i wr => ∃ (k : Nat) (acc : List Lx), k ≤ s.size ∧ i = .int .i64 k ∧ acc.length ≤ k ∧ OwnLx wr w.heap.size l acc ∧ Below w.heap.size w wr ∧ Hid (ScAt s acc k)) (fun _ i _ => s.size - (intOf i).toNat)
  case atStart => exact ⟨j0, [], hj0, rfl, by simp, World.ownsRow_nil _ _ _ _, Below.refl _ _, H0⟩
  case round =>
    obtain ⟨k, acc, hk, rfl, hal, hown, hbw, hA⟩ := hrel
    have hsz := hbw.size
    by_cases hlt : k < s.size
    · obtain ⟨c, t, hd, -, -⟩ := drop_at (D := s.data.toList) (k := k) (by rw [size_list]; exact hlt)
      have CN := Lib.hid (fun w => refOne_any s k c t w (by omega) hd)
      obtain ⟨k1, k2, k3, k4, k5, k6, hO, hC, hk5, hk6⟩ := oneX_cells (lxOne (c :: t)) k
      rw [hO] at CN
      have HC := Lib.hid hC
      have HD := Lib.hid hd
      have hlen := one_len c t
      have hct : t.length + 1 = s.size - k := by
        have := congrArg List.length hd
        rw [List.length_drop, size_list, List.length_cons] at this; exact this.symm
      by_cases ho : (lxOne (c :: t)).2.2.2.2 = 0
      · obtain ⟨hl1, hl2⟩ := hlen
        have hp := hl2 ho
        have hk60 : k6 = 0 := by rw [hk6, ho]
        obtain ⟨n, hn⟩ : ∃ n, n = k + (lxOne (c :: t)).2.2.2.1 := ⟨_, rfl⟩
        have hk5n : k5 = (n : Int) := by rw [hk5, hn]; omega
        have HSTEP : Hid (∀ j, j ≤ s.size → s.data.toList.drop j = lxSkip false (s.data.toList.drop n) → ScAt s (acc ++ [oneX (lxOne (c :: t)) k]) j ∧ n ≤ j) := fun j hj hjd => by
          have hnb : n ≤ s.size := by omega
          refine ⟨?_, skip_ge (by rw [size_list]; exact hj) (by rw [size_list]; exact hnb) hjd⟩
          rw [hn] at hjd
          exact hA.out.step HD.out ho hj hjd
        have hnb : n ≤ s.size := by omega
        have hnk : k < n := by omega
        clear hd hO hC hk5 hl1 hl2 hp ho hk6 hct hn hA
        subst hk60
        subst hk5n
        generalize oneX (lxOne (c :: t)) k = x at *
        have CS := Lib.hid (fun w => refSkip_any s n w (by omega) hnb)
        go_wp2_with fail
        refine (CN.out _).mono ?_
        rintro e w1 ⟨rfl, hb1⟩
        have hown1 := own_below hown hb1
        have hs1 := hb1.size
        go_wp2_with (at_builtin; refine wpList_append_own _ rfl _ _ 70 rfl w.heap.size 81 i0 (.agg #[.int .i64 0, .string ⟨#[]⟩, .int .i64 0, .int .i64 0]) 4 40 Tryd.underlying70 hi hz0 hz1 hz2 rfl (by decide) _ _ _ rfl (World.ownsRow.alloc (World.ownsRow.alloc hown1 _) _) ⟨w1.heap.size + 1, 0, none⟩ 1 1 [.int .i64 k1, .string k2, .int .i64 k3, .int .i64 k4] rfl rfl (by simpa using new4_cells (w1.alloc (.cells #[.int .i64 k1, .string k2, .int .i64 k3, .int .i64 k4] 81)) (.int .i64 k1) (.string k2) (.int .i64 k3) (.int .i64 k4) 81) (by rw [← HC.out]; exact lx_one x) (by unfold maxLen; omega) (by omega) (by simp; omega) ?_)
        intro v2 w2 hown2 hg2 _
        rw [← HC.out] at hown2
        have hown3 := ownLx_snoc hown2
        have hbw1 := hbw.trans (hb1.mono hsz)
        have hbw2 := ((hbw1.alloc (by omega) (.cells #[.int .i64 k1, .string k2, .int .i64 k3, .int .i64 k4] 81)).alloc (by simp; omega) (.cells #[.int .i64 k1, .string k2, .int .i64 k3, .int .i64 k4] 81)).grown hg2 (by simp; omega) (fun j hj => (World.ownsRow.lt hown1 j hj).1)
        clear hown2 hg2
        go_wp2_with fail
        refine (CS.out _).mono ?_
        rintro e w3 ⟨j, rfl, hj, hjd, rfl⟩
        obtain ⟨hS, hnj⟩ := HSTEP.out j hj hjd
        have HS3 := Lib.hid hS
        clear hjd hS
        go_wp2_with fail
        go_roundw
        case rel => exact ⟨j, acc ++ [x], hj, rfl, by simp; omega, hown3, hbw2, HS3⟩
        case measure => simp [intOf] <;> omega
      · have HB := Lib.hid (hA.out.bad HD.out ho)
        rw [← hk5, ← hk6] at HB
        have hk60 : (k6 != 0) = true := ine_t (by rw [hk6]; exact ho)
        clear hd hO hC hk5 hk6 hlen ho hct hA
        go_wp2_with fail
        refine (CN.out _).mono ?_
        rintro e w1 ⟨rfl, hb1⟩
        go_wp2_with fail
        go_ret3
        unfold ScanPost
        rw [HS.out, HB.out]
        exact ⟨_, rfl, Rep.slice_nil _ _ _, (hbw.trans (hb1.mono hsz)).alloc (by have := hb1.size; omega) _⟩
    · obtain rfl : k = s.size := by omega
      have HB := Lib.hid (hA.out.done rfl)
      clear hA
      go_wp2_with (at_builtin; refine wpList_append_own _ rfl _ _ 70 rfl w.heap.size 81 i0 (.agg #[.int .i64 0, .string ⟨#[]⟩, .int .i64 0, .int .i64 0]) 4 40 Tryd.underlying70 hi hz0 hz1 hz2 rfl (by decide) _ _ _ rfl (World.ownsRow.alloc hown _) ⟨wr.heap.size, 0, none⟩ 1 1 [.int .i64 0, .string ⟨#[]⟩, .int .i64 0, .int .i64 (s.size : Int)] rfl rfl (new4_cells wr (.int .i64 0) (.string ⟨#[]⟩) (.int .i64 0) (.int .i64 (s.size : Int)) 81) (lx_one (0, [], 0, (s.size : Int))) (by unfold maxLen; omega) (by omega) (by simp; omega) ?_)
      intro v2 w2 hown2 hg2 _
      have hown3 := ownLx_snoc (x := (0, [], 0, (s.size : Int))) hown2
      have hbw2 := (hbw.alloc hsz _).grown hg2 (by simp; omega) (fun j hj => (World.ownsRow.lt hown j hj).1)
      clear hown2 hg2
      go_wp2_with fail
      go_ret3
      unfold ScanPost
      rw [HS.out, HB.out]
      exact ⟨_, rfl, ownLx_rep hown3, hbw2⟩
end Go.Proofs.YtacbmmnipedpdaaDoor
