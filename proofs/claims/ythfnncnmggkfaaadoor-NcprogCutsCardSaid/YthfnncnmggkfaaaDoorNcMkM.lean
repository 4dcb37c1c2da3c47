/- Chapter 07: skip of the program and of the reference, by walking their text. -/
/- Chapter 07: name of the program, by walking its text. -/
/- Chapter 27: the program of an order, in plain words; steps that the call owns. -/
import Derived.Test.YthfnncnmggkfaaaDoorNcOpM
import Derived.Lib.SlBytesRow
import Derived.Test.YthfnncnmggkfaaaDoorNcW2M
import Derived.Test.YthfnncnmggkfaaaDoorTorW8M
namespace Go.Proofs.YthfnncnmggkfaaaDoor
open Go Go.RowKit

theorem drop_at {D : List UInt8} {k : Nat} (h : k < D.length) : ∃ c t, D.drop k = c :: t ∧ D[k]? = some c ∧ D.drop (k + 1) = t := by
  refine ⟨D[k], D.drop (k + 1), List.drop_eq_getElem_cons h, List.getElem?_eq_getElem h, rfl⟩
theorem byte_at {s : ByteArray} {k : Nat} {c : UInt8} (hlt : k < s.size) (hc : s.data.toList[k]? = some c) : s[k] = c := by
  rw [List.getElem?_eq_getElem (by simpa using hlt)] at hc
  injection hc
theorem u8ne {c : UInt8} {k : Nat} (hk : k < 256) (h : (c == UInt8.ofNat k) = false) : ((c.toNat : Int) == (k : Int)) = false := by rw [← u8eq c k hk]; exact h
theorem u8yes {c : UInt8} {k : Nat} (hk : k < 256) (h : (c == UInt8.ofNat k) = true) : ((c.toNat : Int) == (k : Int)) = true := by rw [← u8eq c k hk]; exact h
def SkipRes (s : ByteArray) (i : Nat) (w : World) (e : Ending) (w' : World) : Prop := ∃ j : Nat, e = .returned (.int .i64 j) ∧ j ≤ s.size ∧ s.data.toList.drop j = lxSkip false (s.data.toList.drop i) ∧ w = w'
theorem skip_bl {c : UInt8} {t : List UInt8} (h : lxBl c = true) : lxSkip false (c :: t) = lxSkip false t := by rw [lxSkip, if_pos h]
theorem skip_rem {c : UInt8} {t : List UInt8} (h : lxBl c = false) (h2 : (c == 35) = true) : lxSkip false (c :: t) = lxSkip true (c :: t) := by
  have h3 : (c == 10) = false := by
    rw [beq_eq_false_iff_ne]; rintro rfl; exact absurd h2 (by decide)
  rw [lxSkip, if_neg (by rw [h]; simp), if_pos h2, lxSkip, if_neg (by rw [h3]; simp)]
theorem skip_in {c : UInt8} {t : List UInt8} (h : (c == 10) = false) : lxSkip true (c :: t) = lxSkip true t := by rw [lxSkip, if_neg (by rw [h]; simp)]
theorem skip_out {c : UInt8} {t : List UInt8} (h : (c == 10) = true) : lxSkip true (c :: t) = lxSkip false (c :: t) := by
  have e : c = 10 := by simpa using h
  subst e
  have e1 : lxSkip true (10 :: t) = lxSkip false t := by rw [lxSkip, if_pos (by decide)]
  have e2 : lxSkip false (10 :: t) = lxSkip false t := by rw [lxSkip, if_pos (by decide)]
  rw [e1, e2]
theorem size_list (s : ByteArray) : s.data.toList.length = s.size := by simp
set_option maxHeartbeats 2000000 in
theorem skip_any (s : ByteArray) (i0 : Nat) (w : World) (hs : s.size ≤ 4611686018427387904) (hi : i0 ≤ s.size) : Calls Tryd.prog 57 #[.string s, .int .i64 (i0 : Int)] w (SkipRes s i0 w) := by
  go_enter Tryd.func57, Tryd.ntmps57
  go_wp2
  go_loop [1] (fun i => ∃ k : Nat, k ≤ s.size ∧ i = .int .i64 k ∧ Hid (lxSkip false (s.data.toList.drop k) = lxSkip false (s.data.toList.drop i0))) (fun i => s.size - (intOf i).toNat)
  case atStart => exact ⟨i0, hi, rfl, rfl⟩
  case round =>
    obtain ⟨k, hk, rfl, hR⟩ := hrel
    by_cases hlt : k < s.size
    · obtain ⟨c, t, hd, hc, hd2⟩ := drop_at (D := s.data.toList) (k := k) (by rw [size_list]; exact hlt)
      have HC := Lib.hid hc
      rw [hd] at hR
      have hsk := byte_at hlt hc
      clear hc
      by_cases hb : lxBl c = true
      · have HR : Hid (lxSkip false (s.data.toList.drop (k + 1)) = lxSkip false (s.data.toList.drop i0)) := by show _ = _; rw [hd2, ← hR.out, skip_bl hb]
        clear hd hd2 hsk hR
        go_wp2_with (first | (go_at_call 74; refine (at_lt s k c _ (by omega) HC.out).mono ?_; rintro e w' ⟨rfl, rfl⟩) | (go_at_call 73; refine (isBlank_any c _).mono ?_; rintro e w' ⟨rfl, rfl⟩))
        go_round
        case rel => exact ⟨k + 1, by omega, by go_num, HR⟩
        case measure => simp [intOf] <;> omega
      have hb2 : lxBl c = false := by simpa using hb
      clear hb
      by_cases h35 : (c == 35) = true
      · have e35 : ((c.toNat : Int) == 35) = true := u8yes (k := 35) (by decide) h35
        have HR : Hid (lxSkip true (s.data.toList.drop k) = lxSkip false (s.data.toList.drop i0)) := by show _ = _; rw [hd, ← hR.out, skip_rem hb2 h35]
        have HK : Hid (s.data.toList[k]? = some 35) := by show _ = _; rw [HC.out]; congr 1; simpa using h35
        clear hd hd2 hsk hR h35
        go_wp2_with (first | (go_at_call 74; refine (at_lt s k c _ (by omega) HC.out).mono ?_; rintro e w' ⟨rfl, rfl⟩) | (go_at_call 73; refine (isBlank_any c _).mono ?_; rintro e w' ⟨rfl, rfl⟩))
        go_loop [1] (fun i => ∃ m : Nat, m ≤ s.size ∧ k ≤ m ∧ i = .int .i64 m ∧ Hid (lxSkip true (s.data.toList.drop m) = lxSkip false (s.data.toList.drop i0))) (fun i => s.size - (intOf i).toNat)
        case atStart => exact ⟨k, hk, Nat.le_refl _, rfl, HR⟩
        case round =>
          obtain ⟨m, hm, hkm, rfl, hM⟩ := hrel
          clear HR HC e35 hb2
          by_cases hlt2 : m < s.size
          · obtain ⟨d, u, hd, hc, hd2⟩ := drop_at (D := s.data.toList) (k := m) (by rw [size_list]; exact hlt2)
            rw [hd] at hM
            have HC := Lib.hid hc
            clear hc
            by_cases h10 : (d == 10) = true
            · have e10 : ((d.toNat : Int) == 10) = true := u8yes (k := 10) (by decide) h10
              have HR : Hid (lxSkip false (s.data.toList.drop m) = lxSkip false (s.data.toList.drop i0)) := by show _ = _; rw [hd, ← hM.out, skip_out h10]
              have hne : k < m := by
                rcases Nat.lt_or_ge k m with h | h
                · exact h
                · have e : m = k := by omega
                  have := HC.out
                  rw [e, HK.out] at this
                  injection this with this
                  rw [← this] at h10
                  exact absurd h10 (by decide)
              clear hd hd2 hM h10 HK
              go_wp2_with (go_at_call 74; refine (at_lt s m d _ (by omega) HC.out).mono ?_; rintro e w' ⟨rfl, rfl⟩)
              go_round
              case rel => exact ⟨m, hm, rfl, HR⟩
              case measure => simp [intOf] <;> omega
            · have e10 : ((d.toNat : Int) == 10) = false := u8ne (k := 10) (by decide) (by simpa using h10)
              have HR : Hid (lxSkip true (s.data.toList.drop (m + 1)) = lxSkip false (s.data.toList.drop i0)) := by show _ = _; rw [hd2, ← hM.out, skip_in (by simpa using h10)]
              clear hd hd2 hM h10 HK
              go_wp2_with (go_at_call 74; refine (at_lt s m d _ (by omega) HC.out).mono ?_; rintro e w' ⟨rfl, rfl⟩)
              go_round
              case rel => exact ⟨m + 1, by omega, by omega, by go_num, HR⟩
              case measure => simp [intOf] <;> omega
          · obtain rfl : m = s.size := by omega
            have HR : Hid (lxSkip false (s.data.toList.drop s.size) = lxSkip false (s.data.toList.drop i0)) := by
              show _ = _; rw [← hM.out, List.drop_of_length_le (by rw [size_list]; omega)]; simp [lxSkip]
            clear hM HK
            go_wp2_with fail
            go_round
            case rel => exact ⟨s.size, hm, rfl, HR⟩
            case measure => simp [intOf] <;> omega
      · have e35 : ((c.toNat : Int) == 35) = false := u8ne (k := 35) (by decide) (by simpa using h35)
        have HR : Hid (s.data.toList.drop k = lxSkip false (s.data.toList.drop i0)) := by show _ = _; rw [← hR.out, skip_same hb2 (by simpa using h35), hd]
        clear hd hd2 hsk hR h35
        go_wp2_with (first | (go_at_call 74; refine (at_lt s k c _ (by omega) HC.out).mono ?_; rintro e w' ⟨rfl, rfl⟩) | (go_at_call 73; refine (isBlank_any c _).mono ?_; rintro e w' ⟨rfl, rfl⟩))
        go_ret
        exact ⟨k, rfl, hk, HR.out, rfl⟩
    · obtain rfl : k = s.size := by omega
      have HR : Hid (s.data.toList.drop s.size = lxSkip false (s.data.toList.drop i0)) := by
        show _ = _; rw [← hR.out, List.drop_of_length_le (by rw [size_list]; omega)]; simp [lxSkip]
      clear hR
      go_wp2_with fail
      go_ret
      exact ⟨s.size, rfl, hk, HR.out, rfl⟩
end Go.Proofs.YthfnncnmggkfaaaDoor

namespace Go.Proofs.YthfnncnmggkfaaaDoor
open Go Go.RowKit

/-- the byte at an offset, 0 at the end. -/
def hdB (D : List UInt8) (k : Nat) : UInt8 := (D.drop k).headD 0
theorem hdB_lt {D : List UInt8} {k : Nat} {c : UInt8} (h : D[k]? = some c) : hdB D k = c := by
  unfold hdB
  rw [List.headD_eq_head?_getD, List.head?_drop, h]; rfl
theorem hdB_end {D : List UInt8} {k : Nat} (h : D.length ≤ k) : hdB D k = 0 := by
  unfold hdB; rw [List.drop_of_length_le h]; rfl
theorem at_hd (s : ByteArray) (k : Nat) (w : World) (hs : s.size ≤ 4611686018427387904) (hk : k ≤ 9223372036854775807) :
    Calls Tryd.prog 74 #[.string s, .int .i64 (k : Int)] w fun e w' => e = .returned (.int .i32 ((hdB s.data.toList k).toNat : Int)) ∧ w = w' := by
  rcases Nat.lt_or_ge k s.size with h | h
  · obtain ⟨c, t, _, hc, _⟩ := drop_at (D := s.data.toList) (k := k) (by rw [size_list]; exact h)
    rw [hdB_lt hc]
    exact at_lt s k c w (by omega) hc
  · rw [hdB_end (by rw [size_list]; exact h)]
    exact at_end s k w h hk
def nmB (c n : UInt8) : Bool := lxNm c || (c == 45 && n != 62)
theorem nmB_zero (n : UInt8) : nmB 0 n = false := by unfold nmB; rw [show lxNm 0 = false from by decide]; rfl
theorem nm_at (D : List UInt8) (k : Nat) : nmLen (D.drop k) = if nmB (hdB D k) (hdB D (k + 1)) then nmLen (D.drop (k + 1)) + 1 else 0 := by
  rcases Nat.lt_or_ge k D.length with h | h
  · obtain ⟨c, t, hd, hc, hd2⟩ := drop_at h
    have e : nmC c t = nmB (hdB D k) (hdB D (k + 1)) := by
      unfold nmC nmB
      rw [hdB_lt hc]
      unfold hdB
      rw [hd2]
      cases t with
      | nil => rfl
      | cons d u => rfl
    rw [hd, hd2, nmLen, e]
  · rw [List.drop_of_length_le h, hdB_end h, nmB_zero, if_neg (by simp), nmLen]
theorem nmB_lt {D : List UInt8} {k : Nat} (h : nmB (hdB D k) (hdB D (k + 1)) = true) : k < D.length := by
  rcases Nat.lt_or_ge k D.length with h2 | h2
  · exact h2
  · rw [hdB_end h2] at h
    rw [nmB_zero] at h; simp at h
theorem extract_eq (s : ByteArray) (i k : Nat) : s.extract i k = ⟨((s.data.toList.drop i).take (k - i)).toArray⟩ := by
  apply ByteArray.ext
  apply Array.toList_inj.1
  rw [ByteArray.data_extract]
  simp
/-- the value of a lexeme. -/
def lxV (x : Lx) : Value := .agg #[.int .i64 x.1, .string ⟨x.2.1.toArray⟩, .int .i64 x.2.2.1, .int .i64 x.2.2.2]
def oneX (o : One) (i : Nat) : Lx := (o.1, o.2.1, o.2.2.1, if o.2.2.2.2 = 0 then (i : Int) else 0)
def oneV (o : One) (i : Nat) : Value := .tuple #[lxV (oneX o i), .int .i64 ((i : Int) + (o.2.2.2.1 : Int)), .int .i64 o.2.2.2.2]
theorem nm_split {c n : UInt8} (h : nmB c n = true) : lxLet c = true ∨ (lxLet c = false ∧ isDig c = true) ∨ (lxLet c = false ∧ isDig c = false ∧ ((c.toNat : Int) == 95) = true) ∨ (lxLet c = false ∧ isDig c = false ∧ ((c.toNat : Int) == 95) = false ∧ ((c.toNat : Int) == 45) = true ∧ ((n.toNat : Int) == 62) = false) := by
  unfold nmB lxNm at h
  rw [show (95 : UInt8) = UInt8.ofNat 95 from rfl, show (45 : UInt8) = UInt8.ofNat 45 from rfl, bne, show (62 : UInt8) = UInt8.ofNat 62 from rfl, u8eq c 95 (by decide), u8eq c 45 (by decide), u8eq n 62 (by decide)] at h
  have e95 : ((c.toNat : Int) == ((95 : Nat) : Int)) = ((c.toNat : Int) == 95) := rfl
  have e45 : ((c.toNat : Int) == ((45 : Nat) : Int)) = ((c.toNat : Int) == 45) := rfl
  have e62 : ((n.toNat : Int) == ((62 : Nat) : Int)) = ((n.toNat : Int) == 62) := rfl
  rw [e95, e45, e62] at h
  cases h1 : lxLet c <;> cases h2 : isDig c <;> cases h3 : ((c.toNat : Int) == 95) <;> cases h4 : ((c.toNat : Int) == 45) <;> cases h5 : ((n.toNat : Int) == 62) <;> simp_all
theorem nm_split2 {c n : UInt8} (h : nmB c n = false) : lxLet c = false ∧ isDig c = false ∧ ((c.toNat : Int) == 95) = false ∧ (((c.toNat : Int) == 45) = false ∨ (((c.toNat : Int) == 45) = true ∧ ((n.toNat : Int) == 62) = true)) := by
  unfold nmB lxNm at h
  rw [show (95 : UInt8) = UInt8.ofNat 95 from rfl, show (45 : UInt8) = UInt8.ofNat 45 from rfl, bne, show (62 : UInt8) = UInt8.ofNat 62 from rfl, u8eq c 95 (by decide), u8eq c 45 (by decide), u8eq n 62 (by decide)] at h
  have e95 : ((c.toNat : Int) == ((95 : Nat) : Int)) = ((c.toNat : Int) == 95) := rfl
  have e45 : ((c.toNat : Int) == ((45 : Nat) : Int)) = ((c.toNat : Int) == 45) := rfl
  have e62 : ((n.toNat : Int) == ((62 : Nat) : Int)) = ((n.toNat : Int) == 62) := rfl
  rw [e95, e45, e62] at h
  cases h1 : lxLet c <;> cases h2 : isDig c <;> cases h3 : ((c.toNat : Int) == 95) <;> cases h4 : ((c.toNat : Int) == 45) <;> cases h5 : ((n.toNat : Int) == 62) <;> simp_all
set_option maxHeartbeats 4000000 in
theorem name_any (s : ByteArray) (i : Nat) (c0 : UInt8) (t : List UInt8) (w : World) (hs : s.size ≤ 4611686018427387904) (hd : s.data.toList.drop i = c0 :: t) (hl : lxLet c0 = true) :
    Calls Tryd.prog 76 #[.string s, .int .i64 (i : Int)] w (Ret (oneV (lxOne (c0 :: t)) i) w) := by
  have hi : i < s.size := by
    have := congrArg List.length hd
    rw [List.length_drop, size_list, List.length_cons] at this; omega
  have ht : s.data.toList.drop (i + 1) = t := by
    have := congrArg (List.drop 1) hd
    rw [List.drop_drop] at this; exact this
  have HT := Lib.hid ht
  have HD := Lib.hid hd
  have HO : Hid (lxOne (c0 :: t) = if 16 < nmLen t + 1 then (0, [], 0, 0, 6) else (1, (c0 :: t).take (nmLen t + 1), 0, nmLen t + 1, 0)) := by show _ = _; rw [lxOne, if_pos hl]
  clear hd ht hl
  go_enter Tryd.func76, Tryd.ntmps76
  go_wp2_with (go_at_call 74; refine (at_hd s (i + 1) _ hs (by omega)).mono ?_; rintro e w' ⟨rfl, rfl⟩)
  go_loop [7, 8] (fun k c => ∃ (m : Nat) (d : UInt8), m ≤ s.size ∧ i + 1 ≤ m ∧ k = .int .i64 m ∧ c = .int .i32 (d.toNat : Int) ∧ Hid (hdB s.data.toList m = d) ∧ Hid (nmLen (s.data.toList.drop m) + (m - (i + 1)) = nmLen t)) (fun k _ => s.size - (intOf k).toNat)
  case atStart => exact ⟨i + 1, _, by omega, by omega, by go_num, rfl, rfl, by show _ = _; rw [HT.out]; omega⟩
  case round =>
    obtain ⟨m, d, hm, him, rfl, rfl, hdm, hN⟩ := hrel
    have hstep := nm_at s.data.toList m
    rw [hdm.out] at hstep
    obtain ⟨n, hn⟩ : ∃ n, hdB s.data.toList (m + 1) = n := ⟨_, rfl⟩
    have CA := Lib.hid (fun w => at_hd s (m + 1) w hs (by omega))
    rw [hn] at hstep CA
    have HNN := Lib.hid hn
    clear hn
    by_cases hb : nmB d n = true
    · have hlt : m < s.size := by
        have := nmB_lt (D := s.data.toList) (k := m) (by rw [hdm.out, HNN.out]; exact hb)
        rw [size_list] at this; exact this
      rw [if_pos hb] at hstep
      have HS : Hid (nmLen (s.data.toList.drop (m + 1)) + (m + 1 - (i + 1)) = nmLen t) := by have := hN.out; show _ = _; omega
      clear hstep hN
      rcases nm_split hb with h1 | ⟨h1, h2⟩ | ⟨h1, h2, h3⟩ | ⟨h1, h2, h3, h4, h5⟩
      all_goals
        clear hb
        go_wp2_with (first | (go_at_call 75; refine (isLetter_any d _).mono ?_; rintro e w' ⟨rfl, rfl⟩) | (go_at_call 77; refine (isDigit_any d _).mono ?_; rintro e w' ⟨rfl, rfl⟩) | (go_at_call 74; refine (CA.out _).mono ?_; rintro e w' ⟨rfl, rfl⟩))
        go_round
        case rel => exact ⟨m + 1, n, by omega, by omega, by go_num, rfl, HNN, HS⟩
        case measure => simp [intOf] <;> omega
    · have hb' : nmB d n = false := by simpa using hb
      rw [if_neg hb] at hstep
      have hme : m - (i + 1) = nmLen t := by have := hN.out; omega
      clear hstep hN hb
      obtain ⟨h1, h2, h3, h4⟩ := nm_split2 hb'
      clear hb'
      by_cases hlong : 16 < nmLen t + 1
      · have HR : Hid (oneV (lxOne (c0 :: t)) i = .tuple #[.agg #[.int .i64 0, .string ⟨#[]⟩, .int .i64 0, .int .i64 0], .int .i64 (i : Int), .int .i64 6]) := by
          show _ = _; rw [HO.out, if_pos hlong]; simp [oneV, oneX, lxV]
        have hgt : (16 : Int) < (m : Int) - (i : Int) := by omega
        clear hlong hme
        rcases h4 with h4 | ⟨h4, h5⟩
        all_goals
          go_wp2_with (first | (go_at_call 75; refine (isLetter_any d _).mono ?_; rintro e w' ⟨rfl, rfl⟩) | (go_at_call 77; refine (isDigit_any d _).mono ?_; rintro e w' ⟨rfl, rfl⟩) | (go_at_call 74; refine (CA.out _).mono ?_; rintro e w' ⟨rfl, rfl⟩))
          rw [HR.out]
          exact bodyPost_ret (v := .tuple #[.agg #[.int .i64 0, .string ⟨#[]⟩, .int .i64 0, .int .i64 0], .int .i64 (i : Int), .int .i64 6]) (by simp [results, Tryd.results76, go_sem]) rfl ⟨rfl, (Below.refl _ _).alloc (Nat.le_refl _) _⟩
      · have HR : Hid (oneV (lxOne (c0 :: t)) i = .tuple #[.agg #[.int .i64 1, .string (s.extract i m), .int .i64 0, .int .i64 i], .int .i64 (m : Int), .int .i64 0]) := by
          show _ = _; rw [HO.out, if_neg hlong, extract_eq, HD.out, show m - i = nmLen t + 1 by omega]; simp [oneV, oneX, lxV]; omega
        have hgt : ¬ (16 : Int) < (m : Int) - (i : Int) := by omega
        clear hlong hme
        rcases h4 with h4 | ⟨h4, h5⟩
        all_goals
          go_wp2_with (first | (go_at_call 75; refine (isLetter_any d _).mono ?_; rintro e w' ⟨rfl, rfl⟩) | (go_at_call 77; refine (isDigit_any d _).mono ?_; rintro e w' ⟨rfl, rfl⟩) | (go_at_call 74; refine (CA.out _).mono ?_; rintro e w' ⟨rfl, rfl⟩))
          rw [HR.out]
          exact bodyPost_ret (v := .tuple #[.agg #[.int .i64 1, .string (s.extract i m), .int .i64 0, .int .i64 i], .int .i64 (m : Int), .int .i64 0]) (by simp [results, Tryd.results76, go_sem]) rfl ⟨rfl, (Below.refl _ _).alloc (Nat.le_refl _) _⟩
end Go.Proofs.YthfnncnmggkfaaaDoor

namespace Go.Proofs.YthfnncnmggkfaaaDoor
open Go Go.RowKit

/-- the cuts along a contour, from the corner behind number f on. -/
def cutsP (p : List Pt) (f : Nat) : List Stp := (List.range p.length).map (fun i => (3, p.getD ((f + i + 1) % p.length) default))
def stepsC (shapes : List Shp) (c : Pt) : List Stp := (1, beginF shapes c) :: (2, (0, 0)) :: (cutsP (ringC shapes c) (idxC (ringC shapes c) (beginF shapes c)).toNat ++ [(4, (0, 0))])
def makeT (shapes : List Shp) (order : List Pt) : List Stp := order.flatMap (stepsC shapes)
def makeF (shapes : List Shp) (order : List Pt) : List Stp × Int := if checkT (contoursF shapes) order ≠ 0 then ([], checkT (contoursF shapes) order) else (makeT shapes order, 0)
theorem makeF_bad {shapes : List Shp} {order : List Pt} (h : checkT (contoursF shapes) order ≠ 0) : makeF shapes order = ([], checkT (contoursF shapes) order) := if_pos h
theorem makeF_yes {shapes : List Shp} {order : List Pt} (h : checkT (contoursF shapes) order = 0) : makeF shapes order = (makeT shapes order, 0) := if_neg (by simpa using h)
def SmallR (shapes : List Shp) : Prop := ∀ c ∈ contoursF shapes, (ringC shapes c).length ≤ 1000
theorem cuts_len (p : List Pt) (f : Nat) : (cutsP p f).length = p.length := by unfold cutsP; rw [List.length_map, List.length_range]
theorem steps_len (shapes : List Shp) (c : Pt) : (stepsC shapes c).length = (ringC shapes c).length + 3 := by
  unfold stepsC
  rw [List.length_cons, List.length_cons, List.length_append, cuts_len]
  rfl
theorem make_len {shapes : List Shp} (hR : SmallR shapes) : ∀ (l : List Pt), (∀ c ∈ l, c ∈ contoursF shapes) → (makeT shapes l).length ≤ l.length * 1003
  | [], _ => by simp [makeT]
  | c :: l, h => by
    have h1 := make_len hR l (fun d hd => h d (by simp [hd]))
    have h2 := hR c (h c (by simp))
    unfold makeT at h1 ⊢
    rw [List.flatMap_cons, List.length_append, steps_len, List.length_cons, Nat.add_mul]
    omega
theorem make_take {shapes : List Shp} {l : List Pt} {k : Nat} {c : Pt} (h : l[k]? = some c) : makeT shapes (l.take (k + 1)) = makeT shapes (l.take k) ++ stepsC shapes c := by
  unfold makeT
  rw [take_one h, List.flatMap_append, List.flatMap_cons, List.flatMap_nil, List.append_nil]
theorem cuts_take {p : List Pt} {f j : Nat} {q : Pt} (h : p[(f + j + 1) % p.length]? = some q) (hj : j < p.length) : (cutsP p f).take (j + 1) = (cutsP p f).take j ++ [(3, q)] := by
  have hx : (cutsP p f)[j]? = some (3, q) := by
    unfold cutsP
    rw [List.getElem?_map, List.getElem?_range hj, Option.map_some, getD_of' h]
  exact take_one hx
def OwnS (w : World) (base : Nat) (v : Value) (xs : List Stp) : Prop := w.ownsRow base 49 3 v xs.length (xs.flatMap stEnc)
theorem own_steps {w : World} {base : Nat} {v : Value} {xs : List Stp} (h : OwnS w base v xs) (hR : ∀ x ∈ xs, inI64 x.1 ∧ inI64 x.2.1 ∧ inI64 x.2.2) : stR.slice.R w (Lt w) xs [v] :=
  own_enc (E := stR) (enc := stEnc) (fun _ => rfl) (by decide) h (fun x hx => ⟨[.int .i64 x.1], [.int .i64 x.2.1, .int .i64 x.2.2], rfl, ⟨rfl, (hR x hx).1⟩, ⟨[.int .i64 x.2.1], [.int .i64 x.2.2], rfl, ⟨rfl, (hR x hx).2.1⟩, ⟨rfl, (hR x hx).2.2⟩⟩⟩)
theorem ownS_app {w : World} {base : Nat} {v : Value} {xs ys : List Stp} (h : w.ownsRow base 49 3 v (xs.length + ys.length) (xs.flatMap stEnc ++ ys.flatMap stEnc)) : OwnS w base v (xs ++ ys) := by
  unfold OwnS
  rw [List.length_append, List.flatMap_append]
  exact h
theorem new_cells (w : World) (cs : Array Value) (e : TypeId) : ∀ j u, cs.toList[j]? = some u → (w.alloc (.cells cs e)).cell? ((⟨w.heap.size, 0, none⟩ : Addr).add j) = some u := by
  intro j u hu
  rw [addr_add, Nat.zero_add, (Blk.new w e cs).cell, ← Array.getElem?_toList]
  exact hu
theorem step_info : (Tryd.prog.info? 49).map (fun i => (i.zero, i.size, i.bytes)) = some (some (.agg #[.int .i64 0, .int .i64 0, .int .i64 0]), 3, 24) := by kernel_rfl
theorem steps_bd {shapes : List Shp} {c : Pt} (hc : c ∈ contoursF shapes) : ∀ x ∈ stepsC shapes c, inI64 x.1 ∧ inI64 x.2.1 ∧ inI64 x.2.2 := by
  have key : ∀ (o : Int) (p : Pt), 0 ≤ o → o ≤ 10 → Near p → inI64 o ∧ inI64 p.1 ∧ inI64 p.2 := fun o p h0 h1 ⟨⟨a, b⟩, c, d⟩ => by unfold inI64; omega
  intro x hx
  unfold stepsC at hx
  rcases List.mem_cons.1 hx with rfl | hx
  · exact key 1 _ (by decide) (by decide) (begin_near hc)
  · rcases List.mem_cons.1 hx with rfl | hx
    · exact key _ _ (by decide) (by decide) ⟨⟨by decide, by decide⟩, by decide, by decide⟩
    · rcases List.mem_append.1 hx with hx | hx
      · unfold cutsP at hx
        obtain ⟨i, hi, rfl⟩ := List.mem_map.1 hx
        have hp := okRing_pos (begin_mem hc).2
        have hlt : ((idxC (ringC shapes c) (beginF shapes c)).toNat + i + 1) % (ringC shapes c).length < (ringC shapes c).length := Nat.mod_lt _ hp
        refine key 3 _ (by decide) (by decide) ?_
        rw [List.getD_eq_getElem?_getD, List.getElem?_eq_getElem hlt]
        exact near_mem (begin_mem hc).2 (List.getElem_mem hlt)
      · rw [List.mem_singleton.1 hx]
        exact key _ _ (by decide) (by decide) ⟨⟨by decide, by decide⟩, by decide, by decide⟩
theorem make_bd {shapes : List Shp} {l : List Pt} (h : ∀ c ∈ l, c ∈ contoursF shapes) : ∀ x ∈ makeT shapes l, inI64 x.1 ∧ inI64 x.2.1 ∧ inI64 x.2.2 := fun x hx => by
  obtain ⟨c, hc, hx⟩ := List.mem_flatMap.1 hx
  exact steps_bd (h c hc) x hx
def MakePost (r : List Stp × Int) (w : World) (e : Ending) (w' : World) : Prop := ∃ v, e = .returned (.tuple #[v, .int .i64 r.2]) ∧ stR.slice.R w' (Lt w') r.1 [v] ∧ Below w.heap.size w w'
end Go.Proofs.YthfnncnmggkfaaaDoor
