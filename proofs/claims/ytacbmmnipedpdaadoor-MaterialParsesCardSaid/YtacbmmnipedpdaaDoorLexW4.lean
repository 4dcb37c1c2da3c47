/- Chapter 07: name of the program, by walking its text. -/
import Derived.Test.YtacbmmnipedpdaaDoorLexW2
import Derived.Lib.SlBytesRow
namespace Go.Proofs.YtacbmmnipedpdaaDoor
open Go Go.RowKit

/-- the byte at an offset, 0 at the end. -/
def hdB (D : List UInt8) (k : Nat) : UInt8 := (D.drop k).headD 0
theorem hdB_lt {D : List UInt8} {k : Nat} {c : UInt8} (h : D[k]? = some c) : hdB D k = c := by
  unfold hdB
  rw [List.headD_eq_head?_getD, List.head?_drop, h]; rfl
theorem hdB_end {D : List UInt8} {k : Nat} (h : D.length ≤ k) : hdB D k = 0 := by
  unfold hdB; rw [List.drop_of_length_le h]; rfl
theorem at_hd (s : ByteArray) (k : Nat) (w : World) (hs : s.size ≤ 4611686018427387904) (hk : k ≤ 9223372036854775807) :
    Calls Tryd.prog 72 #[.string s, .int .i64 (k : Int)] w fun e w' => e = .returned (.int .i32 ((hdB s.data.toList k).toNat : Int)) ∧ w = w' := by
  rcases Nat.lt_or_ge k s.size with h | h
  · obtain ⟨c, t, _, hc, _⟩ := drop_at (D := s.data.toList) (k := k) (by rw [size_list]; exact h)
    rw [hdB_lt hc]
    exact at_lt s k c w (by omega) hc
  · rw [hdB_end (by rw [size_list]; exact h)]
    exact at_end s k w h hk
def nmB (c n : UInt8) : Bool := lxNm c || (c == 45 && n != 62)
theorem nmB_zero (n : UInt8) : nmB 0 n = false := by unfold nmB; rw [show lxNm 0 = false from by decide]; rfl
theorem nm_at (D : List UInt8) (k : Nat) : nmLen (D.drop k) = if nmB (hdB D k) (hdB D (k + 1)) then nmLen (D.drop (k + 1)) + 1 else 0 := by
  rcases Nat.lt_or_ge k D.length with h | h
  · obtain ⟨c, t, hd, hc, hd2⟩ := drop_at h
    have e : nmC c t = nmB (hdB D k) (hdB D (k + 1)) := by
      unfold nmC nmB
      rw [hdB_lt hc]
      unfold hdB
      rw [hd2]
      cases t with
      | nil => rfl
      | cons d u => rfl
    rw [hd, hd2, nmLen, e]
  · rw [List.drop_of_length_le h, hdB_end h, nmB_zero, if_neg (by simp), nmLen]
theorem nmB_lt {D : List UInt8} {k : Nat} (h : nmB (hdB D k) (hdB D (k + 1)) = true) : k < D.length := by
  rcases Nat.lt_or_ge k D.length with h2 | h2
  · exact h2
  · rw [hdB_end h2] at h
    rw [nmB_zero] at h; simp at h
theorem extract_eq (s : ByteArray) (i k : Nat) : s.extract i k = ⟨((s.data.toList.drop i).take (k - i)).toArray⟩ := by
  apply ByteArray.ext
  apply Array.toList_inj.1
  rw [ByteArray.data_extract]
  simp
/-- the value of a lexeme. -/
def lxV (x : Lx) : Value := .agg #[.int .i64 x.1, .string ⟨x.2.1.toArray⟩, .int .i64 x.2.2.1, .int .i64 x.2.2.2]
def oneX (o : One) (i : Nat) : Lx := (o.1, o.2.1, o.2.2.1, if o.2.2.2.2 = 0 then (i : Int) else 0)
def oneV (o : One) (i : Nat) : Value := .tuple #[lxV (oneX o i), .int .i64 ((i : Int) + (o.2.2.2.1 : Int)), .int .i64 o.2.2.2.2]
theorem nm_split {c n : UInt8} (h : nmB c n = true) : lxLet c = true ∨ (lxLet c = false ∧ isDig c = true) ∨ (lxLet c = false ∧ isDig c = false ∧ ((c.toNat : Int) == 95) = true) ∨ (lxLet c = false ∧ isDig c = false ∧ ((c.toNat : Int) == 95) = false ∧ ((c.toNat : Int) == 45) = true ∧ ((n.toNat : Int) == 62) = false) := by
  unfold nmB lxNm at h
  rw [show (95 : UInt8) = UInt8.ofNat 95 from rfl, show (45 : UInt8) = UInt8.ofNat 45 from rfl, bne, show (62 : UInt8) = UInt8.ofNat 62 from rfl, u8eq c 95 (by decide), u8eq c 45 (by decide), u8eq n 62 (by decide)] at h
  have e95 : ((c.toNat : Int) == ((95 : Nat) : Int)) = ((c.toNat : Int) == 95) := rfl
  have e45 : ((c.toNat : Int) == ((45 : Nat) : Int)) = ((c.toNat : Int) == 45) := rfl
  have e62 : ((n.toNat : Int) == ((62 : Nat) : Int)) = ((n.toNat : Int) == 62) := rfl
  rw [e95, e45, e62] at h
  cases h1 : lxLet c <;> cases h2 : isDig c <;> cases h3 : ((c.toNat : Int) == 95) <;> cases h4 : ((c.toNat : Int) == 45) <;> cases h5 : ((n.toNat : Int) == 62) <;> simp_all
theorem nm_split2 {c n : UInt8} (h : nmB c n = false) : lxLet c = false ∧ isDig c = false ∧ ((c.toNat : Int) == 95) = false ∧ (((c.toNat : Int) == 45) = false ∨ (((c.toNat : Int) == 45) = true ∧ ((n.toNat : Int) == 62) = true)) := by
  unfold nmB lxNm at h
  rw [show (95 : UInt8) = UInt8.ofNat 95 from rfl, show (45 : UInt8) = UInt8.ofNat 45 from rfl, bne, show (62 : UInt8) = UInt8.ofNat 62 from rfl, u8eq c 95 (by decide), u8eq c 45 (by decide), u8eq n 62 (by decide)] at h
  have e95 : ((c.toNat : Int) == ((95 : Nat) : Int)) = ((c.toNat : Int) == 95) := rfl
  have e45 : ((c.toNat : Int) == ((45 : Nat) : Int)) = ((c.toNat : Int) == 45) := rfl
  have e62 : ((n.toNat : Int) == ((62 : Nat) : Int)) = ((n.toNat : Int) == 62) := rfl
  rw [e95, e45, e62] at h
  cases h1 : lxLet c <;> cases h2 : isDig c <;> cases h3 : ((c.toNat : Int) == 95) <;> cases h4 : ((c.toNat : Int) == 45) <;> cases h5 : ((n.toNat : Int) == 62) <;> simp_all
set_option maxHeartbeats 4000000 in
theorem name_any (s : ByteArray) (i : Nat) (c0 : UInt8) (t : List UInt8) (w : World) (hs : s.size ≤ 4611686018427387904) (hd : s.data.toList.drop i = c0 :: t) (hl : lxLet c0 = true) :
    Calls Tryd.prog 74 #[.string s, .int .i64 (i : Int)] w (Ret (oneV (lxOne (c0 :: t)) i) w) := by
  have hi : i < s.size := by
    have := congrArg List.length hd
    rw [List.length_drop, size_list, List.length_cons] at this; omega
  have ht : s.data.toList.drop (i + 1) = t := by
    have := congrArg (List.drop 1) hd
    rw [List.drop_drop] at this; exact this
  have HT := Lib.hid ht
  have HD := Lib.hid hd
  have HO : Hid (lxOne (c0 :: t) = if 16 < nmLen t + 1 then (0, [], 0, 0, 6) else (1, (c0 :: t).take (nmLen t + 1), 0, nmLen t + 1, 0)) := by show _ = _; rw [lxOne, if_pos hl]
  clear hd ht hl
  go_enter Tryd.func74, Tryd.ntmps74
  go_wp2_with (go_at_call 72; refine (at_hd s (i + 1) _ hs (by omega)).mono ?_; rintro e w' ⟨rfl, rfl⟩)
  go_loop [7, 8] (fun k c => ∃ (m : Nat) (d : UInt8), m ≤ s.size ∧ i + 1 ≤ m ∧ k = .int .i64 m ∧ c = .int .i32 (d.toNat : Int) ∧ Hid (hdB s.data.toList m = d) ∧ Hid (nmLen (s.data.toList.drop m) + (m - (i + 1)) = nmLen t)) (fun k _ => s.size - (intOf k).toNat)
  case atStart => exact ⟨i + 1, _, by omega, by omega, by go_num, rfl, rfl, by show _ = _; rw [HT.out]; omega⟩
  case round =>
    obtain ⟨m, d, hm, him, rfl, rfl, hdm, hN⟩ := hrel
    have hstep := nm_at s.data.toList m
    rw [hdm.out] at hstep
    obtain ⟨n, hn⟩ : ∃ n, hdB s.data.toList (m + 1) = n := ⟨_, rfl⟩
    have CA := Lib.hid (fun w => at_hd s (m + 1) w hs (by omega))
    rw [hn] at hstep CA
    have HNN := Lib.hid hn
    clear hn
    by_cases hb : nmB d n = true
    · have hlt : m < s.size := by
        have := nmB_lt (D := s.data.toList) (k := m) (by rw [hdm.out, HNN.out]; exact hb)
        rw [size_list] at this; exact this
      rw [if_pos hb] at hstep
      have HS : Hid (nmLen (s.data.toList.drop (m + 1)) + (m + 1 - (i + 1)) = nmLen t) := by have := hN.out; show _ = _; omega
      clear hstep hN
      rcases nm_split hb with h1 | ⟨h1, h2⟩ | ⟨h1, h2, h3⟩ | ⟨h1, h2, h3, h4, h5⟩
      all_goals
        clear hb
        go_wp2_with (first | (go_at_call 73; refine (isLetter_any d _).mono ?_; rintro e w' ⟨rfl, rfl⟩) | (go_at_call 75; refine (isDigit_any d _).mono ?_; rintro e w' ⟨rfl, rfl⟩) | (go_at_call 72; refine (CA.out _).mono ?_; rintro e w' ⟨rfl, rfl⟩))
        go_round
        case rel => exact ⟨m + 1, n, by omega, by omega, by go_num, rfl, HNN, HS⟩
        case measure => simp [intOf] <;> omega
    · have hb' : nmB d n = false := by simpa using hb
      rw [if_neg hb] at hstep
      have hme : m - (i + 1) = nmLen t := by have := hN.out; omega
      clear hstep hN hb
      obtain ⟨h1, h2, h3, h4⟩ := nm_split2 hb'
      clear hb'
      by_cases hlong : 16 < nmLen t + 1
      · have HR : Hid (oneV (lxOne (c0 :: t)) i = .tuple #[.agg #[.int .i64 0, .string ⟨#[]⟩, .int .i64 0, .int .i64 0], .int .i64 (i : Int), .int .i64 6]) := by
          show _ = _; rw [HO.out, if_pos hlong]; simp [oneV, oneX, lxV]
        have hgt : (16 : Int) < (m : Int) - (i : Int) := by omega
        clear hlong hme
        rcases h4 with h4 | ⟨h4, h5⟩
        all_goals
          go_wp2_with (first | (go_at_call 73; refine (isLetter_any d _).mono ?_; rintro e w' ⟨rfl, rfl⟩) | (go_at_call 75; refine (isDigit_any d _).mono ?_; rintro e w' ⟨rfl, rfl⟩) | (go_at_call 72; refine (CA.out _).mono ?_; rintro e w' ⟨rfl, rfl⟩))
          rw [HR.out]
          exact bodyPost_ret (v := .tuple #[.agg #[.int .i64 0, .string ⟨#[]⟩, .int .i64 0, .int .i64 0], .int .i64 (i : Int), .int .i64 6]) (by simp [results, Tryd.results74, go_sem]) rfl ⟨rfl, (Below.refl _ _).alloc (Nat.le_refl _) _⟩
      · have HR : Hid (oneV (lxOne (c0 :: t)) i = .tuple #[.agg #[.int .i64 1, .string (s.extract i m), .int .i64 0, .int .i64 i], .int .i64 (m : Int), .int .i64 0]) := by
          show _ = _; rw [HO.out, if_neg hlong, extract_eq, HD.out, show m - i = nmLen t + 1 by omega]; simp [oneV, oneX, lxV]; omega
        have hgt : ¬ (16 : Int) < (m : Int) - (i : Int) := by omega
        clear hlong hme
        rcases h4 with h4 | ⟨h4, h5⟩
        all_goals
          go_wp2_with (first | (go_at_call 73; refine (isLetter_any d _).mono ?_; rintro e w' ⟨rfl, rfl⟩) | (go_at_call 75; refine (isDigit_any d _).mono ?_; rintro e w' ⟨rfl, rfl⟩) | (go_at_call 72; refine (CA.out _).mono ?_; rintro e w' ⟨rfl, rfl⟩))
          rw [HR.out]
          exact bodyPost_ret (v := .tuple #[.agg #[.int .i64 1, .string (s.extract i m), .int .i64 0, .int .i64 i], .int .i64 (m : Int), .int .i64 0]) (by simp [results, Tryd.results74, go_sem]) rfl ⟨rfl, (Below.refl _ _).alloc (Nat.le_refl _) _⟩
end Go.Proofs.YtacbmmnipedpdaaDoor
