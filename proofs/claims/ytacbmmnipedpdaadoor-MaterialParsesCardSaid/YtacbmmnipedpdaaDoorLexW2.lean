/- Chapter 07: skip of the program and of the reference, by walking their text. -/
import Derived.Test.YtacbmmnipedpdaaDoorLexW1
namespace Go.Proofs.YtacbmmnipedpdaaDoor
open Go Go.RowKit

theorem drop_at {D : List UInt8} {k : Nat} (h : k < D.length) : ∃ c t, D.drop k = c :: t ∧ D[k]? = some c ∧ D.drop (k + 1) = t := by
  refine ⟨D[k], D.drop (k + 1), List.drop_eq_getElem_cons h, List.getElem?_eq_getElem h, rfl⟩
theorem byte_at {s : ByteArray} {k : Nat} {c : UInt8} (hlt : k < s.size) (hc : s.data.toList[k]? = some c) : s[k] = c := by
  rw [List.getElem?_eq_getElem (by simpa using hlt)] at hc
  injection hc
theorem u8ne {c : UInt8} {k : Nat} (hk : k < 256) (h : (c == UInt8.ofNat k) = false) : ((c.toNat : Int) == (k : Int)) = false := by rw [← u8eq c k hk]; exact h
theorem u8yes {c : UInt8} {k : Nat} (hk : k < 256) (h : (c == UInt8.ofNat k) = true) : ((c.toNat : Int) == (k : Int)) = true := by rw [← u8eq c k hk]; exact h
def SkipRes (s : ByteArray) (i : Nat) (w : World) (e : Ending) (w' : World) : Prop := ∃ j : Nat, e = .returned (.int .i64 j) ∧ j ≤ s.size ∧ s.data.toList.drop j = lxSkip false (s.data.toList.drop i) ∧ w = w'
theorem skip_bl {c : UInt8} {t : List UInt8} (h : lxBl c = true) : lxSkip false (c :: t) = lxSkip false t := by rw [lxSkip, if_pos h]
theorem skip_rem {c : UInt8} {t : List UInt8} (h : lxBl c = false) (h2 : (c == 35) = true) : lxSkip false (c :: t) = lxSkip true (c :: t) := by
  have h3 : (c == 10) = false := by
    rw [beq_eq_false_iff_ne]; rintro rfl; exact absurd h2 (by decide)
  rw [lxSkip, if_neg (by rw [h]; simp), if_pos h2, lxSkip, if_neg (by rw [h3]; simp)]
theorem skip_in {c : UInt8} {t : List UInt8} (h : (c == 10) = false) : lxSkip true (c :: t) = lxSkip true t := by rw [lxSkip, if_neg (by rw [h]; simp)]
theorem skip_out {c : UInt8} {t : List UInt8} (h : (c == 10) = true) : lxSkip true (c :: t) = lxSkip false (c :: t) := by
  have e : c = 10 := by simpa using h
  subst e
  have e1 : lxSkip true (10 :: t) = lxSkip false t := by rw [lxSkip, if_pos (by decide)]
  have e2 : lxSkip false (10 :: t) = lxSkip false t := by rw [lxSkip, if_pos (by decide)]
  rw [e1, e2]
theorem size_list (s : ByteArray) : s.data.toList.length = s.size := by simp
set_option maxHeartbeats 2000000 in
theorem skip_any (s : ByteArray) (i0 : Nat) (w : World) (hs : s.size ≤ 4611686018427387904) (hi : i0 ≤ s.size) : Calls Tryd.prog 62 #[.string s, .int .i64 (i0 : Int)] w (SkipRes s i0 w) := by
  go_enter Tryd.func62, Tryd.ntmps62
  go_wp2
  go_loop [1] (fun i => ∃ k : Nat, k ≤ s.size ∧ i = .int .i64 k ∧ Hid (lxSkip false (s.data.toList.drop k) = lxSkip false (s.data.toList.drop i0))) (fun i => s.size - (intOf i).toNat)
  case atStart => exact ⟨i0, hi, rfl, rfl⟩
  case round =>
    obtain ⟨k, hk, rfl, hR⟩ := hrel
    by_cases hlt : k < s.size
    · obtain ⟨c, t, hd, hc, hd2⟩ := drop_at (D := s.data.toList) (k := k) (by rw [size_list]; exact hlt)
      have HC := Lib.hid hc
      rw [hd] at hR
      have hsk := byte_at hlt hc
      clear hc
      by_cases hb : lxBl c = true
      · have HR : Hid (lxSkip false (s.data.toList.drop (k + 1)) = lxSkip false (s.data.toList.drop i0)) := by show _ = _; rw [hd2, ← hR.out, skip_bl hb]
        clear hd hd2 hsk hR
        go_wp2_with (first | (go_at_call 72; refine (at_lt s k c _ (by omega) HC.out).mono ?_; rintro e w' ⟨rfl, rfl⟩) | (go_at_call 71; refine (isBlank_any c _).mono ?_; rintro e w' ⟨rfl, rfl⟩))
        go_round
        case rel => exact ⟨k + 1, by omega, by go_num, HR⟩
        case measure => simp [intOf] <;> omega
      have hb2 : lxBl c = false := by simpa using hb
      clear hb
      by_cases h35 : (c == 35) = true
      · have e35 : ((c.toNat : Int) == 35) = true := u8yes (k := 35) (by decide) h35
        have HR : Hid (lxSkip true (s.data.toList.drop k) = lxSkip false (s.data.toList.drop i0)) := by show _ = _; rw [hd, ← hR.out, skip_rem hb2 h35]
        have HK : Hid (s.data.toList[k]? = some 35) := by show _ = _; rw [HC.out]; congr 1; simpa using h35
        clear hd hd2 hsk hR h35
        go_wp2_with (first | (go_at_call 72; refine (at_lt s k c _ (by omega) HC.out).mono ?_; rintro e w' ⟨rfl, rfl⟩) | (go_at_call 71; refine (isBlank_any c _).mono ?_; rintro e w' ⟨rfl, rfl⟩))
        go_loop [1] (fun i => ∃ m : Nat, m ≤ s.size ∧ k ≤ m ∧ i = .int .i64 m ∧ Hid (lxSkip true (s.data.toList.drop m) = lxSkip false (s.data.toList.drop i0))) (fun i => s.size - (intOf i).toNat)
        case atStart => exact ⟨k, hk, Nat.le_refl _, rfl, HR⟩
        case round =>
          obtain ⟨m, hm, hkm, rfl, hM⟩ := hrel
          clear HR HC e35 hb2
          by_cases hlt2 : m < s.size
          · obtain ⟨d, u, hd, hc, hd2⟩ := drop_at (D := s.data.toList) (k := m) (by rw [size_list]; exact hlt2)
            rw [hd] at hM
            have HC := Lib.hid hc
            clear hc
            by_cases h10 : (d == 10) = true
            · have e10 : ((d.toNat : Int) == 10) = true := u8yes (k := 10) (by decide) h10
              have HR : Hid (lxSkip false (s.data.toList.drop m) = lxSkip false (s.data.toList.drop i0)) := by show _ = _; rw [hd, ← hM.out, skip_out h10]
              have hne : k < m := by
                rcases Nat.lt_or_ge k m with h | h
                · exact h
                · have e : m = k := by omega
                  have := HC.out
                  rw [e, HK.out] at this
                  injection this with this
                  rw [← this] at h10
                  exact absurd h10 (by decide)
              clear hd hd2 hM h10 HK
              go_wp2_with (go_at_call 72; refine (at_lt s m d _ (by omega) HC.out).mono ?_; rintro e w' ⟨rfl, rfl⟩)
              go_round
              case rel => exact ⟨m, hm, rfl, HR⟩
              case measure => simp [intOf] <;> omega
            · have e10 : ((d.toNat : Int) == 10) = false := u8ne (k := 10) (by decide) (by simpa using h10)
              have HR : Hid (lxSkip true (s.data.toList.drop (m + 1)) = lxSkip false (s.data.toList.drop i0)) := by show _ = _; rw [hd2, ← hM.out, skip_in (by simpa using h10)]
              clear hd hd2 hM h10 HK
              go_wp2_with (go_at_call 72; refine (at_lt s m d _ (by omega) HC.out).mono ?_; rintro e w' ⟨rfl, rfl⟩)
              go_round
              case rel => exact ⟨m + 1, by omega, by omega, by go_num, HR⟩
              case measure => simp [intOf] <;> omega
          · obtain rfl : m = s.size := by omega
            have HR : Hid (lxSkip false (s.data.toList.drop s.size) = lxSkip false (s.data.toList.drop i0)) := by
              show _ = _; rw [← hM.out, List.drop_of_length_le (by rw [size_list]; omega)]; simp [lxSkip]
            clear hM HK
            go_wp2_with fail
            go_round
            case rel => exact ⟨s.size, hm, rfl, HR⟩
            case measure => simp [intOf] <;> omega
      · have e35 : ((c.toNat : Int) == 35) = false := u8ne (k := 35) (by decide) (by simpa using h35)
        have HR : Hid (s.data.toList.drop k = lxSkip false (s.data.toList.drop i0)) := by show _ = _; rw [← hR.out, skip_same hb2 (by simpa using h35), hd]
        clear hd hd2 hsk hR h35
        go_wp2_with (first | (go_at_call 72; refine (at_lt s k c _ (by omega) HC.out).mono ?_; rintro e w' ⟨rfl, rfl⟩) | (go_at_call 71; refine (isBlank_any c _).mono ?_; rintro e w' ⟨rfl, rfl⟩))
        go_ret
        exact ⟨k, rfl, hk, HR.out, rfl⟩
    · obtain rfl : k = s.size := by omega
      have HR : Hid (s.data.toList.drop s.size = lxSkip false (s.data.toList.drop i0)) := by
        show _ = _; rw [← hR.out, List.drop_of_length_le (by rw [size_list]; omega)]; simp [lxSkip]
      clear hR
      go_wp2_with fail
      go_ret
      exact ⟨s.size, rfl, hk, HR.out, rfl⟩
end Go.Proofs.YtacbmmnipedpdaaDoor
