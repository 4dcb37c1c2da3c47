/- Chapter 07: skip of the reference, by walking its text. -/
import Derived.Test.YtjcecnlnmodkgaaDoorLexW2
namespace Go.Proofs.YtjcecnlnmodkgaaDoor
open Go Go.RowKit

theorem bl_cases {c : UInt8} (h : lxBl c = true) : ((c.toNat : Int) == 32) = true ∨ (((c.toNat : Int) == 32) = false ∧ ((c.toNat : Int) == 9) = true) ∨ (((c.toNat : Int) == 32) = false ∧ ((c.toNat : Int) == 9) = false ∧ ((c.toNat : Int) == 10) = true) ∨
    (((c.toNat : Int) == 32) = false ∧ ((c.toNat : Int) == 9) = false ∧ ((c.toNat : Int) == 10) = false ∧ ((c.toNat : Int) == 13) = true) := by
  rw [lxBl_int] at h
  cases h1 : ((c.toNat : Int) == 32) <;> cases h2 : ((c.toNat : Int) == 9) <;> cases h3 : ((c.toNat : Int) == 10) <;> cases h4 : ((c.toNat : Int) == 13) <;> simp_all
theorem bl_none {c : UInt8} (h : lxBl c = false) : ((c.toNat : Int) == 32) = false ∧ ((c.toNat : Int) == 9) = false ∧ ((c.toNat : Int) == 10) = false ∧ ((c.toNat : Int) == 13) = false := by
  rw [lxBl_int] at h
  cases h1 : ((c.toNat : Int) == 32) <;> cases h2 : ((c.toNat : Int) == 9) <;> cases h3 : ((c.toNat : Int) == 10) <;> cases h4 : ((c.toNat : Int) == 13) <;> simp_all
theorem bl_not35 {c : UInt8} (h : lxBl c = true) : (c == 35) = false := by
  rw [beq_eq_false_iff_ne]; rintro rfl; exact absurd h (by decide)
set_option maxHeartbeats 2000000 in
theorem refSkip_any (s : ByteArray) (i0 : Nat) (w : World) (hs : s.size ≤ 4611686018427387904) (hi : i0 ≤ s.size) : Calls Tryd.prog 23 #[.string s, .int .i64 (i0 : Int)] w (SkipRes s i0 w) := by
  go_enter Tryd.func23, Tryd.ntmps23
  go_wp2
  go_loop [1] (fun i => ∃ k : Nat, k ≤ s.size ∧ i = .int .i64 k ∧ Hid (lxSkip false (s.data.toList.drop k) = lxSkip false (s.data.toList.drop i0))) (fun i => s.size - (intOf i).toNat)
  case atStart => exact ⟨i0, hi, rfl, rfl⟩
  case round =>
    obtain ⟨k, hk, rfl, hR⟩ := hrel
    by_cases hlt : k < s.size
    · obtain ⟨c, t, hd, hc, hd2⟩ := drop_at (D := s.data.toList) (k := k) (by rw [size_list]; exact hlt)
      have HC := Lib.hid hc
      rw [hd] at hR
      have hsk := byte_at hlt hc
      clear hc
      by_cases hb : lxBl c = true
      · have HR : Hid (lxSkip false (s.data.toList.drop (k + 1)) = lxSkip false (s.data.toList.drop i0)) := by show _ = _; rw [hd2, ← hR.out, skip_bl hb]
        have e35 : ((c.toNat : Int) == 35) = false := u8ne (k := 35) (by decide) (bl_not35 hb)
        have hbc := bl_cases hb
        clear hd hd2 hR hb
        rcases hbc with h1 | ⟨h1, h2⟩ | ⟨h1, h2, h3⟩ | ⟨h1, h2, h3, h4⟩
        all_goals
          go_wp2
          go_round
          case rel => exact ⟨k + 1, by omega, by go_num, HR⟩
          case measure => simp [intOf] <;> omega
      have hb2 : lxBl c = false := by simpa using hb
      clear hb
      by_cases h35 : (c == 35) = true
      · have e35 : ((c.toNat : Int) == 35) = true := u8yes (k := 35) (by decide) h35
        have HR : Hid (lxSkip true (s.data.toList.drop k) = lxSkip false (s.data.toList.drop i0)) := by show _ = _; rw [hd, ← hR.out, skip_rem hb2 h35]
        have HK : Hid (s.data.toList[k]? = some 35) := by show _ = _; rw [HC.out]; congr 1; simpa using h35
        clear hd hd2 hR h35 hb2
        go_wp2
        go_loop [1] (fun i => ∃ m : Nat, m ≤ s.size ∧ k ≤ m ∧ i = .int .i64 m ∧ Hid (lxSkip true (s.data.toList.drop m) = lxSkip false (s.data.toList.drop i0))) (fun i => s.size - (intOf i).toNat)
        case atStart => exact ⟨k, hk, Nat.le_refl _, rfl, HR⟩
        case round =>
          obtain ⟨m, hm, hkm, rfl, hM⟩ := hrel
          clear HR HC e35 hsk
          by_cases hlt2 : m < s.size
          · obtain ⟨d, u, hd, hc, hd2⟩ := drop_at (D := s.data.toList) (k := m) (by rw [size_list]; exact hlt2)
            rw [hd] at hM
            have HC := Lib.hid hc
            have hsm := byte_at hlt2 hc
            clear hc
            by_cases h10 : (d == 10) = true
            · have e10 : ((d.toNat : Int) == 10) = true := u8yes (k := 10) (by decide) h10
              have HR : Hid (lxSkip false (s.data.toList.drop m) = lxSkip false (s.data.toList.drop i0)) := by show _ = _; rw [hd, ← hM.out, skip_out h10]
              have hne : k < m := by
                rcases Nat.lt_or_ge k m with h | h
                · exact h
                · have e : m = k := by omega
                  have := HC.out
                  rw [e, HK.out] at this
                  injection this with this
                  rw [← this] at h10
                  exact absurd h10 (by decide)
              clear hd hd2 hM h10 HK
              go_wp2
              go_round
              case rel => exact ⟨m, hm, rfl, HR⟩
              case measure => simp [intOf] <;> omega
            · have e10 : ((d.toNat : Int) == 10) = false := u8ne (k := 10) (by decide) (by simpa using h10)
              have HR : Hid (lxSkip true (s.data.toList.drop (m + 1)) = lxSkip false (s.data.toList.drop i0)) := by show _ = _; rw [hd2, ← hM.out, skip_in (by simpa using h10)]
              clear hd hd2 hM h10 HK
              go_wp2
              go_round
              case rel => exact ⟨m + 1, by omega, by omega, by go_num, HR⟩
              case measure => simp [intOf] <;> omega
          · obtain rfl : m = s.size := by omega
            have HR : Hid (lxSkip false (s.data.toList.drop s.size) = lxSkip false (s.data.toList.drop i0)) := by
              show _ = _; rw [← hM.out, List.drop_of_length_le (by rw [size_list]; omega)]; simp [lxSkip]
            clear hM HK
            go_wp2_with fail
            go_round
            case rel => exact ⟨s.size, hm, rfl, HR⟩
            case measure => simp [intOf] <;> omega
      · have e35 : ((c.toNat : Int) == 35) = false := u8ne (k := 35) (by decide) (by simpa using h35)
        have HR : Hid (s.data.toList.drop k = lxSkip false (s.data.toList.drop i0)) := by show _ = _; rw [← hR.out, skip_same hb2 (by simpa using h35), hd]
        obtain ⟨h1, h2, h3, h4⟩ := bl_none hb2
        clear hd hd2 hR h35
        go_wp2
        go_ret
        exact ⟨k, rfl, hk, HR.out, rfl⟩
    · obtain rfl : k = s.size := by omega
      have HR : Hid (s.data.toList.drop s.size = lxSkip false (s.data.toList.drop i0)) := by
        show _ = _; rw [← hR.out, List.drop_of_length_le (by rw [size_list]; omega)]; simp [lxSkip]
      clear hR
      go_wp2_with fail
      go_ret
      exact ⟨s.size, rfl, hk, HR.out, rfl⟩
end Go.Proofs.YtjcecnlnmodkgaaDoor
