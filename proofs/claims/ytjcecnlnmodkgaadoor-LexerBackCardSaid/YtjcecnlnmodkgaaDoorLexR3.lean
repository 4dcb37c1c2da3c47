/- Chapter 07: IsMark and number of the reference, by walking their text. -/
import Derived.Test.YtjcecnlnmodkgaaDoorLexR2
import Derived.Test.YtjcecnlnmodkgaaDoorLexNum
import Derived.Deep.QuietTactic
namespace Go.Proofs.YtjcecnlnmodkgaaDoor
open Go Go.RowKit

set_option maxRecDepth 100000 in
set_option maxHeartbeats 2000000 in
theorem refIsMark_any (s : ByteArray) (w : World) (hs : s.size ≤ 4611686018427387904) : Calls Tryd.prog 20 #[.string s] w fun e w' => e = .returned (.bool (isMkF s.data.toList)) ∧ Qt w w' := by
  by_cases h1 : s.data.toList = [45, 62]
  · have e1 : (s.toList == [45, 62]) = true := by rw [ByteArray.toList_eq, h1]; rfl
    have HR : Hid (isMkF s.data.toList = true) := by show _ = _; unfold isMkF; rw [h1]; rfl
    clear h1
    go_enter Tryd.func20, Tryd.ntmps20
    go_wp2_with fail
    go_ret
    exact ⟨ret_bool HR.out.symm, Qt.refl _⟩
  have e1 : (s.toList == [45, 62]) = false := by rw [ByteArray.toList_eq]; exact beq_eq_false_iff_ne.2 h1
  by_cases h2 : s.size = 1
  · obtain ⟨c, hc⟩ : ∃ c, s = ⟨#[c]⟩ := by
      obtain ⟨⟨l⟩⟩ := s
      match l, h2 with
      | [c], _ => exact ⟨c, rfl⟩
    have HR : Hid (isMkF s.data.toList = lxMk c) := by subst hc; show _ = _; unfold isMkF; rw [beq_eq_false_iff_ne.2 h1]; rfl
    have h0 : 0 < s.size := by omega
    have hs0 : s[0] = c := byte_at h0 (by rw [hc]; rfl)
    have e2 : ((s.size : Int) != 1) = false := ine_f (by omega)
    have e3 : (s.size != 1) = false := by simp [h2]
    rw [HR.out]
    obtain ⟨B, hB⟩ : ∃ B, B = lxMk c := ⟨_, rfl⟩
    rw [← hB]
    have HB := Lib.hid hB
    clear hc h1 h2 hB
    go_enter Tryd.func20, Tryd.ntmps20
    go_wp2_with fail
    obtain ⟨M, hMM⟩ : ∃ M : ByteArray, M = ⟨#[123, 125, 40, 41, 91, 93, 44, 59, 58, 61, 43, 45, 42, 47, 46]⟩ := ⟨_, rfl⟩
    rw [← hMM]
    have hM : M.size = 15 := by rw [hMM]; rfl
    have hL : Hid (M.data.toList = lxMks) := by show _ = _; rw [hMM]; rfl
    clear hMM
    have HM := Lib.hid hM
    clear hM
    go_loopw [4] (fun k wr => ∃ (m : Nat), k = .int .i64 m ∧ m ≤ 15 ∧ Hid ((lxMks.take m).contains c = false) ∧ Qt w wr) (fun k _ => 15 - (intOf k).toNat)
    case atStart => exact ⟨0, rfl, by omega, by rfl, Qt.refl _⟩
    case round =>
      obtain ⟨m, rfl, hm, hN, hq⟩ := hrel
      have hM := HM.out
      by_cases hlt : m < 15
      · have hltM : m < M.size := by omega
        obtain ⟨x, hx⟩ : ∃ x, lxMks[m]? = some x := ⟨_, List.getElem?_eq_getElem hlt⟩
        have hMx : M[m] = x := byte_at hltM (by rw [hL.out]; exact hx)
        have ht : lxMks.take (m + 1) = lxMks.take m ++ [x] := take_one hx
        have hcon : ∀ b, (c == x) = b → (lxMks.take (m + 1)).contains c = b := fun b hb => by
          have h3 := hN.out
          rw [ht, List.contains_eq_mem] at *
          simp at h3 ⊢
          rw [← hb]
          by_cases h4 : c = x
          · simp [h4]
          · simp [h3, h4]
        by_cases hcx : c = x
        · have hin : lxMk c = true := by
            unfold lxMk
            rw [List.contains_eq_mem, decide_eq_true_eq, hcx]
            exact List.mem_of_getElem? hx
          have HT : Hid (B = true) := by show _ = _; rw [HB.out, hin]
          have q1 : (x.toNat == c.toNat) = true := by rw [hcx]; simp
          have q2 : ((x.toNat : Int) == (c.toNat : Int)) = true := by rw [hcx]; simp
          clear hM hx ht hcon hin hcx hlt hN
          go_wp2_with fail
          go_quiet (fail)
          go_wp2_with fail
          go_ret
          exact ⟨ret_bool HT.out.symm, hq.drewN _⟩
        · have HN := Lib.hid (hcon false (by simpa using hcx))
          have hne : x.toNat ≠ c.toNat := fun e => hcx (UInt8.toNat_inj.1 e.symm)
          have q1 : (x.toNat == c.toNat) = false := by simpa using hne
          have q2 : ((x.toNat : Int) == (c.toNat : Int)) = false := ieq_f (by omega)
          clear hM hx ht hcon hcx hN hne
          go_wp2_with fail
          go_quiet (fail)
          go_wp2_with fail
          go_roundw
          case rel => exact ⟨m + 1, by go_num, by omega, HN, hq.drewN _⟩
          case measure => simp [intOf] <;> omega
      · obtain rfl : m = 15 := by omega
        have HT : Hid (B = false) := by show _ = _; rw [HB.out]; have := hN.out; rw [List.take_of_length_le (by decide)] at this; exact this
        have hltM : ¬ (15 : Int) < (M.size : Int) := by omega
        have hltM2 : ¬ 15 < M.size := by omega
        clear hM hN
        go_wp2_with fail
        go_ret
        exact ⟨ret_bool HT.out.symm, hq⟩
  · have e2 : ((s.size : Int) != 1) = true := ine_t (by omega)
    have e3 : (s.size != 1) = true := by simpa using h2
    have HR : Hid (isMkF s.data.toList = false) := by
      show _ = _; unfold isMkF; rw [beq_eq_false_iff_ne.2 h1]
      have hl := size_list s
      match hm : s.data.toList with
      | [] => rfl
      | [c] => rw [hm] at hl; simp at hl; omega
      | a :: b :: r => rfl
    clear h1 h2
    go_enter Tryd.func20, Tryd.ntmps20
    go_wp2_with fail
    go_ret
    exact ⟨ret_bool HR.out.symm, Qt.refl _⟩
def NumRes (d : List UInt8) (i : Nat) (w : World) (e : Ending) (w' : World) : Prop :=
  e = .returned (.tuple #[.agg #[.int .i64 2, .string ⟨(d.take (dgLen d)).toArray⟩, .int .i64 (parseL (d.take (dgLen d))).1, .int .i64 (i : Int)], .int .i64 (parseL (d.take (dgLen d))).2]) ∧ Below w.heap.size w w'
set_option maxRecDepth 100000 in
set_option maxHeartbeats 2000000 in
theorem refNumber7_any (s : ByteArray) (i : Nat) (w : World) (hz : s.size ≤ 1000000000) (hi : i ≤ s.size) :
    Calls Tryd.prog 45 #[.string s, .int .i64 (i : Int)] w (NumRes (s.data.toList.drop i) i w) := by
  go_enter Tryd.func45, Tryd.ntmps45
  go_wp2
  go_loop [6] (fun k => ∃ m : Nat, m ≤ s.size ∧ i ≤ m ∧ k = .int .i64 m ∧ Hid (m - i + dgLen (s.data.toList.drop m) = dgLen (s.data.toList.drop i))) (fun k => s.size - (intOf k).toNat)
  case atStart => exact ⟨i, hi, Nat.le_refl _, rfl, by show _ = _; omega⟩
  case round =>
    obtain ⟨m, hm, him, rfl, hN⟩ := hrel
    have hstep := dg_at s.data.toList m
    have hexit : dgLen (s.data.toList.drop m) = 0 → Hid ((s.data.toList.drop i).take (dgLen (s.data.toList.drop i)) = (s.extract i m).data.toList) := fun h => by
      have := hN.out; show _ = _; rw [extract_list]; congr 1; omega
    by_cases hb : m < s.size ∧ isDig (hdB s.data.toList m) = true
    · obtain ⟨hlt, hb⟩ := hb
      obtain ⟨c, u, hd, hc, hd2⟩ := drop_at (D := s.data.toList) (k := m) (by rw [size_list]; exact hlt)
      have hsm := byte_at hlt hc
      rw [hdB_lt hc] at hb hstep
      rw [if_pos hb] at hstep
      have HS : Hid (m + 1 - i + dgLen (s.data.toList.drop (m + 1)) = dgLen (s.data.toList.drop i)) := by have := hN.out; show _ = _; omega
      clear hstep hN hd hc hd2 hexit
      go_wp2_with (go_at_call 44; refine (refDigit_any c _).mono ?_; rintro e w' ⟨rfl, rfl⟩)
      go_round
      case rel => exact ⟨m + 1, by omega, by omega, by go_num, HS⟩
      case measure => simp [intOf] <;> omega
    · have h0 : dgLen (s.data.toList.drop m) = 0 := by
        rcases Nat.lt_or_ge m s.size with h | h
        · rw [hstep, if_neg (fun h2 => hb ⟨h, h2⟩)]
        · rw [List.drop_of_length_le (by rw [size_list]; exact h)]; rfl
      have HX := hexit h0
      have CP := Lib.hid (fun w => refParse_any (s.extract i m) w (by rw [← size_list, extract_list, List.length_take, List.length_drop, size_list]; omega))
      rw [← HX.out] at CP
      have hxe : s.extract i m = ⟨((s.data.toList.drop i).take (dgLen (s.data.toList.drop i))).toArray⟩ := by rw [HX.out]
      have HXE := Lib.hid hxe
      have hcs : m = s.size ∨ ∃ (h : m < s.size) (c : UInt8), s[m] = c ∧ isDig c = false := by
        rcases Nat.lt_or_ge m s.size with h | h
        · obtain ⟨c, u, hd, hc, hd2⟩ := drop_at (D := s.data.toList) (k := m) (by rw [size_list]; exact h)
          exact .inr ⟨h, c, byte_at h hc, by
            cases hdg : isDig c with
            | false => rfl
            | true => exact absurd ⟨h, by rw [hdB_lt hc]; exact hdg⟩ hb⟩
        · exact .inl (by omega)
      obtain ⟨p, hp⟩ : ∃ p, parseL ((s.data.toList.drop i).take (dgLen (s.data.toList.drop i))) = p := ⟨_, rfl⟩
      rw [hp] at CP
      obtain ⟨p1, p2⟩ := p
      have HP := Lib.hid hp
      clear hp
      clear hstep hN hexit hb h0 hxe HX
      rcases hcs with rfl | ⟨hlt, c, hsc, hdg⟩
      · go_wp2_with fail
        refine (CP.out _).mono ?_
        rintro e w1 ⟨rfl, rfl⟩
        go_wp2_with fail
        exact bodyPost_ret (v := .tuple #[.agg #[.int .i64 2, .string (s.extract i s.size), .int .i64 p1, .int .i64 i], .int .i64 p2]) (by simp [results, Tryd.results45, go_sem]) rfl ⟨by rw [HP.out, ← HXE.out], (Below.refl _ _).alloc (Nat.le_refl _) _⟩
      · go_wp2_with (go_at_call 44; refine (refDigit_any c _).mono ?_; rintro e w' ⟨rfl, rfl⟩)
        refine (CP.out _).mono ?_
        rintro e w1 ⟨rfl, rfl⟩
        go_wp2_with fail
        exact bodyPost_ret (v := .tuple #[.agg #[.int .i64 2, .string (s.extract i m), .int .i64 p1, .int .i64 i], .int .i64 p2]) (by simp [results, Tryd.results45, go_sem]) rfl ⟨by rw [HP.out, ← HXE.out], (Below.refl _ _).alloc (Nat.le_refl _) _⟩
end Go.Proofs.YtjcecnlnmodkgaaDoor
