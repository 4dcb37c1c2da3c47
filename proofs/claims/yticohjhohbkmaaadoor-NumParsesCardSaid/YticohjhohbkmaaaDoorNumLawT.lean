/- Chapter 01: the laws NumTexts and NumParses, by walking their text. -/
import Derived.Test.YticohjhohbkmaaaDoorNumLawA
namespace Go.Proofs.YticohjhohbkmaaaDoor
open Go Go.RowKit Go.ChangeShapes

theorem data_mk (l : List UInt8) : (⟨l.toArray⟩ : ByteArray).data.toList = l := by simp
theorem itoa_size (n : Int) (h0 : -9223372036854775808 ≤ n) (h1 : n ≤ 9223372036854775807) : (⟨(Lib.itoa n).toArray⟩ : ByteArray).size ≤ 21 := by
  rw [size_of_list]; exact Lib.itoa_length_le n h0 h1
set_option maxRecDepth 100000 in
set_option maxHeartbeats 2000000 in
theorem texts_law (n n' : Int) (w : World) (hT : TabP w) (ha : Rep.int.R w (Lt w) n' (Value.int .i64 n).cells.toList) (_ : True) :
    Calls Tryd.prog 8 #[.int .i64 n] w (Ret (.bool true) w) := by
  obtain ⟨rfl, a0, a1⟩ := i64_inv ha
  clear ha
  have HT := Lib.hid hT
  clear hT
  have hsz := itoa_size n a0 a1
  have hp := parse_itoa n
  obtain ⟨T, hTe⟩ : ∃ T : ByteArray, T = ⟨(Lib.itoa n).toArray⟩ := ⟨_, rfl⟩
  have hTd : T.data.toList = Lib.itoa n := by rw [hTe]
  have c1 : Hid (∀ w, TabP w → Calls Tryd.prog 26 #[.int .i64 n] w (Ret (.string T) w)) := fun w h => by rw [hTe]; exact text_any n w a0 a1 h
  have c2 : Hid (∀ w, Calls Tryd.prog 28 #[.int .i64 n] w (Ret (.string T) w)) := fun w => by rw [hTe]; exact refText_any n w a0 a1
  have c3 : Hid (∀ w, Calls Tryd.prog 27 #[.string T] w fun e w' => e = .returned (.tuple #[.int .i64 (if n < -1099511627776 ∨ 1099511627776 < n then ((0 : Int), (9 : Int)) else (n, 0)).1, .int .i64 (if n < -1099511627776 ∨ 1099511627776 < n then ((0 : Int), (9 : Int)) else (n, 0)).2]) ∧ w = w') := fun w => by
    have := parse_any T w (by rw [hTe]; omega)
    rw [hTd, hp] at this; exact this
  have ct : (T.toList == T.toList) = true := by simp
  clear hsz hp hTe hTd
  by_cases hb : n < -1099511627776 ∨ 1099511627776 < n
  · have c3' : Hid (∀ w, Calls Tryd.prog 27 #[.string T] w fun e w' => e = .returned (.tuple #[.int .i64 0, .int .i64 9]) ∧ w = w') := fun w => by have := c3.out w; rw [if_pos hb] at this; exact this
    clear c3
    rcases Classical.em (n < -1099511627776) with h1 | h1
    all_goals
      first
        | have hx : n < -1099511627776 := h1
        | have hx : 1099511627776 < n := by omega
      clear hb
      go_enter Tryd.func8, Tryd.ntmps8
      go_wp2_with fail
      refine (c1.out _ HT.out).mono ?_
      rintro e w1 ⟨rfl, b1⟩
      go_wp2_with fail
      refine (c3'.out _).mono ?_
      rintro e w2 ⟨rfl, rfl⟩
      go_wp2_with fail
      refine (c2.out _).mono ?_
      rintro e w3 ⟨rfl, hb3⟩
      have b3 := bstep b1 b1.size hb3
      clear b1 hb3
      go_wp2_with fail
      refine (alive_any _ (HT.out.below b3)).mono ?_
      rintro e w4 ⟨rfl, hb⟩
      go_wp2_with fail
      go_ret
      exact ⟨rfl, bstep b3 b3.size hb⟩
  · have c3' : Hid (∀ w, Calls Tryd.prog 27 #[.string T] w fun e w' => e = .returned (.tuple #[.int .i64 n, .int .i64 0]) ∧ w = w') := fun w => by have := c3.out w; rw [if_neg hb] at this; exact this
    have hx1 : ¬ n < -1099511627776 := by omega
    have hx2 : ¬ 1099511627776 < n := by omega
    have eb := beq_self_int n
    clear c3 hb
    go_enter Tryd.func8, Tryd.ntmps8
    go_wp2_with fail
    refine (c1.out _ HT.out).mono ?_
    rintro e w1 ⟨rfl, b1⟩
    go_wp2_with fail
    refine (c3'.out _).mono ?_
    rintro e w2 ⟨rfl, rfl⟩
    go_wp2_with fail
    refine (c2.out _).mono ?_
    rintro e w3 ⟨rfl, hb3⟩
    have b3 := bstep b1 b1.size hb3
    clear b1 hb3
    go_wp2_with fail
    refine (alive_any _ (HT.out.below b3)).mono ?_
    rintro e w4 ⟨rfl, hb⟩
    go_wp2_with fail
    go_ret
    exact ⟨rfl, bstep b3 b3.size hb⟩
set_option maxRecDepth 100000 in
set_option maxHeartbeats 2000000 in
theorem parses_law (s x : ByteArray) (w : World) (hT : TabP w) (hs : Rep.str.R w (Lt w) x (Value.string s).cells.toList) (hz : StrZ x) :
    Calls Tryd.prog 9 #[.string s] w (Ret (.bool true) w) := by
  obtain rfl := str_inv hs
  have hz' : s.size ≤ 140737488351232 := hz
  clear hs hz
  have HT := Lib.hid hT
  clear hT
  by_cases hbig : 1000 < s.size
  · go_enter Tryd.func9, Tryd.ntmps9
    go_wp2_with fail
    refine (alive_any _ HT.out).mono ?_
    rintro e w4 ⟨rfl, hb⟩
    go_wp2_with fail
    go_ret
    exact ⟨rfl, hb⟩
  have c1 := Lib.hid (fun w => parse_any s w (by omega))
  have c2 := Lib.hid (fun w => refParse_any s w (by omega))
  have hip := fun n => itoa_parse (s := s.data.toList) (n := n)
  have hbd : -1099511627776 ≤ (parseL s.data.toList).1 ∧ (parseL s.data.toList).1 ≤ 1099511627776 := by
    unfold parseL parseD
    repeat' split
    all_goals (simp only; omega)
  generalize parseL s.data.toList = z at *
  obtain ⟨n, e0⟩ := z
  obtain ⟨n0, n1⟩ := hbd
  simp only at n0 n1
  have s1 := beq_self_int n
  have s2 := beq_self_int e0
  by_cases he : e0 = 0
  · subst he
    have hi := hip n rfl
    have c3 : Hid (∀ w, TabP w → Calls Tryd.prog 26 #[.int .i64 n] w (Ret (.string s) w)) := fun w h => by
      have := text_any n w (by omega) (by omega) h
      rw [hi] at this
      exact this
    have ct : (s.toList == s.toList) = true := by simp
    clear hi hip
    go_enter Tryd.func9, Tryd.ntmps9
    go_wp2_with fail
    refine (c1.out _).mono ?_
    rintro e w1 ⟨rfl, rfl⟩
    go_wp2_with fail
    refine (c2.out _).mono ?_
    rintro e w1 ⟨rfl, rfl⟩
    go_wp2_with fail
    refine (c3.out _ HT.out).mono ?_
    rintro e w2 ⟨rfl, b2⟩
    go_wp2_with fail
    refine (alive_any _ (HT.out.below b2)).mono ?_
    rintro e w4 ⟨rfl, hb⟩
    go_wp2_with fail
    go_ret
    exact ⟨rfl, bstep b2 b2.size hb⟩
  · have s3 : (e0 != 0) = true := ine_t he
    clear hip he
    go_enter Tryd.func9, Tryd.ntmps9
    go_wp2_with fail
    refine (c1.out _).mono ?_
    rintro e w1 ⟨rfl, rfl⟩
    go_wp2_with fail
    refine (c2.out _).mono ?_
    rintro e w1 ⟨rfl, rfl⟩
    go_wp2_with fail
    refine (alive_any _ HT.out).mono ?_
    rintro e w4 ⟨rfl, hb⟩
    go_wp2_with fail
    go_ret
    exact ⟨rfl, hb⟩
end Go.Proofs.YticohjhohbkmaaaDoor
