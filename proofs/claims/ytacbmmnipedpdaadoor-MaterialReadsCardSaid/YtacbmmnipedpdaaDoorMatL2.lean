/- Chapter 15: the law MaterialReads, by walking its text. -/
import Derived.Test.YtacbmmnipedpdaaDoorMatL1
namespace Go.Proofs.YtacbmmnipedpdaaDoor
open Go Go.RowKit
set_option linter.unusedSimpArgs false

theorem format_ok {m : Mat} (h : checkM m = 0) : formatM m = (textM m, 0) := by unfold formatM; simp [h]
theorem reads_back {m : Mat} (h : checkM m = 0) : parseM (textM m) = (m, 0, 0) := by
  have := mat_back (n := 0) (by omega) h (pre := []) (fun r => rfl) (by simp)
  rw [wide_zero] at this
  exact this
theorem text_short {m : Mat} (h : checkM m = 0) : (textM m).length ≤ 7600 := by
  have := text_len15 (n := 0) (by omega) h
  rw [wide_zero] at this
  omega
theorem parse_any15 (l : List UInt8) (r : Mat × Int × Int) (hl : l.length ≤ 20000) (hp : parseM l = r) (w : World) : Calls Tryd.prog 24 #[.string (bA l)] w (ParseP15 r w) := by
  have h := matParse_any (bA l) w (by rw [bA_size]; omega)
  rw [bA_list, hp] at h
  exact h
set_option maxRecDepth 100000 in
set_option maxHeartbeats 4000000 in
theorem reads15_law (s x : ByteArray) (w : World) (hT : TabP w) (_ : Rep.str.R w (Lt w) x (Value.string s).cells.toList) (_ : StrM x) :
    Calls Tryd.prog 8 #[.string s] w (Ret (.bool true) w) := by
  have HT := Lib.hid hT
  clear hT
  by_cases hz : 3000 < s.size
  · have h' : (3000 : Int) < (s.size : Int) := by omega
    go_enter Tryd.func8, Tryd.ntmps8
    go_wp2_with fail
    refine (awake_any _ HT.out).mono ?_
    rintro e w1 ⟨rfl, hb1⟩
    go_wp2
    go_ret
    exact ⟨rfl, hb1⟩
  have h' : ¬ (3000 : Int) < (s.size : Int) := by omega
  obtain ⟨m, e0, a0, hp⟩ : ∃ m e a, parseM s.data.toList = (m, e, a) := ⟨_, _, _, rfl⟩
  have C1 := Lib.hid (parse_any15 s.data.toList (m, e0, a0) (by rw [size_list]; omega) hp w)
  rw [bA_of] at C1
  by_cases he : e0 = 0
  · subst he
    have hz0 := parse_zero (D := s.data.toList) (by rw [hp])
    rw [hp] at hz0
    obtain ⟨hck, rfl⟩ : checkM m = 0 ∧ a0 = 0 := hz0
    go_enter Tryd.func8, Tryd.ntmps8
    go_wp2_with fail
    refine C1.out.mono ?_
    rintro e w1 ⟨vg, vs, rfl, hm, hb1⟩
    obtain ⟨A, c, B, d, rfl, rfl, hg, hs⟩ := mat_out hm
    have HS := Lib.hid (ma_start hb1 hg hs)
    have HT := Lib.hid (HT.out.below hb1)
    have HT := Lib.hid (HT.out.below ((Below.refl w1.heap.size w1).alloc (Nat.le_refl _) (.cells #[.slice A m.1.length c, .slice B m.2.length d] 25)))
    clear hb1 hg hs hm C1
    dsimp only
    obtain ⟨W0, hW0⟩ : ∃ W0, W0 = w1.alloc (.cells #[.slice A m.1.length c, .slice B m.2.length d] 25) := ⟨_, rfl⟩
    rw [← hW0] at HS HT
    have HW0 := Lib.hid hW0
    clear hW0
    have HS : Hid (MaSt w w1.heap.size m A B c d W0) := HS
    have c0 := HS.out.bm.c20
    have c1 := HS.out.bm.c21
    go_upto_region 4 with fail
    rw [← HW0.out]
    go_wp2_with fail
    refine (matFormat_any _ _ _ _ _ _ m _ HT.out HS.out.hg HS.out.hs).mono ?_
    rintro e w2 ⟨rfl, hb2⟩
    rw [format_ok hck]
    have HS := Lib.hid (HS.out.below hb2)
    have HT := Lib.hid (HT.out.below hb2)
    have c0 := HS.out.bm.c20
    have c1 := HS.out.bm.c21
    have C2 := Lib.hid (parse_any15 (textM m) (m, 0, 0) (by have := text_short hck; omega) (reads_back hck) w2)
    dsimp only
    generalize bA (textM m) = T at *
    go_wp2_with fail
    refine C2.out.mono ?_
    rintro e w3 ⟨vg, vs, rfl, hm, hb3⟩
    obtain ⟨A2, c2, B2, d2, rfl, rfl, hg, hs⟩ := mat_out hm
    have HN := Lib.hid (ma_start (Below.refl w3.heap.size w3) hg hs)
    have hby := (Below.refl w3.heap.size w3).alloc (Nat.le_refl _) (.cells #[.slice A2 m.1.length c2, .slice B2 m.2.length d2] 25)
    have HS := Lib.hid ((HS.out.below hb3).below hby)
    have HT := Lib.hid ((HT.out.below hb3).below hby)
    clear hg hs hm hb3 hby C2
    dsimp only
    obtain ⟨W3, hW3⟩ : ∃ W3, W3 = w3.alloc (.cells #[.slice A2 m.1.length c2, .slice B2 m.2.length d2] 25) := ⟨_, rfl⟩
    have HN : Hid (MaSt w3 w3.heap.size m A2 B2 c2 d2 (w3.alloc (.cells #[.slice A2 m.1.length c2, .slice B2 m.2.length d2] 25))) := HN
    rw [← hW3] at HS HT HN
    have HW3 := Lib.hid hW3
    clear hW3
    have c0 := HS.out.bm.c20
    have c1 := HS.out.bm.c21
    have n0 := HN.out.bm.c20
    have n1 := HN.out.bm.c21
    go_upto_region 8 with fail
    rw [← HW3.out]
    go_wp2_with fail
    refine (matCheck_any _ _ _ _ _ _ m _ HS.out.hg HS.out.hs).mono ?_
    rintro e w4 ⟨rfl, hb4⟩
    rw [hck]
    have HS := Lib.hid (HS.out.below hb4)
    have HT := Lib.hid (HT.out.below hb4)
    have HN := Lib.hid (HN.out.below hb4)
    have c0 := HS.out.bm.c20
    have c1 := HS.out.bm.c21
    have n0 := HN.out.bm.c20
    have n1 := HN.out.bm.c21
    dsimp only
    go_wp2_with fail
    refine (same15_eq _ _ _ _ _ _ _ _ _ _ _ _ m _ HN.out.hg HN.out.hs HS.out.hg HS.out.hs).mono ?_
    rintro e w5 ⟨rfl, hb5⟩
    have HS := Lib.hid (HS.out.below hb5)
    have HT := Lib.hid (HT.out.below hb5)
    go_wp2_with fail
    refine (awake_any _ HT.out).mono ?_
    rintro e w6 ⟨rfl, hb6⟩
    have HS := Lib.hid (HS.out.below hb6)
    go_wp2
    go_ret
    exact ⟨rfl, HS.out.hb⟩
  · obtain ⟨e1, e2, e3⟩ := parse_bad (D := s.data.toList) (by rw [hp]; exact he)
    rw [hp] at e1 e2 e3
    simp only at e1 e2 e3
    subst e1
    rw [size_list] at e3
    have q0 := ieq_f he
    go_enter Tryd.func8, Tryd.ntmps8
    go_wp2_with fail
    refine C1.out.mono ?_
    rintro e w1 ⟨vg, vs, rfl, hm, hb1⟩
    obtain ⟨A, c, B, d, rfl, rfl, hg, hs⟩ := mat_out hm
    have HS := Lib.hid (ma_start hb1 hg hs)
    have HT := Lib.hid (HT.out.below hb1)
    have HT := Lib.hid (HT.out.below ((Below.refl w1.heap.size w1).alloc (Nat.le_refl _) (.cells #[.slice A 0 c, .slice B 0 d] 25)))
    clear hb1 hg hs hm C1
    dsimp only
    obtain ⟨W0, hW0⟩ : ∃ W0, W0 = w1.alloc (.cells #[.slice A 0 c, .slice B 0 d] 25) := ⟨_, rfl⟩
    have HS : Hid (MaSt w w1.heap.size ([], []) A B c d (w1.alloc (.cells #[.slice A 0 c, .slice B 0 d] 25))) := HS
    rw [← hW0] at HS HT
    have HW0 := Lib.hid hW0
    clear hW0
    have c0 : W0.cell? ⟨w1.heap.size, 0, none⟩ = some (.slice A 0 c) := HS.out.bm.c20
    have c1 : W0.cell? ⟨w1.heap.size, 1, none⟩ = some (.slice B 0 d) := HS.out.bm.c21
    go_upto_region 4 with fail
    rw [← HW0.out]
    have d1 : decide ((0 : Int) ≤ a0) = true := decide_eq_true e2
    have d2 : decide (a0 ≤ (s.size : Int)) = true := decide_eq_true e3
    go_wp2_with fail
    refine (same15_eq _ _ _ _ _ _ _ _ _ _ _ _ ([], []) _ HS.out.hg HS.out.hs (Rep.slice_nil _ _ _) (Rep.slice_nil _ _ _)).mono ?_
    rintro e w5 ⟨rfl, hb5⟩
    have HS := Lib.hid (HS.out.below hb5)
    have HT := Lib.hid (HT.out.below hb5)
    go_wp2_with fail
    refine (awake_any _ HT.out).mono ?_
    rintro e w6 ⟨rfl, hb6⟩
    have HS := Lib.hid (HS.out.below hb6)
    go_wp2
    go_ret
    exact ⟨rfl, HS.out.hb⟩
end Go.Proofs.YtacbmmnipedpdaaDoor
