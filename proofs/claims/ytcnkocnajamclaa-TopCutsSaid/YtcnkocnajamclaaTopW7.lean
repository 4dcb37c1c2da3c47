/- Chapter 13: turn, on and meet of near points, by walking the reference's text. -/
import Derived.Test.YtcnkocnajamclaaTopW3
namespace Go.Proofs.Ytcnkocnajamclaa
open Go Go.RowKit
set_option linter.unusedSimpArgs false

set_option maxHeartbeats 800000 in
theorem turn13_any (a b c : Pt) (w : World) (ha : NearP a) (hb : NearP b) (hc : NearP c) :
    Calls Try.prog 100 #[.agg (prArr a), .agg (prArr b), .agg (prArr c)] w (Ret (.int .i64 (signP (turnP a b c))) w) := by
  obtain ⟨a1, a2⟩ := a
  obtain ⟨b1, b2⟩ := b
  obtain ⟨c1, c2⟩ := c
  obtain ⟨⟨h1, h2⟩, h3, h4⟩ := ha
  obtain ⟨⟨h5, h6⟩, h7, h8⟩ := hb
  obtain ⟨⟨h9, g1⟩, g2, g3⟩ := hc
  simp only [prArr] at h1 h2 h3 h4 h5 h6 h7 h8 h9 g1 g2 g3 ⊢
  obtain ⟨m1, m2⟩ := pmul_bd (a := b1 - a1) (b := c2 - a2) (by omega) (by omega)
  obtain ⟨m3, m4⟩ := pmul_bd (a := b2 - a2) (b := c1 - a1) (by omega) (by omega)
  have hbb := ((((Below.refl w.heap.size w).alloc (Nat.le_refl _) (.cells #[.int .i64 a1, .int .i64 a2] 74)).alloc (by simp) (.cells #[.int .i64 b1, .int .i64 b2] 74)).alloc (by simp; omega) (.cells #[.int .i64 c1, .int .i64 c2] 74))
  have hbb := Lib.hid hbb
  have HT : Hid (turnP (a1, a2) (b1, b2) (c1, c2) = (b1 - a1) * (c2 - a2) - (b2 - a2) * (c1 - a1)) := rfl
  go_enter Try.func100, Try.ntmps100
  go_wp2
  all_goals
    go_ret
    refine ⟨ret_int ?_, hbb.out⟩
    rw [HT.out]
    unfold signP
    (repeat' split) <;> omega
set_option maxHeartbeats 800000 in
theorem on13_any (a b q : Pt) (w : World) (ha : NearP a) (hb : NearP b) (hq : NearP q) :
    Calls Try.prog 99 #[.agg (prArr a), .agg (prArr b), .agg (prArr q)] w (Ret (.bool (onP q a b)) w) := by
  have HT : ∀ w1, Calls Try.prog 100 #[.agg (prArr a), .agg (prArr b), .agg (prArr q)] w1 (Ret (.int .i64 (signP (turnP a b q))) w1) := fun w1 => turn13_any a b q w1 ha hb hq
  have HO0 := on_eq (q := q) (a := a) (b := b) rfl
  rw [show (turnP a b q == 0) = (signP (turnP a b q) == 0) from by
    unfold signP
    by_cases h1 : turnP a b q < 0
    · rw [if_pos h1]; simp; omega
    · by_cases h2 : 0 < turnP a b q
      · rw [if_neg h1, if_pos h2]; simp; omega
      · rw [if_neg h1, if_neg h2]; simp; omega] at HO0
  have HO := Lib.hid HO0
  clear HO0
  generalize signP (turnP a b q) = t at HT HO
  obtain ⟨q1, q2⟩ := q
  obtain ⟨a1, a2⟩ := a
  obtain ⟨b1, b2⟩ := b
  clear hq ha hb
  simp only [prArr] at HT HO ⊢
  have HT := Lib.hid HT
  go_enter Try.func99, Try.ntmps99
  go_wp2_with fail
  refine (HT.out _).mono ?_
  rintro e w1 ⟨rfl, hb1⟩
  have hbb := (((Below.refl w.heap.size w).alloc (Nat.le_refl _) (.cells #[.int .i64 a1, .int .i64 a2] 74)).alloc (by simp) (.cells #[.int .i64 b1, .int .i64 b2] 74)).alloc (by simp; omega) (.cells #[.int .i64 q1, .int .i64 q2] 74) |>.trans (hb1.mono (by simp; omega))
  have hr := hbb
  have hbA : Below (w.alloc (.cells #[.int .i64 a1, .int .i64 a2] 74)).heap.size (w.alloc (.cells #[.int .i64 a1, .int .i64 a2] 74)) w1 := ((Below.refl _ _).alloc (Nat.le_refl _) (.cells #[.int .i64 b1, .int .i64 b2] 74)).alloc (by simp) (.cells #[.int .i64 q1, .int .i64 q2] 74) |>.trans (hb1.mono (by simp))
  have hbB : Below ((w.alloc (.cells #[.int .i64 a1, .int .i64 a2] 74)).alloc (.cells #[.int .i64 b1, .int .i64 b2] 74)).heap.size ((w.alloc (.cells #[.int .i64 a1, .int .i64 a2] 74)).alloc (.cells #[.int .i64 b1, .int .i64 b2] 74)) w1 := (Below.refl _ _).alloc (Nat.le_refl _) (.cells #[.int .i64 q1, .int .i64 q2] 74) |>.trans (hb1.mono (by simp))
  have B0 := (Blk.new w 74 #[.int .i64 a1, .int .i64 a2]).below hbA (by simp)
  have B1 := (Blk.new (w.alloc (.cells #[.int .i64 a1, .int .i64 a2] 74)) 74 #[.int .i64 b1, .int .i64 b2]).below hbB (by simp)
  have B2 := (Blk.new ((w.alloc (.cells #[.int .i64 a1, .int .i64 a2] 74)).alloc (.cells #[.int .i64 b1, .int .i64 b2] 74)) 74 #[.int .i64 q1, .int .i64 q2]).below hb1 (by simp)
  have i0 := B0.cell 0
  have i1 := B0.cell 1
  have j0 := B1.cell 0
  have j1 := B1.cell 1
  have k0 := B2.cell 0
  have k1 := B2.cell 1
  simp only [List.getElem?_toArray, List.getElem?_cons_zero, List.getElem?_cons_succ, World.size_alloc] at i0 i1 j0 j1 k0 k1
  clear B0 B1 B2 hbA hbB hbb hb1
  by_cases c0 : t = 0
  · subst c0
    go_wp2
    all_goals
      go_ret
      refine ⟨ret_bool ?_, hr⟩
      rw [HO.out, Bool.eq_iff_iff]
      simp only [Bool.and_eq_true, decide_eq_true_eq, beq_iff_eq, Bool.false_eq_true, false_iff, true_and, eq_self]
      omega
  · have hz : (t == 0) = false := by simp [c0]
    have HR : Hid (onP (q1, q2) (a1, a2) (b1, b2) = false) := by show _ = _; rw [HO.out]; simp [c0]
    go_wp2
    go_ret
    exact ⟨ret_bool HR.out.symm, hr⟩
set_option maxRecDepth 100000 in
set_option maxHeartbeats 2000000 in
theorem meet13_any (a b c d : Pt) (w : World) (ha : NearP a) (hb : NearP b) (hc : NearP c) (hd : NearP d) :
    Calls Try.prog 64 #[.agg (prArr a), .agg (prArr b), .agg (prArr c), .agg (prArr d)] w (Ret (.bool (meetP a b c d)) w) := by
  have H0 := Hold4.new w a b c d 74
  have hbb := ((((Below.refl w.heap.size w).alloc (Nat.le_refl _) (.cells (prArr a) 74)).alloc (by simp) (.cells (prArr b) 74)).alloc (by simp; omega) (.cells (prArr c) 74)).alloc (by simp; omega) (.cells (prArr d) 74)
  obtain ⟨a1, a2⟩ := a
  obtain ⟨b1, b2⟩ := b
  obtain ⟨c1, c2⟩ := c
  obtain ⟨d1, d2⟩ := d
  have HN := Lib.hid (And.intro ha (And.intro hb (And.intro hc hd)))
  have H0 := Lib.hid H0
  have hbb := Lib.hid hbb
  clear ha hb hc hd
  simp only [prArr]
  go_enter Try.func64, Try.ntmps64
  go_wp2_with fail
  refine (on13_any (a1, a2) (b1, b2) (c1, c2) _ HN.out.1 HN.out.2.1 HN.out.2.2.1).mono ?_
  rintro e v0 ⟨rfl, hv0⟩
  have H1 := Lib.hid (H0.out.below hv0)
  have hbb := Lib.hid (hbb.out.trans (hv0.mono hbb.out.size))
  clear hv0
  rcases Bool.eq_false_or_eq_true (onP (c1, c2) (a1, a2) (b1, b2)) with h0 | h0
  · have HM := Lib.hid (meet_yes (a := (a1, a2)) (b := (b1, b2)) (c := (c1, c2)) (d := (d1, d2)) (.inr (.inr (.inl h0))))
    rw [h0]
    obtain ⟨k0, k1, k2, k3, k4, k5, k6, k7, -⟩ := H1.out
    clear h0
    go_wp2
    go_ret
    exact ⟨ret_bool HM.out.symm, hbb.out⟩
  have g0 := Lib.hid h0
  rw [h0]
  clear h0
  obtain ⟨k0, k1, k2, k3, k4, k5, k6, k7, -⟩ := H1.out
  go_wp2_with fail
  clear k0 k1 k2 k3 k4 k5 k6 k7
  refine (on13_any (a1, a2) (b1, b2) (d1, d2) _ HN.out.1 HN.out.2.1 HN.out.2.2.2).mono ?_
  rintro e v1 ⟨rfl, hv1⟩
  have H2 := Lib.hid (H1.out.below hv1)
  have hbb := Lib.hid (hbb.out.trans (hv1.mono hbb.out.size))
  clear hv1
  rcases Bool.eq_false_or_eq_true (onP (d1, d2) (a1, a2) (b1, b2)) with h1 | h1
  · have HM := Lib.hid (meet_yes (a := (a1, a2)) (b := (b1, b2)) (c := (c1, c2)) (d := (d1, d2)) (.inr (.inr (.inr h1))))
    rw [h1]
    obtain ⟨k0, k1, k2, k3, k4, k5, k6, k7, -⟩ := H2.out
    clear h1
    go_wp2
    go_ret
    exact ⟨ret_bool HM.out.symm, hbb.out⟩
  have g1 := Lib.hid h1
  rw [h1]
  clear h1
  obtain ⟨k0, k1, k2, k3, k4, k5, k6, k7, -⟩ := H2.out
  go_wp2_with fail
  clear k0 k1 k2 k3 k4 k5 k6 k7
  refine (on13_any (c1, c2) (d1, d2) (a1, a2) _ HN.out.2.2.1 HN.out.2.2.2 HN.out.1).mono ?_
  rintro e v2 ⟨rfl, hv2⟩
  have H3 := Lib.hid (H2.out.below hv2)
  have hbb := Lib.hid (hbb.out.trans (hv2.mono hbb.out.size))
  clear hv2
  rcases Bool.eq_false_or_eq_true (onP (a1, a2) (c1, c2) (d1, d2)) with h2 | h2
  · have HM := Lib.hid (meet_yes (a := (a1, a2)) (b := (b1, b2)) (c := (c1, c2)) (d := (d1, d2)) (.inl h2))
    rw [h2]
    obtain ⟨k0, k1, k2, k3, k4, k5, k6, k7, -⟩ := H3.out
    clear h2
    go_wp2
    go_ret
    exact ⟨ret_bool HM.out.symm, hbb.out⟩
  have g2 := Lib.hid h2
  rw [h2]
  clear h2
  obtain ⟨k0, k1, k2, k3, k4, k5, k6, k7, -⟩ := H3.out
  go_wp2_with fail
  clear k0 k1 k2 k3 k4 k5 k6 k7
  refine (on13_any (c1, c2) (d1, d2) (b1, b2) _ HN.out.2.2.1 HN.out.2.2.2 HN.out.2.1).mono ?_
  rintro e v3 ⟨rfl, hv3⟩
  have H4 := Lib.hid (H3.out.below hv3)
  have hbb := Lib.hid (hbb.out.trans (hv3.mono hbb.out.size))
  clear hv3
  rcases Bool.eq_false_or_eq_true (onP (b1, b2) (c1, c2) (d1, d2)) with h3 | h3
  · have HM := Lib.hid (meet_yes (a := (a1, a2)) (b := (b1, b2)) (c := (c1, c2)) (d := (d1, d2)) (.inr (.inl h3)))
    rw [h3]
    obtain ⟨k0, k1, k2, k3, k4, k5, k6, k7, -⟩ := H4.out
    clear h3
    go_wp2
    go_ret
    exact ⟨ret_bool HM.out.symm, hbb.out⟩
  have g3 := Lib.hid h3
  rw [h3]
  clear h3
  obtain ⟨k0, k1, k2, k3, k4, k5, k6, k7, -⟩ := H4.out
  go_wp2_with fail
  clear k0 k1 k2 k3 k4 k5 k6 k7
  have hSt := Lib.hid (meetS_drew hbb.out H4.out)
  have HF := meet_of (a := (a1, a2)) (b := (b1, b2)) (c := (c1, c2)) (d := (d1, d2)) g2.out g3.out g0.out g1.out
  obtain ⟨p1, hp1, hp1'⟩ := sign_mul (turnP (a1, a2) (b1, b2) (c1, c2)) (turnP (a1, a2) (b1, b2) (d1, d2))
  obtain ⟨p2, hp2, hp2'⟩ := sign_mul (turnP (c1, c2) (d1, d2) (a1, a2)) (turnP (c1, c2) (d1, d2) (b1, b2))
  rw [hp1', hp2'] at HF
  have HT1 := Lib.hid (fun w1 => turn13_any (a1, a2) (b1, b2) (c1, c2) w1 HN.out.1 HN.out.2.1 HN.out.2.2.1)
  have HT2 := Lib.hid (fun w1 => turn13_any (a1, a2) (b1, b2) (d1, d2) w1 HN.out.1 HN.out.2.1 HN.out.2.2.2)
  have HT3 := Lib.hid (fun w1 => turn13_any (c1, c2) (d1, d2) (a1, a2) w1 HN.out.2.2.1 HN.out.2.2.2 HN.out.1)
  have HT4 := Lib.hid (fun w1 => turn13_any (c1, c2) (d1, d2) (b1, b2) w1 HN.out.2.2.1 HN.out.2.2.2 HN.out.2.1)
  obtain ⟨s1, hs1⟩ : ∃ s, s = signP (turnP (a1, a2) (b1, b2) (c1, c2)) := ⟨_, rfl⟩
  obtain ⟨s2, hs2⟩ : ∃ s, s = signP (turnP (a1, a2) (b1, b2) (d1, d2)) := ⟨_, rfl⟩
  obtain ⟨s3, hs3⟩ : ∃ s, s = signP (turnP (c1, c2) (d1, d2) (a1, a2)) := ⟨_, rfl⟩
  obtain ⟨s4, hs4⟩ : ∃ s, s = signP (turnP (c1, c2) (d1, d2) (b1, b2)) := ⟨_, rfl⟩
  rw [← hs1] at HT1 hp1
  rw [← hs2] at HT2 hp1
  rw [← hs3] at HT3 hp2
  rw [← hs4] at HT4 hp2
  have HF := Lib.hid HF
  clear hs1 hs2 hs3 hs4 hp1' hp2' g0 g1 g2 g3 HN H0 H1 H2 H3 H4
  by_cases hg : p1 < 0
  · have hgb : decide (p1 < 0) = true := decide_eq_true hg
    have HR : Hid (meetP (a1, a2) (b1, b2) (c1, c2) (d1, d2) = decide (p2 < 0)) := by show _ = _; rw [HF.out, hgb, Bool.true_and]
    clear hg HF
    refine wp_region_held_drew (S := MeetS w (a1, a2) (b1, b2) (c1, c2) (d1, d2)) (by kernel_rfl) hSt.out (fun hH => ?_)
    refine take_run (i := 0) (v := ?_) (by decide) (by kernel_rfl) (by kernel_rfl) (by kernel_rfl) (fun _ _ _ _ h => h) hH rfl ?_ ?_
    rotate_left
    · (intro w hSw; obtain ⟨k0, k1, k2, k3, k4, k5, k6, k7, -⟩ := hSw.2; simp only [List.getElem_toArray, List.getElem_cons_zero]; go_simp; try with_reducible rfl)
    simp (config := { failIfUnchanged := false }) only [Act.put, List.setIfInBounds_toArray, List.set_cons_zero, List.set_cons_succ, List.getElem_toArray, List.getElem_cons_zero, List.getElem_cons_succ]
    refine take_run (i := 1) (v := ?_) (by decide) (by kernel_rfl) (by kernel_rfl) (by kernel_rfl) (fun _ _ _ _ h => h) hH rfl ?_ ?_
    rotate_left
    · (intro w hSw; obtain ⟨k0, k1, k2, k3, k4, k5, k6, k7, -⟩ := hSw.2; simp only [List.getElem_toArray, List.getElem_cons_zero, List.getElem_cons_succ]; go_simp; try with_reducible rfl)
    simp (config := { failIfUnchanged := false }) only [Act.put, List.setIfInBounds_toArray, List.set_cons_zero, List.set_cons_succ, List.getElem_toArray, List.getElem_cons_zero, List.getElem_cons_succ]
    refine take_run (i := 2) (v := ?_) (by decide) (by kernel_rfl) (by kernel_rfl) (by kernel_rfl) (fun _ _ _ _ h => h) hH rfl ?_ ?_
    rotate_left
    · (intro w hSw; obtain ⟨k0, k1, k2, k3, k4, k5, k6, k7, -⟩ := hSw.2; simp only [List.getElem_toArray, List.getElem_cons_zero, List.getElem_cons_succ]; go_simp; try with_reducible rfl)
    simp (config := { failIfUnchanged := false }) only [Act.put, List.setIfInBounds_toArray, List.set_cons_zero, List.set_cons_succ, List.getElem_toArray, List.getElem_cons_zero, List.getElem_cons_succ]
    refine take_run (i := 4) (v := ?_) (by decide) (by kernel_rfl) (by kernel_rfl) (by kernel_rfl) (fun _ _ _ _ h => h) hH rfl ?_ ?_
    rotate_left
    · (intro w hSw; obtain ⟨k0, k1, k2, k3, k4, k5, k6, k7, -⟩ := hSw.2; simp only [List.getElem_toArray, List.getElem_cons_zero, List.getElem_cons_succ]; go_simp; try with_reducible rfl)
    simp (config := { failIfUnchanged := false }) only [Act.put, List.setIfInBounds_toArray, List.set_cons_zero, List.set_cons_succ, List.getElem_toArray, List.getElem_cons_zero, List.getElem_cons_succ]
    refine take_run (i := 5) (v := ?_) (by decide) (by kernel_rfl) (by kernel_rfl) (by kernel_rfl) (fun _ _ _ _ h => h) hH rfl ?_ ?_
    rotate_left
    · (intro w hSw; obtain ⟨k0, k1, k2, k3, k4, k5, k6, k7, -⟩ := hSw.2; simp only [List.getElem_toArray, List.getElem_cons_zero, List.getElem_cons_succ]; go_simp; try with_reducible rfl)
    simp (config := { failIfUnchanged := false }) only [Act.put, List.setIfInBounds_toArray, List.set_cons_zero, List.set_cons_succ, List.getElem_toArray, List.getElem_cons_zero, List.getElem_cons_succ]
    refine take_run (i := 6) (v := ?_) (by decide) (by kernel_rfl) (by kernel_rfl) (by kernel_rfl) (fun _ _ _ _ h => h) hH rfl ?_ ?_
    rotate_left
    · (intro w hSw; obtain ⟨k0, k1, k2, k3, k4, k5, k6, k7, -⟩ := hSw.2; simp only [List.getElem_toArray, List.getElem_cons_zero, List.getElem_cons_succ]; go_simp; try with_reducible rfl)
    simp (config := { failIfUnchanged := false }) only [Act.put, List.setIfInBounds_toArray, List.set_cons_zero, List.set_cons_succ, List.getElem_toArray, List.getElem_cons_zero, List.getElem_cons_succ]
    refine take_call (i := 3) (by decide) (by kernel_rfl) (fun K hK => ?_)
    simp only [List.getElem_toArray, List.getElem_cons_zero, List.getElem_cons_succ]
    go_simp
    refine (HT1.out _).mono ?_
    rintro e W1 ⟨rfl, hq⟩
    have hS := meetS_below hH hq
    clear hq
    refine hK.out _ _ hS (fun hH => ?_)
    clear hK K hS
    try simp (config := { failIfUnchanged := false }) only [Act.put, List.setIfInBounds_toArray, List.set_cons_zero, List.set_cons_succ, List.getElem_toArray, List.getElem_cons_zero, List.getElem_cons_succ]
    refine take_call (i := 7) (by decide) (by kernel_rfl) (fun K hK => ?_)
    simp only [List.getElem_toArray, List.getElem_cons_zero, List.getElem_cons_succ]
    go_simp
    refine (HT2.out _).mono ?_
    rintro e W1 ⟨rfl, hq⟩
    have hS := meetS_below hH hq
    clear hq
    refine hK.out _ _ hS (fun hH => ?_)
    clear hK K hS
    try simp (config := { failIfUnchanged := false }) only [Act.put, List.setIfInBounds_toArray, List.set_cons_zero, List.set_cons_succ, List.getElem_toArray, List.getElem_cons_zero, List.getElem_cons_succ]
    refine take_run (i := 8) (v := ?_) (by decide) (by kernel_rfl) (by kernel_rfl) (by kernel_rfl) (fun _ _ _ _ h => h) hH rfl ?_ ?_
    rotate_left
    · (intro w hSw; obtain ⟨k0, k1, k2, k3, k4, k5, k6, k7, -⟩ := hSw.2; simp only [List.getElem_toArray, List.getElem_cons_zero, List.getElem_cons_succ]; go_simp; try with_reducible rfl)
    simp (config := { failIfUnchanged := false }) only [Act.put, List.setIfInBounds_toArray, List.set_cons_zero, List.set_cons_succ, List.getElem_toArray, List.getElem_cons_zero, List.getElem_cons_succ]
    refine take_run (i := 9) (v := ?_) (by decide) (by kernel_rfl) (by kernel_rfl) (by kernel_rfl) (fun _ _ _ _ h => h) hH rfl ?_ ?_
    rotate_left
    · (intro w hSw; obtain ⟨k0, k1, k2, k3, k4, k5, k6, k7, -⟩ := hSw.2; simp only [List.getElem_toArray, List.getElem_cons_zero, List.getElem_cons_succ]; go_simp; try with_reducible rfl)
    simp (config := { failIfUnchanged := false }) only [Act.put, List.setIfInBounds_toArray, List.set_cons_zero, List.set_cons_succ, List.getElem_toArray, List.getElem_cons_zero, List.getElem_cons_succ]
    refine take_run (i := 10) (v := ?_) (by decide) (by kernel_rfl) (by kernel_rfl) (by kernel_rfl) (fun _ _ _ _ h => h) hH rfl ?_ ?_
    rotate_left
    · (intro w hSw; obtain ⟨k0, k1, k2, k3, k4, k5, k6, k7, -⟩ := hSw.2; simp only [List.getElem_toArray, List.getElem_cons_zero, List.getElem_cons_succ]; go_simp; try with_reducible rfl)
    simp (config := { failIfUnchanged := false }) only [Act.put, List.setIfInBounds_toArray, List.set_cons_zero, List.set_cons_succ, List.getElem_toArray, List.getElem_cons_zero, List.getElem_cons_succ]
    refine take_run (i := 11) (v := ?_) (by decide) (by kernel_rfl) (by kernel_rfl) (by kernel_rfl) (fun _ _ _ _ h => h) hH rfl ?_ ?_
    rotate_left
    · (intro w hSw; obtain ⟨k0, k1, k2, k3, k4, k5, k6, k7, -⟩ := hSw.2; simp only [List.getElem_toArray, List.getElem_cons_zero, List.getElem_cons_succ]; go_simp; try with_reducible rfl)
    simp (config := { failIfUnchanged := false }) only [Act.put, List.setIfInBounds_toArray, List.set_cons_zero, List.set_cons_succ, List.getElem_toArray, List.getElem_cons_zero, List.getElem_cons_succ]
    refine take_run (i := 12) (v := ?_) (by decide) (by kernel_rfl) (by kernel_rfl) (by kernel_rfl) (fun _ _ _ _ h => h) hH rfl ?_ ?_
    rotate_left
    · (intro w hSw; obtain ⟨k0, k1, k2, k3, k4, k5, k6, k7, -⟩ := hSw.2; simp only [List.getElem_toArray, List.getElem_cons_zero, List.getElem_cons_succ]; go_simp; try with_reducible rfl)
    simp (config := { failIfUnchanged := false }) only [Act.put, List.setIfInBounds_toArray, List.set_cons_zero, List.set_cons_succ, List.getElem_toArray, List.getElem_cons_zero, List.getElem_cons_succ]
    refine take_run (i := 13) (v := ?_) (by decide) (by kernel_rfl) (by kernel_rfl) (by kernel_rfl) (fun _ _ _ _ h => h) hH rfl ?_ ?_
    rotate_left
    · (intro w hSw; obtain ⟨k0, k1, k2, k3, k4, k5, k6, k7, -⟩ := hSw.2; simp only [List.getElem_toArray, List.getElem_cons_zero, List.getElem_cons_succ]; go_simp; try with_reducible rfl)
    simp (config := { failIfUnchanged := false }) only [Act.put, List.setIfInBounds_toArray, List.set_cons_zero, List.set_cons_succ, List.getElem_toArray, List.getElem_cons_zero, List.getElem_cons_succ]
    refine take_run (i := 15) (v := ?_) (by decide) (by kernel_rfl) (by kernel_rfl) (by kernel_rfl) (fun _ _ _ _ h => h) hH rfl ?_ ?_
    rotate_left
    · (intro w hSw; obtain ⟨k0, k1, k2, k3, k4, k5, k6, k7, -⟩ := hSw.2; simp only [List.getElem_toArray, List.getElem_cons_zero, List.getElem_cons_succ]; go_simp; try with_reducible rfl)
    simp (config := { failIfUnchanged := false }) only [Act.put, List.setIfInBounds_toArray, List.set_cons_zero, List.set_cons_succ, List.getElem_toArray, List.getElem_cons_zero, List.getElem_cons_succ]
    refine take_run (i := 16) (v := ?_) (by decide) (by kernel_rfl) (by kernel_rfl) (by kernel_rfl) (fun _ _ _ _ h => h) hH rfl ?_ ?_
    rotate_left
    · (intro w hSw; obtain ⟨k0, k1, k2, k3, k4, k5, k6, k7, -⟩ := hSw.2; simp only [List.getElem_toArray, List.getElem_cons_zero, List.getElem_cons_succ]; go_simp; try with_reducible rfl)
    simp (config := { failIfUnchanged := false }) only [Act.put, List.setIfInBounds_toArray, List.set_cons_zero, List.set_cons_succ, List.getElem_toArray, List.getElem_cons_zero, List.getElem_cons_succ]
    refine take_run (i := 17) (v := ?_) (by decide) (by kernel_rfl) (by kernel_rfl) (by kernel_rfl) (fun _ _ _ _ h => h) hH rfl ?_ ?_
    rotate_left
    · (intro w hSw; obtain ⟨k0, k1, k2, k3, k4, k5, k6, k7, -⟩ := hSw.2; simp only [List.getElem_toArray, List.getElem_cons_zero, List.getElem_cons_succ]; go_simp; try with_reducible rfl)
    simp (config := { failIfUnchanged := false }) only [Act.put, List.setIfInBounds_toArray, List.set_cons_zero, List.set_cons_succ, List.getElem_toArray, List.getElem_cons_zero, List.getElem_cons_succ]
    refine take_call (i := 14) (by decide) (by kernel_rfl) (fun K hK => ?_)
    simp only [List.getElem_toArray, List.getElem_cons_zero, List.getElem_cons_succ]
    go_simp
    refine (HT3.out _).mono ?_
    rintro e W1 ⟨rfl, hq⟩
    have hS := meetS_below hH hq
    clear hq
    refine hK.out _ _ hS (fun hH => ?_)
    clear hK K hS
    try simp (config := { failIfUnchanged := false }) only [Act.put, List.setIfInBounds_toArray, List.set_cons_zero, List.set_cons_succ, List.getElem_toArray, List.getElem_cons_zero, List.getElem_cons_succ]
    refine take_call (i := 18) (by decide) (by kernel_rfl) (fun K hK => ?_)
    simp only [List.getElem_toArray, List.getElem_cons_zero, List.getElem_cons_succ]
    go_simp
    refine (HT4.out _).mono ?_
    rintro e W1 ⟨rfl, hq⟩
    have hS := meetS_below hH hq
    clear hq
    refine hK.out _ _ hS (fun hH => ?_)
    clear hK K hS
    try simp (config := { failIfUnchanged := false }) only [Act.put, List.setIfInBounds_toArray, List.set_cons_zero, List.set_cons_succ, List.getElem_toArray, List.getElem_cons_zero, List.getElem_cons_succ]
    refine take_run (i := 19) (v := ?_) (by decide) (by kernel_rfl) (by kernel_rfl) (by kernel_rfl) (fun _ _ _ _ h => h) hH rfl ?_ ?_
    rotate_left
    · (intro w hSw; obtain ⟨k0, k1, k2, k3, k4, k5, k6, k7, -⟩ := hSw.2; simp only [List.getElem_toArray, List.getElem_cons_zero, List.getElem_cons_succ]; go_simp; try with_reducible rfl)
    simp (config := { failIfUnchanged := false }) only [Act.put, List.setIfInBounds_toArray, List.set_cons_zero, List.set_cons_succ, List.getElem_toArray, List.getElem_cons_zero, List.getElem_cons_succ]
    refine take_run (i := 20) (v := ?_) (by decide) (by kernel_rfl) (by kernel_rfl) (by kernel_rfl) (fun _ _ _ _ h => h) hH rfl ?_ ?_
    rotate_left
    · (intro w hSw; obtain ⟨k0, k1, k2, k3, k4, k5, k6, k7, -⟩ := hSw.2; simp only [List.getElem_toArray, List.getElem_cons_zero, List.getElem_cons_succ]; go_simp; try with_reducible rfl)
    simp (config := { failIfUnchanged := false }) only [Act.put, List.setIfInBounds_toArray, List.set_cons_zero, List.set_cons_succ, List.getElem_toArray, List.getElem_cons_zero, List.getElem_cons_succ]
    refine take_run (i := 21) (v := ?_) (by decide) (by kernel_rfl) (by kernel_rfl) (by kernel_rfl) (fun _ _ _ _ h => h) hH rfl ?_ ?_
    rotate_left
    · (intro w hSw; obtain ⟨k0, k1, k2, k3, k4, k5, k6, k7, -⟩ := hSw.2; simp only [List.getElem_toArray, List.getElem_cons_zero, List.getElem_cons_succ]; go_simp; try with_reducible rfl)
    simp (config := { failIfUnchanged := false }) only [Act.put, List.setIfInBounds_toArray, List.set_cons_zero, List.set_cons_succ, List.getElem_toArray, List.getElem_cons_zero, List.getElem_cons_succ]
    refine take_run (i := 22) (v := ?_) (by decide) (by kernel_rfl) (by kernel_rfl) (by kernel_rfl) (fun _ _ _ _ h => h) hH rfl ?_ ?_
    rotate_left
    · (intro w hSw; obtain ⟨k0, k1, k2, k3, k4, k5, k6, k7, -⟩ := hSw.2; simp only [List.getElem_toArray, List.getElem_cons_zero, List.getElem_cons_succ]; go_simp; try with_reducible rfl)
    simp (config := { failIfUnchanged := false }) only [Act.put, List.setIfInBounds_toArray, List.set_cons_zero, List.set_cons_succ, List.getElem_toArray, List.getElem_cons_zero, List.getElem_cons_succ]
    refine wpAnyH_done (by kernel_rfl) ?_ _
    go_wp2
    go_ret
    exact ⟨ret_bool HR.out.symm, hH.1⟩
  · have hgb : decide (p1 < 0) = false := decide_eq_false hg
    have HR : Hid (meetP (a1, a2) (b1, b2) (c1, c2) (d1, d2) = false) := by show _ = _; rw [HF.out, hgb, Bool.false_and]
    clear hg HF
    refine wp_region_held_drew (S := MeetS w (a1, a2) (b1, b2) (c1, c2) (d1, d2)) (by kernel_rfl) hSt.out (fun hH => ?_)
    refine take_run (i := 0) (v := ?_) (by decide) (by kernel_rfl) (by kernel_rfl) (by kernel_rfl) (fun _ _ _ _ h => h) hH rfl ?_ ?_
    rotate_left
    · (intro w hSw; obtain ⟨k0, k1, k2, k3, k4, k5, k6, k7, -⟩ := hSw.2; simp only [List.getElem_toArray, List.getElem_cons_zero]; go_simp; try with_reducible rfl)
    simp (config := { failIfUnchanged := false }) only [Act.put, List.setIfInBounds_toArray, List.set_cons_zero, List.set_cons_succ, List.getElem_toArray, List.getElem_cons_zero, List.getElem_cons_succ]
    refine take_run (i := 1) (v := ?_) (by decide) (by kernel_rfl) (by kernel_rfl) (by kernel_rfl) (fun _ _ _ _ h => h) hH rfl ?_ ?_
    rotate_left
    · (intro w hSw; obtain ⟨k0, k1, k2, k3, k4, k5, k6, k7, -⟩ := hSw.2; simp only [List.getElem_toArray, List.getElem_cons_zero, List.getElem_cons_succ]; go_simp; try with_reducible rfl)
    simp (config := { failIfUnchanged := false }) only [Act.put, List.setIfInBounds_toArray, List.set_cons_zero, List.set_cons_succ, List.getElem_toArray, List.getElem_cons_zero, List.getElem_cons_succ]
    refine take_run (i := 2) (v := ?_) (by decide) (by kernel_rfl) (by kernel_rfl) (by kernel_rfl) (fun _ _ _ _ h => h) hH rfl ?_ ?_
    rotate_left
    · (intro w hSw; obtain ⟨k0, k1, k2, k3, k4, k5, k6, k7, -⟩ := hSw.2; simp only [List.getElem_toArray, List.getElem_cons_zero, List.getElem_cons_succ]; go_simp; try with_reducible rfl)
    simp (config := { failIfUnchanged := false }) only [Act.put, List.setIfInBounds_toArray, List.set_cons_zero, List.set_cons_succ, List.getElem_toArray, List.getElem_cons_zero, List.getElem_cons_succ]
    refine take_run (i := 4) (v := ?_) (by decide) (by kernel_rfl) (by kernel_rfl) (by kernel_rfl) (fun _ _ _ _ h => h) hH rfl ?_ ?_
    rotate_left
    · (intro w hSw; obtain ⟨k0, k1, k2, k3, k4, k5, k6, k7, -⟩ := hSw.2; simp only [List.getElem_toArray, List.getElem_cons_zero, List.getElem_cons_succ]; go_simp; try with_reducible rfl)
    simp (config := { failIfUnchanged := false }) only [Act.put, List.setIfInBounds_toArray, List.set_cons_zero, List.set_cons_succ, List.getElem_toArray, List.getElem_cons_zero, List.getElem_cons_succ]
    refine take_run (i := 5) (v := ?_) (by decide) (by kernel_rfl) (by kernel_rfl) (by kernel_rfl) (fun _ _ _ _ h => h) hH rfl ?_ ?_
    rotate_left
    · (intro w hSw; obtain ⟨k0, k1, k2, k3, k4, k5, k6, k7, -⟩ := hSw.2; simp only [List.getElem_toArray, List.getElem_cons_zero, List.getElem_cons_succ]; go_simp; try with_reducible rfl)
    simp (config := { failIfUnchanged := false }) only [Act.put, List.setIfInBounds_toArray, List.set_cons_zero, List.set_cons_succ, List.getElem_toArray, List.getElem_cons_zero, List.getElem_cons_succ]
    refine take_run (i := 6) (v := ?_) (by decide) (by kernel_rfl) (by kernel_rfl) (by kernel_rfl) (fun _ _ _ _ h => h) hH rfl ?_ ?_
    rotate_left
    · (intro w hSw; obtain ⟨k0, k1, k2, k3, k4, k5, k6, k7, -⟩ := hSw.2; simp only [List.getElem_toArray, List.getElem_cons_zero, List.getElem_cons_succ]; go_simp; try with_reducible rfl)
    simp (config := { failIfUnchanged := false }) only [Act.put, List.setIfInBounds_toArray, List.set_cons_zero, List.set_cons_succ, List.getElem_toArray, List.getElem_cons_zero, List.getElem_cons_succ]
    refine take_call (i := 3) (by decide) (by kernel_rfl) (fun K hK => ?_)
    simp only [List.getElem_toArray, List.getElem_cons_zero, List.getElem_cons_succ]
    go_simp
    refine (HT1.out _).mono ?_
    rintro e W1 ⟨rfl, hq⟩
    have hS := meetS_below hH hq
    clear hq
    refine hK.out _ _ hS (fun hH => ?_)
    clear hK K hS
    try simp (config := { failIfUnchanged := false }) only [Act.put, List.setIfInBounds_toArray, List.set_cons_zero, List.set_cons_succ, List.getElem_toArray, List.getElem_cons_zero, List.getElem_cons_succ]
    refine take_call (i := 7) (by decide) (by kernel_rfl) (fun K hK => ?_)
    simp only [List.getElem_toArray, List.getElem_cons_zero, List.getElem_cons_succ]
    go_simp
    refine (HT2.out _).mono ?_
    rintro e W1 ⟨rfl, hq⟩
    have hS := meetS_below hH hq
    clear hq
    refine hK.out _ _ hS (fun hH => ?_)
    clear hK K hS
    try simp (config := { failIfUnchanged := false }) only [Act.put, List.setIfInBounds_toArray, List.set_cons_zero, List.set_cons_succ, List.getElem_toArray, List.getElem_cons_zero, List.getElem_cons_succ]
    refine take_run (i := 8) (v := ?_) (by decide) (by kernel_rfl) (by kernel_rfl) (by kernel_rfl) (fun _ _ _ _ h => h) hH rfl ?_ ?_
    rotate_left
    · (intro w hSw; obtain ⟨k0, k1, k2, k3, k4, k5, k6, k7, -⟩ := hSw.2; simp only [List.getElem_toArray, List.getElem_cons_zero, List.getElem_cons_succ]; go_simp; try with_reducible rfl)
    simp (config := { failIfUnchanged := false }) only [Act.put, List.setIfInBounds_toArray, List.set_cons_zero, List.set_cons_succ, List.getElem_toArray, List.getElem_cons_zero, List.getElem_cons_succ]
    refine take_run (i := 9) (v := ?_) (by decide) (by kernel_rfl) (by kernel_rfl) (by kernel_rfl) (fun _ _ _ _ h => h) hH rfl ?_ ?_
    rotate_left
    · (intro w hSw; obtain ⟨k0, k1, k2, k3, k4, k5, k6, k7, -⟩ := hSw.2; simp only [List.getElem_toArray, List.getElem_cons_zero, List.getElem_cons_succ]; go_simp; try with_reducible rfl)
    simp (config := { failIfUnchanged := false }) only [Act.put, List.setIfInBounds_toArray, List.set_cons_zero, List.set_cons_succ, List.getElem_toArray, List.getElem_cons_zero, List.getElem_cons_succ]
    refine take_run (i := 10) (v := ?_) (by decide) (by kernel_rfl) (by kernel_rfl) (by kernel_rfl) (fun _ _ _ _ h => h) hH rfl ?_ ?_
    rotate_left
    · (intro w hSw; obtain ⟨k0, k1, k2, k3, k4, k5, k6, k7, -⟩ := hSw.2; simp only [List.getElem_toArray, List.getElem_cons_zero, List.getElem_cons_succ]; go_simp; try with_reducible rfl)
    simp (config := { failIfUnchanged := false }) only [Act.put, List.setIfInBounds_toArray, List.set_cons_zero, List.set_cons_succ, List.getElem_toArray, List.getElem_cons_zero, List.getElem_cons_succ]
    refine take_skip (i := 11) (by decide) (by kernel_rfl) (by kernel_rfl) (by kernel_rfl) (fun _ _ _ _ h => h) hH rfl ?_
    simp (config := { failIfUnchanged := false }) only [Act.put, List.setIfInBounds_toArray, List.set_cons_zero, List.set_cons_succ, List.getElem_toArray, List.getElem_cons_zero, List.getElem_cons_succ]
    refine take_skip (i := 12) (by decide) (by kernel_rfl) (by kernel_rfl) (by kernel_rfl) (fun _ _ _ _ h => h) hH rfl ?_
    simp (config := { failIfUnchanged := false }) only [Act.put, List.setIfInBounds_toArray, List.set_cons_zero, List.set_cons_succ, List.getElem_toArray, List.getElem_cons_zero, List.getElem_cons_succ]
    refine take_skip (i := 13) (by decide) (by kernel_rfl) (by kernel_rfl) (by kernel_rfl) (fun _ _ _ _ h => h) hH rfl ?_
    simp (config := { failIfUnchanged := false }) only [Act.put, List.setIfInBounds_toArray, List.set_cons_zero, List.set_cons_succ, List.getElem_toArray, List.getElem_cons_zero, List.getElem_cons_succ]
    refine take_skip (i := 14) (by decide) (by kernel_rfl) (by kernel_rfl) (by kernel_rfl) (fun _ _ _ _ h => h) hH rfl ?_
    simp (config := { failIfUnchanged := false }) only [Act.put, List.setIfInBounds_toArray, List.set_cons_zero, List.set_cons_succ, List.getElem_toArray, List.getElem_cons_zero, List.getElem_cons_succ]
    refine take_skip (i := 15) (by decide) (by kernel_rfl) (by kernel_rfl) (by kernel_rfl) (fun _ _ _ _ h => h) hH rfl ?_
    simp (config := { failIfUnchanged := false }) only [Act.put, List.setIfInBounds_toArray, List.set_cons_zero, List.set_cons_succ, List.getElem_toArray, List.getElem_cons_zero, List.getElem_cons_succ]
    refine take_skip (i := 16) (by decide) (by kernel_rfl) (by kernel_rfl) (by kernel_rfl) (fun _ _ _ _ h => h) hH rfl ?_
    simp (config := { failIfUnchanged := false }) only [Act.put, List.setIfInBounds_toArray, List.set_cons_zero, List.set_cons_succ, List.getElem_toArray, List.getElem_cons_zero, List.getElem_cons_succ]
    refine take_skip (i := 17) (by decide) (by kernel_rfl) (by kernel_rfl) (by kernel_rfl) (fun _ _ _ _ h => h) hH rfl ?_
    simp (config := { failIfUnchanged := false }) only [Act.put, List.setIfInBounds_toArray, List.set_cons_zero, List.set_cons_succ, List.getElem_toArray, List.getElem_cons_zero, List.getElem_cons_succ]
    refine take_skip (i := 18) (by decide) (by kernel_rfl) (by kernel_rfl) (by kernel_rfl) (fun _ _ _ _ h => h) hH rfl ?_
    simp (config := { failIfUnchanged := false }) only [Act.put, List.setIfInBounds_toArray, List.set_cons_zero, List.set_cons_succ, List.getElem_toArray, List.getElem_cons_zero, List.getElem_cons_succ]
    refine take_skip (i := 19) (by decide) (by kernel_rfl) (by kernel_rfl) (by kernel_rfl) (fun _ _ _ _ h => h) hH rfl ?_
    simp (config := { failIfUnchanged := false }) only [Act.put, List.setIfInBounds_toArray, List.set_cons_zero, List.set_cons_succ, List.getElem_toArray, List.getElem_cons_zero, List.getElem_cons_succ]
    refine take_skip (i := 20) (by decide) (by kernel_rfl) (by kernel_rfl) (by kernel_rfl) (fun _ _ _ _ h => h) hH rfl ?_
    simp (config := { failIfUnchanged := false }) only [Act.put, List.setIfInBounds_toArray, List.set_cons_zero, List.set_cons_succ, List.getElem_toArray, List.getElem_cons_zero, List.getElem_cons_succ]
    refine take_run (i := 21) (v := ?_) (by decide) (by kernel_rfl) (by kernel_rfl) (by kernel_rfl) (fun _ _ _ _ h => h) hH rfl ?_ ?_
    rotate_left
    · (intro w hSw; obtain ⟨k0, k1, k2, k3, k4, k5, k6, k7, -⟩ := hSw.2; simp only [List.getElem_toArray, List.getElem_cons_zero, List.getElem_cons_succ]; go_simp; try with_reducible rfl)
    simp (config := { failIfUnchanged := false }) only [Act.put, List.setIfInBounds_toArray, List.set_cons_zero, List.set_cons_succ, List.getElem_toArray, List.getElem_cons_zero, List.getElem_cons_succ]
    refine take_run (i := 22) (v := ?_) (by decide) (by kernel_rfl) (by kernel_rfl) (by kernel_rfl) (fun _ _ _ _ h => h) hH rfl ?_ ?_
    rotate_left
    · (intro w hSw; obtain ⟨k0, k1, k2, k3, k4, k5, k6, k7, -⟩ := hSw.2; simp only [List.getElem_toArray, List.getElem_cons_zero, List.getElem_cons_succ]; go_simp; try with_reducible rfl)
    simp (config := { failIfUnchanged := false }) only [Act.put, List.setIfInBounds_toArray, List.set_cons_zero, List.set_cons_succ, List.getElem_toArray, List.getElem_cons_zero, List.getElem_cons_succ]
    refine wpAnyH_done (by kernel_rfl) ?_ _
    go_wp2
    go_ret
    exact ⟨ret_bool HR.out.symm, hH.1⟩
end Go.Proofs.Ytcnkocnajamclaa
