/- Chapter 12: Meet of near points, by walking the reference's text. -/
import Derived.Test.YtcnkocnajamclaaTopW2
import Derived.Test.YtcnkocnajamclaaRegion
namespace Go.Proofs.Ytcnkocnajamclaa
open Go Go.RowKit
set_option linter.unusedSimpArgs false

/-- four points that a call holds in its first blocks. -/
structure Hold4 (w : World) (g : Nat) (a b c d : Pt) : Prop where
  a0 : w.cell? ⟨g, 0, none⟩ = some (.int .i64 a.1)
  a1 : w.cell? ⟨g, 1, none⟩ = some (.int .i64 a.2)
  b0 : w.cell? ⟨g + 1, 0, none⟩ = some (.int .i64 b.1)
  b1 : w.cell? ⟨g + 1, 1, none⟩ = some (.int .i64 b.2)
  c0 : w.cell? ⟨g + 1 + 1, 0, none⟩ = some (.int .i64 c.1)
  c1 : w.cell? ⟨g + 1 + 1, 1, none⟩ = some (.int .i64 c.2)
  d0 : w.cell? ⟨g + 1 + 1 + 1, 0, none⟩ = some (.int .i64 d.1)
  d1 : w.cell? ⟨g + 1 + 1 + 1, 1, none⟩ = some (.int .i64 d.2)
  size : g + 1 + 1 + 1 < w.heap.size
theorem Hold4.below {w w' : World} {g : Nat} {a b c d : Pt} (h : Hold4 w g a b c d) (hb : Below w.heap.size w w') : Hold4 w' g a b c d := by
  have hs := h.size
  have hz := hb.size
  exact ⟨(hb.cell (by show g < _; omega)).trans h.a0, (hb.cell (by show g < _; omega)).trans h.a1, (hb.cell (by show g + 1 < _; omega)).trans h.b0, (hb.cell (by show g + 1 < _; omega)).trans h.b1,
    (hb.cell (by show g + 1 + 1 < _; omega)).trans h.c0, (hb.cell (by show g + 1 + 1 < _; omega)).trans h.c1, (hb.cell (by show g + 1 + 1 + 1 < _; omega)).trans h.d0, (hb.cell (by show g + 1 + 1 + 1 < _; omega)).trans h.d1, by omega⟩
theorem Hold4.new (w : World) (a b c d : Pt) (t : TypeId) : Hold4 ((((w.alloc (.cells (prArr a) t)).alloc (.cells (prArr b) t)).alloc (.cells (prArr c) t)).alloc (.cells (prArr d) t)) w.heap.size a b c d := by
  have key : ∀ (w : World) (p q : Pt) (g : Nat), g < w.heap.size → ∀ i v, w.cell? ⟨g, i, none⟩ = some v → (w.alloc (.cells (prArr q) t)).cell? ⟨g, i, none⟩ = some v := fun w p q g hg i v h => by
    rw [((Below.refl w.heap.size w).alloc (Nat.le_refl _) _).cell (p := ⟨g, i, none⟩) hg]; exact h
  have new : ∀ (w : World) (q : Pt), (w.alloc (.cells (prArr q) t)).cell? ⟨w.heap.size, 0, none⟩ = some (.int .i64 q.1) ∧ (w.alloc (.cells (prArr q) t)).cell? ⟨w.heap.size, 1, none⟩ = some (.int .i64 q.2) := fun w q =>
    ⟨by rw [(Blk.new w t (prArr q)).cell 0]; rfl, by rw [(Blk.new w t (prArr q)).cell 1]; rfl⟩
  have na := new w a
  have nb := new (w.alloc (.cells (prArr a) t)) b
  have nc := new ((w.alloc (.cells (prArr a) t)).alloc (.cells (prArr b) t)) c
  have nd := new (((w.alloc (.cells (prArr a) t)).alloc (.cells (prArr b) t)).alloc (.cells (prArr c) t)) d
  simp only [World.size_alloc] at nb nc nd
  refine ⟨?_, ?_, ?_, ?_, ?_, ?_, nd.1, nd.2, by simp⟩
  · exact key _ d d _ (by simp; omega) _ _ (key _ d c _ (by simp; omega) _ _ (key _ d b _ (by simp) _ _ na.1))
  · exact key _ d d _ (by simp; omega) _ _ (key _ d c _ (by simp; omega) _ _ (key _ d b _ (by simp) _ _ na.2))
  · exact key _ d d _ (by simp) _ _ (key _ d c _ (by simp) _ _ nb.1)
  · exact key _ d d _ (by simp) _ _ (key _ d c _ (by simp) _ _ nb.2)
  · exact key _ d d _ (by simp) _ _ nc.1
  · exact key _ d d _ (by simp) _ _ nc.2
theorem meet_of {a b c d : Pt} (h : onP a c d = false) (h1 : onP b c d = false) (h2 : onP c a b = false) (h3 : onP d a b = false) : meetP a b c d = (decide (signP (turnP a b c) * signP (turnP a b d) < 0) && decide (signP (turnP c d a) * signP (turnP c d b) < 0)) := by
  unfold meetP; rw [h, h1, h2, h3]; rfl
theorem meet_yes {a b c d : Pt} (h : onP a c d = true ∨ onP b c d = true ∨ onP c a b = true ∨ onP d a b = true) : meetP a b c d = true := by
  unfold meetP
  rcases h with h | h | h | h <;> rw [h] <;> simp
theorem sign_bd (n : Int) : -1 ≤ signP n ∧ signP n ≤ 1 := by unfold signP; split <;> (try split) <;> omega
/-- what holds while the region runs. -/
def MeetS (w : World) (a b c d : Pt) (W : World) : Prop := Below w.heap.size w W ∧ Hold4 W w.heap.size a b c d
theorem meetS_below {w W W1 : World} {a b c d : Pt} (h : MeetS w a b c d W) (hq : Below W.heap.size W W1) : MeetS w a b c d W1 := ⟨h.1.trans (hq.mono h.1.size), h.2.below hq⟩
theorem meetS_drew {w W : World} {a b c d : Pt} (hb : Below w.heap.size w W) (h : Hold4 W w.heap.size a b c d) : MeetS w a b c d W.drew := ⟨hb.drew, h.below ((Below.refl _ _).drew)⟩
theorem sign_mul (a b : Int) : ∃ p, IntKind.i64.wrap (signP a * signP b) = p ∧ signP a * signP b = p := by
  have h1 := sign_bd a
  have h2 := sign_bd b
  have h3 : -1 ≤ signP a * signP b ∧ signP a * signP b ≤ 1 := by
    rcases (show signP a = -1 ∨ signP a = 0 ∨ signP a = 1 from by omega) with e | e | e <;> rw [e] <;> omega
  exact ⟨_, IntWalk.i64_in _ (by omega), rfl⟩
set_option maxRecDepth 100000 in
set_option maxHeartbeats 2000000 in
theorem meet12_any (a b c d : Pt) (w : World) (ha : NearP a) (hb : NearP b) (hc : NearP c) (hd : NearP d) :
    Calls Try.prog 98 #[.agg (prArr a), .agg (prArr b), .agg (prArr c), .agg (prArr d)] w (Ret (.bool (meetP a b c d)) w) := by
  have H0 := Hold4.new w a b c d 74
  have hbb := ((((Below.refl w.heap.size w).alloc (Nat.le_refl _) (.cells (prArr a) 74)).alloc (by simp) (.cells (prArr b) 74)).alloc (by simp; omega) (.cells (prArr c) 74)).alloc (by simp; omega) (.cells (prArr d) 74)
  obtain ⟨a1, a2⟩ := a
  obtain ⟨b1, b2⟩ := b
  obtain ⟨c1, c2⟩ := c
  obtain ⟨d1, d2⟩ := d
  have HN := Lib.hid (And.intro ha (And.intro hb (And.intro hc hd)))
  have H0 := Lib.hid H0
  have hbb := Lib.hid hbb
  clear ha hb hc hd
  simp only [prArr]
  go_enter Try.func98, Try.ntmps98
  go_wp2_with fail
  refine (on12_any (a1, a2) (c1, c2) (d1, d2) _ HN.out.1 HN.out.2.2.1 HN.out.2.2.2).mono ?_
  rintro e v0 ⟨rfl, hv0⟩
  have H1 := Lib.hid (H0.out.below hv0)
  have hbb := Lib.hid (hbb.out.trans (hv0.mono hbb.out.size))
  clear hv0
  rcases Bool.eq_false_or_eq_true (onP (a1, a2) (c1, c2) (d1, d2)) with h0 | h0
  · have HM := Lib.hid (meet_yes (a := (a1, a2)) (b := (b1, b2)) (c := (c1, c2)) (d := (d1, d2)) (.inl h0))
    rw [h0]
    obtain ⟨k0, k1, k2, k3, k4, k5, k6, k7, -⟩ := H1.out
    clear h0
    go_wp2
    go_ret
    exact ⟨ret_bool HM.out.symm, hbb.out⟩
  have g0 := Lib.hid h0
  rw [h0]
  clear h0
  obtain ⟨k0, k1, k2, k3, k4, k5, k6, k7, -⟩ := H1.out
  go_wp2_with fail
  clear k0 k1 k2 k3 k4 k5 k6 k7
  refine (on12_any (b1, b2) (c1, c2) (d1, d2) _ HN.out.2.1 HN.out.2.2.1 HN.out.2.2.2).mono ?_
  rintro e v1 ⟨rfl, hv1⟩
  have H2 := Lib.hid (H1.out.below hv1)
  have hbb := Lib.hid (hbb.out.trans (hv1.mono hbb.out.size))
  clear hv1
  rcases Bool.eq_false_or_eq_true (onP (b1, b2) (c1, c2) (d1, d2)) with h1 | h1
  · have HM := Lib.hid (meet_yes (a := (a1, a2)) (b := (b1, b2)) (c := (c1, c2)) (d := (d1, d2)) (.inr (.inl h1)))
    rw [h1]
    obtain ⟨k0, k1, k2, k3, k4, k5, k6, k7, -⟩ := H2.out
    clear h1
    go_wp2
    go_ret
    exact ⟨ret_bool HM.out.symm, hbb.out⟩
  have g1 := Lib.hid h1
  rw [h1]
  clear h1
  obtain ⟨k0, k1, k2, k3, k4, k5, k6, k7, -⟩ := H2.out
  go_wp2_with fail
  clear k0 k1 k2 k3 k4 k5 k6 k7
  refine (on12_any (c1, c2) (a1, a2) (b1, b2) _ HN.out.2.2.1 HN.out.1 HN.out.2.1).mono ?_
  rintro e v2 ⟨rfl, hv2⟩
  have H3 := Lib.hid (H2.out.below hv2)
  have hbb := Lib.hid (hbb.out.trans (hv2.mono hbb.out.size))
  clear hv2
  rcases Bool.eq_false_or_eq_true (onP (c1, c2) (a1, a2) (b1, b2)) with h2 | h2
  · have HM := Lib.hid (meet_yes (a := (a1, a2)) (b := (b1, b2)) (c := (c1, c2)) (d := (d1, d2)) (.inr (.inr (.inl h2))))
    rw [h2]
    obtain ⟨k0, k1, k2, k3, k4, k5, k6, k7, -⟩ := H3.out
    clear h2
    go_wp2
    go_ret
    exact ⟨ret_bool HM.out.symm, hbb.out⟩
  have g2 := Lib.hid h2
  rw [h2]
  clear h2
  obtain ⟨k0, k1, k2, k3, k4, k5, k6, k7, -⟩ := H3.out
  go_wp2_with fail
  clear k0 k1 k2 k3 k4 k5 k6 k7
  refine (on12_any (d1, d2) (a1, a2) (b1, b2) _ HN.out.2.2.2 HN.out.1 HN.out.2.1).mono ?_
  rintro e v3 ⟨rfl, hv3⟩
  have H4 := Lib.hid (H3.out.below hv3)
  have hbb := Lib.hid (hbb.out.trans (hv3.mono hbb.out.size))
  clear hv3
  rcases Bool.eq_false_or_eq_true (onP (d1, d2) (a1, a2) (b1, b2)) with h3 | h3
  · have HM := Lib.hid (meet_yes (a := (a1, a2)) (b := (b1, b2)) (c := (c1, c2)) (d := (d1, d2)) (.inr (.inr (.inr h3))))
    rw [h3]
    obtain ⟨k0, k1, k2, k3, k4, k5, k6, k7, -⟩ := H4.out
    clear h3
    go_wp2
    go_ret
    exact ⟨ret_bool HM.out.symm, hbb.out⟩
  have g3 := Lib.hid h3
  rw [h3]
  clear h3
  obtain ⟨k0, k1, k2, k3, k4, k5, k6, k7, -⟩ := H4.out
  go_wp2_with fail
  clear k0 k1 k2 k3 k4 k5 k6 k7
  have hSt := Lib.hid (meetS_drew hbb.out H4.out)
  obtain ⟨⟨t1, hT1⟩, ⟨t2, hT2⟩, ⟨t3, hT3⟩, ⟨t4, hT4⟩⟩ : (∃ t, t = turnP (a1, a2) (b1, b2) (c1, c2)) ∧ (∃ t, t = turnP (a1, a2) (b1, b2) (d1, d2)) ∧ (∃ t, t = turnP (c1, c2) (d1, d2) (a1, a2)) ∧ (∃ t, t = turnP (c1, c2) (d1, d2) (b1, b2)) := ⟨⟨_, rfl⟩, ⟨_, rfl⟩, ⟨_, rfl⟩, ⟨_, rfl⟩⟩
  have HF := meet_of (a := (a1, a2)) (b := (b1, b2)) (c := (c1, c2)) (d := (d1, d2)) g0.out g1.out g2.out g3.out
  rw [← hT1, ← hT2, ← hT3, ← hT4] at HF
  have HT1 := Lib.hid (fun w1 => turn12_any (a1, a2) (b1, b2) (c1, c2) w1 HN.out.1 HN.out.2.1 HN.out.2.2.1)
  have HT2 := Lib.hid (fun w1 => turn12_any (a1, a2) (b1, b2) (d1, d2) w1 HN.out.1 HN.out.2.1 HN.out.2.2.2)
  have HT3 := Lib.hid (fun w1 => turn12_any (c1, c2) (d1, d2) (a1, a2) w1 HN.out.2.2.1 HN.out.2.2.2 HN.out.1)
  have HT4 := Lib.hid (fun w1 => turn12_any (c1, c2) (d1, d2) (b1, b2) w1 HN.out.2.2.1 HN.out.2.2.2 HN.out.2.1)
  rw [← hT1] at HT1
  rw [← hT2] at HT2
  rw [← hT3] at HT3
  rw [← hT4] at HT4
  obtain ⟨p1, hp1, hp1'⟩ := sign_mul t1 t2
  obtain ⟨p2, hp2, hp2'⟩ := sign_mul t3 t4
  rw [hp1', hp2'] at HF
  have HS1 := Lib.hid (fun w1 => sign12_any t1 w1)
  have HS2 := Lib.hid (fun w1 => sign12_any t2 w1)
  have HS3 := Lib.hid (fun w1 => sign12_any t3 w1)
  have HS4 := Lib.hid (fun w1 => sign12_any t4 w1)
  obtain ⟨s1, hs1⟩ : ∃ s, s = signP t1 := ⟨_, rfl⟩
  obtain ⟨s2, hs2⟩ : ∃ s, s = signP t2 := ⟨_, rfl⟩
  obtain ⟨s3, hs3⟩ : ∃ s, s = signP t3 := ⟨_, rfl⟩
  obtain ⟨s4, hs4⟩ : ∃ s, s = signP t4 := ⟨_, rfl⟩
  rw [← hs1] at HS1 hp1
  rw [← hs2] at HS2 hp1
  rw [← hs3] at HS3 hp2
  rw [← hs4] at HS4 hp2
  have HF := Lib.hid HF
  clear hT1 hT2 hT3 hT4 hs1 hs2 hs3 hs4 hp1' hp2' g0 g1 g2 g3 HN H0 H1 H2 H3 H4
  by_cases hg : p1 < 0
  · have hgb : decide (p1 < 0) = true := decide_eq_true hg
    have HR : Hid (meetP (a1, a2) (b1, b2) (c1, c2) (d1, d2) = decide (p2 < 0)) := by show _ = _; rw [HF.out, hgb, Bool.true_and]
    clear hg HF
    refine wp_region_held_drew (S := MeetS w (a1, a2) (b1, b2) (c1, c2) (d1, d2)) (by kernel_rfl) hSt.out (fun hH => ?_)
    refine take_run (i := 0) (v := ?_) (by decide) (by kernel_rfl) (by kernel_rfl) (by kernel_rfl) (fun _ _ _ _ h => h) hH rfl ?_ ?_
    rotate_left
    · (intro w hSw; obtain ⟨k0, k1, k2, k3, k4, k5, k6, k7, -⟩ := hSw.2; simp only [List.getElem_toArray, List.getElem_cons_zero]; go_simp; try with_reducible rfl)
    simp (config := { failIfUnchanged := false }) only [Act.put, List.setIfInBounds_toArray, List.set_cons_zero, List.set_cons_succ, List.getElem_toArray, List.getElem_cons_zero, List.getElem_cons_succ]
    refine take_run (i := 1) (v := ?_) (by decide) (by kernel_rfl) (by kernel_rfl) (by kernel_rfl) (fun _ _ _ _ h => h) hH rfl ?_ ?_
    rotate_left
    · (intro w hSw; obtain ⟨k0, k1, k2, k3, k4, k5, k6, k7, -⟩ := hSw.2; simp only [List.getElem_toArray, List.getElem_cons_zero, List.getElem_cons_succ]; go_simp; try with_reducible rfl)
    simp (config := { failIfUnchanged := false }) only [Act.put, List.setIfInBounds_toArray, List.set_cons_zero, List.set_cons_succ, List.getElem_toArray, List.getElem_cons_zero, List.getElem_cons_succ]
    refine take_run (i := 2) (v := ?_) (by decide) (by kernel_rfl) (by kernel_rfl) (by kernel_rfl) (fun _ _ _ _ h => h) hH rfl ?_ ?_
    rotate_left
    · (intro w hSw; obtain ⟨k0, k1, k2, k3, k4, k5, k6, k7, -⟩ := hSw.2; simp only [List.getElem_toArray, List.getElem_cons_zero, List.getElem_cons_succ]; go_simp; try with_reducible rfl)
    simp (config := { failIfUnchanged := false }) only [Act.put, List.setIfInBounds_toArray, List.set_cons_zero, List.set_cons_succ, List.getElem_toArray, List.getElem_cons_zero, List.getElem_cons_succ]
    refine take_run (i := 5) (v := ?_) (by decide) (by kernel_rfl) (by kernel_rfl) (by kernel_rfl) (fun _ _ _ _ h => h) hH rfl ?_ ?_
    rotate_left
    · (intro w hSw; obtain ⟨k0, k1, k2, k3, k4, k5, k6, k7, -⟩ := hSw.2; simp only [List.getElem_toArray, List.getElem_cons_zero, List.getElem_cons_succ]; go_simp; try with_reducible rfl)
    simp (config := { failIfUnchanged := false }) only [Act.put, List.setIfInBounds_toArray, List.set_cons_zero, List.set_cons_succ, List.getElem_toArray, List.getElem_cons_zero, List.getElem_cons_succ]
    refine take_run (i := 6) (v := ?_) (by decide) (by kernel_rfl) (by kernel_rfl) (by kernel_rfl) (fun _ _ _ _ h => h) hH rfl ?_ ?_
    rotate_left
    · (intro w hSw; obtain ⟨k0, k1, k2, k3, k4, k5, k6, k7, -⟩ := hSw.2; simp only [List.getElem_toArray, List.getElem_cons_zero, List.getElem_cons_succ]; go_simp; try with_reducible rfl)
    simp (config := { failIfUnchanged := false }) only [Act.put, List.setIfInBounds_toArray, List.set_cons_zero, List.set_cons_succ, List.getElem_toArray, List.getElem_cons_zero, List.getElem_cons_succ]
    refine take_run (i := 7) (v := ?_) (by decide) (by kernel_rfl) (by kernel_rfl) (by kernel_rfl) (fun _ _ _ _ h => h) hH rfl ?_ ?_
    rotate_left
    · (intro w hSw; obtain ⟨k0, k1, k2, k3, k4, k5, k6, k7, -⟩ := hSw.2; simp only [List.getElem_toArray, List.getElem_cons_zero, List.getElem_cons_succ]; go_simp; try with_reducible rfl)
    simp (config := { failIfUnchanged := false }) only [Act.put, List.setIfInBounds_toArray, List.set_cons_zero, List.set_cons_succ, List.getElem_toArray, List.getElem_cons_zero, List.getElem_cons_succ]
    refine take_call (i := 3) (by decide) (by kernel_rfl) (fun K hK => ?_)
    simp only [List.getElem_toArray, List.getElem_cons_zero, List.getElem_cons_succ]
    go_simp
    refine (HT1.out _).mono ?_
    rintro e W1 ⟨rfl, hq⟩
    have hS := meetS_below hH hq
    clear hq
    refine hK.out _ _ hS (fun hH => ?_)
    clear hK K hS
    try simp (config := { failIfUnchanged := false }) only [Act.put, List.setIfInBounds_toArray, List.set_cons_zero, List.set_cons_succ, List.getElem_toArray, List.getElem_cons_zero, List.getElem_cons_succ]
    refine take_call (i := 4) (by decide) (by kernel_rfl) (fun K hK => ?_)
    simp only [List.getElem_toArray, List.getElem_cons_zero, List.getElem_cons_succ]
    go_simp
    refine (HS1.out _).mono ?_
    rintro e W1 ⟨rfl, hq⟩
    have hS := meetS_below hH hq
    clear hq
    refine hK.out _ _ hS (fun hH => ?_)
    clear hK K hS
    try simp (config := { failIfUnchanged := false }) only [Act.put, List.setIfInBounds_toArray, List.set_cons_zero, List.set_cons_succ, List.getElem_toArray, List.getElem_cons_zero, List.getElem_cons_succ]
    refine take_call (i := 8) (by decide) (by kernel_rfl) (fun K hK => ?_)
    simp only [List.getElem_toArray, List.getElem_cons_zero, List.getElem_cons_succ]
    go_simp
    refine (HT2.out _).mono ?_
    rintro e W1 ⟨rfl, hq⟩
    have hS := meetS_below hH hq
    clear hq
    refine hK.out _ _ hS (fun hH => ?_)
    clear hK K hS
    try simp (config := { failIfUnchanged := false }) only [Act.put, List.setIfInBounds_toArray, List.set_cons_zero, List.set_cons_succ, List.getElem_toArray, List.getElem_cons_zero, List.getElem_cons_succ]
    refine take_call (i := 9) (by decide) (by kernel_rfl) (fun K hK => ?_)
    simp only [List.getElem_toArray, List.getElem_cons_zero, List.getElem_cons_succ]
    go_simp
    refine (HS2.out _).mono ?_
    rintro e W1 ⟨rfl, hq⟩
    have hS := meetS_below hH hq
    clear hq
    refine hK.out _ _ hS (fun hH => ?_)
    clear hK K hS
    try simp (config := { failIfUnchanged := false }) only [Act.put, List.setIfInBounds_toArray, List.set_cons_zero, List.set_cons_succ, List.getElem_toArray, List.getElem_cons_zero, List.getElem_cons_succ]
    refine take_run (i := 10) (v := ?_) (by decide) (by kernel_rfl) (by kernel_rfl) (by kernel_rfl) (fun _ _ _ _ h => h) hH rfl ?_ ?_
    rotate_left
    · (intro w hSw; obtain ⟨k0, k1, k2, k3, k4, k5, k6, k7, -⟩ := hSw.2; simp only [List.getElem_toArray, List.getElem_cons_zero, List.getElem_cons_succ]; go_simp; try with_reducible rfl)
    simp (config := { failIfUnchanged := false }) only [Act.put, List.setIfInBounds_toArray, List.set_cons_zero, List.set_cons_succ, List.getElem_toArray, List.getElem_cons_zero, List.getElem_cons_succ]
    refine take_run (i := 11) (v := ?_) (by decide) (by kernel_rfl) (by kernel_rfl) (by kernel_rfl) (fun _ _ _ _ h => h) hH rfl ?_ ?_
    rotate_left
    · (intro w hSw; obtain ⟨k0, k1, k2, k3, k4, k5, k6, k7, -⟩ := hSw.2; simp only [List.getElem_toArray, List.getElem_cons_zero, List.getElem_cons_succ]; go_simp; try with_reducible rfl)
    simp (config := { failIfUnchanged := false }) only [Act.put, List.setIfInBounds_toArray, List.set_cons_zero, List.set_cons_succ, List.getElem_toArray, List.getElem_cons_zero, List.getElem_cons_succ]
    refine take_run (i := 12) (v := ?_) (by decide) (by kernel_rfl) (by kernel_rfl) (by kernel_rfl) (fun _ _ _ _ h => h) hH rfl ?_ ?_
    rotate_left
    · (intro w hSw; obtain ⟨k0, k1, k2, k3, k4, k5, k6, k7, -⟩ := hSw.2; simp only [List.getElem_toArray, List.getElem_cons_zero, List.getElem_cons_succ]; go_simp; try with_reducible rfl)
    simp (config := { failIfUnchanged := false }) only [Act.put, List.setIfInBounds_toArray, List.set_cons_zero, List.set_cons_succ, List.getElem_toArray, List.getElem_cons_zero, List.getElem_cons_succ]
    refine take_run (i := 13) (v := ?_) (by decide) (by kernel_rfl) (by kernel_rfl) (by kernel_rfl) (fun _ _ _ _ h => h) hH rfl ?_ ?_
    rotate_left
    · (intro w hSw; obtain ⟨k0, k1, k2, k3, k4, k5, k6, k7, -⟩ := hSw.2; simp only [List.getElem_toArray, List.getElem_cons_zero, List.getElem_cons_succ]; go_simp; try with_reducible rfl)
    simp (config := { failIfUnchanged := false }) only [Act.put, List.setIfInBounds_toArray, List.set_cons_zero, List.set_cons_succ, List.getElem_toArray, List.getElem_cons_zero, List.getElem_cons_succ]
    refine take_run (i := 14) (v := ?_) (by decide) (by kernel_rfl) (by kernel_rfl) (by kernel_rfl) (fun _ _ _ _ h => h) hH rfl ?_ ?_
    rotate_left
    · (intro w hSw; obtain ⟨k0, k1, k2, k3, k4, k5, k6, k7, -⟩ := hSw.2; simp only [List.getElem_toArray, List.getElem_cons_zero, List.getElem_cons_succ]; go_simp; try with_reducible rfl)
    simp (config := { failIfUnchanged := false }) only [Act.put, List.setIfInBounds_toArray, List.set_cons_zero, List.set_cons_succ, List.getElem_toArray, List.getElem_cons_zero, List.getElem_cons_succ]
    refine take_run (i := 15) (v := ?_) (by decide) (by kernel_rfl) (by kernel_rfl) (by kernel_rfl) (fun _ _ _ _ h => h) hH rfl ?_ ?_
    rotate_left
    · (intro w hSw; obtain ⟨k0, k1, k2, k3, k4, k5, k6, k7, -⟩ := hSw.2; simp only [List.getElem_toArray, List.getElem_cons_zero, List.getElem_cons_succ]; go_simp; try with_reducible rfl)
    simp (config := { failIfUnchanged := false }) only [Act.put, List.setIfInBounds_toArray, List.set_cons_zero, List.set_cons_succ, List.getElem_toArray, List.getElem_cons_zero, List.getElem_cons_succ]
    refine take_run (i := 18) (v := ?_) (by decide) (by kernel_rfl) (by kernel_rfl) (by kernel_rfl) (fun _ _ _ _ h => h) hH rfl ?_ ?_
    rotate_left
    · (intro w hSw; obtain ⟨k0, k1, k2, k3, k4, k5, k6, k7, -⟩ := hSw.2; simp only [List.getElem_toArray, List.getElem_cons_zero, List.getElem_cons_succ]; go_simp; try with_reducible rfl)
    simp (config := { failIfUnchanged := false }) only [Act.put, List.setIfInBounds_toArray, List.set_cons_zero, List.set_cons_succ, List.getElem_toArray, List.getElem_cons_zero, List.getElem_cons_succ]
    refine take_run (i := 19) (v := ?_) (by decide) (by kernel_rfl) (by kernel_rfl) (by kernel_rfl) (fun _ _ _ _ h => h) hH rfl ?_ ?_
    rotate_left
    · (intro w hSw; obtain ⟨k0, k1, k2, k3, k4, k5, k6, k7, -⟩ := hSw.2; simp only [List.getElem_toArray, List.getElem_cons_zero, List.getElem_cons_succ]; go_simp; try with_reducible rfl)
    simp (config := { failIfUnchanged := false }) only [Act.put, List.setIfInBounds_toArray, List.set_cons_zero, List.set_cons_succ, List.getElem_toArray, List.getElem_cons_zero, List.getElem_cons_succ]
    refine take_run (i := 20) (v := ?_) (by decide) (by kernel_rfl) (by kernel_rfl) (by kernel_rfl) (fun _ _ _ _ h => h) hH rfl ?_ ?_
    rotate_left
    · (intro w hSw; obtain ⟨k0, k1, k2, k3, k4, k5, k6, k7, -⟩ := hSw.2; simp only [List.getElem_toArray, List.getElem_cons_zero, List.getElem_cons_succ]; go_simp; try with_reducible rfl)
    simp (config := { failIfUnchanged := false }) only [Act.put, List.setIfInBounds_toArray, List.set_cons_zero, List.set_cons_succ, List.getElem_toArray, List.getElem_cons_zero, List.getElem_cons_succ]
    refine take_call (i := 16) (by decide) (by kernel_rfl) (fun K hK => ?_)
    simp only [List.getElem_toArray, List.getElem_cons_zero, List.getElem_cons_succ]
    go_simp
    refine (HT3.out _).mono ?_
    rintro e W1 ⟨rfl, hq⟩
    have hS := meetS_below hH hq
    clear hq
    refine hK.out _ _ hS (fun hH => ?_)
    clear hK K hS
    try simp (config := { failIfUnchanged := false }) only [Act.put, List.setIfInBounds_toArray, List.set_cons_zero, List.set_cons_succ, List.getElem_toArray, List.getElem_cons_zero, List.getElem_cons_succ]
    refine take_call (i := 17) (by decide) (by kernel_rfl) (fun K hK => ?_)
    simp only [List.getElem_toArray, List.getElem_cons_zero, List.getElem_cons_succ]
    go_simp
    refine (HS3.out _).mono ?_
    rintro e W1 ⟨rfl, hq⟩
    have hS := meetS_below hH hq
    clear hq
    refine hK.out _ _ hS (fun hH => ?_)
    clear hK K hS
    try simp (config := { failIfUnchanged := false }) only [Act.put, List.setIfInBounds_toArray, List.set_cons_zero, List.set_cons_succ, List.getElem_toArray, List.getElem_cons_zero, List.getElem_cons_succ]
    refine take_call (i := 21) (by decide) (by kernel_rfl) (fun K hK => ?_)
    simp only [List.getElem_toArray, List.getElem_cons_zero, List.getElem_cons_succ]
    go_simp
    refine (HT4.out _).mono ?_
    rintro e W1 ⟨rfl, hq⟩
    have hS := meetS_below hH hq
    clear hq
    refine hK.out _ _ hS (fun hH => ?_)
    clear hK K hS
    try simp (config := { failIfUnchanged := false }) only [Act.put, List.setIfInBounds_toArray, List.set_cons_zero, List.set_cons_succ, List.getElem_toArray, List.getElem_cons_zero, List.getElem_cons_succ]
    refine take_call (i := 22) (by decide) (by kernel_rfl) (fun K hK => ?_)
    simp only [List.getElem_toArray, List.getElem_cons_zero, List.getElem_cons_succ]
    go_simp
    refine (HS4.out _).mono ?_
    rintro e W1 ⟨rfl, hq⟩
    have hS := meetS_below hH hq
    clear hq
    refine hK.out _ _ hS (fun hH => ?_)
    clear hK K hS
    try simp (config := { failIfUnchanged := false }) only [Act.put, List.setIfInBounds_toArray, List.set_cons_zero, List.set_cons_succ, List.getElem_toArray, List.getElem_cons_zero, List.getElem_cons_succ]
    refine take_run (i := 23) (v := ?_) (by decide) (by kernel_rfl) (by kernel_rfl) (by kernel_rfl) (fun _ _ _ _ h => h) hH rfl ?_ ?_
    rotate_left
    · (intro w hSw; obtain ⟨k0, k1, k2, k3, k4, k5, k6, k7, -⟩ := hSw.2; simp only [List.getElem_toArray, List.getElem_cons_zero, List.getElem_cons_succ]; go_simp; try with_reducible rfl)
    simp (config := { failIfUnchanged := false }) only [Act.put, List.setIfInBounds_toArray, List.set_cons_zero, List.set_cons_succ, List.getElem_toArray, List.getElem_cons_zero, List.getElem_cons_succ]
    refine take_run (i := 24) (v := ?_) (by decide) (by kernel_rfl) (by kernel_rfl) (by kernel_rfl) (fun _ _ _ _ h => h) hH rfl ?_ ?_
    rotate_left
    · (intro w hSw; obtain ⟨k0, k1, k2, k3, k4, k5, k6, k7, -⟩ := hSw.2; simp only [List.getElem_toArray, List.getElem_cons_zero, List.getElem_cons_succ]; go_simp; try with_reducible rfl)
    simp (config := { failIfUnchanged := false }) only [Act.put, List.setIfInBounds_toArray, List.set_cons_zero, List.set_cons_succ, List.getElem_toArray, List.getElem_cons_zero, List.getElem_cons_succ]
    refine take_run (i := 25) (v := ?_) (by decide) (by kernel_rfl) (by kernel_rfl) (by kernel_rfl) (fun _ _ _ _ h => h) hH rfl ?_ ?_
    rotate_left
    · (intro w hSw; obtain ⟨k0, k1, k2, k3, k4, k5, k6, k7, -⟩ := hSw.2; simp only [List.getElem_toArray, List.getElem_cons_zero, List.getElem_cons_succ]; go_simp; try with_reducible rfl)
    simp (config := { failIfUnchanged := false }) only [Act.put, List.setIfInBounds_toArray, List.set_cons_zero, List.set_cons_succ, List.getElem_toArray, List.getElem_cons_zero, List.getElem_cons_succ]
    refine take_run (i := 26) (v := ?_) (by decide) (by kernel_rfl) (by kernel_rfl) (by kernel_rfl) (fun _ _ _ _ h => h) hH rfl ?_ ?_
    rotate_left
    · (intro w hSw; obtain ⟨k0, k1, k2, k3, k4, k5, k6, k7, -⟩ := hSw.2; simp only [List.getElem_toArray, List.getElem_cons_zero, List.getElem_cons_succ]; go_simp; try with_reducible rfl)
    simp (config := { failIfUnchanged := false }) only [Act.put, List.setIfInBounds_toArray, List.set_cons_zero, List.set_cons_succ, List.getElem_toArray, List.getElem_cons_zero, List.getElem_cons_succ]
    refine wpAnyH_done (by kernel_rfl) ?_ _
    go_wp2
    go_ret
    exact ⟨ret_bool HR.out.symm, hH.1⟩
  · have hgb : decide (p1 < 0) = false := decide_eq_false hg
    have HR : Hid (meetP (a1, a2) (b1, b2) (c1, c2) (d1, d2) = false) := by show _ = _; rw [HF.out, hgb, Bool.false_and]
    clear hg HF
    refine wp_region_held_drew (S := MeetS w (a1, a2) (b1, b2) (c1, c2) (d1, d2)) (by kernel_rfl) hSt.out (fun hH => ?_)
    refine take_run (i := 0) (v := ?_) (by decide) (by kernel_rfl) (by kernel_rfl) (by kernel_rfl) (fun _ _ _ _ h => h) hH rfl ?_ ?_
    rotate_left
    · (intro w hSw; obtain ⟨k0, k1, k2, k3, k4, k5, k6, k7, -⟩ := hSw.2; simp only [List.getElem_toArray, List.getElem_cons_zero]; go_simp; try with_reducible rfl)
    simp (config := { failIfUnchanged := false }) only [Act.put, List.setIfInBounds_toArray, List.set_cons_zero, List.set_cons_succ, List.getElem_toArray, List.getElem_cons_zero, List.getElem_cons_succ]
    refine take_run (i := 1) (v := ?_) (by decide) (by kernel_rfl) (by kernel_rfl) (by kernel_rfl) (fun _ _ _ _ h => h) hH rfl ?_ ?_
    rotate_left
    · (intro w hSw; obtain ⟨k0, k1, k2, k3, k4, k5, k6, k7, -⟩ := hSw.2; simp only [List.getElem_toArray, List.getElem_cons_zero, List.getElem_cons_succ]; go_simp; try with_reducible rfl)
    simp (config := { failIfUnchanged := false }) only [Act.put, List.setIfInBounds_toArray, List.set_cons_zero, List.set_cons_succ, List.getElem_toArray, List.getElem_cons_zero, List.getElem_cons_succ]
    refine take_run (i := 2) (v := ?_) (by decide) (by kernel_rfl) (by kernel_rfl) (by kernel_rfl) (fun _ _ _ _ h => h) hH rfl ?_ ?_
    rotate_left
    · (intro w hSw; obtain ⟨k0, k1, k2, k3, k4, k5, k6, k7, -⟩ := hSw.2; simp only [List.getElem_toArray, List.getElem_cons_zero, List.getElem_cons_succ]; go_simp; try with_reducible rfl)
    simp (config := { failIfUnchanged := false }) only [Act.put, List.setIfInBounds_toArray, List.set_cons_zero, List.set_cons_succ, List.getElem_toArray, List.getElem_cons_zero, List.getElem_cons_succ]
    refine take_run (i := 5) (v := ?_) (by decide) (by kernel_rfl) (by kernel_rfl) (by kernel_rfl) (fun _ _ _ _ h => h) hH rfl ?_ ?_
    rotate_left
    · (intro w hSw; obtain ⟨k0, k1, k2, k3, k4, k5, k6, k7, -⟩ := hSw.2; simp only [List.getElem_toArray, List.getElem_cons_zero, List.getElem_cons_succ]; go_simp; try with_reducible rfl)
    simp (config := { failIfUnchanged := false }) only [Act.put, List.setIfInBounds_toArray, List.set_cons_zero, List.set_cons_succ, List.getElem_toArray, List.getElem_cons_zero, List.getElem_cons_succ]
    refine take_run (i := 6) (v := ?_) (by decide) (by kernel_rfl) (by kernel_rfl) (by kernel_rfl) (fun _ _ _ _ h => h) hH rfl ?_ ?_
    rotate_left
    · (intro w hSw; obtain ⟨k0, k1, k2, k3, k4, k5, k6, k7, -⟩ := hSw.2; simp only [List.getElem_toArray, List.getElem_cons_zero, List.getElem_cons_succ]; go_simp; try with_reducible rfl)
    simp (config := { failIfUnchanged := false }) only [Act.put, List.setIfInBounds_toArray, List.set_cons_zero, List.set_cons_succ, List.getElem_toArray, List.getElem_cons_zero, List.getElem_cons_succ]
    refine take_run (i := 7) (v := ?_) (by decide) (by kernel_rfl) (by kernel_rfl) (by kernel_rfl) (fun _ _ _ _ h => h) hH rfl ?_ ?_
    rotate_left
    · (intro w hSw; obtain ⟨k0, k1, k2, k3, k4, k5, k6, k7, -⟩ := hSw.2; simp only [List.getElem_toArray, List.getElem_cons_zero, List.getElem_cons_succ]; go_simp; try with_reducible rfl)
    simp (config := { failIfUnchanged := false }) only [Act.put, List.setIfInBounds_toArray, List.set_cons_zero, List.set_cons_succ, List.getElem_toArray, List.getElem_cons_zero, List.getElem_cons_succ]
    refine take_call (i := 3) (by decide) (by kernel_rfl) (fun K hK => ?_)
    simp only [List.getElem_toArray, List.getElem_cons_zero, List.getElem_cons_succ]
    go_simp
    refine (HT1.out _).mono ?_
    rintro e W1 ⟨rfl, hq⟩
    have hS := meetS_below hH hq
    clear hq
    refine hK.out _ _ hS (fun hH => ?_)
    clear hK K hS
    try simp (config := { failIfUnchanged := false }) only [Act.put, List.setIfInBounds_toArray, List.set_cons_zero, List.set_cons_succ, List.getElem_toArray, List.getElem_cons_zero, List.getElem_cons_succ]
    refine take_call (i := 4) (by decide) (by kernel_rfl) (fun K hK => ?_)
    simp only [List.getElem_toArray, List.getElem_cons_zero, List.getElem_cons_succ]
    go_simp
    refine (HS1.out _).mono ?_
    rintro e W1 ⟨rfl, hq⟩
    have hS := meetS_below hH hq
    clear hq
    refine hK.out _ _ hS (fun hH => ?_)
    clear hK K hS
    try simp (config := { failIfUnchanged := false }) only [Act.put, List.setIfInBounds_toArray, List.set_cons_zero, List.set_cons_succ, List.getElem_toArray, List.getElem_cons_zero, List.getElem_cons_succ]
    refine take_call (i := 8) (by decide) (by kernel_rfl) (fun K hK => ?_)
    simp only [List.getElem_toArray, List.getElem_cons_zero, List.getElem_cons_succ]
    go_simp
    refine (HT2.out _).mono ?_
    rintro e W1 ⟨rfl, hq⟩
    have hS := meetS_below hH hq
    clear hq
    refine hK.out _ _ hS (fun hH => ?_)
    clear hK K hS
    try simp (config := { failIfUnchanged := false }) only [Act.put, List.setIfInBounds_toArray, List.set_cons_zero, List.set_cons_succ, List.getElem_toArray, List.getElem_cons_zero, List.getElem_cons_succ]
    refine take_call (i := 9) (by decide) (by kernel_rfl) (fun K hK => ?_)
    simp only [List.getElem_toArray, List.getElem_cons_zero, List.getElem_cons_succ]
    go_simp
    refine (HS2.out _).mono ?_
    rintro e W1 ⟨rfl, hq⟩
    have hS := meetS_below hH hq
    clear hq
    refine hK.out _ _ hS (fun hH => ?_)
    clear hK K hS
    try simp (config := { failIfUnchanged := false }) only [Act.put, List.setIfInBounds_toArray, List.set_cons_zero, List.set_cons_succ, List.getElem_toArray, List.getElem_cons_zero, List.getElem_cons_succ]
    refine take_run (i := 10) (v := ?_) (by decide) (by kernel_rfl) (by kernel_rfl) (by kernel_rfl) (fun _ _ _ _ h => h) hH rfl ?_ ?_
    rotate_left
    · (intro w hSw; obtain ⟨k0, k1, k2, k3, k4, k5, k6, k7, -⟩ := hSw.2; simp only [List.getElem_toArray, List.getElem_cons_zero, List.getElem_cons_succ]; go_simp; try with_reducible rfl)
    simp (config := { failIfUnchanged := false }) only [Act.put, List.setIfInBounds_toArray, List.set_cons_zero, List.set_cons_succ, List.getElem_toArray, List.getElem_cons_zero, List.getElem_cons_succ]
    refine take_run (i := 11) (v := ?_) (by decide) (by kernel_rfl) (by kernel_rfl) (by kernel_rfl) (fun _ _ _ _ h => h) hH rfl ?_ ?_
    rotate_left
    · (intro w hSw; obtain ⟨k0, k1, k2, k3, k4, k5, k6, k7, -⟩ := hSw.2; simp only [List.getElem_toArray, List.getElem_cons_zero, List.getElem_cons_succ]; go_simp; try with_reducible rfl)
    simp (config := { failIfUnchanged := false }) only [Act.put, List.setIfInBounds_toArray, List.set_cons_zero, List.set_cons_succ, List.getElem_toArray, List.getElem_cons_zero, List.getElem_cons_succ]
    refine take_run (i := 12) (v := ?_) (by decide) (by kernel_rfl) (by kernel_rfl) (by kernel_rfl) (fun _ _ _ _ h => h) hH rfl ?_ ?_
    rotate_left
    · (intro w hSw; obtain ⟨k0, k1, k2, k3, k4, k5, k6, k7, -⟩ := hSw.2; simp only [List.getElem_toArray, List.getElem_cons_zero, List.getElem_cons_succ]; go_simp; try with_reducible rfl)
    simp (config := { failIfUnchanged := false }) only [Act.put, List.setIfInBounds_toArray, List.set_cons_zero, List.set_cons_succ, List.getElem_toArray, List.getElem_cons_zero, List.getElem_cons_succ]
    refine take_skip (i := 13) (by decide) (by kernel_rfl) (by kernel_rfl) (by kernel_rfl) (fun _ _ _ _ h => h) hH rfl ?_
    simp (config := { failIfUnchanged := false }) only [Act.put, List.setIfInBounds_toArray, List.set_cons_zero, List.set_cons_succ, List.getElem_toArray, List.getElem_cons_zero, List.getElem_cons_succ]
    refine take_skip (i := 14) (by decide) (by kernel_rfl) (by kernel_rfl) (by kernel_rfl) (fun _ _ _ _ h => h) hH rfl ?_
    simp (config := { failIfUnchanged := false }) only [Act.put, List.setIfInBounds_toArray, List.set_cons_zero, List.set_cons_succ, List.getElem_toArray, List.getElem_cons_zero, List.getElem_cons_succ]
    refine take_skip (i := 15) (by decide) (by kernel_rfl) (by kernel_rfl) (by kernel_rfl) (fun _ _ _ _ h => h) hH rfl ?_
    simp (config := { failIfUnchanged := false }) only [Act.put, List.setIfInBounds_toArray, List.set_cons_zero, List.set_cons_succ, List.getElem_toArray, List.getElem_cons_zero, List.getElem_cons_succ]
    refine take_skip (i := 16) (by decide) (by kernel_rfl) (by kernel_rfl) (by kernel_rfl) (fun _ _ _ _ h => h) hH rfl ?_
    simp (config := { failIfUnchanged := false }) only [Act.put, List.setIfInBounds_toArray, List.set_cons_zero, List.set_cons_succ, List.getElem_toArray, List.getElem_cons_zero, List.getElem_cons_succ]
    refine take_skip (i := 17) (by decide) (by kernel_rfl) (by kernel_rfl) (by kernel_rfl) (fun _ _ _ _ h => h) hH rfl ?_
    simp (config := { failIfUnchanged := false }) only [Act.put, List.setIfInBounds_toArray, List.set_cons_zero, List.set_cons_succ, List.getElem_toArray, List.getElem_cons_zero, List.getElem_cons_succ]
    refine take_skip (i := 18) (by decide) (by kernel_rfl) (by kernel_rfl) (by kernel_rfl) (fun _ _ _ _ h => h) hH rfl ?_
    simp (config := { failIfUnchanged := false }) only [Act.put, List.setIfInBounds_toArray, List.set_cons_zero, List.set_cons_succ, List.getElem_toArray, List.getElem_cons_zero, List.getElem_cons_succ]
    refine take_skip (i := 19) (by decide) (by kernel_rfl) (by kernel_rfl) (by kernel_rfl) (fun _ _ _ _ h => h) hH rfl ?_
    simp (config := { failIfUnchanged := false }) only [Act.put, List.setIfInBounds_toArray, List.set_cons_zero, List.set_cons_succ, List.getElem_toArray, List.getElem_cons_zero, List.getElem_cons_succ]
    refine take_skip (i := 20) (by decide) (by kernel_rfl) (by kernel_rfl) (by kernel_rfl) (fun _ _ _ _ h => h) hH rfl ?_
    simp (config := { failIfUnchanged := false }) only [Act.put, List.setIfInBounds_toArray, List.set_cons_zero, List.set_cons_succ, List.getElem_toArray, List.getElem_cons_zero, List.getElem_cons_succ]
    refine take_skip (i := 21) (by decide) (by kernel_rfl) (by kernel_rfl) (by kernel_rfl) (fun _ _ _ _ h => h) hH rfl ?_
    simp (config := { failIfUnchanged := false }) only [Act.put, List.setIfInBounds_toArray, List.set_cons_zero, List.set_cons_succ, List.getElem_toArray, List.getElem_cons_zero, List.getElem_cons_succ]
    refine take_skip (i := 22) (by decide) (by kernel_rfl) (by kernel_rfl) (by kernel_rfl) (fun _ _ _ _ h => h) hH rfl ?_
    simp (config := { failIfUnchanged := false }) only [Act.put, List.setIfInBounds_toArray, List.set_cons_zero, List.set_cons_succ, List.getElem_toArray, List.getElem_cons_zero, List.getElem_cons_succ]
    refine take_skip (i := 23) (by decide) (by kernel_rfl) (by kernel_rfl) (by kernel_rfl) (fun _ _ _ _ h => h) hH rfl ?_
    simp (config := { failIfUnchanged := false }) only [Act.put, List.setIfInBounds_toArray, List.set_cons_zero, List.set_cons_succ, List.getElem_toArray, List.getElem_cons_zero, List.getElem_cons_succ]
    refine take_skip (i := 24) (by decide) (by kernel_rfl) (by kernel_rfl) (by kernel_rfl) (fun _ _ _ _ h => h) hH rfl ?_
    simp (config := { failIfUnchanged := false }) only [Act.put, List.setIfInBounds_toArray, List.set_cons_zero, List.set_cons_succ, List.getElem_toArray, List.getElem_cons_zero, List.getElem_cons_succ]
    refine take_run (i := 25) (v := ?_) (by decide) (by kernel_rfl) (by kernel_rfl) (by kernel_rfl) (fun _ _ _ _ h => h) hH rfl ?_ ?_
    rotate_left
    · (intro w hSw; obtain ⟨k0, k1, k2, k3, k4, k5, k6, k7, -⟩ := hSw.2; simp only [List.getElem_toArray, List.getElem_cons_zero, List.getElem_cons_succ]; go_simp; try with_reducible rfl)
    simp (config := { failIfUnchanged := false }) only [Act.put, List.setIfInBounds_toArray, List.set_cons_zero, List.set_cons_succ, List.getElem_toArray, List.getElem_cons_zero, List.getElem_cons_succ]
    refine take_run (i := 26) (v := ?_) (by decide) (by kernel_rfl) (by kernel_rfl) (by kernel_rfl) (fun _ _ _ _ h => h) hH rfl ?_ ?_
    rotate_left
    · (intro w hSw; obtain ⟨k0, k1, k2, k3, k4, k5, k6, k7, -⟩ := hSw.2; simp only [List.getElem_toArray, List.getElem_cons_zero, List.getElem_cons_succ]; go_simp; try with_reducible rfl)
    simp (config := { failIfUnchanged := false }) only [Act.put, List.setIfInBounds_toArray, List.set_cons_zero, List.set_cons_succ, List.getElem_toArray, List.getElem_cons_zero, List.getElem_cons_succ]
    refine wpAnyH_done (by kernel_rfl) ?_ _
    go_wp2
    go_ret
    exact ⟨ret_bool HR.out.symm, hH.1⟩
end Go.Proofs.Ytcnkocnajamclaa
