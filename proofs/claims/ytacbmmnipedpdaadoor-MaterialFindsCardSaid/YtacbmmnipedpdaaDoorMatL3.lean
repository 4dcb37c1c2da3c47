/- Chapter 15: the law MaterialFinds, by walking its text. -/
import Derived.Test.YtacbmmnipedpdaaDoorMatSt
import Derived.Test.YtacbmmnipedpdaaDoorMatWB
import Derived.Test.YtacbmmnipedpdaaDoorRegion
namespace Go.Proofs.YtacbmmnipedpdaaDoor
open Go Go.RowKit
set_option linter.unusedSimpArgs false

theorem sc_eql (T : ByteArray) (x y z : Int) (w : World) : (binOp .eql 36 (.agg #[.string T, .int .i64 x, .int .i64 y, .int .i64 z]) (.agg #[.string T, .int .i64 x, .int .i64 y, .int .i64 z])).run Tryd.prog w = .ok (.bool true) w := by
  have u3 := Tryd.underlying3
  have a3 := Tryd.isAgg3
  have z3 := Tryd.sizeOf3
  have u4 := Tryd.underlying9
  have a4 := Tryd.isAgg9
  have z4 := Tryd.sizeOf9
  rw [run_eql_struct, show (10000 : Nat) = 9999 + 1 from rfl, run_equalIn_agg w 9999 36 _ _ sc_under sc_held]
  simp only [Program.fieldsOf, Tryd.underlying36]
  go_simp
  try simp
theorem few_lens {m : Mat} (h : fewM m = true) : ∀ g ∈ m.1, g.2.2.2.length ≤ 1000 := by
  intro g hg
  unfold fewM at h
  simp only [Bool.and_eq_true, List.all_eq_true, decide_eq_true_eq] at h
  have := (h.1.2 g hg).1
  omega
/-- a grade in its box. -/
structure GrBx (b : Nat) (g : Gr) (a : Array Value) (W : World) : Prop where
  hg : grR.R W (Lt W) g a.toList
  bx : Blk W b 32 a
theorem GrBx.below {W W' : World} {b : Nat} {g : Gr} {a : Array Value} (h : GrBx b g a W) (hb : Below W.heap.size W W') : GrBx b g a W' := ⟨Rep.below h.hg hb, h.bx.below hb h.bx.lt⟩
theorem gr_form {w : World} {D : Nat → Prop} {g : Gr} {a : Array Value} (h : grR.R w D g a.toList) : ∃ G n cg, a = #[.string (bA g.1), .int .i64 g.2.1, .int .i64 g.2.2.1, .slice G n cg] := by
  obtain ⟨G, cg, e, -⟩ := gr_inv h
  exact ⟨G, _, cg, Array.ext' (by simpa using e)⟩
set_option maxRecDepth 100000 in
set_option maxHeartbeats 4000000 in
theorem finds15_law (a : Array Value) (s : ByteArray) (t : Int) (m : Mat) (x : ByteArray) (y : Int) (w : World) (hT : TabP w) (h : matR.R w (Lt w) m (Value.agg a).cells.toList) (_ : True) (_ : Rep.str.R w (Lt w) x (Value.string s).cells.toList) (_ : StrM x) (_ : Rep.int.R w (Lt w) y (Value.int .i64 t).cells.toList) (_ : True) :
    Calls Tryd.prog 4 #[.agg a, .string s, .int .i64 t] w (Ret (.bool true) w) := by
  obtain ⟨A, c, B, d, rfl, hg, hs, hn1, hn2⟩ := mat_inv (cs := a) h
  have HT := Lib.hid hT
  have HS := Lib.hid (ma_start (Below.refl w.heap.size w) hg hs)
  clear hT h hg hs
  obtain ⟨W0, hW0⟩ : ∃ W0, W0 = w.alloc (.cells #[.slice A m.1.length c, .slice B m.2.length d] 25) := ⟨_, rfl⟩
  rw [← hW0] at HS
  have HW0 := Lib.hid hW0
  have c0 := HS.out.bm.c20
  have c1 := HS.out.bm.c21
  obtain ⟨few, hfew⟩ : ∃ b, b = fewM m := ⟨_, rfl⟩
  have HF := Lib.hid hfew
  have CF := Lib.hid (few15_any _ _ _ _ _ _ m W0 HS.out.hg HS.out.hs)
  rw [← hfew] at CF
  have HT0 : Hid (TabP W0) := by rw [hW0]; exact HT.out.below ((Below.refl w.heap.size w).alloc (Nat.le_refl _) _)
  clear hW0 hfew HT
  cases few
  · go_enter Tryd.func4, Tryd.ntmps4
    go_upto_region 1 with fail
    rw [← HW0.out]
    go_wp2_with fail
    refine CF.out.mono ?_
    rintro e w1 ⟨rfl, hb1⟩
    have HS := Lib.hid (HS.out.below hb1)
    have HT := Lib.hid (HT0.out.below hb1)
    go_wp2_with fail
    refine (awake_any _ HT.out).mono ?_
    rintro e w2 ⟨rfl, hb2⟩
    have HS := Lib.hid (HS.out.below hb2)
    go_wp2
    go_ret
    exact ⟨rfl, HS.out.hb⟩
  · have hl := few_lens HF.out.symm
    obtain ⟨nm, rfl⟩ : ∃ nm, s = bA nm := ⟨_, (bA_of s).symm⟩
    have q1 := sc_eql
    have q2 := sc_eqg
    have q3 : ∀ b : Bool, (b == b) = true := fun b => by simp
    go_enter Tryd.func4, Tryd.ntmps4
    go_upto_region 1 with fail
    rw [← HW0.out]
    go_wp2_with fail
    refine CF.out.mono ?_
    rintro e w1 ⟨rfl, hb1⟩
    have HS := Lib.hid (HS.out.below hb1)
    have HT := Lib.hid (HT0.out.below hb1)
    have c0 := HS.out.bm.c20
    have c1 := HS.out.bm.c21
    go_wp2_with fail
    refine (matGradeOf_any _ _ _ _ _ _ m nm _ HS.out.hg hl).mono ?_
    rintro e w2 ⟨ga, rfl, hga, hb2⟩
    obtain ⟨G, ng, cg, rfl⟩ := gr_form hga
    have HS := Lib.hid (HS.out.below hb2)
    have HT := Lib.hid (HT.out.below hb2)
    obtain ⟨q, hq⟩ : ∃ q, grF m nm = q := ⟨_, rfl⟩
    rw [hq] at hga ⊢
    obtain ⟨⟨g1, g2, g3, g4⟩, b1⟩ := q
    dsimp only at hga ⊢
    have hby := (Below.refl w2.heap.size w2).alloc (Nat.le_refl _) (.cells #[.string (bA g1), .int .i64 g2, .int .i64 g3, .slice G ng cg] 32)
    have HA : Hid (GrBx w2.heap.size (g1, g2, g3, g4) _ (w2.alloc (.cells #[.string (bA g1), .int .i64 g2, .int .i64 g3, .slice G ng cg] 32))) := ⟨Rep.below hga hby, Blk.new w2 _ _⟩
    have HS := Lib.hid (HS.out.below hby)
    have HT := Lib.hid (HT.out.below hby)
    have c0 := HS.out.bm.c20
    have c1 := HS.out.bm.c21
    go_wp2_with fail
    refine (refGradeOf_any _ _ _ _ _ _ m nm _ HS.out.hg hl).mono ?_
    rintro e w3 ⟨gb, rfl, hgb, hb3⟩
    obtain ⟨G', ng', cg', rfl⟩ := gr_form hgb
    rw [hq] at hgb ⊢
    dsimp only at hgb ⊢
    have hby := (Below.refl w3.heap.size w3).alloc (Nat.le_refl _) (.cells #[.string (bA g1), .int .i64 g2, .int .i64 g3, .slice G' ng' cg'] 32)
    have HB : Hid (GrBx w3.heap.size (g1, g2, g3, g4) _ (w3.alloc (.cells #[.string (bA g1), .int .i64 g2, .int .i64 g3, .slice G' ng' cg'] 32))) := ⟨Rep.below hgb hby, Blk.new w3 _ _⟩
    have HA := Lib.hid ((HA.out.below hb3).below hby)
    have HS := Lib.hid ((HS.out.below hb3).below hby)
    have HT := Lib.hid ((HT.out.below hb3).below hby)
    have c0 := HS.out.bm.c20
    have c1 := HS.out.bm.c21
    clear hb3 hby hga hgb hb2 hq
    go_wp2_with fail
    refine (matSectionOf_any _ _ _ _ _ _ m nm _ HS.out.hs).mono ?_
    rintro e w4 ⟨rfl, hb4⟩
    obtain ⟨q, hq⟩ : ∃ q, scF m nm = q := ⟨_, rfl⟩
    rw [hq]
    obtain ⟨⟨s1, s2, s3, s4⟩, b2⟩ := q
    dsimp only
    rw [show scC (s1, s2, s3, s4) = #[.string (bA s1), .int .i64 s2, .int .i64 s3, .int .i64 s4] from rfl]
    have hby := (Below.refl w4.heap.size w4).alloc (Nat.le_refl _) (.cells #[.string (bA s1), .int .i64 s2, .int .i64 s3, .int .i64 s4] 36)
    have HC := Lib.hid (Blk.new w4 36 #[.string (bA s1), .int .i64 s2, .int .i64 s3, .int .i64 s4])
    have HA := Lib.hid ((HA.out.below hb4).below hby)
    have HB := Lib.hid ((HB.out.below hb4).below hby)
    have HS := Lib.hid ((HS.out.below hb4).below hby)
    have HT := Lib.hid ((HT.out.below hb4).below hby)
    have c0 := HS.out.bm.c20
    have c1 := HS.out.bm.c21
    clear hb4 hby
    go_wp2_with fail
    refine (refSectionOf_any _ _ _ _ _ _ m nm _ HS.out.hs).mono ?_
    rintro e w5 ⟨rfl, hb5⟩
    rw [hq]
    dsimp only
    rw [show scC (s1, s2, s3, s4) = #[.string (bA s1), .int .i64 s2, .int .i64 s3, .int .i64 s4] from rfl]
    obtain ⟨W5, hW5⟩ : ∃ W5, W5 = w5.alloc (.cells #[.string (bA s1), .int .i64 s2, .int .i64 s3, .int .i64 s4] 36) := ⟨_, rfl⟩
    have HW5 := Lib.hid hW5
    have hby : Below w5.heap.size w5 W5 := by rw [hW5]; exact (Below.refl w5.heap.size w5).alloc (Nat.le_refl _) _
    have HD : Hid (Blk W5 w5.heap.size 36 #[.string (bA s1), .int .i64 s2, .int .i64 s3, .int .i64 s4]) := by rw [hW5]; exact Blk.new w5 _ _
    have HC := Lib.hid ((HC.out.below hb5 HC.out.lt).below hby (HC.out.below hb5 HC.out.lt).lt)
    have HA := Lib.hid ((HA.out.below hb5).below hby)
    have HB := Lib.hid ((HB.out.below hb5).below hby)
    have HS := Lib.hid ((HS.out.below hb5).below hby)
    have HT := Lib.hid ((HT.out.below hb5).below hby)
    clear hb5 hby hW5 hq c0 c1
    have c0 := HS.out.bm.c20
    have c1 := HS.out.bm.c21
    have a0 : W5.cell? ⟨w2.heap.size, 0, none⟩ = some (.string (bA g1)) := HA.out.bx.cell 0
    have a1 : W5.cell? ⟨w2.heap.size, 1, none⟩ = some (.int .i64 g2) := HA.out.bx.cell 1
    have a2 : W5.cell? ⟨w2.heap.size, 2, none⟩ = some (.int .i64 g3) := HA.out.bx.cell 2
    have a3 : W5.cell? ⟨w2.heap.size, 3, none⟩ = some (.slice G ng cg) := HA.out.bx.cell 3
    have b0 : W5.cell? ⟨w3.heap.size, 0, none⟩ = some (.string (bA g1)) := HB.out.bx.cell 0
    have b1' : W5.cell? ⟨w3.heap.size, 1, none⟩ = some (.int .i64 g2) := HB.out.bx.cell 1
    have b2' : W5.cell? ⟨w3.heap.size, 2, none⟩ = some (.int .i64 g3) := HB.out.bx.cell 2
    have b3 : W5.cell? ⟨w3.heap.size, 3, none⟩ = some (.slice G' ng' cg') := HB.out.bx.cell 3
    have e0 : W5.cell? ⟨w4.heap.size, 0, none⟩ = some (.string (bA s1)) := HC.out.cell 0
    have e1 : W5.cell? ⟨w4.heap.size, 1, none⟩ = some (.int .i64 s2) := HC.out.cell 1
    have e2 : W5.cell? ⟨w4.heap.size, 2, none⟩ = some (.int .i64 s3) := HC.out.cell 2
    have e3 : W5.cell? ⟨w4.heap.size, 3, none⟩ = some (.int .i64 s4) := HC.out.cell 3
    have f0 : W5.cell? ⟨w5.heap.size, 0, none⟩ = some (.string (bA s1)) := HD.out.cell 0
    have f1 : W5.cell? ⟨w5.heap.size, 1, none⟩ = some (.int .i64 s2) := HD.out.cell 1
    have f2 : W5.cell? ⟨w5.heap.size, 2, none⟩ = some (.int .i64 s3) := HD.out.cell 2
    have f3 : W5.cell? ⟨w5.heap.size, 3, none⟩ = some (.int .i64 s4) := HD.out.cell 3
    obtain ⟨rl, hrl⟩ : ∃ rl, rolledF m nm t = rl := ⟨_, rfl⟩
    go_upto_region 7 with fail
    rw [← HW5.out]
    have hbd := (Below.refl W5.heap.size W5).drew
    have HS := Lib.hid (HS.out.below hbd)
    have HT := Lib.hid (HT.out.below hbd)
    have HA := Lib.hid (HA.out.below hbd)
    have HB := Lib.hid (HB.out.below hbd)
    have HC := Lib.hid (HC.out.below hbd HC.out.lt)
    have HD := Lib.hid (HD.out.below hbd HD.out.lt)
    clear hbd c0 c1 a0 a1 a2 a3 b0 b1' b2' b3 e0 e1 e2 e3 f0 f1 f2 f3
    refine wp_region_held_drew (S := fun x => x.cell? ⟨w.heap.size, 0, none⟩ = some (.slice A m.1.length c) ∧ x.cell? ⟨w.heap.size, 1, none⟩ = some (.slice B m.2.length d) ∧ x.cell? ⟨w2.heap.size, 0, none⟩ = some (.string (bA g1)) ∧ x.cell? ⟨w2.heap.size, 1, none⟩ = some (.int .i64 g2) ∧ x.cell? ⟨w2.heap.size, 2, none⟩ = some (.int .i64 g3) ∧ x.cell? ⟨w2.heap.size, 3, none⟩ = some (.slice G ng cg) ∧ x.cell? ⟨w3.heap.size, 0, none⟩ = some (.string (bA g1)) ∧ x.cell? ⟨w3.heap.size, 1, none⟩ = some (.int .i64 g2) ∧ x.cell? ⟨w3.heap.size, 2, none⟩ = some (.int .i64 g3) ∧ x.cell? ⟨w3.heap.size, 3, none⟩ = some (.slice G' ng' cg') ∧ x.cell? ⟨w4.heap.size, 0, none⟩ = some (.string (bA s1)) ∧ x.cell? ⟨w4.heap.size, 1, none⟩ = some (.int .i64 s2) ∧ x.cell? ⟨w4.heap.size, 2, none⟩ = some (.int .i64 s3) ∧ x.cell? ⟨w4.heap.size, 3, none⟩ = some (.int .i64 s4) ∧ x.cell? ⟨w5.heap.size, 0, none⟩ = some (.string (bA s1)) ∧ x.cell? ⟨w5.heap.size, 1, none⟩ = some (.int .i64 s2) ∧ x.cell? ⟨w5.heap.size, 2, none⟩ = some (.int .i64 s3) ∧ x.cell? ⟨w5.heap.size, 3, none⟩ = some (.int .i64 s4)) (by kernel_rfl) (⟨HS.out.bm.cell 0, HS.out.bm.cell 1, HA.out.bx.cell 0, HA.out.bx.cell 1, HA.out.bx.cell 2, HA.out.bx.cell 3, HB.out.bx.cell 0, HB.out.bx.cell 1, HB.out.bx.cell 2, HB.out.bx.cell 3, HC.out.cell 0, HC.out.cell 1, HC.out.cell 2, HC.out.cell 3, HD.out.cell 0, HD.out.cell 1, HD.out.cell 2, HD.out.cell 3⟩) (fun hH => ?_)
    refine take_run (i := 0) (v := ?_) (by decide) (by kernel_rfl) (by kernel_rfl) (by kernel_rfl) (fun _ _ _ _ h => h) hH rfl ?_ ?_
    rotate_left
    · (intro w hSw; (try dsimp only at hSw); (try go_split_ands); simp only [List.getElem_toArray, List.getElem_cons_zero, List.getElem_cons_succ]; go_simp; try with_reducible rfl)
    try simp (config := { failIfUnchanged := false }) only [Act.put, List.setIfInBounds_toArray, List.set_cons_zero, List.set_cons_succ, List.getElem_toArray, List.getElem_cons_zero, List.getElem_cons_succ]
    refine take_run (i := 1) (v := ?_) (by decide) (by kernel_rfl) (by kernel_rfl) (by kernel_rfl) (fun _ _ _ _ h => h) hH rfl ?_ ?_
    rotate_left
    · (intro w hSw; (try dsimp only at hSw); (try go_split_ands); simp only [List.getElem_toArray, List.getElem_cons_zero, List.getElem_cons_succ]; go_simp; try with_reducible rfl)
    try simp (config := { failIfUnchanged := false }) only [Act.put, List.setIfInBounds_toArray, List.set_cons_zero, List.set_cons_succ, List.getElem_toArray, List.getElem_cons_zero, List.getElem_cons_succ]
    refine take_run (i := 2) (v := ?_) (by decide) (by kernel_rfl) (by kernel_rfl) (by kernel_rfl) (fun _ _ _ _ h => h) hH rfl ?_ ?_
    rotate_left
    · (intro w hSw; (try dsimp only at hSw); (try go_split_ands); simp only [List.getElem_toArray, List.getElem_cons_zero, List.getElem_cons_succ]; go_simp; try with_reducible rfl)
    try simp (config := { failIfUnchanged := false }) only [Act.put, List.setIfInBounds_toArray, List.set_cons_zero, List.set_cons_succ, List.getElem_toArray, List.getElem_cons_zero, List.getElem_cons_succ]
    refine take_run (i := 3) (v := ?_) (by decide) (by kernel_rfl) (by kernel_rfl) (by kernel_rfl) (fun _ _ _ _ h => h) hH rfl ?_ ?_
    rotate_left
    · (intro w hSw; (try dsimp only at hSw); (try go_split_ands); simp only [List.getElem_toArray, List.getElem_cons_zero, List.getElem_cons_succ]; go_simp; try with_reducible rfl)
    try simp (config := { failIfUnchanged := false }) only [Act.put, List.setIfInBounds_toArray, List.set_cons_zero, List.set_cons_succ, List.getElem_toArray, List.getElem_cons_zero, List.getElem_cons_succ]
    refine take_run (i := 4) (v := ?_) (by decide) (by kernel_rfl) (by kernel_rfl) (by kernel_rfl) (fun _ _ _ _ h => h) hH rfl ?_ ?_
    rotate_left
    · (intro w hSw; (try dsimp only at hSw); (try go_split_ands); simp only [List.getElem_toArray, List.getElem_cons_zero, List.getElem_cons_succ]; go_simp; try with_reducible rfl)
    try simp (config := { failIfUnchanged := false }) only [Act.put, List.setIfInBounds_toArray, List.set_cons_zero, List.set_cons_succ, List.getElem_toArray, List.getElem_cons_zero, List.getElem_cons_succ]
    refine take_run (i := 5) (v := ?_) (by decide) (by kernel_rfl) (by kernel_rfl) (by kernel_rfl) (fun _ _ _ _ h => h) hH rfl ?_ ?_
    rotate_left
    · (intro w hSw; (try dsimp only at hSw); (try go_split_ands); simp only [List.getElem_toArray, List.getElem_cons_zero, List.getElem_cons_succ]; go_simp; try with_reducible rfl)
    try simp (config := { failIfUnchanged := false }) only [Act.put, List.setIfInBounds_toArray, List.set_cons_zero, List.set_cons_succ, List.getElem_toArray, List.getElem_cons_zero, List.getElem_cons_succ]
    refine take_call (i := 6) (by decide) (by kernel_rfl) (fun K hK => ?_)
    simp only [List.getElem_toArray, List.getElem_cons_zero, List.getElem_cons_succ]
    go_simp
    go_at_call 19
    refine (sameGrade_eq _ _ (g1, g2, g3, g4) _ HA.out.hg HB.out.hg).mono ?_
    rintro e w6 ⟨rfl, hb6⟩
    have HS := Lib.hid (HS.out.below hb6)
    have HT := Lib.hid (HT.out.below hb6)
    have HA := Lib.hid (HA.out.below hb6)
    have HB := Lib.hid (HB.out.below hb6)
    have HC := Lib.hid (HC.out.below hb6 HC.out.lt)
    have HD := Lib.hid (HD.out.below hb6 HD.out.lt)
    clear hb6
    dsimp only
    refine hK.out _ _ (by exact ⟨HS.out.bm.cell 0, HS.out.bm.cell 1, HA.out.bx.cell 0, HA.out.bx.cell 1, HA.out.bx.cell 2, HA.out.bx.cell 3, HB.out.bx.cell 0, HB.out.bx.cell 1, HB.out.bx.cell 2, HB.out.bx.cell 3, HC.out.cell 0, HC.out.cell 1, HC.out.cell 2, HC.out.cell 3, HD.out.cell 0, HD.out.cell 1, HD.out.cell 2, HD.out.cell 3⟩) (fun hH => ?_)
    clear hK K
    try simp (config := { failIfUnchanged := false }) only [Act.put, List.setIfInBounds_toArray, List.set_cons_zero, List.set_cons_succ, List.getElem_toArray, List.getElem_cons_zero, List.getElem_cons_succ]
    refine take_run (i := 7) (v := ?_) (by decide) (by kernel_rfl) (by kernel_rfl) (by kernel_rfl) (fun _ _ _ _ h => h) hH rfl ?_ ?_
    rotate_left
    · (intro w hSw; (try dsimp only at hSw); (try go_split_ands); simp only [List.getElem_toArray, List.getElem_cons_zero, List.getElem_cons_succ]; go_simp; try with_reducible rfl)
    try simp (config := { failIfUnchanged := false }) only [Act.put, List.setIfInBounds_toArray, List.set_cons_zero, List.set_cons_succ, List.getElem_toArray, List.getElem_cons_zero, List.getElem_cons_succ]
    refine take_run (i := 8) (v := ?_) (by decide) (by kernel_rfl) (by kernel_rfl) (by kernel_rfl) (fun _ _ _ _ h => h) hH rfl ?_ ?_
    rotate_left
    · (intro w hSw; (try dsimp only at hSw); (try go_split_ands); simp only [List.getElem_toArray, List.getElem_cons_zero, List.getElem_cons_succ]; go_simp; try with_reducible rfl)
    try simp (config := { failIfUnchanged := false }) only [Act.put, List.setIfInBounds_toArray, List.set_cons_zero, List.set_cons_succ, List.getElem_toArray, List.getElem_cons_zero, List.getElem_cons_succ]
    refine take_run (i := 9) (v := ?_) (by decide) (by kernel_rfl) (by kernel_rfl) (by kernel_rfl) (fun _ _ _ _ h => h) hH rfl ?_ ?_
    rotate_left
    · (intro w hSw; (try dsimp only at hSw); (try go_split_ands); simp only [List.getElem_toArray, List.getElem_cons_zero, List.getElem_cons_succ]; go_simp; try with_reducible rfl)
    try simp (config := { failIfUnchanged := false }) only [Act.put, List.setIfInBounds_toArray, List.set_cons_zero, List.set_cons_succ, List.getElem_toArray, List.getElem_cons_zero, List.getElem_cons_succ]
    refine take_run (i := 10) (v := ?_) (by decide) (by kernel_rfl) (by kernel_rfl) (by kernel_rfl) (fun _ _ _ _ h => h) hH rfl ?_ ?_
    rotate_left
    · (intro w hSw; (try dsimp only at hSw); (try go_split_ands); simp only [List.getElem_toArray, List.getElem_cons_zero, List.getElem_cons_succ]; go_simp; try with_reducible rfl)
    try simp (config := { failIfUnchanged := false }) only [Act.put, List.setIfInBounds_toArray, List.set_cons_zero, List.set_cons_succ, List.getElem_toArray, List.getElem_cons_zero, List.getElem_cons_succ]
    refine take_run (i := 11) (v := ?_) (by decide) (by kernel_rfl) (by kernel_rfl) (by kernel_rfl) (fun _ _ _ _ h => h) hH rfl ?_ ?_
    rotate_left
    · (intro w hSw; (try dsimp only at hSw); (try go_split_ands); simp only [List.getElem_toArray, List.getElem_cons_zero, List.getElem_cons_succ]; go_simp; try with_reducible rfl)
    try simp (config := { failIfUnchanged := false }) only [Act.put, List.setIfInBounds_toArray, List.set_cons_zero, List.set_cons_succ, List.getElem_toArray, List.getElem_cons_zero, List.getElem_cons_succ]
    refine take_run (i := 12) (v := ?_) (by decide) (by kernel_rfl) (by kernel_rfl) (by kernel_rfl) (fun _ _ _ _ h => h) hH rfl ?_ ?_
    rotate_left
    · (intro w hSw; (try dsimp only at hSw); (try go_split_ands); simp only [List.getElem_toArray, List.getElem_cons_zero, List.getElem_cons_succ]; go_simp; try with_reducible rfl)
    try simp (config := { failIfUnchanged := false }) only [Act.put, List.setIfInBounds_toArray, List.set_cons_zero, List.set_cons_succ, List.getElem_toArray, List.getElem_cons_zero, List.getElem_cons_succ]
    refine take_run (i := 13) (v := ?_) (by decide) (by kernel_rfl) (by kernel_rfl) (by kernel_rfl) (fun _ _ _ _ h => h) hH rfl ?_ ?_
    rotate_left
    · (intro w hSw; (try dsimp only at hSw); (try go_split_ands); simp only [List.getElem_toArray, List.getElem_cons_zero, List.getElem_cons_succ]; go_simp; try with_reducible rfl)
    try simp (config := { failIfUnchanged := false }) only [Act.put, List.setIfInBounds_toArray, List.set_cons_zero, List.set_cons_succ, List.getElem_toArray, List.getElem_cons_zero, List.getElem_cons_succ]
    refine take_run (i := 14) (v := ?_) (by decide) (by kernel_rfl) (by kernel_rfl) (by kernel_rfl) (fun _ _ _ _ h => h) hH rfl ?_ ?_
    rotate_left
    · (intro w hSw; (try dsimp only at hSw); (try go_split_ands); simp only [List.getElem_toArray, List.getElem_cons_zero, List.getElem_cons_succ]; go_simp; try with_reducible rfl)
    try simp (config := { failIfUnchanged := false }) only [Act.put, List.setIfInBounds_toArray, List.set_cons_zero, List.set_cons_succ, List.getElem_toArray, List.getElem_cons_zero, List.getElem_cons_succ]
    refine take_run (i := 15) (v := ?_) (by decide) (by kernel_rfl) (by kernel_rfl) (by kernel_rfl) (fun _ _ _ _ h => h) hH rfl ?_ ?_
    rotate_left
    · (intro w hSw; (try dsimp only at hSw); (try go_split_ands); simp only [List.getElem_toArray, List.getElem_cons_zero, List.getElem_cons_succ]; go_simp; try with_reducible rfl)
    try simp (config := { failIfUnchanged := false }) only [Act.put, List.setIfInBounds_toArray, List.set_cons_zero, List.set_cons_succ, List.getElem_toArray, List.getElem_cons_zero, List.getElem_cons_succ]
    refine take_run (i := 16) (v := ?_) (by decide) (by kernel_rfl) (by kernel_rfl) (by kernel_rfl) (fun _ _ _ _ h => h) hH rfl ?_ ?_
    rotate_left
    · (intro w hSw; (try dsimp only at hSw); (try go_split_ands); simp only [List.getElem_toArray, List.getElem_cons_zero, List.getElem_cons_succ]; go_simp; try with_reducible rfl)
    try simp (config := { failIfUnchanged := false }) only [Act.put, List.setIfInBounds_toArray, List.set_cons_zero, List.set_cons_succ, List.getElem_toArray, List.getElem_cons_zero, List.getElem_cons_succ]
    refine take_run (i := 17) (v := ?_) (by decide) (by kernel_rfl) (by kernel_rfl) (by kernel_rfl) (fun _ _ _ _ h => h) hH rfl ?_ ?_
    rotate_left
    · (intro w hSw; (try dsimp only at hSw); (try go_split_ands); simp only [List.getElem_toArray, List.getElem_cons_zero, List.getElem_cons_succ]; go_simp; try with_reducible rfl)
    try simp (config := { failIfUnchanged := false }) only [Act.put, List.setIfInBounds_toArray, List.set_cons_zero, List.set_cons_succ, List.getElem_toArray, List.getElem_cons_zero, List.getElem_cons_succ]
    refine take_run (i := 18) (v := ?_) (by decide) (by kernel_rfl) (by kernel_rfl) (by kernel_rfl) (fun _ _ _ _ h => h) hH rfl ?_ ?_
    rotate_left
    · (intro w hSw; (try dsimp only at hSw); (try go_split_ands); simp only [List.getElem_toArray, List.getElem_cons_zero, List.getElem_cons_succ]; go_simp; try with_reducible rfl)
    try simp (config := { failIfUnchanged := false }) only [Act.put, List.setIfInBounds_toArray, List.set_cons_zero, List.set_cons_succ, List.getElem_toArray, List.getElem_cons_zero, List.getElem_cons_succ]
    refine take_run (i := 19) (v := ?_) (by decide) (by kernel_rfl) (by kernel_rfl) (by kernel_rfl) (fun _ _ _ _ h => h) hH rfl ?_ ?_
    rotate_left
    · (intro w hSw; (try dsimp only at hSw); (try go_split_ands); simp only [List.getElem_toArray, List.getElem_cons_zero, List.getElem_cons_succ]; go_simp; try with_reducible rfl)
    try simp (config := { failIfUnchanged := false }) only [Act.put, List.setIfInBounds_toArray, List.set_cons_zero, List.set_cons_succ, List.getElem_toArray, List.getElem_cons_zero, List.getElem_cons_succ]
    refine take_run (i := 20) (v := ?_) (by decide) (by kernel_rfl) (by kernel_rfl) (by kernel_rfl) (fun _ _ _ _ h => h) hH rfl ?_ ?_
    rotate_left
    · (intro w hSw; (try dsimp only at hSw); (try go_split_ands); simp only [List.getElem_toArray, List.getElem_cons_zero, List.getElem_cons_succ]; go_simp; try with_reducible rfl)
    try simp (config := { failIfUnchanged := false }) only [Act.put, List.setIfInBounds_toArray, List.set_cons_zero, List.set_cons_succ, List.getElem_toArray, List.getElem_cons_zero, List.getElem_cons_succ]
    refine take_run (i := 21) (v := ?_) (by decide) (by kernel_rfl) (by kernel_rfl) (by kernel_rfl) (fun _ _ _ _ h => h) hH rfl ?_ ?_
    rotate_left
    · (intro w hSw; (try dsimp only at hSw); (try go_split_ands); simp only [List.getElem_toArray, List.getElem_cons_zero, List.getElem_cons_succ]; go_simp; try with_reducible rfl)
    try simp (config := { failIfUnchanged := false }) only [Act.put, List.setIfInBounds_toArray, List.set_cons_zero, List.set_cons_succ, List.getElem_toArray, List.getElem_cons_zero, List.getElem_cons_succ]
    refine take_run (i := 23) (v := ?_) (by decide) (by kernel_rfl) (by kernel_rfl) (by kernel_rfl) (fun _ _ _ _ h => h) hH rfl ?_ ?_
    rotate_left
    · (intro w hSw; (try dsimp only at hSw); (try go_split_ands); simp only [List.getElem_toArray, List.getElem_cons_zero, List.getElem_cons_succ]; go_simp; try with_reducible rfl)
    try simp (config := { failIfUnchanged := false }) only [Act.put, List.setIfInBounds_toArray, List.set_cons_zero, List.set_cons_succ, List.getElem_toArray, List.getElem_cons_zero, List.getElem_cons_succ]
    refine take_run (i := 24) (v := ?_) (by decide) (by kernel_rfl) (by kernel_rfl) (by kernel_rfl) (fun _ _ _ _ h => h) hH rfl ?_ ?_
    rotate_left
    · (intro w hSw; (try dsimp only at hSw); (try go_split_ands); simp only [List.getElem_toArray, List.getElem_cons_zero, List.getElem_cons_succ]; go_simp; try with_reducible rfl)
    try simp (config := { failIfUnchanged := false }) only [Act.put, List.setIfInBounds_toArray, List.set_cons_zero, List.set_cons_succ, List.getElem_toArray, List.getElem_cons_zero, List.getElem_cons_succ]
    refine take_run (i := 25) (v := ?_) (by decide) (by kernel_rfl) (by kernel_rfl) (by kernel_rfl) (fun _ _ _ _ h => h) hH rfl ?_ ?_
    rotate_left
    · (intro w hSw; (try dsimp only at hSw); (try go_split_ands); simp only [List.getElem_toArray, List.getElem_cons_zero, List.getElem_cons_succ]; go_simp; try with_reducible rfl)
    try simp (config := { failIfUnchanged := false }) only [Act.put, List.setIfInBounds_toArray, List.set_cons_zero, List.set_cons_succ, List.getElem_toArray, List.getElem_cons_zero, List.getElem_cons_succ]
    refine take_call (i := 22) (by decide) (by kernel_rfl) (fun K hK => ?_)
    simp only [List.getElem_toArray, List.getElem_cons_zero, List.getElem_cons_succ]
    go_simp
    go_at_call 20
    refine (matRolled_any _ _ _ _ _ _ m nm t _ HS.out.hg hl).mono ?_
    rintro e w7 ⟨rfl, hb7⟩
    rw [hrl]
    have HS := Lib.hid (HS.out.below hb7)
    have HT := Lib.hid (HT.out.below hb7)
    have HA := Lib.hid (HA.out.below hb7)
    have HB := Lib.hid (HB.out.below hb7)
    have HC := Lib.hid (HC.out.below hb7 HC.out.lt)
    have HD := Lib.hid (HD.out.below hb7 HD.out.lt)
    clear hb7
    dsimp only
    refine hK.out _ _ (by exact ⟨HS.out.bm.cell 0, HS.out.bm.cell 1, HA.out.bx.cell 0, HA.out.bx.cell 1, HA.out.bx.cell 2, HA.out.bx.cell 3, HB.out.bx.cell 0, HB.out.bx.cell 1, HB.out.bx.cell 2, HB.out.bx.cell 3, HC.out.cell 0, HC.out.cell 1, HC.out.cell 2, HC.out.cell 3, HD.out.cell 0, HD.out.cell 1, HD.out.cell 2, HD.out.cell 3⟩) (fun hH => ?_)
    clear hK K
    try simp (config := { failIfUnchanged := false }) only [Act.put, List.setIfInBounds_toArray, List.set_cons_zero, List.set_cons_succ, List.getElem_toArray, List.getElem_cons_zero, List.getElem_cons_succ]
    refine take_call (i := 26) (by decide) (by kernel_rfl) (fun K hK => ?_)
    simp only [List.getElem_toArray, List.getElem_cons_zero, List.getElem_cons_succ]
    go_simp
    go_at_call 21
    refine (refRolled_any _ _ _ _ _ _ m nm t _ HS.out.hg hl).mono ?_
    rintro e w8 ⟨rfl, hb8⟩
    rw [hrl]
    have HS := Lib.hid (HS.out.below hb8)
    have HT := Lib.hid (HT.out.below hb8)
    have HA := Lib.hid (HA.out.below hb8)
    have HB := Lib.hid (HB.out.below hb8)
    have HC := Lib.hid (HC.out.below hb8 HC.out.lt)
    have HD := Lib.hid (HD.out.below hb8 HD.out.lt)
    clear hb8
    dsimp only
    refine hK.out _ _ (by exact ⟨HS.out.bm.cell 0, HS.out.bm.cell 1, HA.out.bx.cell 0, HA.out.bx.cell 1, HA.out.bx.cell 2, HA.out.bx.cell 3, HB.out.bx.cell 0, HB.out.bx.cell 1, HB.out.bx.cell 2, HB.out.bx.cell 3, HC.out.cell 0, HC.out.cell 1, HC.out.cell 2, HC.out.cell 3, HD.out.cell 0, HD.out.cell 1, HD.out.cell 2, HD.out.cell 3⟩) (fun hH => ?_)
    clear hK K
    try simp (config := { failIfUnchanged := false }) only [Act.put, List.setIfInBounds_toArray, List.set_cons_zero, List.set_cons_succ, List.getElem_toArray, List.getElem_cons_zero, List.getElem_cons_succ]
    refine take_run (i := 27) (v := ?_) (by decide) (by kernel_rfl) (by kernel_rfl) (by kernel_rfl) (fun _ _ _ _ h => h) hH rfl ?_ ?_
    rotate_left
    · (intro w hSw; (try dsimp only at hSw); (try go_split_ands); simp only [List.getElem_toArray, List.getElem_cons_zero, List.getElem_cons_succ]; go_simp; try with_reducible rfl)
    try simp (config := { failIfUnchanged := false }) only [Act.put, List.setIfInBounds_toArray, List.set_cons_zero, List.set_cons_succ, List.getElem_toArray, List.getElem_cons_zero, List.getElem_cons_succ]
    refine take_run (i := 28) (v := ?_) (by decide) (by kernel_rfl) (by kernel_rfl) (by kernel_rfl) (fun _ _ _ _ h => h) hH rfl ?_ ?_
    rotate_left
    · (intro w hSw; (try dsimp only at hSw); (try go_split_ands); simp only [List.getElem_toArray, List.getElem_cons_zero, List.getElem_cons_succ]; go_simp; try with_reducible rfl)
    try simp (config := { failIfUnchanged := false }) only [Act.put, List.setIfInBounds_toArray, List.set_cons_zero, List.set_cons_succ, List.getElem_toArray, List.getElem_cons_zero, List.getElem_cons_succ]
    refine take_run (i := 29) (v := ?_) (by decide) (by kernel_rfl) (by kernel_rfl) (by kernel_rfl) (fun _ _ _ _ h => h) hH rfl ?_ ?_
    rotate_left
    · (intro w hSw; (try dsimp only at hSw); (try go_split_ands); simp only [List.getElem_toArray, List.getElem_cons_zero, List.getElem_cons_succ]; go_simp; try with_reducible rfl)
    try simp (config := { failIfUnchanged := false }) only [Act.put, List.setIfInBounds_toArray, List.set_cons_zero, List.set_cons_succ, List.getElem_toArray, List.getElem_cons_zero, List.getElem_cons_succ]
    refine take_call (i := 30) (by decide) (by kernel_rfl) (fun K hK => ?_)
    simp only [List.getElem_toArray, List.getElem_cons_zero, List.getElem_cons_succ]
    go_simp
    go_at_call 14
    refine (awake_any _ HT.out).mono ?_
    rintro e w9 ⟨rfl, hb9⟩
    have HS := Lib.hid (HS.out.below hb9)
    have HT := Lib.hid (HT.out.below hb9)
    have HA := Lib.hid (HA.out.below hb9)
    have HB := Lib.hid (HB.out.below hb9)
    have HC := Lib.hid (HC.out.below hb9 HC.out.lt)
    have HD := Lib.hid (HD.out.below hb9 HD.out.lt)
    clear hb9
    dsimp only
    refine hK.out _ _ (by exact ⟨HS.out.bm.cell 0, HS.out.bm.cell 1, HA.out.bx.cell 0, HA.out.bx.cell 1, HA.out.bx.cell 2, HA.out.bx.cell 3, HB.out.bx.cell 0, HB.out.bx.cell 1, HB.out.bx.cell 2, HB.out.bx.cell 3, HC.out.cell 0, HC.out.cell 1, HC.out.cell 2, HC.out.cell 3, HD.out.cell 0, HD.out.cell 1, HD.out.cell 2, HD.out.cell 3⟩) (fun hH => ?_)
    clear hK K
    try simp (config := { failIfUnchanged := false }) only [Act.put, List.setIfInBounds_toArray, List.set_cons_zero, List.set_cons_succ, List.getElem_toArray, List.getElem_cons_zero, List.getElem_cons_succ]
    refine take_run (i := 31) (v := ?_) (by decide) (by kernel_rfl) (by kernel_rfl) (by kernel_rfl) (fun _ _ _ _ h => h) hH rfl ?_ ?_
    rotate_left
    · (intro w hSw; (try dsimp only at hSw); (try go_split_ands); simp only [List.getElem_toArray, List.getElem_cons_zero, List.getElem_cons_succ]; go_simp; try with_reducible rfl)
    try simp (config := { failIfUnchanged := false }) only [Act.put, List.setIfInBounds_toArray, List.set_cons_zero, List.set_cons_succ, List.getElem_toArray, List.getElem_cons_zero, List.getElem_cons_succ]
    refine take_run (i := 32) (v := ?_) (by decide) (by kernel_rfl) (by kernel_rfl) (by kernel_rfl) (fun _ _ _ _ h => h) hH rfl ?_ ?_
    rotate_left
    · (intro w hSw; (try dsimp only at hSw); (try go_split_ands); simp only [List.getElem_toArray, List.getElem_cons_zero, List.getElem_cons_succ]; go_simp; try with_reducible rfl)
    try simp (config := { failIfUnchanged := false }) only [Act.put, List.setIfInBounds_toArray, List.set_cons_zero, List.set_cons_succ, List.getElem_toArray, List.getElem_cons_zero, List.getElem_cons_succ]
    refine wpAnyH_done (by kernel_rfl) ?_ _
    go_wp2
    go_ret
    exact ⟨rfl, HS.out.hb⟩
end Go.Proofs.YtacbmmnipedpdaaDoor
