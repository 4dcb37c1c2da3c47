/- Chapter 15: the laws MaterialChecks, MaterialTexts and MaterialReads, by walking their text. -/
import Derived.Test.YtacbmmnipedpdaaDoorMatAv
import Derived.Test.YtacbmmnipedpdaaDoorMatW5
import Derived.Test.YtacbmmnipedpdaaDoorMatW6
import Derived.Test.YtacbmmnipedpdaaDoorMatF2
import Derived.Test.YtacbmmnipedpdaaDoorMatLaws
import Derived.Test.YtacbmmnipedpdaaDoorMatOp
import Derived.Test.YtacbmmnipedpdaaDoorRegion
namespace Go.Proofs.YtacbmmnipedpdaaDoor
open Go Go.RowKit
set_option linter.unusedSimpArgs false

theorem bstep15 {a w w' : World} (h : Below a.heap.size a w) (h' : Below w.heap.size w w') : Below a.heap.size a w' := h.trans (h'.mono h.size)
/-- a catalog in its box, and the two lists that it names. -/
structure MaSt (w : World) (g : Nat) (m : Mat) (A B : Option Addr) (c d : Nat) (W : World) : Prop where
  hb : Below w.heap.size w W
  hg : grR.slice.R W (Lt W) m.1 [.slice A m.1.length c]
  hs : scR.slice.R W (Lt W) m.2 [.slice B m.2.length d]
  bm : Blk W g 25 #[.slice A m.1.length c, .slice B m.2.length d]
theorem MaSt.below {w W W' : World} {g : Nat} {m : Mat} {A B : Option Addr} {c d : Nat} (h : MaSt w g m A B c d W) (hb : Below W.heap.size W W') : MaSt w g m A B c d W' :=
  ⟨bstep15 h.hb hb, Rep.below h.hg hb, Rep.below h.hs hb, h.bm.below hb h.bm.lt⟩
theorem ma_start {w W : World} {m : Mat} {A B : Option Addr} {c d : Nat} (hb : Below w.heap.size w W) (hg : grR.slice.R W (Lt W) m.1 [.slice A m.1.length c]) (hs : scR.slice.R W (Lt W) m.2 [.slice B m.2.length d]) : MaSt w W.heap.size m A B c d (W.alloc (.cells #[.slice A m.1.length c, .slice B m.2.length d] 25)) := by
  have hby := (Below.refl W.heap.size W).alloc (Nat.le_refl _) (.cells #[.slice A m.1.length c, .slice B m.2.length d] 25)
  exact ⟨bstep15 hb hby, Rep.below hg hby, Rep.below hs hby, Blk.new W _ _⟩
set_option maxRecDepth 100000 in
set_option maxHeartbeats 4000000 in
theorem checks15_law (a : Array Value) (m : Mat) (w : World) (hT : TabP w) (h : matR.R w (Lt w) m (Value.agg a).cells.toList) (_ : True) :
    Calls Tryd.prog 3 #[.agg a] w (Ret (.bool true) w) := by
  obtain ⟨A, c, B, d, rfl, hg, hs, hn1, hn2⟩ := mat_inv (cs := a) h
  have HT := Lib.hid hT
  have HS := Lib.hid (ma_start (Below.refl w.heap.size w) hg hs)
  clear hT h hg hs
  obtain ⟨W0, hW0⟩ : ∃ W0, W0 = w.alloc (.cells #[.slice A m.1.length c, .slice B m.2.length d] 25) := ⟨_, rfl⟩
  rw [← hW0] at HS
  have HW0 := Lib.hid hW0
  have c0 := HS.out.bm.c20
  have c1 := HS.out.bm.c21
  obtain ⟨few, hfew⟩ : ∃ b, b = fewM m := ⟨_, rfl⟩
  have HF := Lib.hid hfew
  have HT0 : Hid (TabP W0) := by rw [hW0]; exact HT.out.below ((Below.refl w.heap.size w).alloc (Nat.le_refl _) _)
  clear hW0 hfew HT
  cases few
  · have HSD := Lib.hid (HS.out.below ((Below.refl W0.heap.size W0).drew))
    have HTD := Lib.hid (HT0.out.below ((Below.refl W0.heap.size W0).drew))
    have CF := Lib.hid (few15_any _ _ _ _ _ _ m W0.drew HSD.out.hg HSD.out.hs)
    rw [← HF.out] at CF
    go_enter Tryd.func3, Tryd.ntmps3
    go_upto_region 1 with fail
    rw [← HW0.out]
    refine wp_region_held_drew (S := fun x => x.cell? ⟨w.heap.size, 0, none⟩ = some (.slice A m.1.length c) ∧ x.cell? ⟨w.heap.size, 1, none⟩ = some (.slice B m.2.length d)) (by kernel_rfl) (⟨HSD.out.bm.c20, HSD.out.bm.c21⟩) (fun hH => ?_)
    refine take_run (i := 0) (v := ?_) (by decide) (by kernel_rfl) (by kernel_rfl) (by kernel_rfl) (fun _ _ _ _ h => h) hH rfl ?_ ?_
    rotate_left
    · (intro w hSw; (try dsimp only at hSw); (try go_split_ands); simp only [List.getElem_toArray, List.getElem_cons_zero, List.getElem_cons_succ]; go_simp; try with_reducible rfl)
    try simp (config := { failIfUnchanged := false }) only [Act.put, List.setIfInBounds_toArray, List.set_cons_zero, List.set_cons_succ, List.getElem_toArray, List.getElem_cons_zero, List.getElem_cons_succ]
    refine take_call (i := 1) (by decide) (by kernel_rfl) (fun K hK => ?_)
    simp only [List.getElem_toArray, List.getElem_cons_zero, List.getElem_cons_succ]
    go_simp
    go_at_call 11
    refine CF.out.mono ?_
    rintro e w1 ⟨rfl, hb1⟩
    have HS := Lib.hid (HSD.out.below hb1)
    have HT := Lib.hid (HTD.out.below hb1)
    dsimp only
    refine hK.out _ _ (by exact ⟨HS.out.bm.c20, HS.out.bm.c21⟩) (fun hH => ?_)
    clear hK K
    try simp (config := { failIfUnchanged := false }) only [Act.put, List.setIfInBounds_toArray, List.set_cons_zero, List.set_cons_succ, List.getElem_toArray, List.getElem_cons_zero, List.getElem_cons_succ]
    refine take_run (i := 2) (v := ?_) (by decide) (by kernel_rfl) (by kernel_rfl) (by kernel_rfl) (fun _ _ _ _ h => h) hH rfl ?_ ?_
    rotate_left
    · (intro w hSw; (try dsimp only at hSw); (try go_split_ands); simp only [List.getElem_toArray, List.getElem_cons_zero, List.getElem_cons_succ]; go_simp; try with_reducible rfl)
    try simp (config := { failIfUnchanged := false }) only [Act.put, List.setIfInBounds_toArray, List.set_cons_zero, List.set_cons_succ, List.getElem_toArray, List.getElem_cons_zero, List.getElem_cons_succ]
    refine take_run (i := 3) (v := ?_) (by decide) (by kernel_rfl) (by kernel_rfl) (by kernel_rfl) (fun _ _ _ _ h => h) hH rfl ?_ ?_
    rotate_left
    · (intro w hSw; (try dsimp only at hSw); (try go_split_ands); simp only [List.getElem_toArray, List.getElem_cons_zero, List.getElem_cons_succ]; go_simp; try with_reducible rfl)
    try simp (config := { failIfUnchanged := false }) only [Act.put, List.setIfInBounds_toArray, List.set_cons_zero, List.set_cons_succ, List.getElem_toArray, List.getElem_cons_zero, List.getElem_cons_succ]
    refine take_skip (i := 4) (by decide) (by kernel_rfl) (by kernel_rfl) (by kernel_rfl) (fun _ _ _ _ h => h) hH (by first | rfl | kernel_rfl) ?_
    try simp (config := { failIfUnchanged := false }) only [Act.put, List.setIfInBounds_toArray, List.set_cons_zero, List.set_cons_succ, List.getElem_toArray, List.getElem_cons_zero, List.getElem_cons_succ]
    refine take_skip (i := 5) (by decide) (by kernel_rfl) (by kernel_rfl) (by kernel_rfl) (fun _ _ _ _ h => h) hH (by first | rfl | kernel_rfl) ?_
    try simp (config := { failIfUnchanged := false }) only [Act.put, List.setIfInBounds_toArray, List.set_cons_zero, List.set_cons_succ, List.getElem_toArray, List.getElem_cons_zero, List.getElem_cons_succ]
    refine take_skip (i := 6) (by decide) (by kernel_rfl) (by kernel_rfl) (by kernel_rfl) (fun _ _ _ _ h => h) hH (by first | rfl | kernel_rfl) ?_
    try simp (config := { failIfUnchanged := false }) only [Act.put, List.setIfInBounds_toArray, List.set_cons_zero, List.set_cons_succ, List.getElem_toArray, List.getElem_cons_zero, List.getElem_cons_succ]
    refine take_skip (i := 7) (by decide) (by kernel_rfl) (by kernel_rfl) (by kernel_rfl) (fun _ _ _ _ h => h) hH (by first | rfl | kernel_rfl) ?_
    try simp (config := { failIfUnchanged := false }) only [Act.put, List.setIfInBounds_toArray, List.set_cons_zero, List.set_cons_succ, List.getElem_toArray, List.getElem_cons_zero, List.getElem_cons_succ]
    refine take_skip (i := 8) (by decide) (by kernel_rfl) (by kernel_rfl) (by kernel_rfl) (fun _ _ _ _ h => h) hH (by first | rfl | kernel_rfl) ?_
    try simp (config := { failIfUnchanged := false }) only [Act.put, List.setIfInBounds_toArray, List.set_cons_zero, List.set_cons_succ, List.getElem_toArray, List.getElem_cons_zero, List.getElem_cons_succ]
    refine take_run (i := 9) (v := ?_) (by decide) (by kernel_rfl) (by kernel_rfl) (by kernel_rfl) (fun _ _ _ _ h => h) hH rfl ?_ ?_
    rotate_left
    · (intro w hSw; (try dsimp only at hSw); (try go_split_ands); simp only [List.getElem_toArray, List.getElem_cons_zero, List.getElem_cons_succ]; go_simp; try with_reducible rfl)
    try simp (config := { failIfUnchanged := false }) only [Act.put, List.setIfInBounds_toArray, List.set_cons_zero, List.set_cons_succ, List.getElem_toArray, List.getElem_cons_zero, List.getElem_cons_succ]
    refine take_run (i := 10) (v := ?_) (by decide) (by kernel_rfl) (by kernel_rfl) (by kernel_rfl) (fun _ _ _ _ h => h) hH rfl ?_ ?_
    rotate_left
    · (intro w hSw; (try dsimp only at hSw); (try go_split_ands); simp only [List.getElem_toArray, List.getElem_cons_zero, List.getElem_cons_succ]; go_simp; try with_reducible rfl)
    try simp (config := { failIfUnchanged := false }) only [Act.put, List.setIfInBounds_toArray, List.set_cons_zero, List.set_cons_succ, List.getElem_toArray, List.getElem_cons_zero, List.getElem_cons_succ]
    refine take_call (i := 11) (by decide) (by kernel_rfl) (fun K hK => ?_)
    simp only [List.getElem_toArray, List.getElem_cons_zero, List.getElem_cons_succ]
    go_simp
    go_at_call 14
    refine (awake_any _ HT.out).mono ?_
    rintro e w2 ⟨rfl, hb2⟩
    have HS := Lib.hid (HS.out.below hb2)
    dsimp only
    refine hK.out _ _ (by exact ⟨HS.out.bm.c20, HS.out.bm.c21⟩) (fun hH => ?_)
    clear hK K
    try simp (config := { failIfUnchanged := false }) only [Act.put, List.setIfInBounds_toArray, List.set_cons_zero, List.set_cons_succ, List.getElem_toArray, List.getElem_cons_zero, List.getElem_cons_succ]
    refine take_run (i := 12) (v := ?_) (by decide) (by kernel_rfl) (by kernel_rfl) (by kernel_rfl) (fun _ _ _ _ h => h) hH rfl ?_ ?_
    rotate_left
    · (intro w hSw; (try dsimp only at hSw); (try go_split_ands); simp only [List.getElem_toArray, List.getElem_cons_zero, List.getElem_cons_succ]; go_simp; try with_reducible rfl)
    try simp (config := { failIfUnchanged := false }) only [Act.put, List.setIfInBounds_toArray, List.set_cons_zero, List.set_cons_succ, List.getElem_toArray, List.getElem_cons_zero, List.getElem_cons_succ]
    refine take_run (i := 13) (v := ?_) (by decide) (by kernel_rfl) (by kernel_rfl) (by kernel_rfl) (fun _ _ _ _ h => h) hH rfl ?_ ?_
    rotate_left
    · (intro w hSw; (try dsimp only at hSw); (try go_split_ands); simp only [List.getElem_toArray, List.getElem_cons_zero, List.getElem_cons_succ]; go_simp; try with_reducible rfl)
    try simp (config := { failIfUnchanged := false }) only [Act.put, List.setIfInBounds_toArray, List.set_cons_zero, List.set_cons_succ, List.getElem_toArray, List.getElem_cons_zero, List.getElem_cons_succ]
    refine wpAnyH_done (by kernel_rfl) ?_ _
    go_wp2
    go_ret
    exact ⟨rfl, HS.out.hb⟩
  · have CF := Lib.hid (few15_any _ _ _ _ _ _ m W0.drew (HS.out.below ((Below.refl W0.heap.size W0).drew)).hg (HS.out.below ((Below.refl W0.heap.size W0).drew)).hs)
    rw [← HF.out] at CF
    have HS := Lib.hid (HS.out.below ((Below.refl W0.heap.size W0).drew))
    have HT := Lib.hid (HT0.out.below ((Below.refl W0.heap.size W0).drew))
    go_enter Tryd.func3, Tryd.ntmps3
    go_upto_region 1 with fail
    rw [← HW0.out]
    obtain ⟨ck, hck⟩ : ∃ ck, checkM m = ck := ⟨_, rfl⟩
    have q0 : (ck == ck) = true := by simp
    refine wp_region_held_drew (S := fun x => x.cell? ⟨w.heap.size, 0, none⟩ = some (.slice A m.1.length c) ∧ x.cell? ⟨w.heap.size, 1, none⟩ = some (.slice B m.2.length d)) (by kernel_rfl) (⟨HS.out.bm.c20, HS.out.bm.c21⟩) (fun hH => ?_)
    refine take_run (i := 0) (v := ?_) (by decide) (by kernel_rfl) (by kernel_rfl) (by kernel_rfl) (fun _ _ _ _ h => h) hH rfl ?_ ?_
    rotate_left
    · (intro w hSw; (try dsimp only at hSw); (try go_split_ands); simp only [List.getElem_toArray, List.getElem_cons_zero, List.getElem_cons_succ]; go_simp; try with_reducible rfl)
    try simp (config := { failIfUnchanged := false }) only [Act.put, List.setIfInBounds_toArray, List.set_cons_zero, List.set_cons_succ, List.getElem_toArray, List.getElem_cons_zero, List.getElem_cons_succ]
    refine take_call (i := 1) (by decide) (by kernel_rfl) (fun K hK => ?_)
    simp only [List.getElem_toArray, List.getElem_cons_zero, List.getElem_cons_succ]
    go_simp
    go_at_call 11
    refine CF.out.mono ?_
    rintro e w1 ⟨rfl, hb1⟩
    have HS := Lib.hid (HS.out.below hb1)
    have HT := Lib.hid (HT.out.below hb1)
    dsimp only
    refine hK.out _ _ (by exact ⟨HS.out.bm.c20, HS.out.bm.c21⟩) (fun hH => ?_)
    clear hK K
    try simp (config := { failIfUnchanged := false }) only [Act.put, List.setIfInBounds_toArray, List.set_cons_zero, List.set_cons_succ, List.getElem_toArray, List.getElem_cons_zero, List.getElem_cons_succ]
    refine take_run (i := 2) (v := ?_) (by decide) (by kernel_rfl) (by kernel_rfl) (by kernel_rfl) (fun _ _ _ _ h => h) hH rfl ?_ ?_
    rotate_left
    · (intro w hSw; (try dsimp only at hSw); (try go_split_ands); simp only [List.getElem_toArray, List.getElem_cons_zero, List.getElem_cons_succ]; go_simp; try with_reducible rfl)
    try simp (config := { failIfUnchanged := false }) only [Act.put, List.setIfInBounds_toArray, List.set_cons_zero, List.set_cons_succ, List.getElem_toArray, List.getElem_cons_zero, List.getElem_cons_succ]
    refine take_run (i := 3) (v := ?_) (by decide) (by kernel_rfl) (by kernel_rfl) (by kernel_rfl) (fun _ _ _ _ h => h) hH rfl ?_ ?_
    rotate_left
    · (intro w hSw; (try dsimp only at hSw); (try go_split_ands); simp only [List.getElem_toArray, List.getElem_cons_zero, List.getElem_cons_succ]; go_simp; try with_reducible rfl)
    try simp (config := { failIfUnchanged := false }) only [Act.put, List.setIfInBounds_toArray, List.set_cons_zero, List.set_cons_succ, List.getElem_toArray, List.getElem_cons_zero, List.getElem_cons_succ]
    refine take_run (i := 4) (v := ?_) (by decide) (by kernel_rfl) (by kernel_rfl) (by kernel_rfl) (fun _ _ _ _ h => h) hH rfl ?_ ?_
    rotate_left
    · (intro w hSw; (try dsimp only at hSw); (try go_split_ands); simp only [List.getElem_toArray, List.getElem_cons_zero, List.getElem_cons_succ]; go_simp; try with_reducible rfl)
    try simp (config := { failIfUnchanged := false }) only [Act.put, List.setIfInBounds_toArray, List.set_cons_zero, List.set_cons_succ, List.getElem_toArray, List.getElem_cons_zero, List.getElem_cons_succ]
    refine take_run (i := 6) (v := ?_) (by decide) (by kernel_rfl) (by kernel_rfl) (by kernel_rfl) (fun _ _ _ _ h => h) hH rfl ?_ ?_
    rotate_left
    · (intro w hSw; (try dsimp only at hSw); (try go_split_ands); simp only [List.getElem_toArray, List.getElem_cons_zero, List.getElem_cons_succ]; go_simp; try with_reducible rfl)
    try simp (config := { failIfUnchanged := false }) only [Act.put, List.setIfInBounds_toArray, List.set_cons_zero, List.set_cons_succ, List.getElem_toArray, List.getElem_cons_zero, List.getElem_cons_succ]
    refine take_call (i := 5) (by decide) (by kernel_rfl) (fun K hK => ?_)
    simp only [List.getElem_toArray, List.getElem_cons_zero, List.getElem_cons_succ]
    go_simp
    go_at_call 12
    refine (matCheck_any _ _ _ _ _ _ m _ HS.out.hg HS.out.hs).mono ?_
    rintro e w2 ⟨rfl, hb2⟩
    rw [hck]
    have HS := Lib.hid (HS.out.below hb2)
    have HT := Lib.hid (HT.out.below hb2)
    dsimp only
    refine hK.out _ _ (by exact ⟨HS.out.bm.c20, HS.out.bm.c21⟩) (fun hH => ?_)
    clear hK K
    try simp (config := { failIfUnchanged := false }) only [Act.put, List.setIfInBounds_toArray, List.set_cons_zero, List.set_cons_succ, List.getElem_toArray, List.getElem_cons_zero, List.getElem_cons_succ]
    refine take_call (i := 7) (by decide) (by kernel_rfl) (fun K hK => ?_)
    simp only [List.getElem_toArray, List.getElem_cons_zero, List.getElem_cons_succ]
    go_simp
    go_at_call 13
    refine (refCheck15_any _ _ _ _ _ _ m _ HS.out.hg HS.out.hs).mono ?_
    rintro e w3 ⟨rfl, hb3⟩
    rw [hck]
    have HS := Lib.hid (HS.out.below hb3)
    have HT := Lib.hid (HT.out.below hb3)
    dsimp only
    refine hK.out _ _ (by exact ⟨HS.out.bm.c20, HS.out.bm.c21⟩) (fun hH => ?_)
    clear hK K
    try simp (config := { failIfUnchanged := false }) only [Act.put, List.setIfInBounds_toArray, List.set_cons_zero, List.set_cons_succ, List.getElem_toArray, List.getElem_cons_zero, List.getElem_cons_succ]
    refine take_run (i := 8) (v := ?_) (by decide) (by kernel_rfl) (by kernel_rfl) (by kernel_rfl) (fun _ _ _ _ h => h) hH rfl ?_ ?_
    rotate_left
    · (intro w hSw; (try dsimp only at hSw); (try go_split_ands); simp only [List.getElem_toArray, List.getElem_cons_zero, List.getElem_cons_succ]; go_simp; try with_reducible rfl)
    try simp (config := { failIfUnchanged := false }) only [Act.put, List.setIfInBounds_toArray, List.set_cons_zero, List.set_cons_succ, List.getElem_toArray, List.getElem_cons_zero, List.getElem_cons_succ]
    refine take_run (i := 9) (v := ?_) (by decide) (by kernel_rfl) (by kernel_rfl) (by kernel_rfl) (fun _ _ _ _ h => h) hH rfl ?_ ?_
    rotate_left
    · (intro w hSw; (try dsimp only at hSw); (try go_split_ands); simp only [List.getElem_toArray, List.getElem_cons_zero, List.getElem_cons_succ]; go_simp; try with_reducible rfl)
    try simp (config := { failIfUnchanged := false }) only [Act.put, List.setIfInBounds_toArray, List.set_cons_zero, List.set_cons_succ, List.getElem_toArray, List.getElem_cons_zero, List.getElem_cons_succ]
    refine take_run (i := 10) (v := ?_) (by decide) (by kernel_rfl) (by kernel_rfl) (by kernel_rfl) (fun _ _ _ _ h => h) hH rfl ?_ ?_
    rotate_left
    · (intro w hSw; (try dsimp only at hSw); (try go_split_ands); simp only [List.getElem_toArray, List.getElem_cons_zero, List.getElem_cons_succ]; go_simp; try with_reducible rfl)
    try simp (config := { failIfUnchanged := false }) only [Act.put, List.setIfInBounds_toArray, List.set_cons_zero, List.set_cons_succ, List.getElem_toArray, List.getElem_cons_zero, List.getElem_cons_succ]
    refine take_call (i := 11) (by decide) (by kernel_rfl) (fun K hK => ?_)
    simp only [List.getElem_toArray, List.getElem_cons_zero, List.getElem_cons_succ]
    go_simp
    go_at_call 14
    refine (awake_any _ HT.out).mono ?_
    rintro e w4 ⟨rfl, hb4⟩
    have HS := Lib.hid (HS.out.below hb4)
    dsimp only
    refine hK.out _ _ (by exact ⟨HS.out.bm.c20, HS.out.bm.c21⟩) (fun hH => ?_)
    clear hK K
    try simp (config := { failIfUnchanged := false }) only [Act.put, List.setIfInBounds_toArray, List.set_cons_zero, List.set_cons_succ, List.getElem_toArray, List.getElem_cons_zero, List.getElem_cons_succ]
    refine take_run (i := 12) (v := ?_) (by decide) (by kernel_rfl) (by kernel_rfl) (by kernel_rfl) (fun _ _ _ _ h => h) hH rfl ?_ ?_
    rotate_left
    · (intro w hSw; (try dsimp only at hSw); (try go_split_ands); simp only [List.getElem_toArray, List.getElem_cons_zero, List.getElem_cons_succ]; go_simp; try with_reducible rfl)
    try simp (config := { failIfUnchanged := false }) only [Act.put, List.setIfInBounds_toArray, List.set_cons_zero, List.set_cons_succ, List.getElem_toArray, List.getElem_cons_zero, List.getElem_cons_succ]
    refine take_run (i := 13) (v := ?_) (by decide) (by kernel_rfl) (by kernel_rfl) (by kernel_rfl) (fun _ _ _ _ h => h) hH rfl ?_ ?_
    rotate_left
    · (intro w hSw; (try dsimp only at hSw); (try go_split_ands); simp only [List.getElem_toArray, List.getElem_cons_zero, List.getElem_cons_succ]; go_simp; try with_reducible rfl)
    try simp (config := { failIfUnchanged := false }) only [Act.put, List.setIfInBounds_toArray, List.set_cons_zero, List.set_cons_succ, List.getElem_toArray, List.getElem_cons_zero, List.getElem_cons_succ]
    refine wpAnyH_done (by kernel_rfl) ?_ _
    go_wp2
    go_ret
    exact ⟨rfl, HS.out.hb⟩
set_option maxRecDepth 100000 in
set_option maxHeartbeats 4000000 in
theorem texts15_law (a : Array Value) (m : Mat) (w : World) (hT : TabP w) (h : matR.R w (Lt w) m (Value.agg a).cells.toList) (_ : True) :
    Calls Tryd.prog 5 #[.agg a] w (Ret (.bool true) w) := by
  obtain ⟨A, c, B, d, rfl, hg, hs, hn1, hn2⟩ := mat_inv (cs := a) h
  have HT := Lib.hid hT
  have HS := Lib.hid (ma_start (Below.refl w.heap.size w) hg hs)
  clear hT h hg hs
  obtain ⟨W0, hW0⟩ : ∃ W0, W0 = w.alloc (.cells #[.slice A m.1.length c, .slice B m.2.length d] 25) := ⟨_, rfl⟩
  rw [← hW0] at HS
  have HW0 := Lib.hid hW0
  have c0 := HS.out.bm.c20
  have c1 := HS.out.bm.c21
  obtain ⟨few, hfew⟩ : ∃ b, b = fewM m := ⟨_, rfl⟩
  have CF := Lib.hid (few15_any _ _ _ _ _ _ m W0 HS.out.hg HS.out.hs)
  rw [← hfew] at CF
  have HT0 : Hid (TabP W0) := by rw [hW0]; exact HT.out.below ((Below.refl w.heap.size w).alloc (Nat.le_refl _) _)
  clear hW0 hfew HT
  cases few
  · go_enter Tryd.func5, Tryd.ntmps5
    go_upto_region 1 with fail
    rw [← HW0.out]
    go_wp2_with fail
    refine CF.out.mono ?_
    rintro e w1 ⟨rfl, hb1⟩
    have HS := Lib.hid (HS.out.below hb1)
    have HT := Lib.hid (HT0.out.below hb1)
    go_wp2_with fail
    refine (awake_any _ HT.out).mono ?_
    rintro e w2 ⟨rfl, hb2⟩
    have HS := Lib.hid (HS.out.below hb2)
    go_wp2
    go_ret
    exact ⟨rfl, HS.out.hb⟩
  · go_enter Tryd.func5, Tryd.ntmps5
    go_upto_region 1 with fail
    rw [← HW0.out]
    go_wp2_with fail
    refine CF.out.mono ?_
    rintro e w1 ⟨rfl, hb1⟩
    have HS := Lib.hid (HS.out.below hb1)
    have HT := Lib.hid (HT0.out.below hb1)
    have c0 := HS.out.bm.c20
    have c1 := HS.out.bm.c21
    obtain ⟨T, hTx⟩ : ∃ T, formatM m = T := ⟨_, rfl⟩
    obtain ⟨T1, T2⟩ := T
    go_wp2_with fail
    refine (matFormat_any _ _ _ _ _ _ m _ HT.out HS.out.hg HS.out.hs).mono ?_
    rintro e w2 ⟨rfl, hb2⟩
    rw [hTx]
    have HS := Lib.hid (HS.out.below hb2)
    have HT := Lib.hid (HT.out.below hb2)
    have c0 := HS.out.bm.c20
    have c1 := HS.out.bm.c21
    go_wp2_with fail
    refine (refFormat_any _ _ _ _ _ _ m _ HS.out.hg HS.out.hs).mono ?_
    rintro e w3 ⟨rfl, hb3⟩
    rw [hTx]
    have HS := Lib.hid (HS.out.below hb3)
    have HT := Lib.hid (HT.out.below hb3)
    have q1 : (T2 == T2) = true := by simp
    dsimp only
    generalize bA T1 = TB
    go_wp2_with fail
    refine (awake_any _ HT.out).mono ?_
    rintro e w4 ⟨rfl, hb4⟩
    have HS := Lib.hid (HS.out.below hb4)
    go_wp2
    go_ret
    exact ⟨rfl, HS.out.hb⟩
end Go.Proofs.YtacbmmnipedpdaaDoor
