/- Chapter 34: the reference's Best, by walking its text. -/
import Derived.Test.YtgiphdjblnfjcaaWsA9
namespace Go.Proofs.Ytgiphdjblnfjcaa
open Go Go.RowKit

set_option maxRecDepth 100000 in
set_option maxHeartbeats 1000000 in
theorem refBest_any (vl vb : Value) (l : List Bead) (reach stiff : Int) (before : List (Int × Int)) (w : World) (hl : beadR.slice.R w (Lt w) l [vl]) (hb : prR.slice.R w (Lt w) before [vb]) :
    Calls Try.prog 18 #[vl, .agg #[.int .i64 reach, .int .i64 stiff], vb] w (BestPost l reach stiff before w) := by
  obtain ⟨A, c, rfl, hm, -⟩ := slice_inv hl
  obtain ⟨B, d, rfl, hmb, -⟩ := slice_inv hb
  have hw0 : Below w.heap.size w (w.alloc (.cells #[.int .i64 reach, .int .i64 stiff] 24)) := (Below.refl _ _).alloc (Nat.le_refl _) _
  by_cases h8 : 8 < l.length
  · have HG := Lib.hid (bestF_many (reach := reach) (stiff := stiff) (before := before) h8)
    go_enter Try.func18, Try.ntmps18
    go_wp2
    go_ret3
    exact BestPost.of HG.out (Rep.slice_nil _ _ _) hw0
  · by_cases hw : wrongF l reach stiff before = 0
    · have hb0 : (wrongF l reach stiff before != 0) = false := by simp [hw]
      have HG := Lib.hid (bestF_yes h8 hw)
      have hC := (wrongF_zero hw).1
      have HC := Lib.hid hC
      clear hw hC
      have hk0 := Blk.new w 24 #[.int .i64 reach, .int .i64 stiff]
      go_enter Try.func18, Try.ntmps18
      go_wp2_with fail
      refine (refWrong_any _ _ _ _ _ before _ (Rep.below hl hw0) (Rep.below hb hw0)).mono ?_
      rintro e w1 ⟨rfl, hb1⟩
      have hw1 := bstep hw0 hw0.size hb1
      have hk1 := hk0.below hb1 (by simp)
      have k0 := hk1.c20
      have k1 := hk1.c21
      go_wp2_with fail
      have hx := Blk.new w1 61 (xCells (.slice A l.length c) (.slice B before.length d) (.slice none 0 0) reach stiff ⟨false, 0, []⟩)
      have hw2 := hw1.alloc hw1.size (.cells (xCells (.slice A l.length c) (.slice B before.length d) (.slice none 0 0) reach stiff ⟨false, 0, []⟩) 61)
      have hz1 := hw1.size
      refine (explore_any w1.heap.size _ _ l reach stiff before HC.out (l.length + 1) _ [] 0 ⟨false, 0, []⟩ _ (by simp) (Beg.nil _) ⟨⟨_, hx, Rep.slice_nil _ _ _⟩, rep_old hl hw2 ⟨hz1, hz1, hz1⟩, rep_old hb hw2 ⟨hz1, hz1, hz1⟩⟩ (Rep.slice_nil _ _ _)).mono ?_
      rintro e w3 ⟨rfl, hk, hst⟩
      obtain ⟨vo, hg, hro⟩ := hst.blk
      have hw3 := below_of_kept hw2 hk hw2.size ⟨hz1, hz1, hz1⟩
      obtain ⟨O, co, rfl, -, -⟩ := slice_inv hro
      have q4 := hg.cell 4
      have q5 := hg.cell 5
      simp only [xCells, List.getElem?_toArray, List.getElem?_cons_zero, List.getElem?_cons_succ] at q4 q5
      clear k0 k1
      go_wp2
      go_quiet (fail)
      go_wp2
      go_ret3
      exact BestPost.of HG.out (Rep.below (rep_lt hro) (below_drewN (Below.refl _ _) _)) (below_drewN hw3 _)
    · have hb0 : (wrongF l reach stiff before != 0) = true := by simp [hw]
      have HG := Lib.hid (bestF_bad h8 hw)
      clear hw
      go_enter Try.func18, Try.ntmps18
      go_wp2_with fail
      refine (refWrong_any _ _ _ _ _ before _ (Rep.below hl hw0) (Rep.below hb hw0)).mono ?_
      rintro e w1 ⟨rfl, hb1⟩
      have hw1 := bstep hw0 hw0.size hb1
      go_wp2
      go_ret3
      exact BestPost.of HG.out (Rep.slice_nil _ _ _) hw1
end Go.Proofs.Ytgiphdjblnfjcaa
