/- Chapter 33: the law DistortRuns, by walking its text. -/
import Derived.Test.YtlhkidiieajamaaDistLaws
import Derived.Deep.RegionHeld3
namespace Go.Proofs.Ytlhkidiieajamaa
open Go Go.RowKit

theorem beq_self_int (a : Int) : (a == a) = true := by simp
theorem dec_self (a : List Int) : decide (a = a) = true := by simp

set_option maxHeartbeats 1000000 in
theorem runs_law (vl : Value) (csr : Array Value) (vo : Value) (l : List Bead) (r : Int × Int) (order : List Int) (w : World) (hl : beadR.slice.R w (Lt w) l [vl]) (hr : (Rep.int.pair Rep.int).R w (Lt w) r csr.toList) (ho : Rep.int.slice.R w (Lt w) order [vo]) :
    Calls Try.prog 3 #[vl, .agg csr, vo] w (Ret (.bool true) w) := by
  obtain rfl := pair_inv hr
  obtain ⟨reach, stiff⟩ := r
  clear hr
  simp only
  obtain ⟨A, c, rfl, hm, -⟩ := slice_inv hl
  obtain ⟨F, d, rfl, hm', -⟩ := slice_inv ho
  by_cases h1 : 60 < l.length
  · go_enter Try.func3, Try.ntmps3
    go_wp2_with (go_at_call 9; refine (alive_any _).mono ?_; rintro e w1 ⟨rfl, hb⟩)
    go_ret
    exact ⟨rfl, bstep (by go_grown) (by simp) hb⟩
  · by_cases h2 : 60 < order.length
    · go_enter Try.func3, Try.ntmps3
      go_wp2_with (go_at_call 9; refine (alive_any _).mono ?_; rintro e w1 ⟨rfl, hb⟩)
      go_ret
      exact ⟨rfl, bstep (by go_grown) (by simp) hb⟩
    · go_enter Try.func3, Try.ntmps3
      go_wp2_with fail
      have b0 := Blk.new w 24 #[.int .i64 reach, .int .i64 stiff]
      have hw0 : Below w.heap.size w (w.alloc (.cells #[.int .i64 reach, .int .i64 stiff] 24)) := (Below.refl _ _).alloc (Nat.le_refl _) _
      refine (run_any _ _ _ _ _ _ _ (Rep.below hl hw0) (Rep.below ho hw0)).mono ?_
      rintro e w1 ⟨v1, rfl, hv1, hb⟩
      have hw1 := bstep hw0 hw0.size hb
      have hz1 := hb.size
      have b1 := b0.below hb (by simp)
      simp only [World.size_alloc] at hz1
      clear hb b0 hw0
      have k0 := b1.c20
      have k1 := b1.c21
      go_wp2_with fail
      refine (refRun_any _ _ _ _ _ _ _ (Rep.below hl hw1) (Rep.below ho hw1)).mono ?_
      rintro e w2 ⟨v2, rfl, hv2, hb⟩
      have hw2 := bstep hw1 hw1.size hb
      have hz2 := hb.size
      have b2 := b1.below hb (by omega)
      have hv1' := Rep.below hv1 hb
      clear hb b1 hw1 hv1 k0 k1
      have k0 := b2.c20
      have k1 := b2.c21
      go_wp2_with fail
      refine (uneven_any _ _ _ _ _ _ _ (Rep.below hl hw2) (Rep.below ho hw2)).mono ?_
      rintro e w3 ⟨rfl, hb⟩
      have hw3 := bstep hw2 hw2.size hb
      have hz3 := hb.size
      have b3 := b2.below hb (by omega)
      have hv1 := Rep.below hv1' hb
      have hv2' := Rep.below hv2 hb
      clear hb b2 hw2 hv1' hv2 k0 k1
      have k0 := b3.c20
      have k1 := b3.c21
      go_wp2_with fail
      refine (refUneven_any _ _ _ _ _ _ _ (Rep.below hl hw3) (Rep.below ho hw3)).mono ?_
      rintro e w4 ⟨rfl, hb⟩
      have hw4 := bstep hw3 hw3.size hb
      have hz4 := hb.size
      have b4 := b3.below hb (by omega)
      have hv1' := Rep.below hv1 hb
      have hv2 := Rep.below hv2' hb
      clear hb b3 hw3 hv1 hv2' k0 k1
      have k0 := b4.c20
      have k1 := b4.c21
      have e1 := beq_self_int (checkF l reach stiff)
      have e3 := beq_self_int (runF l reach stiff order).2
      have e4 := beq_self_int (unevF l reach stiff order).1
      have e5 := beq_self_int (unevF l reach stiff order).2
      have hlt : w.heap.size < w4.heap.size := by omega
      go_wp2_with fail
      go_region_held3 (fun W => Below w4.heap.size w4 W ∧ W.cell? ⟨w.heap.size, 0, none⟩ = some (.int .i64 reach) ∧ W.cell? ⟨w.heap.size, 1, none⟩ = some (.int .i64 stiff))
        (first
          | exact ⟨(Below.refl _ _).drew, k0, k1⟩
          | exact ⟨hSd, (hSd.cell (p := ⟨w.heap.size, 0, none⟩) hlt).trans k0, (hSd.cell (p := ⟨w.heap.size, 1, none⟩) hlt).trans k1⟩
          | exact ⟨hSc, (hSc.cell (p := ⟨w.heap.size, 0, none⟩) hlt).trans k0, (hSc.cell (p := ⟨w.heap.size, 1, none⟩) hlt).trans k1⟩
          | exact ⟨hSb, (hSb.cell (p := ⟨w.heap.size, 0, none⟩) hlt).trans k0, (hSb.cell (p := ⟨w.heap.size, 1, none⟩) hlt).trans k1⟩
          | exact ⟨hSa, (hSa.cell (p := ⟨w.heap.size, 0, none⟩) hlt).trans k0, (hSa.cell (p := ⟨w.heap.size, 1, none⟩) hlt).trans k1⟩)
        (first
          | (go_at_call 14
             go_split_ands
             refine (check_any _ _ _ _ _ (Rep.below hl (bstep hw4 hw4.size (by assumption)))).mono ?_
             rintro e W1 ⟨rfl, hb⟩
             have hSa := bstep (B := w4.heap.size) (a := w4) (by assumption) (Below.size (by assumption)) hb)
          | (go_at_call 15
             go_split_ands
             refine (refCheck_any _ _ _ _ _ (Rep.below hl (bstep hw4 hw4.size (by assumption)))).mono ?_
             rintro e W1 ⟨rfl, hb⟩
             have hSb := bstep (B := w4.heap.size) (a := w4) (by assumption) (Below.size (by assumption)) hb)
          | (go_at_call 16
             go_split_ands
             refine (ints_any _ _ _ _ _ (Rep.below hv1' (by assumption)) (Rep.below hv2 (by assumption))).mono ?_
             rintro e W1 ⟨he, hb⟩
             rw [dec_self] at he
             subst he
             have hSc := bstep (B := w4.heap.size) (a := w4) (by assumption) (Below.size (by assumption)) (hb.below _))
          | (go_at_call 9
             go_split_ands
             refine (alive_any _).mono ?_
             rintro e W1 ⟨rfl, hb⟩
             have hSd := bstep (B := w4.heap.size) (a := w4) (by assumption) (Below.size (by assumption)) hb))
      all_goals
        go_wp2
        go_ret
        go_split_ands
        exact ⟨rfl, bstep hw4 hw4.size (by assumption)⟩
end Go.Proofs.Ytlhkidiieajamaa
