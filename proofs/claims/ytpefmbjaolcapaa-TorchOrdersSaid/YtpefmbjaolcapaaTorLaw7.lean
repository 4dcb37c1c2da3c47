/- Chapter 26: the law that compares Greedy and Best with the reference, by walking its text. -/
import Derived.Test.YtpefmbjaolcapaaTorLaw2
import Derived.Test.YtpefmbjaolcapaaTorA4
namespace Go.Proofs.Ytpefmbjaolcapaa
open Go Go.RowKit

set_option maxRecDepth 100000 in
set_option maxHeartbeats 2000000 in
theorem orders_law (vs : Value) (shapes : List Shp) (w : World) (hs : shpsR.R w (Lt w) shapes [vs]) :
    Calls Try.prog 6 #[vs] w (Ret (.bool true) w) := by
  obtain ⟨A, d, rfl, hm, -⟩ := slice_inv hs
  rcases Bool.eq_false_or_eq_true (fewF shapes) with hf | hf
  · have HF := Lib.hid hf
    have HSM := Lib.hid (few_small hf)
    clear hf
    by_cases h1 : 12 < shapes.length
    · have h1' : (12 : Int) < (shapes.length : Int) := by omega
      go_enter Try.func6, Try.ntmps6
      go_wp2_with fail
      refine (few_any _ shapes _ hs).mono ?_
      rintro e w1 ⟨he, hw1⟩
      rw [HF.out] at he
      subst he
      go_wp2_with fail
      refine (awake_any _).mono ?_
      rintro e w7 ⟨rfl, hq⟩
      have hw7 := bstep hw1 hw1.size hq
      go_wp2
      go_ret
      exact ⟨rfl, hw7⟩
    · have h1' : ¬ (12 : Int) < (shapes.length : Int) := by omega
      obtain ⟨⟨bl, bn, be⟩, hbt⟩ : ∃ r, bestF shapes = r := ⟨_, rfl⟩
      have HBT := Lib.hid hbt
      obtain ⟨gl, hgt⟩ : ∃ r, greedyTF shapes = r := ⟨_, rfl⟩
      have HGT := Lib.hid hgt
      clear hbt hgt
      have e1 : (bn == bn) = true := by simp
      have e2 : (be == be) = true := by simp
      go_enter Try.func6, Try.ntmps6
      go_wp2_with fail
      refine (few_any _ shapes _ hs).mono ?_
      rintro e w1 ⟨he, hw1⟩
      rw [HF.out] at he
      subst he
      go_wp2_with fail
      have hC := best_any A _ d shapes _ (Rep.below hs hw1) HSM.out
      rw [HBT.out] at hC
      refine hC.mono ?_
      rintro e w2 ⟨v2, rfl, hv2, hq⟩
      obtain ⟨A2, c2, rfl, -, -⟩ := slice_inv hv2
      have hw2 := bstep hw1 hw1.size hq
      clear hC hq hw1
      go_wp2_with fail
      have hC := refBest_any A _ d shapes _ (Rep.below hs hw2) HSM.out
      rw [HBT.out] at hC
      refine hC.mono ?_
      rintro e w3 ⟨v3, rfl, hv3, hq⟩
      obtain ⟨A3, c3, rfl, -, -⟩ := slice_inv hv3
      have hw3 := bstep hw2 hw2.size hq
      have hv2 := Rep.below hv2 hq
      clear hC hq hw2
      go_wp2_with fail
      have hC := greedyT_any _ shapes _ (Rep.below hs hw3) HSM.out
      rw [HGT.out] at hC
      refine hC.mono ?_
      rintro e w4 ⟨v4, rfl, hv4, hq⟩
      obtain ⟨A4, c4, rfl, -, -⟩ := slice_inv hv4
      have hw4 := bstep hw3 hw3.size hq
      have hv2 := Rep.below hv2 hq
      have hv3 := Rep.below hv3 hq
      clear hC hq hw3
      go_wp2_with fail
      have hC := refGreedyT_any _ shapes _ (Rep.below hs hw4) HSM.out
      rw [HGT.out] at hC
      refine hC.mono ?_
      rintro e w5 ⟨v5, rfl, hv5, hq⟩
      obtain ⟨A5, c5, rfl, -, -⟩ := slice_inv hv5
      have hw5 := bstep hw4 hw4.size hq
      have hv2 := Rep.below hv2 hq
      have hv3 := Rep.below hv3 hq
      have hv4 := Rep.below hv4 hq
      clear hC hq hw4
      go_wp2_with fail
      have hC := same_any _ _ _ _ _ hv4 hv5
      rw [same_eq] at hC
      refine hC.mono ?_
      rintro e w6 ⟨rfl, hq⟩
      have hw6 := bstep hw5 hw5.size hq
      have hv2 := Rep.below hv2 hq
      have hv3 := Rep.below hv3 hq
      clear hC hq hw5 hv4 hv5
      go_wp2_with fail
      have hC := same_any _ _ _ _ _ hv2 hv3
      rw [same_eq] at hC
      refine hC.mono ?_
      rintro e w7 ⟨rfl, hq⟩
      have hw7 := bstep hw6 hw6.size hq
      clear hC hq hw6 hv2 hv3
      go_wp2_with fail
      refine (awake_any _).mono ?_
      rintro e w8 ⟨rfl, hq⟩
      have hw8 := bstep hw7 hw7.size hq
      go_wp2
      go_ret
      exact ⟨rfl, hw8⟩
  · have HF := Lib.hid hf
    clear hf
    go_enter Try.func6, Try.ntmps6
    go_wp2_with fail
    refine (few_any _ shapes _ hs).mono ?_
    rintro e w1 ⟨he, hw1⟩
    rw [HF.out] at he
    subst he
    go_wp2_with fail
    refine (awake_any _).mono ?_
    rintro e w7 ⟨rfl, hq⟩
    have hw7 := bstep hw1 hw1.size hq
    go_wp2
    go_ret
    exact ⟨rfl, hw7⟩
end Go.Proofs.Ytpefmbjaolcapaa
