/- Chapter 26: the law that compares Check and Travel with the reference, by walking its text. -/
import Derived.Test.YtpefmbjaolcapaaTorLaw1
namespace Go.Proofs.Ytpefmbjaolcapaa
open Go Go.RowKit

set_option maxRecDepth 100000 in
set_option maxHeartbeats 2000000 in
theorem checks_law (vs vo : Value) (shapes : List Shp) (order : List Pt) (w : World) (hs : shpsR.R w (Lt w) shapes [vs]) (ho : prR.slice.R w (Lt w) order [vo]) :
    Calls Try.prog 4 #[vs, vo] w (Ret (.bool true) w) := by
  obtain ⟨A, d, rfl, hm, -⟩ := slice_inv hs
  obtain ⟨B, d', rfl, hm', -⟩ := slice_inv ho
  rcases Bool.eq_false_or_eq_true (fewF shapes) with hf | hf
  · have HF := Lib.hid hf
    have HSM := Lib.hid (few_small hf)
    clear hf
    have hor : (12 < shapes.length) ∨ (¬ 12 < shapes.length ∧ 100 < order.length) ∨ (¬ 12 < shapes.length ∧ ¬ 100 < order.length) := by omega
    rcases hor with h1 | ⟨h1, h2⟩ | ⟨h1, h2⟩
    · have h1' : (12 : Int) < (shapes.length : Int) := by omega
      go_enter Try.func4, Try.ntmps4
      go_wp2_with fail
      refine (few_any _ shapes _ hs).mono ?_
      rintro e w1 ⟨he, hw1⟩
      rw [HF.out] at he
      subst he
      go_wp2_with fail
      refine (awake_any _).mono ?_
      rintro e w7 ⟨rfl, hq⟩
      have hw7 := bstep hw1 hw1.size hq
      go_wp2
      go_ret
      exact ⟨rfl, hw7⟩
    · have h1' : ¬ (12 : Int) < (shapes.length : Int) := by omega
      have h2' : (100 : Int) < (order.length : Int) := by omega
      go_enter Try.func4, Try.ntmps4
      go_wp2_with fail
      refine (few_any _ shapes _ hs).mono ?_
      rintro e w1 ⟨he, hw1⟩
      rw [HF.out] at he
      subst he
      go_wp2_with fail
      refine (awake_any _).mono ?_
      rintro e w7 ⟨rfl, hq⟩
      have hw7 := bstep hw1 hw1.size hq
      go_wp2
      go_ret
      exact ⟨rfl, hw7⟩
    · have h1' : ¬ (12 : Int) < (shapes.length : Int) := by omega
      have h2' : ¬ (100 : Int) < (order.length : Int) := by omega
      obtain ⟨⟨t, er⟩, htr⟩ : ∃ r, travelF shapes order = r := ⟨_, rfl⟩
      have HTR := Lib.hid htr
      obtain ⟨ck, hck⟩ : ∃ r, checkT (contoursF shapes) order = r := ⟨_, rfl⟩
      have HCK := Lib.hid hck
      clear htr hck
      have e1 : (t == t) = true := by simp
      have e2 : (er == er) = true := by simp
      have e3 : (ck == ck) = true := by simp
      go_enter Try.func4, Try.ntmps4
      go_wp2_with fail
      refine (few_any _ shapes _ hs).mono ?_
      rintro e w1 ⟨he, hw1⟩
      rw [HF.out] at he
      subst he
      go_wp2_with fail
      have hC := travel_any _ _ shapes order _ (Rep.below hs hw1) (Rep.below ho hw1) HSM.out
      rw [HTR.out] at hC
      refine hC.mono ?_
      rintro e w2 ⟨rfl, hq⟩
      have hw2 := bstep hw1 hw1.size hq
      clear hC hq hw1
      go_wp2_with fail
      have hC := refTravel_any _ _ shapes order _ (Rep.below hs hw2) (Rep.below ho hw2) HSM.out
      rw [HTR.out] at hC
      refine hC.mono ?_
      rintro e w3 ⟨rfl, hq⟩
      have hw3 := bstep hw2 hw2.size hq
      clear hC hq hw2
      go_wp2_with fail
      have hC := checkT_any _ _ shapes order _ (Rep.below hs hw3) (Rep.below ho hw3) HSM.out
      rw [HCK.out] at hC
      refine hC.mono ?_
      rintro e w4 ⟨rfl, hq⟩
      have hw4 := bstep hw3 hw3.size hq
      clear hC hq hw3
      go_wp2_with fail
      have hC := refCheckT_any _ _ shapes order _ (Rep.below hs hw4) (Rep.below ho hw4) HSM.out
      rw [HCK.out] at hC
      refine hC.mono ?_
      rintro e w5 ⟨rfl, hq⟩
      have hw5 := bstep hw4 hw4.size hq
      clear hC hq hw4
      go_wp2_with fail
      refine (awake_any _).mono ?_
      rintro e w7 ⟨rfl, hq⟩
      have hw7 := bstep hw5 hw5.size hq
      go_wp2
      go_ret
      exact ⟨rfl, hw7⟩
  · have HF := Lib.hid hf
    clear hf
    go_enter Try.func4, Try.ntmps4
    go_wp2_with fail
    refine (few_any _ shapes _ hs).mono ?_
    rintro e w1 ⟨he, hw1⟩
    rw [HF.out] at he
    subst he
    go_wp2_with fail
    refine (awake_any _).mono ?_
    rintro e w7 ⟨rfl, hq⟩
    have hw7 := bstep hw1 hw1.size hq
    go_wp2
    go_ret
    exact ⟨rfl, hw7⟩
end Go.Proofs.Ytpefmbjaolcapaa
