/- Chapter 34: the laws over Greedy and Best, by walking their text. -/
import Derived.Test.YtgiphdjblnfjcaaWsLaw1
namespace Go.Proofs.Ytgiphdjblnfjcaa
open Go Go.RowKit

set_option maxRecDepth 100000 in
set_option maxHeartbeats 2000000 in
theorem greedy_law (a0 : Array Value) (x : List Bead × (Int × Int) × List (Int × Int)) (w : World) (hx : panelR.R w (Lt w) x a0.toList) :
    Calls Try.prog 4 #[.agg a0] w (Ret (.bool true) w) := by
  obtain ⟨A, c, B, d, rfl, hl, hb, hm, hmb⟩ := panel_inv hx
  obtain ⟨l, ⟨reach, stiff⟩, before⟩ := x
  simp only [] at hl hb hm hmb ⊢
  have hw0 : Below w.heap.size w (w.alloc (.cells #[.slice A l.length c, .int .i64 reach, .int .i64 stiff, .slice B before.length d] 27)) := (Below.refl _ _).alloc (Nat.le_refl _) _
  have bk0 := Blk.new w 27 #[.slice A l.length c, .int .i64 reach, .int .i64 stiff, .slice B before.length d]
  have he : ((greedyF l reach stiff before).2 == (greedyF l reach stiff before).2) = true := by simp
  rcases Bool.eq_false_or_eq_true (lightB l before 10) with h10 | h10
  · have H10 := Lib.hid h10
    clear h10
    go_enter Try.func4, Try.ntmps4
    go_wp2_with fail
    refine (light_any A B c d l before reach stiff 10 _).mono ?_
    rintro e w1 ⟨h1, hb1⟩
    rw [H10.out] at h1
    subst h1
    have hw1 := bstep hw0 hw0.size hb1
    have bk1 := bk0.below hb1 bk0.lt
    have k0 := bk1.cell 0
    have k1 := bk1.cell 1
    have k2 := bk1.cell 2
    have k3 := bk1.cell 3
    simp only [List.getElem?_toArray, List.getElem?_cons_zero, List.getElem?_cons_succ] at k0 k1 k2 k3
    go_wp2_with fail
    refine (greedy_any _ _ l reach stiff before _ (Rep.below hl hw1) (Rep.below hb hw1)).mono ?_
    rintro e w2 ⟨v2, rfl, hv2, hb2⟩
    obtain ⟨A1, c1, rfl, -, -⟩ := slice_inv hv2
    have hw2 := bstep hw1 hw1.size hb2
    have bk2 := bk1.below hb2 bk1.lt
    clear k0 k1 k2 k3
    have k0 := bk2.cell 0
    have k1 := bk2.cell 1
    have k2 := bk2.cell 2
    have k3 := bk2.cell 3
    simp only [List.getElem?_toArray, List.getElem?_cons_zero, List.getElem?_cons_succ] at k0 k1 k2 k3
    go_wp2_with fail
    refine (refGreedy_any _ _ l reach stiff before _ (Rep.below hl hw2) (Rep.below hb hw2)).mono ?_
    rintro e w3 ⟨v3, rfl, hv3, hb3⟩
    obtain ⟨A2, c2, rfl, -, -⟩ := slice_inv hv3
    have hw3 := bstep hw2 hw2.size hb3
    have bk3 := bk2.below hb3 bk2.lt
    have hu3 := Rep.below hv2 hb3
    clear k0 k1 k2 k3
    have k0 := bk3.cell 0
    have k1 := bk3.cell 1
    have k2 := bk3.cell 2
    have k3 := bk3.cell 3
    simp only [List.getElem?_toArray, List.getElem?_cons_zero, List.getElem?_cons_succ] at k0 k1 k2 k3
    go_wp2_with fail
    refine (same_any _ _ _ _ _ hu3 hv3).mono ?_
    rintro e w4 ⟨h4, hq4⟩
    rw [same_eq] at h4
    subst h4
    have hb4 := hq4.below w3.heap.size
    have hw4 := bstep hw3 hw3.size hb4
    clear k0 k1 k2 k3 hb4
    go_wp2_with fail
    refine (awake_any _).mono ?_
    rintro e w5 ⟨rfl, hb5⟩
    go_wp2
    go_ret
    exact ⟨rfl, bstep hw4 hw4.size hb5⟩
  · have H10 := Lib.hid h10
    clear h10
    by_cases h32 : l.length ≤ 32
    · have d32 : decide ((l.length : Int) ≤ 32) = true := by simp; omega
      go_enter Try.func4, Try.ntmps4
      go_wp2_with fail
      refine (light_any A B c d l before reach stiff 10 _).mono ?_
      rintro e w1 ⟨h1, hb1⟩
      rw [H10.out] at h1
      subst h1
      have hw1 := bstep hw0 hw0.size hb1
      have bk1 := bk0.below hb1 bk0.lt
      have k0 := bk1.cell 0
      have k1 := bk1.cell 1
      have k2 := bk1.cell 2
      have k3 := bk1.cell 3
      simp only [List.getElem?_toArray, List.getElem?_cons_zero, List.getElem?_cons_succ] at k0 k1 k2 k3
      go_wp2_with fail
      refine (awake_any _).mono ?_
      rintro e w2 ⟨rfl, hb2⟩
      go_wp2
      go_ret
      exact ⟨rfl, bstep hw1 hw1.size hb2⟩
    · have d32 : decide ((l.length : Int) ≤ 32) = false := by simp; omega
      rcases Bool.eq_false_or_eq_true (lightB l before 60) with h60 | h60
      · have H60 := Lib.hid h60
        clear h60
        go_enter Try.func4, Try.ntmps4
        go_wp2_with fail
        refine (light_any A B c d l before reach stiff 10 _).mono ?_
        rintro e w1 ⟨h1, hb1⟩
        rw [H10.out] at h1
        subst h1
        have hw1 := bstep hw0 hw0.size hb1
        have bk1 := bk0.below hb1 bk0.lt
        have k0 := bk1.cell 0
        have k1 := bk1.cell 1
        have k2 := bk1.cell 2
        have k3 := bk1.cell 3
        simp only [List.getElem?_toArray, List.getElem?_cons_zero, List.getElem?_cons_succ] at k0 k1 k2 k3
        go_wp2_with fail
        refine (light_any A B c d l before reach stiff 60 _).mono ?_
        rintro e w2 ⟨h2, hb2⟩
        rw [H60.out] at h2
        subst h2
        have hw2 := bstep hw1 hw1.size hb2
        have bk2 := bk1.below hb2 bk1.lt
        clear k0 k1 k2 k3
        have k0 := bk2.cell 0
        have k1 := bk2.cell 1
        have k2 := bk2.cell 2
        have k3 := bk2.cell 3
        simp only [List.getElem?_toArray, List.getElem?_cons_zero, List.getElem?_cons_succ] at k0 k1 k2 k3
        go_wp2_with fail
        refine (greedy_any _ _ l reach stiff before _ (Rep.below hl hw2) (Rep.below hb hw2)).mono ?_
        rintro e w3 ⟨v3, rfl, hv3, hb3⟩
        obtain ⟨A1, c1, rfl, -, -⟩ := slice_inv hv3
        have hw3 := bstep hw2 hw2.size hb3
        have bk3 := bk2.below hb3 bk2.lt
        clear k0 k1 k2 k3
        have k0 := bk3.cell 0
        have k1 := bk3.cell 1
        have k2 := bk3.cell 2
        have k3 := bk3.cell 3
        simp only [List.getElem?_toArray, List.getElem?_cons_zero, List.getElem?_cons_succ] at k0 k1 k2 k3
        go_wp2_with fail
        refine (refGreedy_any _ _ l reach stiff before _ (Rep.below hl hw3) (Rep.below hb hw3)).mono ?_
        rintro e w4 ⟨v4, rfl, hv4, hb4⟩
        obtain ⟨A2, c2, rfl, -, -⟩ := slice_inv hv4
        have hw4 := bstep hw3 hw3.size hb4
        have bk4 := bk3.below hb4 bk3.lt
        have hu4 := Rep.below hv3 hb4
        clear k0 k1 k2 k3
        have k0 := bk4.cell 0
        have k1 := bk4.cell 1
        have k2 := bk4.cell 2
        have k3 := bk4.cell 3
        simp only [List.getElem?_toArray, List.getElem?_cons_zero, List.getElem?_cons_succ] at k0 k1 k2 k3
        go_wp2_with fail
        refine (same_any _ _ _ _ _ hu4 hv4).mono ?_
        rintro e w5 ⟨h5, hq5⟩
        rw [same_eq] at h5
        subst h5
        have hb5 := hq5.below w4.heap.size
        have hw5 := bstep hw4 hw4.size hb5
        clear k0 k1 k2 k3 hb5
        go_wp2_with fail
        refine (awake_any _).mono ?_
        rintro e w6 ⟨rfl, hb6⟩
        go_wp2
        go_ret
        exact ⟨rfl, bstep hw5 hw5.size hb6⟩
      · have H60 := Lib.hid h60
        clear h60
        go_enter Try.func4, Try.ntmps4
        go_wp2_with fail
        refine (light_any A B c d l before reach stiff 10 _).mono ?_
        rintro e w1 ⟨h1, hb1⟩
        rw [H10.out] at h1
        subst h1
        have hw1 := bstep hw0 hw0.size hb1
        have bk1 := bk0.below hb1 bk0.lt
        have k0 := bk1.cell 0
        have k1 := bk1.cell 1
        have k2 := bk1.cell 2
        have k3 := bk1.cell 3
        simp only [List.getElem?_toArray, List.getElem?_cons_zero, List.getElem?_cons_succ] at k0 k1 k2 k3
        go_wp2_with fail
        refine (light_any A B c d l before reach stiff 60 _).mono ?_
        rintro e w2 ⟨h2, hb2⟩
        rw [H60.out] at h2
        subst h2
        have hw2 := bstep hw1 hw1.size hb2
        have bk2 := bk1.below hb2 bk1.lt
        clear k0 k1 k2 k3
        have k0 := bk2.cell 0
        have k1 := bk2.cell 1
        have k2 := bk2.cell 2
        have k3 := bk2.cell 3
        simp only [List.getElem?_toArray, List.getElem?_cons_zero, List.getElem?_cons_succ] at k0 k1 k2 k3
        go_wp2_with fail
        refine (awake_any _).mono ?_
        rintro e w3 ⟨rfl, hb3⟩
        go_wp2
        go_ret
        exact ⟨rfl, bstep hw2 hw2.size hb3⟩
set_option maxRecDepth 100000 in
set_option maxHeartbeats 2000000 in
theorem bests_law (a0 : Array Value) (x : List Bead × (Int × Int) × List (Int × Int)) (w : World) (hx : panelR.R w (Lt w) x a0.toList) :
    Calls Try.prog 5 #[.agg a0] w (Ret (.bool true) w) := by
  obtain ⟨A, c, B, d, rfl, hl, hb, hm, hmb⟩ := panel_inv hx
  obtain ⟨l, ⟨reach, stiff⟩, before⟩ := x
  simp only [] at hl hb hm hmb ⊢
  have hw0 : Below w.heap.size w (w.alloc (.cells #[.slice A l.length c, .int .i64 reach, .int .i64 stiff, .slice B before.length d] 27)) := (Below.refl _ _).alloc (Nat.le_refl _) _
  have bk0 := Blk.new w 27 #[.slice A l.length c, .int .i64 reach, .int .i64 stiff, .slice B before.length d]
  have he : ((bestF l reach stiff before).2.1 == (bestF l reach stiff before).2.1) = true := by simp
  have he2 : ((bestF l reach stiff before).2.2 == (bestF l reach stiff before).2.2) = true := by simp
  rcases Bool.eq_false_or_eq_true (lightB l before 60) with h60 | h60
  · have H60 := Lib.hid h60
    clear h60
    go_enter Try.func5, Try.ntmps5
    go_wp2_with fail
    refine (light_any A B c d l before reach stiff 60 _).mono ?_
    rintro e w1 ⟨h1, hb1⟩
    rw [H60.out] at h1
    subst h1
    have hw1 := bstep hw0 hw0.size hb1
    have bk1 := bk0.below hb1 bk0.lt
    have k0 := bk1.cell 0
    have k1 := bk1.cell 1
    have k2 := bk1.cell 2
    have k3 := bk1.cell 3
    simp only [List.getElem?_toArray, List.getElem?_cons_zero, List.getElem?_cons_succ] at k0 k1 k2 k3
    go_wp2_with fail
    refine (best_any _ _ l reach stiff before _ (Rep.below hl hw1) (Rep.below hb hw1)).mono ?_
    rintro e w2 ⟨v2, rfl, hv2, hb2⟩
    obtain ⟨A1, c1, rfl, -, -⟩ := slice_inv hv2
    have hw2 := bstep hw1 hw1.size hb2
    have bk2 := bk1.below hb2 bk1.lt
    clear k0 k1 k2 k3
    have k0 := bk2.cell 0
    have k1 := bk2.cell 1
    have k2 := bk2.cell 2
    have k3 := bk2.cell 3
    simp only [List.getElem?_toArray, List.getElem?_cons_zero, List.getElem?_cons_succ] at k0 k1 k2 k3
    go_wp2_with fail
    refine (refBest_any _ _ l reach stiff before _ (Rep.below hl hw2) (Rep.below hb hw2)).mono ?_
    rintro e w3 ⟨v3, rfl, hv3, hb3⟩
    obtain ⟨A2, c2, rfl, -, -⟩ := slice_inv hv3
    have hw3 := bstep hw2 hw2.size hb3
    have bk3 := bk2.below hb3 bk2.lt
    have hu3 := Rep.below hv2 hb3
    clear k0 k1 k2 k3
    have k0 := bk3.cell 0
    have k1 := bk3.cell 1
    have k2 := bk3.cell 2
    have k3 := bk3.cell 3
    simp only [List.getElem?_toArray, List.getElem?_cons_zero, List.getElem?_cons_succ] at k0 k1 k2 k3
    go_wp2_with fail
    refine (same_any _ _ _ _ _ hu3 hv3).mono ?_
    rintro e w4 ⟨h4, hq4⟩
    rw [same_eq] at h4
    subst h4
    have hb4 := hq4.below w3.heap.size
    have hw4 := bstep hw3 hw3.size hb4
    clear k0 k1 k2 k3 hb4
    go_wp2_with fail
    refine (awake_any _).mono ?_
    rintro e w5 ⟨rfl, hb5⟩
    go_wp2
    go_ret
    exact ⟨rfl, bstep hw4 hw4.size hb5⟩
  · have H60 := Lib.hid h60
    clear h60
    go_enter Try.func5, Try.ntmps5
    go_wp2_with fail
    refine (light_any A B c d l before reach stiff 60 _).mono ?_
    rintro e w1 ⟨h1, hb1⟩
    rw [H60.out] at h1
    subst h1
    have hw1 := bstep hw0 hw0.size hb1
    have bk1 := bk0.below hb1 bk0.lt
    have k0 := bk1.cell 0
    have k1 := bk1.cell 1
    have k2 := bk1.cell 2
    have k3 := bk1.cell 3
    simp only [List.getElem?_toArray, List.getElem?_cons_zero, List.getElem?_cons_succ] at k0 k1 k2 k3
    go_wp2_with fail
    refine (awake_any _).mono ?_
    rintro e w2 ⟨rfl, hb2⟩
    go_wp2
    go_ret
    exact ⟨rfl, bstep hw1 hw1.size hb2⟩
end Go.Proofs.Ytgiphdjblnfjcaa
