/- Chapter 34: the laws over Greedy and Best, by walking their text. -/
import Derived.Test.YtgiphdjblnfjcaaWsLaw1
namespace Go.Proofs.Ytgiphdjblnfjcaa
open Go Go.RowKit

theorem light_len {l : List Bead} {before : List (Int × Int)} {m : Nat} (h : lightB l before m = true) : l.length ≤ m := by
  unfold lightB at h; rw [Bool.and_eq_true, decide_eq_true_eq] at h; exact h.1
set_option maxRecDepth 100000 in
set_option maxHeartbeats 2000000 in
theorem permits_law (a0 : Array Value) (x : List Bead × (Int × Int) × List (Int × Int)) (w : World) (hx : panelR.R w (Lt w) x a0.toList) :
    Calls Try.prog 6 #[.agg a0] w (Ret (.bool true) w) := by
  obtain ⟨A, c, B, d, rfl, hl, hb, hm, hmb⟩ := panel_inv hx
  obtain ⟨l, ⟨reach, stiff⟩, before⟩ := x
  simp only [] at hl hb hm hmb ⊢
  have hw0 : Below w.heap.size w (w.alloc (.cells #[.slice A l.length c, .int .i64 reach, .int .i64 stiff, .slice B before.length d] 27)) := (Below.refl _ _).alloc (Nat.le_refl _) _
  have bk0 := Blk.new w 27 #[.slice A l.length c, .int .i64 reach, .int .i64 stiff, .slice B before.length d]
  rcases Bool.eq_false_or_eq_true (lightB l before 6) with h6 | h6
  · have H6 := Lib.hid h6
    have h8 : ¬ 8 < l.length := by have := light_len h6; omega
    clear h6
    by_cases hw : wrongF l reach stiff before = 0
    · have HG : Hid (greedyF l reach stiff before = ((greedyF l reach stiff before).1, 0)) := by show greedyF l reach stiff before = _; rw [greedyF_yes hw]
      have HB := Lib.hid (bestF_yes h8 hw)
      have HC1 := Lib.hid (comp_check hw (greedy_is hw))
      have HC2 := Lib.hid (comp_check hw (best_shown (reach := reach) (stiff := stiff) (wrongF_zero hw).2).1)
      clear hw
      go_enter Try.func6, Try.ntmps6
      go_wp2_with fail
      refine (light_any A B c d l before reach stiff 6 _).mono ?_
      rintro e w1 ⟨h1, hb1⟩
      rw [H6.out] at h1
      subst h1
      have hw1 := bstep hw0 hw0.size hb1
      have bk1 := bk0.below hb1 bk0.lt
      have k0 := bk1.cell 0
      have k1 := bk1.cell 1
      have k2 := bk1.cell 2
      have k3 := bk1.cell 3
      simp only [List.getElem?_toArray, List.getElem?_cons_zero, List.getElem?_cons_succ] at k0 k1 k2 k3
      go_wp2_with fail
      refine (greedy_any _ _ l reach stiff before _ (Rep.below hl hw1) (Rep.below hb hw1)).mono ?_
      rintro e w2 ⟨v2, he, hv2, hb2⟩
      rw [HG.out] at he
      subst he
      obtain ⟨A1, c1, rfl, -, -⟩ := slice_inv hv2
      have hw2 := bstep hw1 hw1.size hb2
      have bk2 := bk1.below hb2 bk1.lt
      clear k0 k1 k2 k3
      have k0 := bk2.cell 0
      have k1 := bk2.cell 1
      have k2 := bk2.cell 2
      have k3 := bk2.cell 3
      simp only [List.getElem?_toArray, List.getElem?_cons_zero, List.getElem?_cons_succ] at k0 k1 k2 k3
      go_wp2_with fail
      refine (best_any _ _ l reach stiff before _ (Rep.below hl hw2) (Rep.below hb hw2)).mono ?_
      rintro e w3 ⟨v3, he, hv3, hb3⟩
      rw [HB.out] at he hv3
      subst he
      obtain ⟨A2, c2, rfl, -, -⟩ := slice_inv hv3
      have hw3 := bstep hw2 hw2.size hb3
      have bk3 := bk2.below hb3 bk2.lt
      have hu3 := Rep.below hv2 hb3
      clear k0 k1 k2 k3
      have k0 := bk3.cell 0
      have k1 := bk3.cell 1
      have k2 := bk3.cell 2
      have k3 := bk3.cell 3
      simp only [List.getElem?_toArray, List.getElem?_cons_zero, List.getElem?_cons_succ] at k0 k1 k2 k3
      go_wp2_with fail
      refine (wsCheck_any _ _ _ l reach stiff before _ _ (Rep.below hl hw3) (Rep.below hb hw3) hu3).mono ?_
      rintro e w4 ⟨he, hb4⟩
      rw [HC1.out] at he
      subst he
      have hw4 := bstep hw3 hw3.size hb4
      have bk4 := bk3.below hb4 bk3.lt
      have hu4 := Rep.below hv3 hb4
      clear k0 k1 k2 k3
      have k0 := bk4.cell 0
      have k1 := bk4.cell 1
      have k2 := bk4.cell 2
      have k3 := bk4.cell 3
      simp only [List.getElem?_toArray, List.getElem?_cons_zero, List.getElem?_cons_succ] at k0 k1 k2 k3
      go_wp2_with fail
      refine (wsCheck_any _ _ _ l reach stiff before _ _ (Rep.below hl hw4) (Rep.below hb hw4) hu4).mono ?_
      rintro e w5 ⟨he, hb5⟩
      rw [HC2.out] at he
      subst he
      have hw5 := bstep hw4 hw4.size hb5
      have bk5 := bk4.below hb5 bk4.lt
      clear k0 k1 k2 k3
      have k0 := bk5.cell 0
      have k1 := bk5.cell 1
      have k2 := bk5.cell 2
      have k3 := bk5.cell 3
      simp only [List.getElem?_toArray, List.getElem?_cons_zero, List.getElem?_cons_succ] at k0 k1 k2 k3
      clear k0 k1 k2 k3
      go_wp2_with fail
      refine (awake_any _).mono ?_
      rintro e w6 ⟨rfl, hb6⟩
      go_wp2
      go_ret
      exact ⟨rfl, bstep hw5 hw5.size hb6⟩
    · have hwf : (wrongF l reach stiff before != 0) = true := by simp [hw]
      have HG := Lib.hid (greedyF_bad hw)
      have HB := Lib.hid (bestF_bad h8 hw)
      have HC1 : Hid (wsCheckF l reach stiff before [] = wrongF l reach stiff before) := by show wsCheckF _ _ _ _ _ = _; unfold wsCheckF; rw [if_pos hw]
      clear hw
      generalize wrongF l reach stiff before = wf at *
      go_enter Try.func6, Try.ntmps6
      go_wp2_with fail
      refine (light_any A B c d l before reach stiff 6 _).mono ?_
      rintro e w1 ⟨h1, hb1⟩
      rw [H6.out] at h1
      subst h1
      have hw1 := bstep hw0 hw0.size hb1
      have bk1 := bk0.below hb1 bk0.lt
      have k0 := bk1.cell 0
      have k1 := bk1.cell 1
      have k2 := bk1.cell 2
      have k3 := bk1.cell 3
      simp only [List.getElem?_toArray, List.getElem?_cons_zero, List.getElem?_cons_succ] at k0 k1 k2 k3
      go_wp2_with fail
      refine (greedy_any _ _ l reach stiff before _ (Rep.below hl hw1) (Rep.below hb hw1)).mono ?_
      rintro e w2 ⟨v2, he, hv2, hb2⟩
      rw [HG.out] at he hv2
      subst he
      obtain ⟨A1, c1, rfl, -, -⟩ := slice_inv hv2
      have hw2 := bstep hw1 hw1.size hb2
      have bk2 := bk1.below hb2 bk1.lt
      clear k0 k1 k2 k3
      have k0 := bk2.cell 0
      have k1 := bk2.cell 1
      have k2 := bk2.cell 2
      have k3 := bk2.cell 3
      simp only [List.getElem?_toArray, List.getElem?_cons_zero, List.getElem?_cons_succ] at k0 k1 k2 k3
      go_wp2_with fail
      refine (best_any _ _ l reach stiff before _ (Rep.below hl hw2) (Rep.below hb hw2)).mono ?_
      rintro e w3 ⟨v3, he, hv3, hb3⟩
      rw [HB.out] at he hv3
      subst he
      obtain ⟨A2, c2, rfl, -, -⟩ := slice_inv hv3
      have hw3 := bstep hw2 hw2.size hb3
      have bk3 := bk2.below hb3 bk2.lt
      clear k0 k1 k2 k3
      have k0 := bk3.cell 0
      have k1 := bk3.cell 1
      have k2 := bk3.cell 2
      have k3 := bk3.cell 3
      simp only [List.getElem?_toArray, List.getElem?_cons_zero, List.getElem?_cons_succ] at k0 k1 k2 k3
      go_wp2_with fail
      refine (wsCheck_any _ _ _ l reach stiff before [] _ (Rep.below hl hw3) (Rep.below hb hw3) (Rep.slice_nil _ _ _)).mono ?_
      rintro e w4 ⟨he, hb4⟩
      rw [HC1.out] at he
      subst he
      have hw4 := bstep hw3 hw3.size hb4
      have bk4 := bk3.below hb4 bk3.lt
      clear k0 k1 k2 k3
      have k0 := bk4.cell 0
      have k1 := bk4.cell 1
      have k2 := bk4.cell 2
      have k3 := bk4.cell 3
      simp only [List.getElem?_toArray, List.getElem?_cons_zero, List.getElem?_cons_succ] at k0 k1 k2 k3
      clear k0 k1 k2 k3
      go_wp2_with fail
      refine (awake_any _).mono ?_
      rintro e w5 ⟨rfl, hb5⟩
      go_wp2
      go_ret
      exact ⟨rfl, bstep hw4 hw4.size hb5⟩
  · have H6 := Lib.hid h6
    clear h6
    go_enter Try.func6, Try.ntmps6
    go_wp2_with fail
    refine (light_any A B c d l before reach stiff 6 _).mono ?_
    rintro e w1 ⟨h1, hb1⟩
    rw [H6.out] at h1
    subst h1
    have hw1 := bstep hw0 hw0.size hb1
    have bk1 := bk0.below hb1 bk0.lt
    have k0 := bk1.cell 0
    have k1 := bk1.cell 1
    have k2 := bk1.cell 2
    have k3 := bk1.cell 3
    simp only [List.getElem?_toArray, List.getElem?_cons_zero, List.getElem?_cons_succ] at k0 k1 k2 k3
    go_wp2_with fail
    refine (awake_any _).mono ?_
    rintro e w2 ⟨rfl, hb2⟩
    go_wp2
    go_ret
    exact ⟨rfl, bstep hw1 hw1.size hb2⟩
set_option maxRecDepth 100000 in
set_option maxHeartbeats 2000000 in
theorem greater_law (a0 : Array Value) (x : List Bead × (Int × Int) × List (Int × Int)) (w : World) (hx : panelR.R w (Lt w) x a0.toList) :
    Calls Try.prog 9 #[.agg a0] w (Ret (.bool true) w) := by
  obtain ⟨A, c, B, d, rfl, hl, hb, hm, hmb⟩ := panel_inv hx
  obtain ⟨l, ⟨reach, stiff⟩, before⟩ := x
  simp only [] at hl hb hm hmb ⊢
  have hw0 : Below w.heap.size w (w.alloc (.cells #[.slice A l.length c, .int .i64 reach, .int .i64 stiff, .slice B before.length d] 27)) := (Below.refl _ _).alloc (Nat.le_refl _) _
  have bk0 := Blk.new w 27 #[.slice A l.length c, .int .i64 reach, .int .i64 stiff, .slice B before.length d]
  rcases Bool.eq_false_or_eq_true (lightB l before 6) with h6 | h6
  · have H6 := Lib.hid h6
    have h8 : ¬ 8 < l.length := by have := light_len h6; omega
    clear h6
    by_cases hw : wrongF l reach stiff before = 0
    · have HG : Hid (greedyF l reach stiff before = ((greedyF l reach stiff before).1, 0)) := by show greedyF l reach stiff before = _; rw [greedyF_yes hw]
      have HB := Lib.hid (bestF_yes h8 hw)
      have HU := Lib.hid (uneven_worst (reach := reach) (stiff := stiff) (wrongF_zero hw).1 (comp_order (greedy_is hw)))
      have hle : (bestS l reach stiff before).least ≤ worst (unevB l reach stiff) [] 0 (greedyF l reach stiff before).1 := by rcases (best_shown (reach := reach) (stiff := stiff) (wrongF_zero hw).2).2.2 _ (greedy_is hw) with h | ⟨h, _⟩ <;> omega
      have hge := least_nonneg hw
      generalize worst (unevB l reach stiff) [] 0 (greedyF l reach stiff before).1 = m at *
      generalize hn : (bestS l reach stiff before).least = n at *
      have HN := Lib.hid hn
      clear hw hn
      go_enter Try.func9, Try.ntmps9
      go_wp2_with fail
      refine (light_any A B c d l before reach stiff 6 _).mono ?_
      rintro e w1 ⟨h1, hb1⟩
      rw [H6.out] at h1
      subst h1
      have hw1 := bstep hw0 hw0.size hb1
      have bk1 := bk0.below hb1 bk0.lt
      have k0 := bk1.cell 0
      have k1 := bk1.cell 1
      have k2 := bk1.cell 2
      have k3 := bk1.cell 3
      simp only [List.getElem?_toArray, List.getElem?_cons_zero, List.getElem?_cons_succ] at k0 k1 k2 k3
      go_wp2_with fail
      refine (greedy_any _ _ l reach stiff before _ (Rep.below hl hw1) (Rep.below hb hw1)).mono ?_
      rintro e w2 ⟨v2, he, hv2, hb2⟩
      rw [HG.out] at he
      subst he
      obtain ⟨A1, c1, rfl, -, -⟩ := slice_inv hv2
      have hw2 := bstep hw1 hw1.size hb2
      have bk2 := bk1.below hb2 bk1.lt
      clear k0 k1 k2 k3
      have k0 := bk2.cell 0
      have k1 := bk2.cell 1
      have k2 := bk2.cell 2
      have k3 := bk2.cell 3
      simp only [List.getElem?_toArray, List.getElem?_cons_zero, List.getElem?_cons_succ] at k0 k1 k2 k3
      go_wp2_with fail
      refine (best_any _ _ l reach stiff before _ (Rep.below hl hw2) (Rep.below hb hw2)).mono ?_
      rintro e w3 ⟨v3, he, hv3, hb3⟩
      rw [HB.out] at he
      subst he
      obtain ⟨A2, c2, rfl, -, -⟩ := slice_inv hv3
      have hw3 := bstep hw2 hw2.size hb3
      have bk3 := bk2.below hb3 bk2.lt
      have hu3 := Rep.below hv2 hb3
      clear k0 k1 k2 k3
      have k0 := bk3.cell 0
      have k1 := bk3.cell 1
      have k2 := bk3.cell 2
      have k3 := bk3.cell 3
      simp only [List.getElem?_toArray, List.getElem?_cons_zero, List.getElem?_cons_succ] at k0 k1 k2 k3
      go_wp2_with fail
      refine (uneven_any _ _ l reach stiff _ _ (Rep.below hl hw3) hu3).mono ?_
      rintro e w4 ⟨he, hb4⟩
      rw [HU.out] at he
      subst he
      have hw4 := bstep hw3 hw3.size hb4
      have bk4 := bk3.below hb4 bk3.lt
      clear k0 k1 k2 k3
      have k0 := bk4.cell 0
      have k1 := bk4.cell 1
      have k2 := bk4.cell 2
      have k3 := bk4.cell 3
      simp only [List.getElem?_toArray, List.getElem?_cons_zero, List.getElem?_cons_succ] at k0 k1 k2 k3
      clear k0 k1 k2 k3
      go_wp2_with fail
      refine (awake_any _).mono ?_
      rintro e w5 ⟨rfl, hb5⟩
      go_wp2
      go_ret
      exact ⟨rfl, bstep hw4 hw4.size hb5⟩
    · have hwf : (wrongF l reach stiff before != 0) = true := by simp [hw]
      have HG := Lib.hid (greedyF_bad hw)
      have HB := Lib.hid (bestF_bad h8 hw)
      clear hw
      generalize wrongF l reach stiff before = wf at *
      go_enter Try.func9, Try.ntmps9
      go_wp2_with fail
      refine (light_any A B c d l before reach stiff 6 _).mono ?_
      rintro e w1 ⟨h1, hb1⟩
      rw [H6.out] at h1
      subst h1
      have hw1 := bstep hw0 hw0.size hb1
      have bk1 := bk0.below hb1 bk0.lt
      have k0 := bk1.cell 0
      have k1 := bk1.cell 1
      have k2 := bk1.cell 2
      have k3 := bk1.cell 3
      simp only [List.getElem?_toArray, List.getElem?_cons_zero, List.getElem?_cons_succ] at k0 k1 k2 k3
      go_wp2_with fail
      refine (greedy_any _ _ l reach stiff before _ (Rep.below hl hw1) (Rep.below hb hw1)).mono ?_
      rintro e w2 ⟨v2, he, hv2, hb2⟩
      rw [HG.out] at he
      subst he
      obtain ⟨A1, c1, rfl, -, -⟩ := slice_inv hv2
      have hw2 := bstep hw1 hw1.size hb2
      have bk2 := bk1.below hb2 bk1.lt
      clear k0 k1 k2 k3
      have k0 := bk2.cell 0
      have k1 := bk2.cell 1
      have k2 := bk2.cell 2
      have k3 := bk2.cell 3
      simp only [List.getElem?_toArray, List.getElem?_cons_zero, List.getElem?_cons_succ] at k0 k1 k2 k3
      go_wp2_with fail
      refine (best_any _ _ l reach stiff before _ (Rep.below hl hw2) (Rep.below hb hw2)).mono ?_
      rintro e w3 ⟨v3, he, hv3, hb3⟩
      rw [HB.out] at he
      subst he
      obtain ⟨A2, c2, rfl, -, -⟩ := slice_inv hv3
      have hw3 := bstep hw2 hw2.size hb3
      have bk3 := bk2.below hb3 bk2.lt
      clear k0 k1 k2 k3
      have k0 := bk3.cell 0
      have k1 := bk3.cell 1
      have k2 := bk3.cell 2
      have k3 := bk3.cell 3
      simp only [List.getElem?_toArray, List.getElem?_cons_zero, List.getElem?_cons_succ] at k0 k1 k2 k3
      clear k0 k1 k2 k3
      go_wp2_with fail
      refine (awake_any _).mono ?_
      rintro e w4 ⟨rfl, hb4⟩
      go_wp2
      go_ret
      exact ⟨rfl, bstep hw3 hw3.size hb4⟩
  · have H6 := Lib.hid h6
    clear h6
    go_enter Try.func9, Try.ntmps9
    go_wp2_with fail
    refine (light_any A B c d l before reach stiff 6 _).mono ?_
    rintro e w1 ⟨h1, hb1⟩
    rw [H6.out] at h1
    subst h1
    have hw1 := bstep hw0 hw0.size hb1
    have bk1 := bk0.below hb1 bk0.lt
    have k0 := bk1.cell 0
    have k1 := bk1.cell 1
    have k2 := bk1.cell 2
    have k3 := bk1.cell 3
    simp only [List.getElem?_toArray, List.getElem?_cons_zero, List.getElem?_cons_succ] at k0 k1 k2 k3
    go_wp2_with fail
    refine (awake_any _).mono ?_
    rintro e w2 ⟨rfl, hb2⟩
    go_wp2
    go_ret
    exact ⟨rfl, bstep hw1 hw1.size hb2⟩
end Go.Proofs.Ytgiphdjblnfjcaa
