/- Chapter 34: the laws over Greedy and Best, by walking their text. -/
import Derived.Test.YtgiphdjblnfjcaaWsLaw3
namespace Go.Proofs.Ytgiphdjblnfjcaa
open Go Go.RowKit

set_option maxRecDepth 100000 in
set_option maxHeartbeats 2000000 in
theorem least_law (a0 : Array Value) (vo : Value) (x : List Bead × (Int × Int) × List (Int × Int)) (order : List Int) (w : World) (hx : panelR.R w (Lt w) x a0.toList) (ho : Rep.int.slice.R w (Lt w) order [vo]) :
    Calls Try.prog 8 #[.agg a0, vo] w (Ret (.bool true) w) := by
  obtain ⟨A, c, B, d, rfl, hl, hb, hm, hmb⟩ := panel_inv hx
  obtain ⟨l, ⟨reach, stiff⟩, before⟩ := x
  simp only [] at hl hb hm hmb ⊢
  have hw0 : Below w.heap.size w (w.alloc (.cells #[.slice A l.length c, .int .i64 reach, .int .i64 stiff, .slice B before.length d] 27)) := (Below.refl _ _).alloc (Nat.le_refl _) _
  have bk0 := Blk.new w 27 #[.slice A l.length c, .int .i64 reach, .int .i64 stiff, .slice B before.length d]
  obtain ⟨O, co, rfl, hmo, -⟩ := slice_inv ho
  rcases Bool.eq_false_or_eq_true (lightB l before 6) with h6 | h6
  · have H6 := Lib.hid h6
    have h8 : ¬ 8 < l.length := by have := light_len h6; omega
    clear h6
    by_cases ho6 : 6 < order.length
    · clear h8
      go_enter Try.func8, Try.ntmps8
      go_wp2_with fail
      refine (light_any A B c d l before reach stiff 6 _).mono ?_
      rintro e w1 ⟨h1, hb1⟩
      rw [H6.out] at h1
      subst h1
      have hw1 := bstep hw0 hw0.size hb1
      have bk1 := bk0.below hb1 bk0.lt
      have k0 := bk1.cell 0
      have k1 := bk1.cell 1
      have k2 := bk1.cell 2
      have k3 := bk1.cell 3
      simp only [List.getElem?_toArray, List.getElem?_cons_zero, List.getElem?_cons_succ] at k0 k1 k2 k3
      clear k0 k1 k2 k3
      go_wp2_with fail
      refine (awake_any _).mono ?_
      rintro e w2 ⟨rfl, hb2⟩
      go_wp2
      go_ret
      exact ⟨rfl, bstep hw1 hw1.size hb2⟩
    · by_cases hc : wsCheckF l reach stiff before order = 0
      · have hcb : (wsCheckF l reach stiff before order != 0) = false := by simp [hc]
        obtain ⟨hw, hor, _⟩ := check_zero hc
        have HC := Lib.hid hc
        have hcomp := check_comp hc
        have hbs := best_shown (l := l) (reach := reach) (stiff := stiff) (wrongF_zero hw).2
        have HB := Lib.hid (bestF_yes h8 hw)
        have HU := Lib.hid (uneven_worst (reach := reach) (stiff := stiff) (wrongF_zero hw).1 hor)
        have hu2 := uneven_worst (reach := reach) (stiff := stiff) (wrongF_zero hw).1 (comp_order hbs.1)
        rw [← hbs.2.1] at hu2
        have HU2 := Lib.hid hu2
        have hle : (bestS l reach stiff before).least ≤ worst (unevB l reach stiff) [] 0 order := by rcases hbs.2.2 _ hcomp with h | ⟨h, _⟩ <;> omega
        have hlx : worst (unevB l reach stiff) [] 0 order = (bestS l reach stiff before).least → lexle (bestS l reach stiff before).ord order := by
          intro he
          rcases hbs.2.2 _ hcomp with h | ⟨_, h⟩
          · omega
          · exact h
        have HLX := Lib.hid hlx
        clear hlx
        have hlen : (bestS l reach stiff before).ord.length = order.length := by rw [(orderB_yes (comp_order hbs.1)).1, (orderB_yes hor).1]
        clear hu2 hc hw hor hcomp hbs h8 hcb
        generalize bestS l reach stiff before = bs at *
        obtain ⟨_, n, best⟩ := bs
        simp only [] at HB HU2 hle HLX hlen
        generalize worst (unevB l reach stiff) [] 0 order = m at *
        have hln : ((best.length : Int) != (order.length : Int)) = false := by simp [hlen]
        have HLN := Lib.hid hlen
        clear hlen
        go_enter Try.func8, Try.ntmps8
        go_wp2_with fail
        refine (light_any A B c d l before reach stiff 6 _).mono ?_
        rintro e w1 ⟨h1, hb1⟩
        rw [H6.out] at h1
        subst h1
        have hw1 := bstep hw0 hw0.size hb1
        have bk1 := bk0.below hb1 bk0.lt
        have k0 := bk1.cell 0
        have k1 := bk1.cell 1
        have k2 := bk1.cell 2
        have k3 := bk1.cell 3
        simp only [List.getElem?_toArray, List.getElem?_cons_zero, List.getElem?_cons_succ] at k0 k1 k2 k3
        go_wp2_with fail
        refine (wsCheck_any _ _ _ l reach stiff before order _ (Rep.below hl hw1) (Rep.below hb hw1) (Rep.below ho hw1)).mono ?_
        rintro e w2 ⟨he, hb2⟩
        rw [HC.out] at he
        subst he
        have hw2 := bstep hw1 hw1.size hb2
        have bk2 := bk1.below hb2 bk1.lt
        clear k0 k1 k2 k3
        have k0 := bk2.cell 0
        have k1 := bk2.cell 1
        have k2 := bk2.cell 2
        have k3 := bk2.cell 3
        simp only [List.getElem?_toArray, List.getElem?_cons_zero, List.getElem?_cons_succ] at k0 k1 k2 k3
        go_wp2_with fail
        refine (best_any _ _ l reach stiff before _ (Rep.below hl hw2) (Rep.below hb hw2)).mono ?_
        rintro e w3 ⟨v3, he, hv3, hb3⟩
        rw [HB.out] at he hv3
        subst he
        simp only [] at hv3
        obtain ⟨A1, c1, rfl, -, -⟩ := slice_inv hv3
        have hw3 := bstep hw2 hw2.size hb3
        have bk3 := bk2.below hb3 bk2.lt
        clear k0 k1 k2 k3
        have k0 := bk3.cell 0
        have k1 := bk3.cell 1
        have k2 := bk3.cell 2
        have k3 := bk3.cell 3
        simp only [List.getElem?_toArray, List.getElem?_cons_zero, List.getElem?_cons_succ] at k0 k1 k2 k3
        go_wp2_with fail
        refine (uneven_any _ _ l reach stiff order _ (Rep.below hl hw3) (Rep.below ho hw3)).mono ?_
        rintro e w4 ⟨he, hb4⟩
        rw [HU.out] at he
        subst he
        have hw4 := bstep hw3 hw3.size hb4
        have bk4 := bk3.below hb4 bk3.lt
        have hu4 := Rep.below hv3 hb4
        clear k0 k1 k2 k3
        have k0 := bk4.cell 0
        have k1 := bk4.cell 1
        have k2 := bk4.cell 2
        have k3 := bk4.cell 3
        simp only [List.getElem?_toArray, List.getElem?_cons_zero, List.getElem?_cons_succ] at k0 k1 k2 k3
        go_wp2_with fail
        refine (uneven_any _ _ l reach stiff best _ (Rep.below hl hw4) hu4).mono ?_
        rintro e w5 ⟨he, hb5⟩
        rw [HU2.out] at he
        subst he
        have hw5 := bstep hw4 hw4.size hb5
        have bk5 := bk4.below hb5 bk4.lt
        have hu5 := Rep.below hu4 hb5
        clear k0 k1 k2 k3
        have k0 := bk5.cell 0
        have k1 := bk5.cell 1
        have k2 := bk5.cell 2
        have k3 := bk5.cell 3
        simp only [List.getElem?_toArray, List.getElem?_cons_zero, List.getElem?_cons_succ] at k0 k1 k2 k3
        clear k0 k1 k2 k3 bk0 bk1 bk2 bk3 bk4 bk5 hb1 hb2 hb3 hb4 hb5 hw1 hw2 hw3 hw4 hu4 hv3
        by_cases hmn : m = n
        · subst hmn
          have HLE := Lib.hid (HLX.out rfl)
          go_wp2
          obtain ⟨wo, hwo⟩ : ∃ wo : World, wo = w5 := ⟨_, rfl⟩
          subst hwo
          go_loopw [12] (fun i wr => ∃ k : Nat, k ≤ order.length ∧ i = .int .i64 k ∧ Hid (order.take k = best.take k) ∧ Below wo.heap.size wo wr) (fun i _ => order.length - (intOf i).toNat)
          case atStart => exact ⟨0, Nat.zero_le _, rfl, rfl, Below.refl _ _⟩
          case round =>
            obtain ⟨k, hk, rfl, hT, hbr⟩ := hrel
            have hor := Rep.below (Rep.below ho hw5) hbr
            have hbe := Rep.below hu5 hbr
            have hz := hbr.size
            by_cases hlt : k < order.length
            · have hmm : (m == m) = true := by simp
              obtain ⟨b1, off1, y, rfl, hy, hd1, q1, -⟩ := ints_at hor hlt
              obtain ⟨b2, off2, z, rfl, hzz, hd2, q2, -⟩ := ints_at hbe (k := k) (by have := HLN.out; omega)
              have hlt2 : k < best.length := by have := HLN.out; omega
              have hd1 : b1 < wr.heap.size := hd1
              have hd2 : b2 < wr.heap.size := hd2
              by_cases hyz : y = z
              · subst hyz
                have hb : (y != y) = false := by simp
                go_wp2
                go_quiet (fail)
                go_wp2
                go_roundw
                case rel => exact ⟨k + 1, by omega, by go_num, take_ext hT.out hy.out hzz.out, below_drewN hbr _⟩
                case measure => simp [intOf]; omega
              · have hb : (y != z) = true := by simp [hyz]
                have hlz : z < y := lexle_at HLE.out hT.out.symm hzz.out hy.out (fun e => hyz e.symm)
                clear hyz
                go_wp2
                go_quiet (fail)
                go_wp2
                generalize hWd : World.drewN _ _ = wd at *
                have q1d : wd.cell? ⟨b1, off1 + k, none⟩ = some (.int .i64 y) := by rw [← hWd]; exact q1
                have q2d : wd.cell? ⟨b2, off2 + k, none⟩ = some (.int .i64 z) := by rw [← hWd]; exact q2
                have hbd : Below wo.heap.size wo wd := by rw [← hWd]; exact below_drewN hbr _
                have hzd : wr.heap.size ≤ wd.heap.size := by rw [← hWd]; exact Nat.le_refl _
                have hl1 : b1 < wd.heap.size := by omega
                have hl2 : b2 < wd.heap.size := by omega
                clear hWd q1 q2
                go_region_held3 (fun W => Below wd.heap.size wd W ∧ W.cell? ⟨b1, off1 + k, none⟩ = some (.int .i64 y) ∧ W.cell? ⟨b2, off2 + k, none⟩ = some (.int .i64 z))
                  (first
                    | exact ⟨(Below.refl _ _).drew, q1d, q2d⟩
                    | exact ⟨hSa, (hSa.cell (p := ⟨b1, off1 + k, none⟩) hl1).trans q1d, (hSa.cell (p := ⟨b2, off2 + k, none⟩) hl2).trans q2d⟩)
                  (first
                    | (go_at_call 11
                       go_split_ands
                       refine (awake_any _).mono ?_
                       rintro e W1 ⟨rfl, hq⟩
                       have hSa := bstep (B := wd.heap.size) (a := wd) (by assumption) (Below.size (by assumption)) hq))
                all_goals
                  go_split_ands
                  go_wp2
                  go_ret
                  exact ⟨rfl, bstep hw5 hw5.size (bstep hbd hbd.size (by assumption))⟩
            · go_wp2_with fail
              refine (awake_any _).mono ?_
              rintro e w7 ⟨rfl, hb7⟩
              go_wp2
              go_ret
              exact ⟨rfl, bstep hw5 hw5.size (bstep hbr hz hb7)⟩
        · have hmb2 : (m == n) = false := ieq_f hmn
          clear hmn
          go_wp2
          obtain ⟨wo, hwo⟩ : ∃ wo : World, wo = w5 := ⟨_, rfl⟩
          subst hwo
          go_loopw [12] (fun i wr => i = .int .i64 0 ∧ wr = wo) (fun i _ => 0)
          case atStart => exact ⟨rfl, rfl⟩
          case round =>
            obtain ⟨rfl, rfl⟩ := hrel
            by_cases h0 : 0 < order.length
            all_goals
              go_wp2_with fail
              refine (awake_any _).mono ?_
              rintro e w7 ⟨rfl, hb7⟩
              go_wp2
              go_ret
              exact ⟨rfl, bstep hw5 hw5.size hb7⟩
      · have hcb : (wsCheckF l reach stiff before order != 0) = true := by simp [hc]
        clear hc h8
        go_enter Try.func8, Try.ntmps8
        go_wp2_with fail
        refine (light_any A B c d l before reach stiff 6 _).mono ?_
        rintro e w1 ⟨h1, hb1⟩
        rw [H6.out] at h1
        subst h1
        have hw1 := bstep hw0 hw0.size hb1
        have bk1 := bk0.below hb1 bk0.lt
        have k0 := bk1.cell 0
        have k1 := bk1.cell 1
        have k2 := bk1.cell 2
        have k3 := bk1.cell 3
        simp only [List.getElem?_toArray, List.getElem?_cons_zero, List.getElem?_cons_succ] at k0 k1 k2 k3
        go_wp2_with fail
        refine (wsCheck_any _ _ _ l reach stiff before order _ (Rep.below hl hw1) (Rep.below hb hw1) (Rep.below ho hw1)).mono ?_
        rintro e w2 ⟨rfl, hb2⟩
        have hw2 := bstep hw1 hw1.size hb2
        have bk2 := bk1.below hb2 bk1.lt
        clear k0 k1 k2 k3
        have k0 := bk2.cell 0
        have k1 := bk2.cell 1
        have k2 := bk2.cell 2
        have k3 := bk2.cell 3
        simp only [List.getElem?_toArray, List.getElem?_cons_zero, List.getElem?_cons_succ] at k0 k1 k2 k3
        clear k0 k1 k2 k3
        go_wp2_with fail
        refine (awake_any _).mono ?_
        rintro e w3 ⟨rfl, hb3⟩
        go_wp2
        go_ret
        exact ⟨rfl, bstep hw2 hw2.size hb3⟩
  · have H6 := Lib.hid h6
    clear h6
    go_enter Try.func8, Try.ntmps8
    go_wp2_with fail
    refine (light_any A B c d l before reach stiff 6 _).mono ?_
    rintro e w1 ⟨h1, hb1⟩
    rw [H6.out] at h1
    subst h1
    have hw1 := bstep hw0 hw0.size hb1
    have bk1 := bk0.below hb1 bk0.lt
    have k0 := bk1.cell 0
    have k1 := bk1.cell 1
    have k2 := bk1.cell 2
    have k3 := bk1.cell 3
    simp only [List.getElem?_toArray, List.getElem?_cons_zero, List.getElem?_cons_succ] at k0 k1 k2 k3
    clear k0 k1 k2 k3
    go_wp2_with fail
    refine (awake_any _).mono ?_
    rintro e w2 ⟨rfl, hb2⟩
    go_wp2
    go_ret
    exact ⟨rfl, bstep hw1 hw1.size hb2⟩
end Go.Proofs.Ytgiphdjblnfjcaa
