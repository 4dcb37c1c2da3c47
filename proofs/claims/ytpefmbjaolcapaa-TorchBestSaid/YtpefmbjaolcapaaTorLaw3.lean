/- Chapter 26: the law on Best: Check accepts it, and no permitted order is shorter, or as short and first, by walking its text. -/
import Derived.Test.YtpefmbjaolcapaaTorLaw2
import Derived.Test.YtpefmbjaolcapaaTorOpt
import Derived.Test.YtpefmbjaolcapaaTorSort
import Derived.Test.YtpefmbjaolcapaaTorRg
set_option linter.unusedSimpArgs false
namespace Go.Proofs.Ytpefmbjaolcapaa
open Go Go.RowKit

set_option maxRecDepth 100000 in
set_option maxHeartbeats 4000000 in
theorem best_law (vs vo : Value) (shapes : List Shp) (order : List Pt) (w : World) (hs : shpsR.R w (Lt w) shapes [vs]) (ho : prR.slice.R w (Lt w) order [vo]) :
    Calls Try.prog 7 #[vs, vo] w (Ret (.bool true) w) := by
  obtain ⟨A, d, rfl, hm, -⟩ := slice_inv hs
  obtain ⟨B, d', rfl, hm', -⟩ := slice_inv ho
  rcases Bool.eq_false_or_eq_true (fewF shapes) with hf | hf
  · have HF := Lib.hid hf
    have HSM := Lib.hid (few_small hf)
    have HBD := Lib.hid (ct_bd HSM.out)
    have hcl := contours_len HSM.out
    clear hf
    by_cases h1 : 12 < shapes.length
    · have h1' : (12 : Int) < (shapes.length : Int) := by omega
      go_enter Try.func7, Try.ntmps7
      go_wp2_with fail
      refine (few_any _ shapes _ hs).mono ?_
      rintro e w1 ⟨he, hw1⟩
      rw [HF.out] at he
      subst he
      go_wp2_with fail
      refine (awake_any _).mono ?_
      rintro e w7 ⟨rfl, hq⟩
      have hw7 := bstep hw1 hw1.size hq
      go_wp2
      go_ret
      exact ⟨rfl, hw7⟩
    · have h1' : ¬ (12 : Int) < (shapes.length : Int) := by omega
      by_cases h9 : 9 < (contoursF shapes).length
      · have HB := Lib.hid (bestF_many h9)
        have h9' : (9 : Int) < ((contoursF shapes).length : Int) := by omega
        go_enter Try.func7, Try.ntmps7
        go_wp2_with fail
        refine (few_any _ shapes _ hs).mono ?_
        rintro e w1 ⟨he, hw1⟩
        rw [HF.out] at he
        subst he
        go_wp2_with fail
        refine (contours_any A _ d shapes _ (Rep.below hs hw1) HSM.out).mono ?_
        rintro e w2 ⟨v2, rfl, hown2, hq⟩
        obtain ⟨A2, c2, rfl⟩ := own_slice hown2
        have hw2 := bstep hw1 hw1.size hq
        clear hown2 hq hw1
        go_wp2_with fail
        have hC := best_any A _ d shapes _ (Rep.below hs hw2) HSM.out
        rw [HB.out] at hC
        refine hC.mono ?_
        rintro e w3 ⟨v3, rfl, hv3, hq⟩
        obtain ⟨A3, c3, rfl, -, -⟩ := slice_inv hv3
        have hw3 := bstep hw2 hw2.size hq
        clear hC hq hw2
        go_wp2_with fail
        refine (awake_any _).mono ?_
        rintro e w7 ⟨rfl, hq⟩
        have hw7 := bstep hw3 hw3.size hq
        go_wp2
        go_ret
        exact ⟨rfl, hw7⟩
      · obtain ⟨hbf, hbl, hbc, hbt⟩ := best_facts h9
        have HB := Lib.hid hbf
        have HBL := Lib.hid hbl
        have HBT := Lib.hid hbt
        have HGC := Lib.hid (greedy_check h9)
        obtain ⟨-, K, hgt, hKN, -, -⟩ := best_order HGC.out
        have HGT := Lib.hid hgt
        obtain ⟨ck, hck⟩ : ∃ r, checkT (contoursF shapes) order = r := ⟨_, rfl⟩
        have HCK := Lib.hid hck
        have h9' : ¬ (9 : Int) < ((contoursF shapes).length : Int) := by omega
        generalize hN : bestN shapes = N at *
        generalize hL : bestL shapes = L at *
        have hKN' : ¬ K < N := by omega
        have hNN : (N == N) = true := by simp
        have hNe : (N != N) = false := by simp
        clear hbf hbl hbc hbt hgt hck
        by_cases hck : ck = 0
        · subst hck
          obtain ⟨hol, T, hot, hTN, heq, hlex⟩ := best_order HCK.out
          rw [hN, hL] at *
          have HOT := Lib.hid hot
          have HEQ := Lib.hid heq
          have HLX := Lib.hid hlex
          have hTN' : ¬ T < N := by omega
          have hlen : ((order.length : Int) != (L.length : Int)) = false := by have := HBL.out; simp; omega
          have HLL : Hid (L.length = order.length) := by show _ = _; have := HBL.out; omega
          clear hot heq hlex hol
          go_enter Try.func7, Try.ntmps7
          go_wp2_with fail
          refine (few_any _ shapes _ hs).mono ?_
          rintro e w1 ⟨he, hw1⟩
          rw [HF.out] at he
          subst he
          go_wp2_with fail
          refine (contours_any A _ d shapes _ (Rep.below hs hw1) HSM.out).mono ?_
          rintro e w2 ⟨v2, rfl, hown2, hq⟩
          have hv2 := own_prs hown2 HBD.out
          obtain ⟨A2, c2, rfl⟩ := own_slice hown2
          have hw2 := bstep hw1 hw1.size hq
          clear hown2 hq hw1
          go_wp2_with fail
          have hC := best_any A _ d shapes _ (Rep.below hs hw2) HSM.out
          rw [HB.out] at hC
          refine hC.mono ?_
          rintro e w3 ⟨v3, rfl, hv3, hq⟩
          have hv3 : prR.slice.R w3 (Lt w3) L [v3] := hv3
          obtain ⟨A3, c3, rfl, -, -⟩ := slice_inv hv3
          have hw3 := bstep hw2 hw2.size hq
          have hv2 := Rep.below hv2 hq
          clear hC hq hw2
          go_wp2_with fail
          have hC := travel_any _ _ shapes L _ (Rep.below hs hw3) hv3 HSM.out
          rw [HBT.out] at hC
          refine hC.mono ?_
          rintro e w4 ⟨rfl, hq⟩
          have hw4 := bstep hw3 hw3.size hq
          have hv2 := Rep.below hv2 hq
          have hv3 := Rep.below hv3 hq
          clear hC hq hw3
          go_wp2_with fail
          refine (greedyT_any _ shapes _ (Rep.below hs hw4) HSM.out).mono ?_
          rintro e w5 ⟨v5, rfl, hv5, hq⟩
          have hw5 := bstep hw4 hw4.size hq
          have hv2 := Rep.below hv2 hq
          have hv3 := Rep.below hv3 hq
          clear hq hw4
          go_wp2_with fail
          have hC := travel_any _ _ shapes _ _ (Rep.below hs hw5) hv5 HSM.out
          rw [HGT.out] at hC
          refine hC.mono ?_
          rintro e w6 ⟨rfl, hq⟩
          have hw6 := bstep hw5 hw5.size hq
          have hv2 := Rep.below hv2 hq
          have hv3 := Rep.below hv3 hq
          clear hC hq hw5 hv5
          go_wp2_with fail
          have hC := checkT_any _ _ shapes order _ (Rep.below hs hw6) (Rep.below ho hw6) HSM.out
          rw [HCK.out] at hC
          refine hC.mono ?_
          rintro e w7 ⟨rfl, hq⟩
          have hw7 := bstep hw6 hw6.size hq
          have hv2 := Rep.below hv2 hq
          have hv3 := Rep.below hv3 hq
          clear hC hq hw6
          go_wp2_with fail
          have hC := travel_any _ _ shapes order _ (Rep.below hs hw7) (Rep.below ho hw7) HSM.out
          rw [HOT.out] at hC
          refine hC.mono ?_
          rintro e w8 ⟨rfl, hq⟩
          have hw8 := bstep hw7 hw7.size hq
          have hv2 := Rep.below hv2 hq
          have hv3 := Rep.below hv3 hq
          have ho8 := Rep.below ho hw8
          clear hC hq hw7
          have q1 := ct_neq
          have q2 := ct_eqg
          go_wp2
          go_loopw [15] (fun i wr => ∃ k : Nat, k ≤ L.length ∧ i = .int .i64 k ∧ Hid (L.take k = order.take k) ∧ Below w8.heap.size w8 wr) (fun i _ => L.length - (intOf i).toNat)
          case atStart => exact ⟨0, Nat.zero_le _, rfl, rfl, Below.refl _ _⟩
          case round =>
            obtain ⟨k, hk, rfl, HT, hb⟩ := hrel
            by_cases hlt : k < L.length
            · have hv3r := Rep.below hv3 hb
              have hor := Rep.below ho8 hb
              obtain ⟨bl, ol, p, q, rfl, hxk, -, c0, c1, -⟩ := pairs_at hv3r hlt
              obtain ⟨bo, oo, p', q', rfl, hyk, -, d0, d1, -⟩ := pairs_at hor (k := k) (by have := HLL.out; omega)
              have hlt' : k < order.length := by have := HLL.out; omega
              by_cases he : (p, q) = (p', q')
              · injection he with e1 e2
                subst e1 e2
                have e3 : (p == p && q == q) = true := by simp
                go_wp2
                go_quiet (fail)
                go_wp2
                go_roundw
                case rel => exact ⟨k + 1, by omega, by go_num, take_ext HT.out hxk.out hyk.out, below_drewN hb _⟩
                case measure => simp [intOf]; omega
              · have HE := Lib.hid he
                have e3 := pr_ne he
                clear he
                have hbw := bstep hw8 hw8.size hb
                have hv2r := Rep.below hv2 hb
                by_cases hgt : N < T
                · have hgb : decide (N < T) = true := decide_eq_true hgt
                  go_wp2
                  go_quiet (fail)
                  go_wp2
                  refine wp_region_held_drew (S := (fun W => Below wr.heap.size wr W)) (by kernel_rfl) (Below.drew (below_drewN (Below.refl _ _) _)) (fun hH => ?_)
                  refine take_run (i := 0) (v := ?_) (by decide) (by kernel_rfl) (by kernel_rfl) (by kernel_rfl) (fun _ _ _ _ h => h) hH rfl ?_ ?_
                  rotate_left
                  · (intro w hSw; (try dsimp only at hSw); (try go_split_ands); simp only [List.getElem_toArray, List.getElem_cons_zero]; go_simp; try with_reducible rfl)
                  simp (config := { failIfUnchanged := false }) only [Act.put, List.setIfInBounds_toArray, List.set_cons_zero, List.set_cons_succ, List.getElem_toArray, List.getElem_cons_zero, List.getElem_cons_succ]
                  refine take_run (i := 1) (v := ?_) (by decide) (by kernel_rfl) (by kernel_rfl) (by kernel_rfl) (fun _ _ _ _ h => h) hH rfl ?_ ?_
                  rotate_left
                  · (intro w hSw; (try dsimp only at hSw); (try go_split_ands); simp only [List.getElem_toArray, List.getElem_cons_zero, List.getElem_cons_succ]; go_simp; try with_reducible rfl)
                  simp (config := { failIfUnchanged := false }) only [Act.put, List.setIfInBounds_toArray, List.set_cons_zero, List.set_cons_succ, List.getElem_toArray, List.getElem_cons_zero, List.getElem_cons_succ]
                  refine take_run (i := 2) (v := ?_) (by decide) (by kernel_rfl) (by kernel_rfl) (by kernel_rfl) (fun _ _ _ _ h => h) hH rfl ?_ ?_
                  rotate_left
                  · (intro w hSw; (try dsimp only at hSw); (try go_split_ands); simp only [List.getElem_toArray, List.getElem_cons_zero, List.getElem_cons_succ]; go_simp; try with_reducible rfl)
                  simp (config := { failIfUnchanged := false }) only [Act.put, List.setIfInBounds_toArray, List.set_cons_zero, List.set_cons_succ, List.getElem_toArray, List.getElem_cons_zero, List.getElem_cons_succ]
                  refine take_run (i := 3) (v := ?_) (by decide) (by kernel_rfl) (by kernel_rfl) (by kernel_rfl) (fun _ _ _ _ h => h) hH rfl ?_ ?_
                  rotate_left
                  · (intro w hSw; (try dsimp only at hSw); (try go_split_ands); simp only [List.getElem_toArray, List.getElem_cons_zero, List.getElem_cons_succ]; go_simp; try with_reducible rfl)
                  simp (config := { failIfUnchanged := false }) only [Act.put, List.setIfInBounds_toArray, List.set_cons_zero, List.set_cons_succ, List.getElem_toArray, List.getElem_cons_zero, List.getElem_cons_succ]
                  refine take_skip (i := 4) (by decide) (by kernel_rfl) (by kernel_rfl) (by kernel_rfl) (fun _ _ _ _ h => h) hH rfl ?_
                  simp (config := { failIfUnchanged := false }) only [Act.put, List.setIfInBounds_toArray, List.set_cons_zero, List.set_cons_succ, List.getElem_toArray, List.getElem_cons_zero, List.getElem_cons_succ]
                  refine take_skip (i := 5) (by decide) (by kernel_rfl) (by kernel_rfl) (by kernel_rfl) (fun _ _ _ _ h => h) hH rfl ?_
                  simp (config := { failIfUnchanged := false }) only [Act.put, List.setIfInBounds_toArray, List.set_cons_zero, List.set_cons_succ, List.getElem_toArray, List.getElem_cons_zero, List.getElem_cons_succ]
                  refine take_skip (i := 6) (by decide) (by kernel_rfl) (by kernel_rfl) (by kernel_rfl) (fun _ _ _ _ h => h) hH rfl ?_
                  simp (config := { failIfUnchanged := false }) only [Act.put, List.setIfInBounds_toArray, List.set_cons_zero, List.set_cons_succ, List.getElem_toArray, List.getElem_cons_zero, List.getElem_cons_succ]
                  refine take_skip (i := 7) (by decide) (by kernel_rfl) (by kernel_rfl) (by kernel_rfl) (fun _ _ _ _ h => h) hH rfl ?_
                  simp (config := { failIfUnchanged := false }) only [Act.put, List.setIfInBounds_toArray, List.set_cons_zero, List.set_cons_succ, List.getElem_toArray, List.getElem_cons_zero, List.getElem_cons_succ]
                  refine take_skip (i := 8) (by decide) (by kernel_rfl) (by kernel_rfl) (by kernel_rfl) (fun _ _ _ _ h => h) hH rfl ?_
                  simp (config := { failIfUnchanged := false }) only [Act.put, List.setIfInBounds_toArray, List.set_cons_zero, List.set_cons_succ, List.getElem_toArray, List.getElem_cons_zero, List.getElem_cons_succ]
                  refine take_skip (i := 9) (by decide) (by kernel_rfl) (by kernel_rfl) (by kernel_rfl) (fun _ _ _ _ h => h) hH rfl ?_
                  simp (config := { failIfUnchanged := false }) only [Act.put, List.setIfInBounds_toArray, List.set_cons_zero, List.set_cons_succ, List.getElem_toArray, List.getElem_cons_zero, List.getElem_cons_succ]
                  refine take_skip (i := 10) (by decide) (by kernel_rfl) (by kernel_rfl) (by kernel_rfl) (fun _ _ _ _ h => h) hH rfl ?_
                  simp (config := { failIfUnchanged := false }) only [Act.put, List.setIfInBounds_toArray, List.set_cons_zero, List.set_cons_succ, List.getElem_toArray, List.getElem_cons_zero, List.getElem_cons_succ]
                  refine take_skip (i := 11) (by decide) (by kernel_rfl) (by kernel_rfl) (by kernel_rfl) (fun _ _ _ _ h => h) hH rfl ?_
                  simp (config := { failIfUnchanged := false }) only [Act.put, List.setIfInBounds_toArray, List.set_cons_zero, List.set_cons_succ, List.getElem_toArray, List.getElem_cons_zero, List.getElem_cons_succ]
                  refine take_skip (i := 12) (by decide) (by kernel_rfl) (by kernel_rfl) (by kernel_rfl) (fun _ _ _ _ h => h) hH rfl ?_
                  simp (config := { failIfUnchanged := false }) only [Act.put, List.setIfInBounds_toArray, List.set_cons_zero, List.set_cons_succ, List.getElem_toArray, List.getElem_cons_zero, List.getElem_cons_succ]
                  refine take_skip (i := 13) (by decide) (by kernel_rfl) (by kernel_rfl) (by kernel_rfl) (fun _ _ _ _ h => h) hH rfl ?_
                  simp (config := { failIfUnchanged := false }) only [Act.put, List.setIfInBounds_toArray, List.set_cons_zero, List.set_cons_succ, List.getElem_toArray, List.getElem_cons_zero, List.getElem_cons_succ]
                  refine take_skip (i := 14) (by decide) (by kernel_rfl) (by kernel_rfl) (by kernel_rfl) (fun _ _ _ _ h => h) hH rfl ?_
                  simp (config := { failIfUnchanged := false }) only [Act.put, List.setIfInBounds_toArray, List.set_cons_zero, List.set_cons_succ, List.getElem_toArray, List.getElem_cons_zero, List.getElem_cons_succ]
                  refine take_skip (i := 15) (by decide) (by kernel_rfl) (by kernel_rfl) (by kernel_rfl) (fun _ _ _ _ h => h) hH rfl ?_
                  simp (config := { failIfUnchanged := false }) only [Act.put, List.setIfInBounds_toArray, List.set_cons_zero, List.set_cons_succ, List.getElem_toArray, List.getElem_cons_zero, List.getElem_cons_succ]
                  refine take_skip (i := 16) (by decide) (by kernel_rfl) (by kernel_rfl) (by kernel_rfl) (fun _ _ _ _ h => h) hH rfl ?_
                  simp (config := { failIfUnchanged := false }) only [Act.put, List.setIfInBounds_toArray, List.set_cons_zero, List.set_cons_succ, List.getElem_toArray, List.getElem_cons_zero, List.getElem_cons_succ]
                  refine take_run (i := 17) (v := ?_) (by decide) (by kernel_rfl) (by kernel_rfl) (by kernel_rfl) (fun _ _ _ _ h => h) hH rfl ?_ ?_
                  rotate_left
                  · (intro w hSw; (try dsimp only at hSw); (try go_split_ands); simp only [List.getElem_toArray, List.getElem_cons_zero, List.getElem_cons_succ]; go_simp; try with_reducible rfl)
                  simp (config := { failIfUnchanged := false }) only [Act.put, List.setIfInBounds_toArray, List.set_cons_zero, List.set_cons_succ, List.getElem_toArray, List.getElem_cons_zero, List.getElem_cons_succ]
                  refine take_run (i := 18) (v := ?_) (by decide) (by kernel_rfl) (by kernel_rfl) (by kernel_rfl) (fun _ _ _ _ h => h) hH rfl ?_ ?_
                  rotate_left
                  · (intro w hSw; (try dsimp only at hSw); (try go_split_ands); simp only [List.getElem_toArray, List.getElem_cons_zero, List.getElem_cons_succ]; go_simp; try with_reducible rfl)
                  simp (config := { failIfUnchanged := false }) only [Act.put, List.setIfInBounds_toArray, List.set_cons_zero, List.set_cons_succ, List.getElem_toArray, List.getElem_cons_zero, List.getElem_cons_succ]
                  refine take_call (i := 19) (by decide) (by kernel_rfl) (fun K hK => ?_)
                  simp only [List.getElem_toArray, List.getElem_cons_zero, List.getElem_cons_succ]
                  go_simp
                  refine (awake_any _).mono ?_
                  rintro e w9 ⟨rfl, hq⟩
                  have hS : Below wr.heap.size wr w9 := bstep hH hH.size hq
                  refine hK.out _ _ hS (fun hH => ?_)
                  clear hK K hS
                  try simp (config := { failIfUnchanged := false }) only [Act.put, List.setIfInBounds_toArray, List.set_cons_zero, List.set_cons_succ, List.getElem_toArray, List.getElem_cons_zero, List.getElem_cons_succ]
                  refine take_run (i := 20) (v := ?_) (by decide) (by kernel_rfl) (by kernel_rfl) (by kernel_rfl) (fun _ _ _ _ h => h) hH rfl ?_ ?_
                  rotate_left
                  · (intro w hSw; (try dsimp only at hSw); (try go_split_ands); simp only [List.getElem_toArray, List.getElem_cons_zero, List.getElem_cons_succ]; go_simp; try with_reducible rfl)
                  simp (config := { failIfUnchanged := false }) only [Act.put, List.setIfInBounds_toArray, List.set_cons_zero, List.set_cons_succ, List.getElem_toArray, List.getElem_cons_zero, List.getElem_cons_succ]
                  refine take_run (i := 21) (v := ?_) (by decide) (by kernel_rfl) (by kernel_rfl) (by kernel_rfl) (fun _ _ _ _ h => h) hH rfl ?_ ?_
                  rotate_left
                  · (intro w hSw; (try dsimp only at hSw); (try go_split_ands); simp only [List.getElem_toArray, List.getElem_cons_zero, List.getElem_cons_succ]; go_simp; try with_reducible rfl)
                  simp (config := { failIfUnchanged := false }) only [Act.put, List.setIfInBounds_toArray, List.set_cons_zero, List.set_cons_succ, List.getElem_toArray, List.getElem_cons_zero, List.getElem_cons_succ]
                  refine wpAnyH_done (by kernel_rfl) ?_ _
                  go_wp2
                  go_ret
                  exact ⟨rfl, bstep hbw hbw.size hH⟩
                · obtain ⟨cl, co, hcl', hco', hix⟩ := HLX.out k (by have := HBL.out; omega) HT.out (by rw [hxk.out, hyk.out]; intro e; injection e with e; exact HE.out e) (by omega)
                  have e5 : cl = (p, q) := by have := hcl'.symm.trans hxk.out; injection this
                  have e6 : co = (p', q') := by have := hco'.symm.trans hyk.out; injection this
                  rw [e5, e6] at hix
                  obtain ⟨i1, hi1⟩ : ∃ r, idxC (contoursF shapes) (p, q) = r := ⟨_, rfl⟩
                  obtain ⟨i2, hi2⟩ : ∃ r, idxC (contoursF shapes) (p', q') = r := ⟨_, rfl⟩
                  rw [hi1, hi2] at hix
                  have hgb : decide (N < T) = false := decide_eq_false hgt
                  have hib : decide (i1 < i2) = true := decide_eq_true hix
                  have HP1 : Hid (∀ W, Below wr.heap.size wr W → Calls Try.prog 26 #[.slice A2 (contoursF shapes).length c2, .agg #[.int .i64 p, .int .i64 q]] W (Ret (.int .i64 i1) W)) := fun W h => by
                    rw [← hi1]; exact place_any _ _ p q W (Rep.below hv2r h)
                  have HP2 : Hid (∀ W, Below wr.heap.size wr W → Calls Try.prog 26 #[.slice A2 (contoursF shapes).length c2, .agg #[.int .i64 p', .int .i64 q']] W (Ret (.int .i64 i2) W)) := fun W h => by
                    rw [← hi2]; exact place_any _ _ p' q' W (Rep.below hv2r h)
                  have HS : Hid (∀ W, Below wr.heap.size wr W → Below wr.heap.size wr W ∧ W.cell? ⟨bl, ol + k * 2, none⟩ = some (.int .i64 p) ∧ W.cell? ⟨bl, ol + k * 2 + 1, none⟩ = some (.int .i64 q) ∧ W.cell? ⟨bo, oo + k * 2, none⟩ = some (.int .i64 p') ∧ W.cell? ⟨bo, oo + k * 2 + 1, none⟩ = some (.int .i64 q')) := fun W h => ⟨h, bget h c0, bget h c1, bget h d0, bget h d1⟩
                  have HD0 : Hid (∀ m, Below wr.heap.size wr (wr.drewN m)) := fun m => below_drewN (Below.refl _ _) m
                  clear hi1 hi2 hcl' hco' e5 e6
                  go_wp2
                  go_quiet (fail)
                  go_wp2
                  go_region_held3 (fun W => Below wr.heap.size wr W ∧ W.cell? ⟨bl, ol + k * 2, none⟩ = some (.int .i64 p) ∧ W.cell? ⟨bl, ol + k * 2 + 1, none⟩ = some (.int .i64 q) ∧ W.cell? ⟨bo, oo + k * 2, none⟩ = some (.int .i64 p') ∧ W.cell? ⟨bo, oo + k * 2 + 1, none⟩ = some (.int .i64 q'))
                    (first
                      | exact HS.out _ (Below.drew (below_drewN (Below.refl _ _) _))
                      | exact HS.out _ (HD0.out _)
                      | exact HS.out _ hSa)
                    (first
                      | (go_at_call 26
                         (with_reducible refine (HP1.out _ (HD0.out _)).mono ?_)
                         rintro e W1 ⟨rfl, hq⟩
                         have hSa := bstep (HD0.out _) (HD0.out _).size hq)
                      | (go_at_call 26
                         (with_reducible refine (HP2.out _ (HD0.out _)).mono ?_)
                         rintro e W1 ⟨rfl, hq⟩
                         have hSa := bstep (HD0.out _) (HD0.out _).size hq)
                      | (go_at_call 26
                         (with_reducible refine (HP1.out _ hSa).mono ?_)
                         rintro e W2 ⟨rfl, hq⟩
                         have hSa := bstep hSa hSa.size hq)
                      | (go_at_call 26
                         (with_reducible refine (HP2.out _ hSa).mono ?_)
                         rintro e W2 ⟨rfl, hq⟩
                         have hSa := bstep hSa hSa.size hq)
                      | (go_at_call 11
                         (with_reducible refine (awake_any _).mono ?_)
                         rintro e W3 ⟨rfl, hq⟩
                         have hSa := bstep hSa hSa.size hq))
                  all_goals
                    have hfin := bstep hbw hbw.size hSa
                    go_wp2
                    go_ret
                    exact ⟨rfl, hfin⟩
            · obtain rfl : k = L.length := by omega
              have HTT : Hid (T = N) := HEQ.out (by
                have h := HT.out
                rw [List.take_of_length_le (Nat.le_refl _), List.take_of_length_le (by have := HLL.out; omega)] at h
                exact h.symm)
              have hTe : (T == N) = true := by have := HTT.out; simp [this]
              have hbw := bstep hw8 hw8.size hb
              go_wp2_with fail
              refine (awake_any _).mono ?_
              rintro e w9 ⟨rfl, hq⟩
              have hw9 := bstep hbw hbw.size hq
              go_wp2
              go_ret
              exact ⟨rfl, hw9⟩
        · have hck' : (ck != 0) = true := by simpa using hck
          go_enter Try.func7, Try.ntmps7
          go_wp2_with fail
          refine (few_any _ shapes _ hs).mono ?_
          rintro e w1 ⟨he, hw1⟩
          rw [HF.out] at he
          subst he
          go_wp2_with fail
          refine (contours_any A _ d shapes _ (Rep.below hs hw1) HSM.out).mono ?_
          rintro e w2 ⟨v2, rfl, hown2, hq⟩
          obtain ⟨A2, c2, rfl⟩ := own_slice hown2
          have hw2 := bstep hw1 hw1.size hq
          clear hown2 hq hw1
          go_wp2_with fail
          have hC := best_any A _ d shapes _ (Rep.below hs hw2) HSM.out
          rw [HB.out] at hC
          refine hC.mono ?_
          rintro e w3 ⟨v3, rfl, hv3, hq⟩
          have hv3 : prR.slice.R w3 (Lt w3) L [v3] := hv3
          obtain ⟨A3, c3, rfl, -, -⟩ := slice_inv hv3
          have hw3 := bstep hw2 hw2.size hq
          clear hC hq hw2
          go_wp2_with fail
          have hC := travel_any _ _ shapes L _ (Rep.below hs hw3) hv3 HSM.out
          rw [HBT.out] at hC
          refine hC.mono ?_
          rintro e w4 ⟨rfl, hq⟩
          have hw4 := bstep hw3 hw3.size hq
          clear hC hq hw3
          go_wp2_with fail
          refine (greedyT_any _ shapes _ (Rep.below hs hw4) HSM.out).mono ?_
          rintro e w5 ⟨v5, rfl, hv5, hq⟩
          have hw5 := bstep hw4 hw4.size hq
          clear hq hw4
          go_wp2_with fail
          have hC := travel_any _ _ shapes _ _ (Rep.below hs hw5) hv5 HSM.out
          rw [HGT.out] at hC
          refine hC.mono ?_
          rintro e w6 ⟨rfl, hq⟩
          have hw6 := bstep hw5 hw5.size hq
          clear hC hq hw5 hv5
          go_wp2_with fail
          have hC := checkT_any _ _ shapes order _ (Rep.below hs hw6) (Rep.below ho hw6) HSM.out
          rw [HCK.out] at hC
          refine hC.mono ?_
          rintro e w7 ⟨rfl, hq⟩
          have hw7 := bstep hw6 hw6.size hq
          clear hC hq hw6
          go_wp2_with fail
          refine (awake_any _).mono ?_
          rintro e w8 ⟨rfl, hq⟩
          have hw8 := bstep hw7 hw7.size hq
          go_wp2
          go_ret
          exact ⟨rfl, hw8⟩
  · have HF := Lib.hid hf
    clear hf
    go_enter Try.func7, Try.ntmps7
    go_wp2_with fail
    refine (few_any _ shapes _ hs).mono ?_
    rintro e w1 ⟨he, hw1⟩
    rw [HF.out] at he
    subst he
    go_wp2_with fail
    refine (awake_any _).mono ?_
    rintro e w7 ⟨rfl, hq⟩
    have hw7 := bstep hw1 hw1.size hq
    go_wp2
    go_ret
    exact ⟨rfl, hw7⟩
end Go.Proofs.Ytpefmbjaolcapaa
