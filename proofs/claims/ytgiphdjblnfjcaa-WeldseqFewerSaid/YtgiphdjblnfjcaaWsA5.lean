/- Chapter 34: Greedy, by walking the reference's text. -/
import Derived.Test.YtgiphdjblnfjcaaWsA4
namespace Go.Proofs.Ytgiphdjblnfjcaa
open Go Go.RowKit

theorem best_none {U : List Int → Int} {before : List (Int × Int)} {b : List Int} : ∀ {k : Nat}, bestTo U before b k = none → ∀ v : Nat, v < k → freeB before b (v : Int) = false
  | 0, _, v, hv => absurd hv (by omega)
  | k + 1, h, v, hv => by
    rcases Bool.eq_false_or_eq_true (freeB before b (k : Int)) with hf | hf
    · cases h0 : bestTo U before b k with
      | none => rw [best_first hf h0] at h; cases h
      | some p =>
        obtain ⟨j', m'⟩ := p
        by_cases hm : U (b ++ [(k : Int)]) < m'
        · rw [best_less hf h0 hm] at h; cases h
        · rw [best_keep hf h0 hm] at h; cases h
    · rw [best_no hf] at h
      by_cases hvk : v = k
      · subst hvk; exact hf
      · exact best_none h v (by omega)
theorem best_some {U : List Int → Int} {before : List (Int × Int)} {n : Nat} {b : List Int} (h : orderE n before = 0) (hB : Beg n b) (hb : b.length < n) : ∃ j m, bestTo U before b n = some (j, m) := by
  cases h0 : bestTo U before b n with
  | none =>
    obtain ⟨v, hv, hf⟩ := ok_free h hB hb
    rw [best_none h0 v hv] at hf
    cases hf
  | some p => exact ⟨p.1, p.2, rfl⟩
/-! ### 'append(append([]int{}, b...), k)' in a region that draws its order -/
theorem one_rep {w : World} {g : Nat} {k : Int} (h : Blk w g 3 #[.int .i64 k]) (hk : inI64 k) : Rep.int.slice.R w (Lt w) [k] [.slice (some ⟨g, 0, none⟩) 1 1] :=
  Blk.ints (xs := [k]) (by simpa [intsArr] using h) (fun x hx => by simp at hx; subst hx; exact hk) (by simp) (by omega)
theorem ap_own {w : World} {base : Nat} {v : Value} {b : List Int} (h : w.ownsRow base 3 Rep.int.size v (0 + b.length) ([] ++ b.flatMap intEnc)) : w.ownsRow base 3 1 v b.length (b.map (Value.int .i64)) := by
  have h2 : w.ownsRow base 3 1 v (0 + b.length) ([] ++ b.flatMap intEnc) := h
  simpa [fm_int] using h2
theorem ap_own2 {w : World} {base : Nat} {v : Value} {b : List Int} {k : Int} (h : w.ownsRow base 3 Rep.int.size v (b.length + [k].length) (b.map (Value.int .i64) ++ [k].flatMap intEnc)) (hb : ∀ x ∈ b ++ [k], inI64 x) : Rep.int.slice.R w (Lt w) (b ++ [k]) [v] :=
  own_ints (e := 3) (base := base) (n := b.length + 1) (by
    have h2 : w.ownsRow base 3 1 v (b.length + 1) (b.map (Value.int .i64) ++ [.int .i64 k]) := h
    simpa using h2) hb
theorem grown_below {w W W1 : World} {g B : Nat} (h : Below B w W) (hg : W.grownBy W1 (some g)) (hB : B ≤ W.heap.size) (hg0 : B ≤ g) : Below B w W1 := h.grown hg hB (fun j hj => by injection hj with hj; omega)
set_option maxRecDepth 100000 in
set_option maxHeartbeats 1000000 in
theorem refGreedy_any (vl vb : Value) (l : List Bead) (reach stiff : Int) (before : List (Int × Int)) (w : World) (hl : beadR.slice.R w (Lt w) l [vl]) (hb : prR.slice.R w (Lt w) before [vb]) :
    Calls Try.prog 15 #[vl, .agg #[.int .i64 reach, .int .i64 stiff], vb] w (GreedyPost l reach stiff before w) := by
  obtain ⟨A, c, rfl, hm, -⟩ := slice_inv hl
  obtain ⟨B, d, rfl, hmb, -⟩ := slice_inv hb
  have hw0 : Below w.heap.size w (w.alloc (.cells #[.int .i64 reach, .int .i64 stiff] 24)) := (Below.refl _ _).alloc (Nat.le_refl _) _
  by_cases hw : wrongF l reach stiff before = 0
  · have hb0 : (wrongF l reach stiff before != 0) = false := by simp [hw]
    have HG := Lib.hid (greedyF_yes hw)
    have hC := (wrongF_zero hw).1
    have HO := Lib.hid (wrongF_zero hw).2
    have HW := Lib.hid hw
    obtain ⟨h32, hr, hok⟩ := checkF_ok hC
    have HC := Lib.hid hC
    clear hw hC hok hr
    have hk0 := Blk.new w 24 #[.int .i64 reach, .int .i64 stiff]
    obtain ⟨i0, hi, hz0, hz1, hz2⟩ := info_parts int_info
    go_enter Try.func15, Try.ntmps15
    go_wp2_with fail
    refine (refWrong_any _ _ _ _ _ before _ (Rep.below hl hw0) (Rep.below hb hw0)).mono ?_
    rintro e w1 ⟨rfl, hb1⟩
    have hw1 := bstep hw0 hw0.size hb1
    have hk1 := hk0.below hb1 (by simp)
    go_wp2
    go_loopw [9] (fun v wr => ∃ b : List Int, Hid (Beg l.length b) ∧ Hid (greedyN (unevB l reach stiff) before l.length (l.length - b.length) b = greedyN (unevB l reach stiff) before l.length l.length []) ∧
        OwnI wr (w.heap.size + 1) v b ∧ Blk wr w.heap.size 24 #[.int .i64 reach, .int .i64 stiff] ∧ Below w.heap.size w wr) (fun v _ => l.length - sliceLen v)
    case atStart => exact ⟨[], Beg.nil _, rfl, World.ownsRow_nil _ _ _ _, hk1, hw1⟩
    case round =>
      obtain ⟨b, hB, hgr, hown, hbk, hbw⟩ := hrel
      have hBl := hB.out.len
      have HBI : Hid (∀ x ∈ b, inI64 x) := by
        show ∀ x ∈ b, inI64 x
        intro x hx
        have := hB.out.rng x hx
        unfold inI64; omega
      obtain ⟨F, cf, rfl⟩ := own_slice hown
      by_cases hlt : b.length < l.length
      · obtain ⟨j, m, hbt⟩ := best_some (U := unevB l reach stiff) HO.out hB.out hlt
        have HBT := Lib.hid hbt
        clear hbt
        go_wp2
        obtain ⟨wo, hwo⟩ : ∃ wo : World, wo = wr := ⟨_, rfl⟩
        subst hwo
        go_loopw [10, 11, 12] (fun v1 v2 i wr => ∃ k : Nat, k ≤ l.length ∧ i = .int .i64 k ∧ Hid (BestIs (bestTo (unevB l reach stiff) before b k) v1 v2) ∧ Below wo.heap.size wo wr) (fun _ _ i _ => l.length - (intOf i).toNat)
        case atStart => exact ⟨0, Nat.zero_le _, rfl, ⟨rfl, rfl⟩, Below.refl _ _⟩
        case round =>
          obtain ⟨k, hk, rfl, hbest, hbr⟩ := hrel
          have hzr := hbr.size
          by_cases hkl : k < l.length
          · have gw := hbk.below hbr hbk.lt
            have hbq := bstep hbw hbw.size hbr
            have hown' := own_below hown hbr
            have hvo' := own_ints hown' HBI.out
            rcases Bool.eq_false_or_eq_true (freeB before b (k : Int)) with hf | hf
            · have HS := Lib.hid (hB.out.snoc hkl (freeB_not hf))
              have HB1 := Lib.hid (fun h0 => best_first (U := unevB l reach stiff) hf h0)
              have HB2 := Lib.hid (fun j m h0 hm => best_less (U := unevB l reach stiff) (j := j) (m := m) hf h0 hm)
              have HB3 := Lib.hid (fun j m h0 hm => best_keep (U := unevB l reach stiff) (j := j) (m := m) hf h0 hm)
              generalize hfb : freeB before b (k : Int) = fb at *
              subst hf
              have HF := Lib.hid hfb
              clear hfb
              go_wp2_with fail
              refine (refFree_any _ _ before b _ _ (Rep.below hb hbq) hvo').mono ?_
              rintro e w3 ⟨he, hq3⟩
              rw [HF.out] at he
              subst he
              have g3 := gw.qt hq3
              have hb4 := bstep hbq hbq.size (hq3.below _)
              have hbr3 := bstep hbr hzr (hq3.below _)
              have hvo3 := Rep.below hvo' (hq3.below _)
              clear hq3
              have hg3 := g3.lt
              have k0 := g3.c20
              have k1 := g3.c21
              have HI : Hid (∀ x ∈ b ++ [(k : Int)], inI64 x) := by
                show ∀ x ∈ b ++ [(k : Int)], inI64 x
                intro x hx
                rcases List.mem_append.1 hx with hx | hx
                · exact HBI.out x hx
                · simp at hx; subst hx; unfold inI64; omega
              have HK : Hid (inI64 (k : Int)) := by show inI64 (k : Int); unfold inI64; omega
              have HS3 : Hid (∀ W, Below w3.heap.size w3 W → Below w3.heap.size w3 W ∧ W.cell? ⟨w.heap.size, 0, none⟩ = some (.int .i64 reach) ∧ W.cell? ⟨w.heap.size, 1, none⟩ = some (.int .i64 stiff)) :=
                fun W h => ⟨h, (h.cell (p := ⟨w.heap.size, 0, none⟩) hg3).trans k0, (h.cell (p := ⟨w.heap.size, 1, none⟩) hg3).trans k1⟩
              have bA : Below w3.heap.size w3 (w3.alloc (.cells #[] 3)).drew := ((Below.refl _ _).alloc (Nat.le_refl _) _).drew
              have bB : Below w3.heap.size w3 ((w3.alloc (.cells #[] 3)).alloc (.cells #[.int .i64 (k : Int)] 3)).drew := (((Below.refl _ _).alloc (Nat.le_refl _) _).alloc (by simp) _).drew
              have bC : Below w3.heap.size w3 ((w3.alloc (.cells #[.int .i64 (k : Int)] 3)).alloc (.cells #[] 3)).drew := (((Below.refl _ _).alloc (Nat.le_refl _) _).alloc (by simp) _).drew
              have bC0 : Below w3.heap.size w3 (w3.alloc (.cells #[.int .i64 (k : Int)] 3)).drew := ((Below.refl _ _).alloc (Nat.le_refl _) _).drew
              have oA : (w3.alloc (.cells #[] 3)).drew.ownsRow w3.heap.size 3 1 (.slice (some ⟨w3.heap.size, 0, none⟩) 0 0) 0 [] := made_int w3
              have oB : ((w3.alloc (.cells #[] 3)).alloc (.cells #[.int .i64 (k : Int)] 3)).drew.ownsRow w3.heap.size 3 1 (.slice (some ⟨w3.heap.size, 0, none⟩) 0 0) 0 [] := World.ownsRow.alloc (made_int w3) _
              have oC : ((w3.alloc (.cells #[.int .i64 (k : Int)] 3)).alloc (.cells #[] 3)).drew.ownsRow w3.heap.size 3 1 (.slice (some ⟨w3.heap.size + 1, 0, none⟩) 0 0) 0 [] := by
                have h := World.ownsRow_made (base := w3.heap.size) (e := 3) (size := 1) (w3.alloc (.cells #[.int .i64 (k : Int)] 3)) #[] 0 (by simp) (by unfold maxLen; omega) rfl
                simp only [World.size_alloc] at h
                exact h
              have nB : Blk ((w3.alloc (.cells #[] 3)).alloc (.cells #[.int .i64 (k : Int)] 3)).drew (w3.heap.size + 1) 3 #[.int .i64 (k : Int)] := by
                have h := Blk.new (w3.alloc (.cells #[] 3)) 3 #[.int .i64 (k : Int)]
                simp only [World.size_alloc] at h
                exact h
              have nC : Blk ((w3.alloc (.cells #[.int .i64 (k : Int)] 3)).alloc (.cells #[] 3)).drew w3.heap.size 3 #[.int .i64 (k : Int)] := (Blk.new w3 3 #[.int .i64 (k : Int)]).alloc _
              have HnB := Lib.hid nB
              have HnC := Lib.hid nC
              have HbA := Lib.hid bA
              have HbB := Lib.hid bB
              have HbC := Lib.hid bC
              have HbC0 := Lib.hid bC0
              have HoA := Lib.hid oA
              have HoB := Lib.hid oB
              have HoC := Lib.hid oC
              clear bA bB bC bC0 oA oB oC nB nC
              go_wp2
              go_region_held3 (fun W => Below w3.heap.size w3 W ∧ W.cell? ⟨w.heap.size, 0, none⟩ = some (.int .i64 reach) ∧ W.cell? ⟨w.heap.size, 1, none⟩ = some (.int .i64 stiff))
                (first
                  | exact ⟨(Below.refl _ _).drew, k0, k1⟩
                  | exact HS3.out _ HbA.out
                  | exact HS3.out _ HbB.out
                  | exact HS3.out _ HbC.out
                  | exact HS3.out _ HbC0.out
                  | exact HS3.out _ hSc
                  | exact HS3.out _ hSb
                  | exact HS3.out _ (hSa.alloc hSa.size _)
                  | exact HS3.out _ hSa)
                (first
                  | ((refine step_append_flat flat_int (by rfl) _ _ _ (by rfl) w3.heap.size 3 i0 (.int .i64 0) 8 Try.underlying28 hi hz0 hz1 hz2 rfl (.slice (some ⟨w3.heap.size, 0, none⟩) 0 0) 0 [] (by rfl) HoA.out b (by rfl) (Rep.below hvo3 HbA.out) (by omega) (by omega) (by simp) ?_
                      intro v1 W1 hown1 hg1
                      have hSa : Below w3.heap.size w3 W1 := grown_below HbA.out hg1 (by simp) (Nat.le_refl _)
                      have hown1 := ap_own hown1))
                  | ((refine step_append_flat flat_int (by rfl) _ _ _ (by rfl) w3.heap.size 3 i0 (.int .i64 0) 8 Try.underlying28 hi hz0 hz1 hz2 rfl (.slice (some ⟨w3.heap.size, 0, none⟩) 0 0) 0 [] (by rfl) HoB.out b (by rfl) (Rep.below hvo3 HbB.out) (by omega) (by omega) (by simp; omega) ?_
                      intro v1 W1 hown1 hg1
                      have hSa : Below w3.heap.size w3 W1 := grown_below HbB.out hg1 (by simp; omega) (Nat.le_refl _)
                      have hown1 := ap_own hown1
                      have hkr : Rep.int.slice.R W1 (Lt W1) [(k : Int)] [.slice (some ⟨w3.heap.size + 1, 0, none⟩) 1 1] := one_rep (Blk.grown HnB.out hg1 (fun e => by have e : w3.heap.size + 1 = w3.heap.size := Option.some.inj e; omega)) HK.out))
                  | ((refine step_append_flat flat_int (by rfl) _ _ _ (by rfl) w3.heap.size 3 i0 (.int .i64 0) 8 Try.underlying28 hi hz0 hz1 hz2 rfl (.slice (some ⟨w3.heap.size + 1, 0, none⟩) 0 0) 0 [] (by rfl) HoC.out b (by rfl) (Rep.below hvo3 HbC.out) (by omega) (by omega) (by simp; omega) ?_
                      intro v1 W1 hown1 hg1
                      have hSa : Below w3.heap.size w3 W1 := grown_below HbC.out hg1 (by simp; omega) (Nat.le_succ _)
                      have hown1 := ap_own hown1
                      have hkr : Rep.int.slice.R W1 (Lt W1) [(k : Int)] [.slice (some ⟨w3.heap.size, 0, none⟩) 1 1] := one_rep (Blk.grown HnC.out hg1 (fun e => by have e : w3.heap.size = w3.heap.size + 1 := Option.some.inj e; omega)) HK.out))
                  | ((refine step_append_flat flat_int (by rfl) _ _ _ (by rfl) w3.heap.size 3 i0 (.int .i64 0) 8 Try.underlying28 hi hz0 hz1 hz2 rfl _ _ _ (by rfl) hown1 [(k : Int)] (by rfl) hkr (by simp; omega) (by simp; omega) (by first | exact hSa.size | omega) ?_
                      intro v2 W2 hown2 hg2
                      have hSb : Below w3.heap.size w3 W2 := hSa.grown hg2 hSa.size (fun j hj => (World.ownsRow.lt hown1 j hj).1)
                      have hv2 := ap_own2 hown2 HI.out))
                  | ((refine step_append_flat flat_int (by rfl) _ _ _ (by rfl) w3.heap.size 3 i0 (.int .i64 0) 8 Try.underlying28 hi hz0 hz1 hz2 rfl _ _ _ (by rfl) (World.ownsRow.alloc hown1 _) [(k : Int)] (by rfl) (one_rep (Blk.new W1 3 #[.int .i64 (k : Int)]) HK.out) (by simp; omega) (by simp; omega) (by have := hSa.size; simp; omega) ?_
                      intro v2 W2 hown2 hg2
                      have hSb : Below w3.heap.size w3 W2 := (hSa.alloc hSa.size _).grown hg2 (by have := hSa.size; simp; omega) (fun j hj => (World.ownsRow.lt hown1 j hj).1)
                      have hv2 := ap_own2 hown2 HI.out))
                  | (go_at_call 31
                     refine (refUnev_any _ _ l reach stiff (b ++ [(k : Int)]) _ (Rep.below hl (bstep hb4 hb4.size hSb)) hv2 HC.out HS.out (by omega)).mono ?_
                     rintro e W3 ⟨rfl, hq⟩
                     have hSc := bstep hSb hSb.size hq))
              all_goals
                have hbr4 := bstep hbr3 hbr3.size hSc
                clear HbA HbB HbC HbC0 HoA HoB HoC HnB HnC hSc hSb hSa hown1 hg1 hown2 hg2 hv2
                cases hbt : bestTo (unevB l reach stiff) before b k with
                | none =>
                  have hbi := hbest.out
                  rw [hbt] at hbi
                  obtain ⟨rfl, rfl⟩ := hbi
                  have HN := Lib.hid (HB1.out hbt)
                  clear hbt
                  go_wp2
                  go_roundw
                  case rel => exact ⟨k + 1, by omega, by go_num, by show BestIs _ _ _; rw [HN.out]; exact ⟨rfl, rfl⟩, hbr4⟩
                  case measure => simp [intOf]; omega
                | some p =>
                  obtain ⟨j', m'⟩ := p
                  have hbi := hbest.out
                  rw [hbt] at hbi
                  obtain ⟨rfl, rfl⟩ := hbi
                  have hjl : j' < k := (best_lt hbt).1
                  have hjn : ¬ (j' : Int) < 0 := by omega
                  by_cases hm : unevB l reach stiff (b ++ [(k : Int)]) < m'
                  · have HN := Lib.hid (HB2.out j' m' hbt hm)
                    clear hbt
                    generalize unevB l reach stiff (b ++ [(k : Int)]) = u at *
                    go_wp2
                    go_roundw
                    case rel => exact ⟨k + 1, by omega, by go_num, by show BestIs _ _ _; rw [HN.out]; exact ⟨rfl, rfl⟩, hbr4⟩
                    case measure => simp [intOf]; omega
                  · have HN := Lib.hid (HB3.out j' m' hbt (by first | exact hm | omega))
                    clear hbt
                    generalize unevB l reach stiff (b ++ [(k : Int)]) = u at *
                    go_wp2
                    go_roundw
                    case rel => exact ⟨k + 1, by omega, by go_num, by show BestIs _ _ _; rw [HN.out]; exact ⟨rfl, rfl⟩, hbr4⟩
                    case measure => simp [intOf]; omega
            · have HN := Lib.hid (best_no (U := unevB l reach stiff) hf)
              generalize hfb : freeB before b (k : Int) = fb at *
              subst hf
              have HF := Lib.hid hfb
              clear hfb
              go_wp2_with fail
              refine (refFree_any _ _ before b _ _ (Rep.below hb hbq) hvo').mono ?_
              rintro e w3 ⟨he, hq3⟩
              rw [HF.out] at he
              subst he
              go_wp2
              go_roundw
              case rel => exact ⟨k + 1, by omega, by go_num, by show BestIs _ _ _; rw [HN.out]; exact hbest.out, bstep hbr hzr (hq3.below _)⟩
              case measure => simp [intOf]; omega
          · obtain rfl : k = l.length := by omega
            have hbi := hbest.out
            rw [HBT.out] at hbi
            obtain ⟨rfl, rfl⟩ := hbi
            have HN := Lib.hid (greedy_some HBT.out hB.out)
            have HN2 := Lib.hid (bbig hgr.out HBT.out hB.out)
            have hown' := own_below hown hbr
            have hbk' := hbk.below hbr hbk.lt
            have hbw' := bstep hbw hbw.size hbr
            have hz' := hbw'.size
            have hbl' := hbk'.lt
            go_wp2_with (at_builtin; refine wpList_append_own _ rfl _ _ 28 rfl (w.heap.size + 1) 3 i0 (.int .i64 0) 1 8 Try.underlying28 hi hz0 hz1 hz2 rfl (by decide) _ _ _ rfl (World.ownsRow.alloc hown' _) ⟨wr.heap.size, 0, none⟩ 1 1 [.int .i64 j] rfl rfl (new1_cells _ _ _) (one_oneCell rfl) (by unfold maxLen; omega) (by omega) (by simp; omega) ?_; intro v2 w2 hown2 hg2 _)
            go_roundw
            case rel =>
              exact ⟨b ++ [(j : Int)], HN.out.1, HN2.out, ownI_snoc hown2, Blk.grown (hbk'.alloc _) hg2 (fun e => by have := (World.ownsRow.lt hown' _ e.symm).1; omega), (hbw'.alloc hz' _).grown hg2 (by simp; omega) (fun j hj => by have := (World.ownsRow.lt hown' j hj).1; omega)⟩
            case measure =>
              obtain ⟨F2, c2, rfl⟩ := own_slice hown2
              simp [sliceLen]; omega
      · have hbe : b.length = l.length := by omega
        have HE : Hid (greedyN (unevB l reach stiff) before l.length l.length [] = b) := by
          show _ = b
          rw [← hgr.out, hbe, Nat.sub_self]; rfl
        clear hbe
        go_wp2
        go_ret2
        exact GreedyPost.of (by rw [HG.out, HE.out]) (own_ints hown HBI.out) hbw
  · have hb0 : (wrongF l reach stiff before != 0) = true := by simp [hw]
    have HG := Lib.hid (greedyF_bad hw)
    clear hw
    go_enter Try.func15, Try.ntmps15
    go_wp2_with fail
    refine (refWrong_any _ _ _ _ _ before _ (Rep.below hl hw0) (Rep.below hb hw0)).mono ?_
    rintro e w1 ⟨rfl, hb1⟩
    have hw1 := bstep hw0 hw0.size hb1
    go_wp2
    go_ret2
    exact GreedyPost.of HG.out (Rep.slice_nil _ _ _) hw1
end Go.Proofs.Ytgiphdjblnfjcaa
