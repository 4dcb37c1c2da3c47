/- Chapter 26: the law on exchanging two successive contours, by walking its text.  -/
import Derived.Test.YtpefmbjaolcapaaTorLaw4
import Derived.Test.YtpefmbjaolcapaaTorSwb
import Derived.Test.YtpefmbjaolcapaaTorSort
namespace Go.Proofs.Ytpefmbjaolcapaa
open Go Go.RowKit

theorem own_one (w : World) : OwnP (w.alloc (.cells #[.int .i64 0, .int .i64 0] 28)) w.heap.size 28 (.slice (some ⟨w.heap.size, 0, none⟩) 1 1) [((0 : Int), (0 : Int))] := by
  have h := Blk.new w 28 #[.int .i64 0, .int .i64 0]
  refine ⟨rfl, .inr ⟨w.heap.size, 1, #[.int .i64 0, .int .i64 0], rfl, Nat.le_refl _, h, ?_, ?_, ?_, ?_⟩⟩
  · exact Nat.le_refl 1
  · unfold maxLen; omega
  · rfl
  · rfl
theorem swap_facts {w wr w8 : World} {order : List Pt} {bo oo d i : Nat} {x1 x2 y1 y2 : Int} {v8 : Value} {E0 : List Pt} {c0 : Nat} (ho : prR.slice.R w (Lt w) order [.slice (some ⟨bo, oo, none⟩) order.length d]) (hbw : Below w.heap.size w wr) (hx : order[i]? = some (x1, x2)) (hy : order[i + 1]? = some (y1, y2))
    (hDo : Lt wr bo) (hown8 : w8.ownsRow wr.heap.size 24 prR.size v8 (0 + order.length) ([] ++ order.flatMap prEnc)) (hE0 : OwnP (wr.alloc (.cells #[] 24)) wr.heap.size 24 (.slice (some ⟨wr.heap.size, 0, none⟩) 0 c0) E0)
    (hg8 : (wr.alloc (.cells #[] 24)).grownBy w8 (Value.slice (some ⟨wr.heap.size, 0, none⟩) 0 c0).ownBlock) (hp : 0 < order.length) :
    ∃ g8 cap8, v8 = .slice (some ⟨g8, 0, none⟩) order.length cap8 ∧ wr.heap.size ≤ g8 ∧ g8 < w8.heap.size ∧ OwnP w8 wr.heap.size 24 (.slice (some ⟨g8, 0, none⟩) order.length cap8) order ∧ Below wr.heap.size wr w8 ∧
      w8.cell? ⟨bo, oo + i * 2, none⟩ = some (.int .i64 x1) ∧ w8.cell? ⟨bo, oo + i * 2 + 1, none⟩ = some (.int .i64 x2) ∧ w8.cell? ⟨bo, oo + (i + 1) * 2, none⟩ = some (.int .i64 y1) ∧ w8.cell? ⟨bo, oo + (i + 1) * 2 + 1, none⟩ = some (.int .i64 y2) ∧
      w8.cell? ⟨g8, i * 2, none⟩ = some (.int .i64 x1) ∧ w8.cell? ⟨g8, i * 2 + 1, none⟩ = some (.int .i64 x2) ∧ w8.cell? ⟨g8, (i + 1) * 2, none⟩ = some (.int .i64 y1) ∧ w8.cell? ⟨g8, (i + 1) * 2 + 1, none⟩ = some (.int .i64 y2) ∧
      w8.frozen? ⟨g8, i * 2, none⟩ = false ∧ w8.frozen? ⟨g8, i * 2 + 1, none⟩ = false ∧ w8.frozen? ⟨g8, (i + 1) * 2, none⟩ = false ∧ w8.frozen? ⟨g8, (i + 1) * 2 + 1, none⟩ = false ∧ ¬ bo = g8 ∧ ¬ g8 = bo := by
  have hO8 : OwnP w8 wr.heap.size 24 v8 order := by
    have h := hown8
    rw [Nat.zero_add, List.nil_append] at h
    exact h
  have hb8 : Below wr.heap.size wr w8 := ((Below.refl _ _).alloc (Nat.le_refl _) _).grown hg8 (by simp) (fun j hj => (World.ownsRow.lt hE0 j hj).1)
  obtain ⟨g8, cap8, rfl, hgb, hgl⟩ := own_form hO8 hp
  have hoq := Rep.below ho (bstep hbw hbw.size hb8)
  obtain ⟨x1', x2', hx', k0, k1⟩ := pairs_more hoq (show i < order.length from lt_of_get hx)
  obtain ⟨y1', y2', hy', k2, k3⟩ := pairs_more hoq (show i + 1 < order.length from lt_of_get hy)
  have e1 := hx'.out.symm.trans hx
  have e2 := hy'.out.symm.trans hy
  injection e1 with e1
  injection e1 with e3 e4
  injection e2 with e2
  injection e2 with e5 e6
  subst e3 e4 e5 e6
  have hne : bo < wr.heap.size := hDo
  exact ⟨g8, cap8, rfl, hgb, hgl, hO8, hb8, k0, k1, k2, k3, (own_at hO8 hx).1, (own_at hO8 hx).2, (own_at hO8 hy).1, (own_at hO8 hy).2, World.ownsRow.frozenAt hO8 _, World.ownsRow.frozenAt hO8 _, World.ownsRow.frozenAt hO8 _, World.ownsRow.frozenAt hO8 _, by omega, by omega⟩
set_option maxRecDepth 100000 in
set_option maxHeartbeats 4000000 in
theorem swaps_law (vs vo : Value) (k0 : Int) (shapes : List Shp) (order : List Pt) (kk : Int) (w : World) (hs : shpsR.R w (Lt w) shapes [vs]) (ho : prR.slice.R w (Lt w) order [vo]) (hk : Rep.u8i.R w (Lt w) kk [.int .u8 k0]) :
    Calls Try.prog 9 #[vs, vo, .int .u8 k0] w (Ret (.bool true) w) := by
  obtain ⟨e0, hk0, hk1⟩ := hk
  have e0 : k0 = kk := by simpa using e0
  subst e0
  obtain ⟨A, d, rfl, hm, -⟩ := slice_inv hs
  obtain ⟨B, d', rfl, hm', -⟩ := slice_inv ho
  rcases Bool.eq_false_or_eq_true (fewF shapes) with hf | hf
  · have HF := Lib.hid hf
    have HSM := Lib.hid (few_small hf)
    clear hf
    have hor : (12 < shapes.length) ∨ (¬ 12 < shapes.length ∧ order.length < 2) ∨ (¬ 12 < shapes.length ∧ ¬ order.length < 2 ∧ 100 < order.length) ∨ (¬ 12 < shapes.length ∧ ¬ order.length < 2 ∧ ¬ 100 < order.length) := by omega
    rcases hor with h1 | ⟨h1, h2⟩ | ⟨h1, h2, h3⟩ | ⟨h1, h2, h3⟩
    · have h1' : (12 : Int) < (shapes.length : Int) := by omega
      go_enter Try.func9, Try.ntmps9
      go_wp2_with fail
      refine (few_any _ shapes _ hs).mono ?_
      rintro e w1 ⟨he, hw1⟩
      rw [HF.out] at he
      subst he
      go_wp2_with fail
      refine (awake_any _).mono ?_
      rintro e w7 ⟨rfl, hq⟩
      have hw7 := bstep hw1 hw1.size hq
      go_wp2
      go_ret
      exact ⟨rfl, hw7⟩
    · have h1' : ¬ (12 : Int) < (shapes.length : Int) := by omega
      have h2' : (order.length : Int) < 2 := by omega
      go_enter Try.func9, Try.ntmps9
      go_wp2_with fail
      refine (few_any _ shapes _ hs).mono ?_
      rintro e w1 ⟨he, hw1⟩
      rw [HF.out] at he
      subst he
      go_wp2_with fail
      refine (awake_any _).mono ?_
      rintro e w7 ⟨rfl, hq⟩
      have hw7 := bstep hw1 hw1.size hq
      go_wp2
      go_ret
      exact ⟨rfl, hw7⟩
    · have h1' : ¬ (12 : Int) < (shapes.length : Int) := by omega
      have h2' : ¬ (order.length : Int) < 2 := by omega
      have h3' : (100 : Int) < (order.length : Int) := by omega
      go_enter Try.func9, Try.ntmps9
      go_wp2_with fail
      refine (few_any _ shapes _ hs).mono ?_
      rintro e w1 ⟨he, hw1⟩
      rw [HF.out] at he
      subst he
      go_wp2_with fail
      refine (awake_any _).mono ?_
      rintro e w7 ⟨rfl, hq⟩
      have hw7 := bstep hw1 hw1.size hq
      go_wp2
      go_ret
      exact ⟨rfl, hw7⟩
    · have h1' : ¬ (12 : Int) < (shapes.length : Int) := by omega
      have h2' : ¬ (order.length : Int) < 2 := by omega
      have h3' : ¬ (100 : Int) < (order.length : Int) := by omega
      obtain ⟨ck, hck⟩ : ∃ r, checkT (contoursF shapes) order = r := ⟨_, rfl⟩
      by_cases hc0 : ck = 0
      · obtain ⟨-, -, hfe⟩ := checkT_zero (hck.trans hc0)
        have hty := travelF_yes (hck.trans hc0)
        obtain ⟨N, hN⟩ : ∃ N, travelTo shapes (0, 0) order = N := ⟨_, rfl⟩
        rw [hN] at hty
        have HTR := Lib.hid hty
        have HMEM : Hid (∀ c ∈ order, c ∈ contoursF shapes) := fun c h => first_mem hfe c h
        have HGE : Hid (∀ c ∈ order, moveF (0, 0) (beginF shapes c) ≤ N) := fun c h => by rw [← hN]; exact travel_ge order (0, 0) c h
        have HFE := Lib.hid hfe
        have HNN := Lib.hid hN
        have HCK : Hid (checkT (contoursF shapes) order = 0) := hck.trans hc0
        obtain ⟨i0, hinf, hz0, hz1, hz2⟩ := info_parts pt_info
        clear hfe hck hc0 hty hN
        go_enter Try.func9, Try.ntmps9
        go_wp2_with fail
        refine (few_any _ shapes _ hs).mono ?_
        rintro e w1 ⟨he, hw1⟩
        rw [HF.out] at he
        subst he
        go_wp2_with fail
        have hC := travel_any _ _ shapes order _ (Rep.below hs hw1) (Rep.below ho hw1) HSM.out
        rw [HTR.out] at hC
        refine hC.mono ?_
        rintro e w2 ⟨rfl, hq⟩
        have hw2 := bstep hw1 hw1.size hq
        clear hC hq hw1
        have hown0 : OwnP (w2.alloc (.cells #[.int .i64 0, .int .i64 0] 28)) w2.heap.size 28 (.slice (some ⟨w2.heap.size, 0, none⟩) 1 1) [((0 : Int), (0 : Int))] :=
          own_one w2
        have hb0 := (Below.refl w2.heap.size w2).alloc (Nat.le_refl _) (.cells #[.int .i64 0, .int .i64 0] 28)
        go_wp2
        go_loopw [9, 10] (fun v i wr => ∃ k : Nat, k ≤ order.length ∧ i = .int .i64 k ∧ OwnP wr w2.heap.size 28 v ((0, 0) :: (order.take k).map (beginF shapes)) ∧ Below w2.heap.size w2 wr) (fun _ i _ => order.length - (intOf i).toNat)
        case atStart => exact ⟨0, Nat.zero_le _, rfl, by rw [List.take_zero]; exact hown0, hb0⟩
        case round =>
          obtain ⟨k, hk, rfl, hown, hb⟩ := hrel
          have hbw := bstep hw2 hw2.size hb
          by_cases hlt : k < order.length
          · obtain ⟨bo, oo, x, y, rfl, hxk, -, c0, c1, -⟩ := pairs_at (Rep.below ho hbw) hlt
            have hmo : (x, y) ∈ order := List.mem_of_getElem? hxk.out
            have hmc := HMEM.out _ hmo
            have hge := HGE.out _ hmo
            obtain ⟨⟨px, py⟩, hbg⟩ : ∃ r, beginF shapes (x, y) = r := ⟨_, rfl⟩
            have HST : Hid (startF shapes (x, y) = ((px, py), true)) := by
              show _ = _
              rw [start_yes (by simpa using hmc), hbg]
            have HNP : Hid (Near (px, py)) := by show Near _; rw [← hbg]; exact begin_near hmc
            rw [hbg] at hge
            obtain ⟨mv, hmv⟩ : ∃ r, moveF (0, 0) (px, py) = r := ⟨_, rfl⟩
            rw [hmv] at hge
            have HMV := Lib.hid hmv
            have HBG := Lib.hid hbg
            have hge' : ¬ N < mv := by omega
            have hged : decide (N < mv) = false := decide_eq_false hge'
            have hki : (k : Int) < (order.length : Int) := by omega
            clear hmo hmc hbg hmv hge
            go_wp2_with fail
            have hC := start_any _ _ _ shapes x y _ (Rep.below hs hbw) HSM.out
            rw [HST.out] at hC
            refine hC.mono ?_
            rintro e w3 ⟨he, hq⟩
            have he : e = .returned (.tuple #[.agg #[.int .i64 px, .int .i64 py], .bool true]) := he
            subst he
            have hb3 := (bstep hb hb.size hq).alloc (bstep hb hb.size hq).size (.cells #[.int .i64 px, .int .i64 py] 28)
            have hown3 := World.ownsRow.alloc (own_below hown hq) (.cells #[.int .i64 px, .int .i64 py] 28)
            have bp3 := Blk.new w3 28 #[.int .i64 px, .int .i64 py]
            have p0 := bp3.c20
            have p1 := bp3.c21
            clear hC hq
            go_wp2_with fail
            have hC : Calls Try.prog 27 #[.agg #[.int .i64 0, .int .i64 0], .agg #[.int .i64 px, .int .i64 py]] (w3.alloc (.cells #[.int .i64 px, .int .i64 py] 28)) (Ret (.int .i64 (moveF (0, 0) (px, py))) (w3.alloc (.cells #[.int .i64 px, .int .i64 py] 28))) := refMove_any (0, 0) (px, py) _ (by decide) (by decide) HNP.out.1 HNP.out.2
            rw [HMV.out] at hC
            refine hC.mono ?_
            rintro e w4 ⟨rfl, hq⟩
            have hb4 := bstep hb3 hb3.size hq
            have hown4 := own_below hown3 hq
            have bp4 := bp3.below hq bp3.lt
            have p0 := bp4.c20
            have p1 := bp4.c21
            have htl : ((0, 0) :: (order.take k).map (beginF shapes)).length = k + 1 := by rw [List.length_cons, List.length_map, List.length_take]; omega
            have HBX := Lib.hid hb4
            have hgs := hb4.size
            clear hC hq hown3 bp3 hb3
            go_wp2_with (at_builtin; refine wpList_append_own _ rfl _ _ 41 rfl w2.heap.size 28 i0 (.agg #[.int .i64 0, .int .i64 0]) 2 16 Try.underlying41 hinf hz0 hz1 hz2 rfl (by decide) _ _ _ rfl (World.ownsRow.alloc hown4 _) ⟨w4.heap.size, 0, none⟩ 1 1 [.int .i64 px, .int .i64 py] (by rfl) rfl (new_pr _ _ _ _) (pr_one _ _) (by unfold maxLen; omega) (by omega) (by simp; omega) ?_; intro v8 w8 hown8 hg8 _)
            have hb8 := (hb4.alloc hb4.size (.cells #[.int .i64 px, .int .i64 py] 28)).grown hg8 (by simp; omega) (fun j hj => (World.ownsRow.lt hown4 j hj).1)
            have htk : (0, 0) :: (order.take (k + 1)).map (beginF shapes) = ((0, 0) :: (order.take k).map (beginF shapes)) ++ [(px, py)] := by
              rw [take_one hxk.out, List.map_append, List.map_cons, List.map_nil, HBG.out, List.cons_append]
            go_roundw
            case rel => exact ⟨k + 1, by omega, by go_num, by rw [htk]; exact ownP_snoc hown8, hb8⟩
            case measure => simp [intOf]; omega
          · have hkL : k = order.length := by omega
            rw [hkL, List.take_length] at hown
            obtain ⟨i, hi, hil⟩ : ∃ i : Nat, k0 % ((order.length : Int) - 1) = (i : Int) ∧ i + 1 < order.length := by
              have h1 := Int.emod_nonneg k0 (b := (order.length : Int) - 1) (by omega)
              have h2 := Int.emod_lt_of_pos k0 (b := (order.length : Int) - 1) (by omega)
              exact ⟨(k0 % ((order.length : Int) - 1)).toNat, by omega, by omega⟩
            have hne : ¬ (order.length : Int) - 1 = 0 := by omega
            clear hkL
            obtain ⟨bo, oo, x1, x2, rfl, hxi, hDo, -, -, -⟩ := pairs_at (Rep.below ho hbw) (show i < order.length by omega)
            obtain ⟨y1, y2, hyi, -, -⟩ := pairs_more (Rep.below ho hbw) (show i + 1 < order.length by omega)
            have hbA : Below wr.heap.size wr (wr.alloc (.cells #[] 24)) := (Below.refl _ _).alloc (Nat.le_refl _) _
            have hoA := Rep.below ho (bstep hbw hbw.size hbA)
            have HBA := Lib.hid hbA
            have hE0 := own_empty wr wr.heap.size 24 (Nat.le_refl _)
            obtain ⟨ic, hic, hcz0, hcz1, hcz2⟩ := info_parts ct_info
            have hi1 : (i : Int) + 1 < (order.length : Int) := by omega
            have hi2 : (i : Int) < (order.length : Int) := by omega
            clear hbA
            have hlen : ((0, 0) :: List.map (beginF shapes) order).length = order.length + 1 := by simp
            obtain ⟨ga, capa, hu9, hga, hgal⟩ := own_form hown (by simp)
            rw [hlen] at hu9
            subst hu9
            have HLEN := Lib.hid hlen
            have HOW : Hid (prR.slice.R w (Lt w) order [.slice (some ⟨bo, oo, none⟩) order.length d'] ∧ Below w.heap.size w wr ∧ OwnP wr w2.heap.size 28 (.slice (some ⟨ga, 0, none⟩) (order.length + 1) capa) ((0, 0) :: List.map (beginF shapes) order) ∧ Below w2.heap.size w2 wr) := ⟨ho, hbw, hown, hb⟩
            clear hown hb hlen
            go_wp2_with (at_builtin; refine wpList_append_flat flat_pr rfl _ _ 32 rfl wr.heap.size 24 ic (.agg #[.int .i64 0, .int .i64 0]) 16 Try.underlying32 hic hcz0 hcz1 hcz2 rfl _ 0 [] rfl hE0 order rfl hoA (by omega) (by omega) (by simp) ?_; intro v8 w8 hown8 hg8; obtain ⟨g8, cap8, hv8, hgb, hgl, hO8, hb8, q0, q1, q2, q3, l0, l1, l2, l3, f0, f1, f2, f3, hgo, hgo'⟩ := swap_facts (i := i) HOW.out.1 HOW.out.2.1 hxi.out hyi.out hDo hown8 hE0 hg8 (by omega); subst hv8)
            obtain ⟨hoR, hbwR, hownR, hbR⟩ := HOW.out
            obtain ⟨other, hoth⟩ : ∃ r, (order.set i (y1, y2)).set (i + 1) (x1, x2) = r := ⟨_, rfl⟩
            have hO10 := own_set (own_set hO8 i (y1, y2)) (i + 1) (x1, x2)
            rw [hoth] at hO10
            have hlo : other.length = order.length := by rw [← hoth]; simp
            rw [hlo] at hO10
            obtain ⟨w10, hw10⟩ : ∃ W, W = ((((w8.setCell ⟨g8, i * 2, none⟩ (.int .i64 y1)).setCell ⟨g8, i * 2 + 1, none⟩ (.int .i64 y2)).setCell ⟨g8, (i + 1) * 2, none⟩ (.int .i64 x1)).setCell ⟨g8, (i + 1) * 2 + 1, none⟩ (.int .i64 x2)) := ⟨_, rfl⟩
            have hb10 : Below wr.heap.size wr w10 := by
              rw [hw10]
              exact (((hb8.setCell (p := ⟨g8, i * 2, none⟩) hgb _).setCell (p := ⟨g8, i * 2 + 1, none⟩) hgb _).setCell (p := ⟨g8, (i + 1) * 2, none⟩) hgb _).setCell (p := ⟨g8, (i + 1) * 2 + 1, none⟩) hgb _
            rw [← hw10] at hO10 ⊢
            have hbd : ∀ z ∈ other, inI64 z.1 ∧ inI64 z.2 := by
              intro z hz
              have hall := prs_bd hoR
              rw [← hoth] at hz
              rcases List.mem_or_eq_of_mem_set hz with hz | rfl
              · rcases List.mem_or_eq_of_mem_set hz with hz | rfl
                · exact hall _ hz
                · exact hall _ (List.mem_of_getElem? hyi.out)
              · exact hall _ (List.mem_of_getElem? hxi.out)
            have hro := own_prs hO10 hbd
            have hC := travel_any _ _ shapes other w10 (Rep.below hs (bstep hbwR hbwR.size hb10)) hro HSM.out
            have hchk := swap_check HCK.out hxi.out hyi.out
            rw [hoth] at hchk
            have hb10w := bstep hbwR hbwR.size hb10
            have hmx := HMEM.out _ (List.mem_of_getElem? hxi.out)
            have hmy := HMEM.out _ (List.mem_of_getElem? hyi.out)
            clear hw10 hO8 hb8 q0 q1 q2 q3 l0 l1 l2 l3 f0 f1 f2 f3 hgo hgo' hgb hgl hown8 hg8 hro hbd hO10 hE0 hoA
            rcases hchk with hck0 | ⟨hck11, hsp, hrg⟩
            · have h0' : Near ((0 : Int), (0 : Int)) := ⟨by decide, by decide⟩
              have hmo : ∀ c ∈ other, c ∈ contoursF shapes := first_mem (checkT_zero hck0).2.2
              have hM0 := travel_pos (shapes := shapes) other (0, 0)
              have hM1 := travel_le other (0, 0) h0' hmo
              have hN0 := travel_pos (shapes := shapes) order (0, 0)
              have hN1 := travel_le order (0, 0) h0' HMEM.out
              have hyes := travelF_yes hck0
              have hdend := swap_end (shapes := shapes) (a := (0, 0)) hxi.out hyi.out
              have hdmid := fun z => swap_mid (shapes := shapes) (a := (0, 0)) (z := z) hxi.out hyi.out
              rw [hoth] at hdend
              simp only [hoth] at hdmid
              rw [HNN.out] at hN0 hN1 hdend
              simp only [HNN.out] at hdmid
              rw [hlo] at hM1
              obtain ⟨M, hM⟩ : ∃ M, travelTo shapes (0, 0) other = M := ⟨_, rfl⟩
              rw [hM] at hM0 hM1 hdend hyes
              simp only [hM] at hdmid
              rw [hyes] at hC
              refine hC.mono ?_
              rintro e w11 ⟨rfl, hq⟩
              have hb11 := bstep hb10w hb10w.size hq
              have hown11 : OwnP w11 w2.heap.size 28 (.slice (some ⟨ga, 0, none⟩) ((0, 0) :: order.map (beginF shapes)).length capa) ((0, 0) :: order.map (beginF shapes)) := by
                rw [HLEN.out]
                exact own_below (own_below hownR hb10) hq
              have Npa := Lib.hid (lastB_near (order.take i) (0, 0) h0' (fun c hc => HMEM.out c (List.mem_of_mem_take hc)))
              have Npx := Lib.hid (begin_near hmx)
              have Npy := Lib.hid (begin_near hmy)
              obtain ⟨c0, c1⟩ := own_at hown11 (at_last (shapes := shapes) order (0, 0) i (by omega))
              obtain ⟨c2, c3⟩ := own_at hown11 (at_succ (shapes := shapes) (a := (0, 0)) hxi.out)
              obtain ⟨c4, c5⟩ := own_at hown11 (at_succ (shapes := shapes) (a := (0, 0)) hyi.out)
              have hM2 : M ≤ 219902325555200 := by omega
              have hN2 : N ≤ 219902325555200 := by omega
              clear hM1 hN1 hyes hM hck0 hmo hC
              obtain ⟨⟨pa1, pa2⟩, hpa⟩ : ∃ r, lastB shapes (0, 0) (order.take i) = r := ⟨_, rfl⟩
              obtain ⟨⟨px1, px2⟩, hpx⟩ : ∃ r, beginF shapes (x1, x2) = r := ⟨_, rfl⟩
              obtain ⟨⟨py1, py2⟩, hpy⟩ : ∃ r, beginF shapes (y1, y2) = r := ⟨_, rfl⟩
              rw [hpa] at c0 c1 Npa hdend
              rw [hpx] at c2 c3 Npx hdend
              rw [hpy] at c4 c5 Npy hdend
              simp only [hpa, hpx, hpy] at hdmid
              clear hpa hpx hpy
              obtain ⟨m1, hm1⟩ : ∃ r, moveF (pa1, pa2) (px1, px2) = r := ⟨_, rfl⟩
              obtain ⟨m2, hm2⟩ : ∃ r, moveF (pa1, pa2) (py1, py2) = r := ⟨_, rfl⟩
              have b1 := move_bd Npa.out Npx.out
              have b2 := move_bd Npa.out Npy.out
              rw [hm1] at b1 hdend
              rw [hm2] at b2 hdend
              simp only [hm1, hm2] at hdmid
              have HM1 : Hid (∀ W, Below w11.heap.size w11 W → Calls Try.prog 27 #[.agg #[.int .i64 pa1, .int .i64 pa2], .agg #[.int .i64 px1, .int .i64 px2]] W (Ret (.int .i64 m1) W)) := fun W _ => by
                  have h := refMove_any (pa1, pa2) (px1, px2) W Npa.out.1 Npa.out.2 Npx.out.1 Npx.out.2
                  rw [hm1] at h
                  exact h
              have HM2 : Hid (∀ W, Below w11.heap.size w11 W → Calls Try.prog 27 #[.agg #[.int .i64 pa1, .int .i64 pa2], .agg #[.int .i64 py1, .int .i64 py2]] W (Ret (.int .i64 m2) W)) := fun W _ => by
                  have h := refMove_any (pa1, pa2) (py1, py2) W Npa.out.1 Npa.out.2 Npy.out.1 Npy.out.2
                  rw [hm2] at h
                  exact h
              clear hm1 hm2
              have HD0 : Hid (∀ m, Below w11.heap.size w11 (w11.drewN m)) := fun m => below_drewN (Below.refl _ _) m
              have HDr : Hid (Below w11.heap.size w11 w11.drew) := Below.drew (Below.refl _ _)
              have ht2 : ((i : Int) + 2).toNat = i + 2 := by omega
              have ht3 : ((i : Int) + 3).toNat = i + 3 := by omega
              have hwp1 : IntKind.i64.wrap ((i : Int) + 1) = (i : Int) + 1 := IntWalk.i64_in _ (by omega)
              have hwp2 : IntKind.i64.wrap ((i : Int) + 2) = (i : Int) + 2 := IntWalk.i64_in _ (by omega)
              have hwp3 : IntKind.i64.wrap ((i : Int) + 3) = (i : Int) + 3 := IntWalk.i64_in _ (by omega)
              have hz1' : (0 : Int) ≤ (i : Int) + 1 := by omega
              have hz2' : (0 : Int) ≤ (i : Int) + 2 := by omega
              have hz3' : (0 : Int) ≤ (i : Int) + 3 := by omega
              by_cases hend : i + 2 = order.length
              · have hde : (M - N == m2 - m1) = true := by rw [beq_iff_eq]; exact hdend hend
                have hend' : ¬ (i : Int) + 3 < (order.length : Int) + 1 := by omega
                have hr1 : (i : Int) + 1 < (order.length : Int) + 1 := by omega
                have hr2 : (i : Int) + 2 < (order.length : Int) + 1 := by omega
                have hr0 : (i : Int) < (order.length : Int) + 1 := by omega
                have HS : Hid (∀ W, Below w11.heap.size w11 W → Below w11.heap.size w11 W ∧ W.cell? ⟨ga, i * 2, none⟩ = some (.int .i64 pa1) ∧ W.cell? ⟨ga, i * 2 + 1, none⟩ = some (.int .i64 pa2) ∧ W.cell? ⟨ga, (i + 1) * 2, none⟩ = some (.int .i64 px1) ∧ W.cell? ⟨ga, (i + 1) * 2 + 1, none⟩ = some (.int .i64 px2) ∧ W.cell? ⟨ga, (i + 2) * 2, none⟩ = some (.int .i64 py1) ∧ W.cell? ⟨ga, (i + 2) * 2 + 1, none⟩ = some (.int .i64 py2)) := fun W h => ⟨h, bget h c0, bget h c1, bget h c2, bget h c3, bget h c4, bget h c5⟩
                clear hdend hdmid hownR hown11 hend
                go_wp2
                go_region_held3 (fun W => Below w11.heap.size w11 W ∧ W.cell? ⟨ga, i * 2, none⟩ = some (.int .i64 pa1) ∧ W.cell? ⟨ga, i * 2 + 1, none⟩ = some (.int .i64 pa2) ∧ W.cell? ⟨ga, (i + 1) * 2, none⟩ = some (.int .i64 px1) ∧ W.cell? ⟨ga, (i + 1) * 2 + 1, none⟩ = some (.int .i64 px2) ∧ W.cell? ⟨ga, (i + 2) * 2, none⟩ = some (.int .i64 py1) ∧ W.cell? ⟨ga, (i + 2) * 2 + 1, none⟩ = some (.int .i64 py2))
                  (first
                    | exact HS.out _ (Below.drew (Below.refl _ _))
                    | exact HS.out _ (HD0.out _)
                    | exact HS.out _ hSa)
                  (first
                    | (go_at_call 27
                       (with_reducible refine (HM1.out _ HDr.out).mono ?_)
                       rintro e W1 ⟨rfl, hq⟩
                       have hSa := bstep HDr.out HDr.out.size hq)
                    | (go_at_call 27
                       (with_reducible refine (HM1.out _ (HD0.out _)).mono ?_)
                       rintro e W1 ⟨rfl, hq⟩
                       have hSa := bstep (HD0.out _) (HD0.out _).size hq)
                    | (go_at_call 27
                       (with_reducible refine (HM2.out _ HDr.out).mono ?_)
                       rintro e W1 ⟨rfl, hq⟩
                       have hSa := bstep HDr.out HDr.out.size hq)
                    | (go_at_call 27
                       (with_reducible refine (HM2.out _ (HD0.out _)).mono ?_)
                       rintro e W1 ⟨rfl, hq⟩
                       have hSa := bstep (HD0.out _) (HD0.out _).size hq)
                    | (go_at_call 27
                       (with_reducible refine (HM1.out _ hSa).mono ?_)
                       rintro e W1 ⟨rfl, hq⟩
                       have hSa := bstep hSa hSa.size hq)
                    | (go_at_call 27
                       (with_reducible refine (HM2.out _ hSa).mono ?_)
                       rintro e W1 ⟨rfl, hq⟩
                       have hSa := bstep hSa hSa.size hq))
                all_goals
                  go_wp2_with fail
                  refine (awake_any _).mono ?_
                  rintro e w9 ⟨rfl, hq⟩
                  have hfin := bstep (bstep hb11 hb11.size hSa) (bstep hb11 hb11.size hSa).size hq
                  go_wp2
                  go_ret
                  exact ⟨rfl, hfin⟩
              · obtain ⟨z, hz⟩ : ∃ z, order[i + 2]? = some z := ⟨_, List.getElem?_eq_getElem (by omega)⟩
                have hmz := HMEM.out _ (List.mem_of_getElem? hz)
                have Npz := Lib.hid (begin_near hmz)
                obtain ⟨c6, c7⟩ := own_at hown11 (at_succ (shapes := shapes) (a := (0, 0)) hz)
                have hdz := hdmid z hz
                obtain ⟨⟨pz1, pz2⟩, hpz⟩ : ∃ r, beginF shapes z = r := ⟨_, rfl⟩
                rw [hpz] at c6 c7 Npz hdz
                clear hpz
                obtain ⟨m3, hm3⟩ : ∃ r, moveF (py1, py2) (pz1, pz2) = r := ⟨_, rfl⟩
                obtain ⟨m4, hm4⟩ : ∃ r, moveF (px1, px2) (pz1, pz2) = r := ⟨_, rfl⟩
                have b3 := move_bd Npy.out Npz.out
                have b4 := move_bd Npx.out Npz.out
                rw [hm3] at b3 hdz
                rw [hm4] at b4 hdz
                have HM3 : Hid (∀ W, Below w11.heap.size w11 W → Calls Try.prog 27 #[.agg #[.int .i64 py1, .int .i64 py2], .agg #[.int .i64 pz1, .int .i64 pz2]] W (Ret (.int .i64 m3) W)) := fun W _ => by
                  have h := refMove_any (py1, py2) (pz1, pz2) W Npy.out.1 Npy.out.2 Npz.out.1 Npz.out.2
                  rw [hm3] at h
                  exact h
                have HM4 : Hid (∀ W, Below w11.heap.size w11 W → Calls Try.prog 27 #[.agg #[.int .i64 px1, .int .i64 px2], .agg #[.int .i64 pz1, .int .i64 pz2]] W (Ret (.int .i64 m4) W)) := fun W _ => by
                  have h := refMove_any (px1, px2) (pz1, pz2) W Npx.out.1 Npx.out.2 Npz.out.1 Npz.out.2
                  rw [hm4] at h
                  exact h
                clear hm3 hm4
                have hde : (M - N == m2 + m4 - (m1 + m3)) = true := by rw [beq_iff_eq]; exact hdz
                have hend' : (i : Int) + 3 < (order.length : Int) + 1 := by omega
                have hr1 : (i : Int) + 1 < (order.length : Int) + 1 := by omega
                have hr2 : (i : Int) + 2 < (order.length : Int) + 1 := by omega
                have hr0 : (i : Int) < (order.length : Int) + 1 := by omega
                have HS : Hid (∀ W, Below w11.heap.size w11 W → Below w11.heap.size w11 W ∧ W.cell? ⟨ga, i * 2, none⟩ = some (.int .i64 pa1) ∧ W.cell? ⟨ga, i * 2 + 1, none⟩ = some (.int .i64 pa2) ∧ W.cell? ⟨ga, (i + 1) * 2, none⟩ = some (.int .i64 px1) ∧ W.cell? ⟨ga, (i + 1) * 2 + 1, none⟩ = some (.int .i64 px2) ∧ W.cell? ⟨ga, (i + 2) * 2, none⟩ = some (.int .i64 py1) ∧ W.cell? ⟨ga, (i + 2) * 2 + 1, none⟩ = some (.int .i64 py2) ∧ W.cell? ⟨ga, (i + 3) * 2, none⟩ = some (.int .i64 pz1) ∧ W.cell? ⟨ga, (i + 3) * 2 + 1, none⟩ = some (.int .i64 pz2)) := fun W h => ⟨h, bget h c0, bget h c1, bget h c2, bget h c3, bget h c4, bget h c5, bget h c6, bget h c7⟩
                clear hdend hdmid hownR hown11 hdz hz
                go_wp2
                go_region_held3 (fun W => Below w11.heap.size w11 W ∧ W.cell? ⟨ga, i * 2, none⟩ = some (.int .i64 pa1) ∧ W.cell? ⟨ga, i * 2 + 1, none⟩ = some (.int .i64 pa2) ∧ W.cell? ⟨ga, (i + 1) * 2, none⟩ = some (.int .i64 px1) ∧ W.cell? ⟨ga, (i + 1) * 2 + 1, none⟩ = some (.int .i64 px2) ∧ W.cell? ⟨ga, (i + 2) * 2, none⟩ = some (.int .i64 py1) ∧ W.cell? ⟨ga, (i + 2) * 2 + 1, none⟩ = some (.int .i64 py2) ∧ W.cell? ⟨ga, (i + 3) * 2, none⟩ = some (.int .i64 pz1) ∧ W.cell? ⟨ga, (i + 3) * 2 + 1, none⟩ = some (.int .i64 pz2))
                  (first
                    | exact HS.out _ (Below.drew (Below.refl _ _))
                    | exact HS.out _ (HD0.out _)
                    | exact HS.out _ hSa)
                  (first
                    | (go_at_call 27
                       (with_reducible refine (HM1.out _ HDr.out).mono ?_)
                       rintro e W1 ⟨rfl, hq⟩
                       have hSa := bstep HDr.out HDr.out.size hq)
                    | (go_at_call 27
                       (with_reducible refine (HM1.out _ (HD0.out _)).mono ?_)
                       rintro e W1 ⟨rfl, hq⟩
                       have hSa := bstep (HD0.out _) (HD0.out _).size hq)
                    | (go_at_call 27
                       (with_reducible refine (HM2.out _ HDr.out).mono ?_)
                       rintro e W1 ⟨rfl, hq⟩
                       have hSa := bstep HDr.out HDr.out.size hq)
                    | (go_at_call 27
                       (with_reducible refine (HM2.out _ (HD0.out _)).mono ?_)
                       rintro e W1 ⟨rfl, hq⟩
                       have hSa := bstep (HD0.out _) (HD0.out _).size hq)
                    | (go_at_call 27
                       (with_reducible refine (HM1.out _ hSa).mono ?_)
                       rintro e W1 ⟨rfl, hq⟩
                       have hSa := bstep hSa hSa.size hq)
                    | (go_at_call 27
                       (with_reducible refine (HM2.out _ hSa).mono ?_)
                       rintro e W1 ⟨rfl, hq⟩
                       have hSa := bstep hSa hSa.size hq))
                all_goals
                  have HD1 := Lib.hid (fun m => below_drewN hSa m)
                  have HD1' := Lib.hid hSa
                  have HD1r := Lib.hid (Below.drew hSa)
                  clear hSa
                  go_wp2
                  go_region_held3 (fun W => Below w11.heap.size w11 W ∧ W.cell? ⟨ga, i * 2, none⟩ = some (.int .i64 pa1) ∧ W.cell? ⟨ga, i * 2 + 1, none⟩ = some (.int .i64 pa2) ∧ W.cell? ⟨ga, (i + 1) * 2, none⟩ = some (.int .i64 px1) ∧ W.cell? ⟨ga, (i + 1) * 2 + 1, none⟩ = some (.int .i64 px2) ∧ W.cell? ⟨ga, (i + 2) * 2, none⟩ = some (.int .i64 py1) ∧ W.cell? ⟨ga, (i + 2) * 2 + 1, none⟩ = some (.int .i64 py2) ∧ W.cell? ⟨ga, (i + 3) * 2, none⟩ = some (.int .i64 pz1) ∧ W.cell? ⟨ga, (i + 3) * 2 + 1, none⟩ = some (.int .i64 pz2))
                    (first
                      | exact HS.out _ (Below.drew HD1'.out)
                      | exact HS.out _ (HD1.out _)
                      | exact HS.out _ hSa)
                    (first
                      | (go_at_call 27
                         (with_reducible refine (HM3.out _ (HD1r.out)).mono ?_)
                         rintro e W1 ⟨rfl, hq⟩
                         have hSa := bstep HD1r.out HD1r.out.size hq)
                      | (go_at_call 27
                         (with_reducible refine (HM3.out _ (HD1.out _)).mono ?_)
                         rintro e W1 ⟨rfl, hq⟩
                         have hSa := bstep (HD1.out _) (HD1.out _).size hq)
                      | (go_at_call 27
                         (with_reducible refine (HM3.out _ hSa).mono ?_)
                         rintro e W1 ⟨rfl, hq⟩
                         have hSa := bstep hSa hSa.size hq))
                all_goals
                  have HD2 := Lib.hid (fun m => below_drewN hSa m)
                  have HD2' := Lib.hid hSa
                  have HD2r := Lib.hid (Below.drew hSa)
                  clear hSa
                  go_wp2
                  go_region_held3 (fun W => Below w11.heap.size w11 W ∧ W.cell? ⟨ga, i * 2, none⟩ = some (.int .i64 pa1) ∧ W.cell? ⟨ga, i * 2 + 1, none⟩ = some (.int .i64 pa2) ∧ W.cell? ⟨ga, (i + 1) * 2, none⟩ = some (.int .i64 px1) ∧ W.cell? ⟨ga, (i + 1) * 2 + 1, none⟩ = some (.int .i64 px2) ∧ W.cell? ⟨ga, (i + 2) * 2, none⟩ = some (.int .i64 py1) ∧ W.cell? ⟨ga, (i + 2) * 2 + 1, none⟩ = some (.int .i64 py2) ∧ W.cell? ⟨ga, (i + 3) * 2, none⟩ = some (.int .i64 pz1) ∧ W.cell? ⟨ga, (i + 3) * 2 + 1, none⟩ = some (.int .i64 pz2))
                    (first
                      | exact HS.out _ (Below.drew HD2'.out)
                      | exact HS.out _ (HD2.out _)
                      | exact HS.out _ hSa)
                    (first
                      | (go_at_call 27
                         (with_reducible refine (HM4.out _ (HD2r.out)).mono ?_)
                         rintro e W1 ⟨rfl, hq⟩
                         have hSa := bstep HD2r.out HD2r.out.size hq)
                      | (go_at_call 27
                         (with_reducible refine (HM4.out _ (HD2.out _)).mono ?_)
                         rintro e W1 ⟨rfl, hq⟩
                         have hSa := bstep (HD2.out _) (HD2.out _).size hq)
                      | (go_at_call 27
                         (with_reducible refine (HM4.out _ hSa).mono ?_)
                         rintro e W1 ⟨rfl, hq⟩
                         have hSa := bstep hSa hSa.size hq))
                all_goals
                  go_wp2_with fail
                  refine (awake_any _).mono ?_
                  rintro e w9 ⟨rfl, hq⟩
                  have hfin := bstep (bstep hb11 hb11.size hSa) (bstep hb11 hb11.size hSa).size hq
                  go_wp2
                  go_ret
                  exact ⟨rfl, hfin⟩
            · obtain rfl : x1 = y1 := hsp
              obtain rfl : y2 = 0 := hrg
              have hb11e : travelF shapes other = (0, 11) := by rw [travelF_bad (by rw [hck11]; decide), hck11]
              rw [hb11e] at hC
              refine hC.mono ?_
              rintro e w11 ⟨rfl, hq⟩
              have hb11 := bstep hb10w hb10w.size hq
              obtain ⟨x1', x2', hx', k0, k1⟩ := pairs_more (Rep.below hoR hb11) (show i < order.length from lt_of_get hxi.out)
              obtain ⟨y1', y2', hy', k2, k3⟩ := pairs_more (Rep.below hoR hb11) (show i + 1 < order.length from lt_of_get hyi.out)
              have e1 := hx'.out.symm.trans hxi.out
              have e2 := hy'.out.symm.trans hyi.out
              injection e1 with e1
              injection e1 with e3 e4
              injection e2 with e2
              injection e2 with e5 e6
              rw [e3] at k0
              rw [e5] at k2
              rw [e6] at k3
              clear e3 e4 e5 e6 hx' hy'
              have HD0 : Hid (∀ m, Below w11.heap.size w11 (w11.drewN m)) := fun m => below_drewN (Below.refl _ _) m
              have HDr : Hid (Below w11.heap.size w11 w11.drew) := Below.drew (Below.refl _ _)
              have ht2 : ((i : Int) + 2).toNat = i + 2 := by omega
              have ht3 : ((i : Int) + 3).toNat = i + 3 := by omega
              have hwp1 : IntKind.i64.wrap ((i : Int) + 1) = (i : Int) + 1 := IntWalk.i64_in _ (by omega)
              have hwp2 : IntKind.i64.wrap ((i : Int) + 2) = (i : Int) + 2 := IntWalk.i64_in _ (by omega)
              have hwp3 : IntKind.i64.wrap ((i : Int) + 3) = (i : Int) + 3 := IntWalk.i64_in _ (by omega)
              have hz1' : (0 : Int) ≤ (i : Int) + 1 := by omega
              have hz2' : (0 : Int) ≤ (i : Int) + 2 := by omega
              have hz3' : (0 : Int) ≤ (i : Int) + 3 := by omega
              have HS : Hid (∀ W, Below w11.heap.size w11 W → Below w11.heap.size w11 W ∧ W.cell? ⟨bo, oo + i * 2, none⟩ = some (.int .i64 x1) ∧ W.cell? ⟨bo, oo + (i + 1) * 2, none⟩ = some (.int .i64 x1) ∧ W.cell? ⟨bo, oo + (i + 1) * 2 + 1, none⟩ = some (.int .i64 0)) := fun W h => ⟨h, bget h k0, bget h k2, bget h k3⟩
              have HAW : Hid (∀ W, Below w11.heap.size w11 W → Calls Try.prog 11 #[] W (Ret (.bool true) W)) := fun W _ => awake_any W
              clear hownR
              go_wp2
              go_region_held3 (fun W => Below w11.heap.size w11 W ∧ W.cell? ⟨bo, oo + i * 2, none⟩ = some (.int .i64 x1) ∧ W.cell? ⟨bo, oo + (i + 1) * 2, none⟩ = some (.int .i64 x1) ∧ W.cell? ⟨bo, oo + (i + 1) * 2 + 1, none⟩ = some (.int .i64 0))
                (first
                  | exact HS.out _ (Below.drew (Below.refl _ _))
                  | exact HS.out _ (HD0.out _)
                  | exact HS.out _ hSa)
                (first
                  | (go_at_call 11
                     (with_reducible refine (HAW.out _ HDr.out).mono ?_)
                     rintro e W3 ⟨rfl, hq⟩
                     have hSa := bstep HDr.out HDr.out.size hq)
                  | (go_at_call 11
                     (with_reducible refine (HAW.out _ (HD0.out _)).mono ?_)
                     rintro e W3 ⟨rfl, hq⟩
                     have hSa := bstep (HD0.out _) (HD0.out _).size hq))
              all_goals
                have hfin := bstep hb11 hb11.size hSa
                go_wp2
                go_ret
                exact ⟨rfl, hfin⟩
      · have HTR : Hid (travelF shapes order = (0, ck)) := by
          show _ = _
          rw [travelF_bad (by rw [hck]; exact hc0), hck]
        have hcb : (ck != 0) = true := by simpa using hc0
        clear hck hc0
        go_enter Try.func9, Try.ntmps9
        go_wp2_with fail
        refine (few_any _ shapes _ hs).mono ?_
        rintro e w1 ⟨he, hw1⟩
        rw [HF.out] at he
        subst he
        go_wp2_with fail
        have hC := travel_any _ _ shapes order _ (Rep.below hs hw1) (Rep.below ho hw1) HSM.out
        rw [HTR.out] at hC
        refine hC.mono ?_
        rintro e w2 ⟨rfl, hq⟩
        have hw2 := bstep hw1 hw1.size hq
        clear hC hq hw1
        go_wp2_with fail
        refine (awake_any _).mono ?_
        rintro e w7 ⟨rfl, hq⟩
        have hw7 := bstep hw2 hw2.size hq
        go_wp2
        go_ret
        exact ⟨rfl, hw7⟩
  · have HF := Lib.hid hf
    clear hf
    go_enter Try.func9, Try.ntmps9
    go_wp2_with fail
    refine (few_any _ shapes _ hs).mono ?_
    rintro e w1 ⟨he, hw1⟩
    rw [HF.out] at he
    subst he
    go_wp2_with fail
    refine (awake_any _).mono ?_
    rintro e w7 ⟨rfl, hq⟩
    have hw7 := bstep hw1 hw1.size hq
    go_wp2
    go_ret
    exact ⟨rfl, hw7⟩
end Go.Proofs.Ytpefmbjaolcapaa
