/- Chapter 27: the law NcprogOrders, by walking its text. -/
import Derived.Test.YthfnncnmggkfaaaDoorNcL3
import Derived.Test.YthfnncnmggkfaaaDoorNcOrdM
import Derived.Test.YthfnncnmggkfaaaDoorTorX8
import Derived.Test.YthfnncnmggkfaaaDoorNcOpM
namespace Go.Proofs.YthfnncnmggkfaaaDoor
open Go Go.RowKit

set_option maxRecDepth 100000 in
set_option maxHeartbeats 4000000 in
theorem nc_orders_law (vs vo : Value) (shapes : List Shp) (order : List Pt) (w : World) (hT : TabP w) (hs : shpsR.R w (Lt w) shapes [vs]) (ho : prR.slice.R w (Lt w) order [vo]) :
    Calls Tryd.prog 10 #[vs, vo] w (Ret (.bool true) w) := by
  obtain ⟨A, c, rfl, hm, -⟩ := slice_inv hs
  obtain ⟨B, d, rfl, hmo, -⟩ := slice_inv ho
  have HT := Lib.hid hT
  have CF := Lib.hid (few_any _ shapes w hs)
  clear hT
  rcases Bool.eq_false_or_eq_true (fewF shapes) with hf | hf
  · have hS := few_small hf
    have hR := few_smallR hf
    rw [hf] at CF
    by_cases h : 300 < order.length
    · have h' : (300 : Int) < (order.length : Int) := by omega
      clear h hf hS hR
      go_enter Tryd.func10, Tryd.ntmps10
      go_wp2_with fail
      refine CF.out.mono ?_
      rintro e w1 ⟨rfl, hb1⟩
      have hT1 := HT.out.below hb1
      go_wp2_with fail
      refine (alive_any _ hT1).mono ?_
      rintro e w2 ⟨rfl, hb2⟩
      have hbw2 := bstep hb1 hb1.size hb2
      clear hT1
      go_wp2
      go_ret
      exact ⟨rfl, hbw2⟩
    · have h' : ¬ (300 : Int) < (order.length : Int) := by omega
      have CG := Lib.hid (fun w1 (hb : Below w.heap.size w w1) => greedyT_any _ shapes w1 (Rep.below hs hb) hS)
      have C1 := Lib.hid (fun w1 (hb : Below w.heap.size w w1) v hg => make_any _ v shapes (greedyTF shapes) w1 (Rep.below hs hb) hg hS hR)
      have C2 := Lib.hid (fun w1 (hb : Below w.heap.size w w1) => make_any _ _ shapes order w1 (Rep.below hs hb) (Rep.below ho hb) hS hR)
      clear h hf hS hR
      generalize greedyTF shapes = G at *
      by_cases hcg : checkT (contoursF shapes) G = 0
      · by_cases hco : checkT (contoursF shapes) order = 0
        · rw [makeF_yes hcg] at C1
          rw [makeF_yes hco] at C2
          obtain ⟨q1, q2, q3⟩ := orders_same hcg hco
          have RG := run_order hcg
          have RO := run_order hco
          rw [q1, q2, q3] at RG
          clear hcg hco
          obtain ⟨L, hL⟩ : ∃ x, x = makeT shapes G := ⟨_, rfl⟩
          obtain ⟨M, hM⟩ : ∃ x, x = makeT shapes order := ⟨_, rfl⟩
          obtain ⟨bu, hbu⟩ : ∃ x, x = sumOf (burnC shapes) order := ⟨_, rfl⟩
          rw [← hL] at RG C1 q1
          rw [← hM] at RG RO C2 q1
          rw [← hbu] at RG RO
          have HQ := Lib.hid q1
          have z1 : ((L.length : Int) == (M.length : Int)) = true := by simp [q1]
          have R2 : Hid (∃ m1 m2 er, runF L = (m1, er) ∧ runF M = (m2, er) ∧ m1.bu = m2.bu ∧ m1.pi = m2.pi ∧ m1.rings.length = m2.rings.length) := by
            by_cases hlong : 20000 < M.length
            · exact ⟨_, _, _, RG.1 hlong, RO.1 hlong, rfl, rfl, rfl⟩
            · obtain ⟨a1, r1, k1⟩ := RG.2 hlong
              obtain ⟨a2, r2, k2⟩ := RO.2 hlong
              exact ⟨_, _, _, k1, k2, rfl, rfl, by simp [q3]⟩
          clear RG RO q1 q2 q3 hL hM hbu
          go_enter Tryd.func10, Tryd.ntmps10
          go_wp2_with fail
          refine CF.out.mono ?_
          rintro e w1 ⟨rfl, hb1⟩
          go_wp2_with fail
          refine (CG.out _ hb1).mono ?_
          rintro e w2 ⟨vg, rfl, hg, hb2⟩
          have hbw2 := bstep hb1 hb1.size hb2
          clear hb1 hb2
          go_wp2_with fail
          refine (C1.out _ hbw2 _ hg).mono ?_
          rintro e w3 ⟨v1, he, hl1, hb3⟩
          have he : e = .returned (.tuple #[v1, .int .i64 0]) := he
          subst he
          have hl1 : stR.slice.R w3 (Lt w3) (L) [v1] := hl1
          obtain ⟨A1, c1, rfl, -, -⟩ := slice_inv hl1
          have hbw3 := bstep hbw2 hbw2.size hb3
          clear hbw2 hb3 hg
          go_wp2_with fail
          refine (C2.out _ hbw3).mono ?_
          rintro e w4 ⟨v2, he, hl2, hb4⟩
          have he : e = .returned (.tuple #[v2, .int .i64 0]) := he
          subst he
          have hl2 : stR.slice.R w4 (Lt w4) (M) [v2] := hl2
          obtain ⟨A2, c2, rfl, -, -⟩ := slice_inv hl2
          have hl1 := Rep.below hl1 hb4
          have hbw4 := bstep hbw3 hbw3.size hb4
          clear hbw3 hb4
          obtain ⟨m1, m2, er, k1, k2, k3, k4, k5⟩ := R2.out
          have C3 := Lib.hid (run_any _ L w4 hl1)
          have C4 := Lib.hid (fun w5 (hb : Below w4.heap.size w4 w5) => run_any _ M w5 (Rep.below hl2 hb))
          rw [k1] at C3
          rw [k2] at C4
          clear k1 k2 hl1 hl2 R2
          obtain ⟨tr, bu, pi, at_, lit, ring, rings⟩ := m1
          obtain ⟨tr2, bu2, pi2, at2, lit2, ring2, rings2⟩ := m2
          have k3 : bu = bu2 := k3
          have k4 : pi = pi2 := k4
          have k5 : rings.length = rings2.length := k5
          subst k3 k4
          have HK5 := Lib.hid k5
          have z5 : ((rings.length : Int) == (rings2.length : Int)) = true := by simp [k5]
          clear k5
          go_wp2_with fail
          refine C3.out.mono ?_
          rintro e w5 ⟨v3, he, hr3, hb5⟩
          have he : e = .returned (.tuple #[.agg #[.int .i64 tr, .int .i64 bu, .int .i64 pi], v3, .int .i64 er]) := he
          subst he
          have hr3 : holesR.R w5 (Lt w5) rings [v3] := hr3
          obtain ⟨A3, c3, rfl, -, -⟩ := slice_inv hr3
          clear hr3
          go_wp2_with fail
          have hbx := hb5.alloc hb5.size (.cells #[.int .i64 tr, .int .i64 bu, .int .i64 pi] 38)
          have hbw5 := (bstep hbw4 hbw4.size hb5).alloc (bstep hbw4 hbw4.size hb5).size (.cells #[.int .i64 tr, .int .i64 bu, .int .i64 pi] 38)
          have bt := Blk.new w5 38 #[.int .i64 tr, .int .i64 bu, .int .i64 pi]
          refine (C4.out _ hbx).mono ?_
          rintro e w6 ⟨v4, he, hr4, hb6⟩
          have he : e = .returned (.tuple #[.agg #[.int .i64 tr2, .int .i64 bu, .int .i64 pi], v4, .int .i64 er]) := he
          subst he
          have hr4 : holesR.R w6 (Lt w6) rings2 [v4] := hr4
          obtain ⟨A4, c4, rfl, -, -⟩ := slice_inv hr4
          have bt := bt.below hb6 bt.lt
          have hbw6 := bstep hbw5 hbw5.size hb6
          have k0 : w6.cell? ⟨w5.heap.size, 0, none⟩ = some (.int .i64 tr) := bt.cell 0
          have k1 : w6.cell? ⟨w5.heap.size, 1, none⟩ = some (.int .i64 bu) := bt.cell 1
          have k2 : w6.cell? ⟨w5.heap.size, 2, none⟩ = some (.int .i64 pi) := bt.cell 2
          have HLT := bt.lt
          have HNE : ¬ w5.heap.size = w6.heap.size := by omega
          have hbw7 := hbw6.alloc hbw6.size (.cells #[.int .i64 tr2, .int .i64 bu, .int .i64 pi] 38)
          have hT7 := HT.out.below hbw7
          clear hbw4 hb5 hbx hbw5 hr4 hb6 bt
          go_wp2_with fail
          refine (alive_any _ hT7).mono ?_
          rintro e w8 ⟨rfl, hb8⟩
          have hbw8 := bstep hbw7 hbw7.size hb8
          clear hT7
          go_wp2
          go_ret
          exact ⟨rfl, hbw8⟩
        · rw [makeF_yes hcg] at C1
          rw [makeF_bad hco] at C2
          obtain ⟨eo, heo⟩ : ∃ x, x = checkT (contoursF shapes) order := ⟨_, rfl⟩
          rw [← heo] at C2 hco
          have o1 : (eo != 0) = true := by simp [hco]
          have o2 : (eo == 0) = false := by simp [hco]
          clear hco heo
          clear hcg
          go_enter Tryd.func10, Tryd.ntmps10
          go_wp2_with fail
          refine CF.out.mono ?_
          rintro e w1 ⟨rfl, hb1⟩
          go_wp2_with fail
          refine (CG.out _ hb1).mono ?_
          rintro e w2 ⟨vg, rfl, hg, hb2⟩
          have hbw2 := bstep hb1 hb1.size hb2
          clear hb1 hb2
          go_wp2_with fail
          refine (C1.out _ hbw2 _ hg).mono ?_
          rintro e w3 ⟨v1, he, hl1, hb3⟩
          have he : e = .returned (.tuple #[v1, .int .i64 0]) := he
          subst he
          have hl1 : stR.slice.R w3 (Lt w3) (makeT shapes G) [v1] := hl1
          obtain ⟨A1, c1, rfl, -, -⟩ := slice_inv hl1
          have hbw3 := bstep hbw2 hbw2.size hb3
          clear hbw2 hb3 hg
          go_wp2_with fail
          refine (C2.out _ hbw3).mono ?_
          rintro e w4 ⟨v2, he, hl2, hb4⟩
          have he : e = .returned (.tuple #[v2, .int .i64 eo]) := he
          subst he
          have hl2 : stR.slice.R w4 (Lt w4) ([]) [v2] := hl2
          obtain ⟨A2, c2, rfl, -, -⟩ := slice_inv hl2
          have hl1 := Rep.below hl1 hb4
          have hbw4 := bstep hbw3 hbw3.size hb4
          clear hbw3 hb4
          have hT4 := HT.out.below hbw4
          clear hl1 hl2
          go_wp2_with fail
          refine (alive_any _ hT4).mono ?_
          rintro e w5 ⟨rfl, hb5⟩
          have hbw5 := bstep hbw4 hbw4.size hb5
          clear hT4
          go_wp2
          go_ret
          exact ⟨rfl, hbw5⟩
      · by_cases hco : checkT (contoursF shapes) order = 0
        · rw [makeF_bad hcg] at C1
          obtain ⟨eg, heg⟩ : ∃ x, x = checkT (contoursF shapes) G := ⟨_, rfl⟩
          rw [← heg] at C1 hcg
          have g1 : (eg != 0) = true := by simp [hcg]
          have g2 : (eg == 0) = false := by simp [hcg]
          clear hcg heg
          rw [makeF_yes hco] at C2
          clear hco
          go_enter Tryd.func10, Tryd.ntmps10
          go_wp2_with fail
          refine CF.out.mono ?_
          rintro e w1 ⟨rfl, hb1⟩
          go_wp2_with fail
          refine (CG.out _ hb1).mono ?_
          rintro e w2 ⟨vg, rfl, hg, hb2⟩
          have hbw2 := bstep hb1 hb1.size hb2
          clear hb1 hb2
          go_wp2_with fail
          refine (C1.out _ hbw2 _ hg).mono ?_
          rintro e w3 ⟨v1, he, hl1, hb3⟩
          have he : e = .returned (.tuple #[v1, .int .i64 eg]) := he
          subst he
          have hl1 : stR.slice.R w3 (Lt w3) ([]) [v1] := hl1
          obtain ⟨A1, c1, rfl, -, -⟩ := slice_inv hl1
          have hbw3 := bstep hbw2 hbw2.size hb3
          clear hbw2 hb3 hg
          go_wp2_with fail
          refine (C2.out _ hbw3).mono ?_
          rintro e w4 ⟨v2, he, hl2, hb4⟩
          have he : e = .returned (.tuple #[v2, .int .i64 0]) := he
          subst he
          have hl2 : stR.slice.R w4 (Lt w4) (makeT shapes order) [v2] := hl2
          obtain ⟨A2, c2, rfl, -, -⟩ := slice_inv hl2
          have hl1 := Rep.below hl1 hb4
          have hbw4 := bstep hbw3 hbw3.size hb4
          clear hbw3 hb4
          have hT4 := HT.out.below hbw4
          clear hl1 hl2
          go_wp2_with fail
          refine (alive_any _ hT4).mono ?_
          rintro e w5 ⟨rfl, hb5⟩
          have hbw5 := bstep hbw4 hbw4.size hb5
          clear hT4
          go_wp2
          go_ret
          exact ⟨rfl, hbw5⟩
        · rw [makeF_bad hcg] at C1
          obtain ⟨eg, heg⟩ : ∃ x, x = checkT (contoursF shapes) G := ⟨_, rfl⟩
          rw [← heg] at C1 hcg
          have g1 : (eg != 0) = true := by simp [hcg]
          have g2 : (eg == 0) = false := by simp [hcg]
          clear hcg heg
          rw [makeF_bad hco] at C2
          obtain ⟨eo, heo⟩ : ∃ x, x = checkT (contoursF shapes) order := ⟨_, rfl⟩
          rw [← heo] at C2 hco
          have o1 : (eo != 0) = true := by simp [hco]
          have o2 : (eo == 0) = false := by simp [hco]
          clear hco heo
          go_enter Tryd.func10, Tryd.ntmps10
          go_wp2_with fail
          refine CF.out.mono ?_
          rintro e w1 ⟨rfl, hb1⟩
          go_wp2_with fail
          refine (CG.out _ hb1).mono ?_
          rintro e w2 ⟨vg, rfl, hg, hb2⟩
          have hbw2 := bstep hb1 hb1.size hb2
          clear hb1 hb2
          go_wp2_with fail
          refine (C1.out _ hbw2 _ hg).mono ?_
          rintro e w3 ⟨v1, he, hl1, hb3⟩
          have he : e = .returned (.tuple #[v1, .int .i64 eg]) := he
          subst he
          have hl1 : stR.slice.R w3 (Lt w3) ([]) [v1] := hl1
          obtain ⟨A1, c1, rfl, -, -⟩ := slice_inv hl1
          have hbw3 := bstep hbw2 hbw2.size hb3
          clear hbw2 hb3 hg
          go_wp2_with fail
          refine (C2.out _ hbw3).mono ?_
          rintro e w4 ⟨v2, he, hl2, hb4⟩
          have he : e = .returned (.tuple #[v2, .int .i64 eo]) := he
          subst he
          have hl2 : stR.slice.R w4 (Lt w4) ([]) [v2] := hl2
          obtain ⟨A2, c2, rfl, -, -⟩ := slice_inv hl2
          have hl1 := Rep.below hl1 hb4
          have hbw4 := bstep hbw3 hbw3.size hb4
          clear hbw3 hb4
          have hT4 := HT.out.below hbw4
          clear hl1 hl2
          go_wp2_with fail
          refine (alive_any _ hT4).mono ?_
          rintro e w5 ⟨rfl, hb5⟩
          have hbw5 := bstep hbw4 hbw4.size hb5
          clear hT4
          go_wp2
          go_ret
          exact ⟨rfl, hbw5⟩
  · rw [hf] at CF
    clear hf
    go_enter Tryd.func10, Tryd.ntmps10
    go_wp2_with fail
    refine CF.out.mono ?_
    rintro e w1 ⟨rfl, hb1⟩
    have hT1 := HT.out.below hb1
    go_wp2_with fail
    refine (alive_any _ hT1).mono ?_
    rintro e w2 ⟨rfl, hb2⟩
    have hbw2 := bstep hb1 hb1.size hb2
    clear hT1
    go_wp2
    go_ret
    exact ⟨rfl, hbw2⟩
theorem orders_card (vs vo : Value) (shapes : List Shp) (order : List Pt) (w : World) (hT : TabP w) (hs : shpsR.R w (Lt w) shapes [vs]) (_ : True) (ho : prR.slice.R w (Lt w) order [vo]) (_ : True) :
    Calls Tryd.prog 10 #[vs, vo] w (Ret (.bool true) w) := nc_orders_law vs vo shapes order w hT hs ho
end Go.Proofs.YthfnncnmggkfaaaDoor
