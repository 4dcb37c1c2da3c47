/- Chapter 26: Travel, by walking the reference's text. -/
import Derived.Test.YtpefmbjaolcapaaTorX5
namespace Go.Proofs.Ytpefmbjaolcapaa
open Go Go.RowKit

set_option maxRecDepth 100000 in
set_option maxHeartbeats 1000000 in
theorem refTravel_any (vs vo : Value) (shapes : List Shp) (order : List Pt) (w : World) (hs : shpsR.R w (Lt w) shapes [vs]) (ho : prR.slice.R w (Lt w) order [vo]) (hS : SmallS shapes) :
    Calls Try.prog 18 #[vs, vo] w (TravelPost (travelF shapes order) w) := by
  obtain ⟨A, c, rfl, hm, -⟩ := slice_inv hs
  obtain ⟨B, d, rfl, hmo, -⟩ := slice_inv ho
  by_cases hc : checkT (contoursF shapes) order = 0
  · have hb0 : (checkT (contoursF shapes) order != 0) = false := by simp [hc]
    have HT := Lib.hid (travelF_yes hc)
    have HCE := Lib.hid hc
    obtain ⟨h1, h2, h3⟩ := checkT_zero hc
    have hol : order.length ≤ 288 := by omega
    have HM := Lib.hid (first_mem h3)
    clear hc h1 h2 h3
    go_enter Try.func18, Try.ntmps18
    go_wp2_with fail
    refine (refCheckT_any _ _ shapes order _ hs ho hS).mono ?_
    rintro e w1 ⟨rfl, hb1⟩
    go_wp2
    obtain ⟨G, hG⟩ : ∃ G, G = w1.heap.size := ⟨_, rfl⟩
    have g0 := Blk.new w1 28 #[.int .i64 0, .int .i64 0]
    have hGw : w.heap.size ≤ G := by rw [hG]; exact hb1.size
    have hb2 := hb1.alloc hb1.size (.cells #[.int .i64 0, .int .i64 0] 28)
    have hGl : G < (w1.alloc (.cells #[.int .i64 0, .int .i64 0] 28)).heap.size := by rw [hG]; simp
    rw [← hG]
    rw [← hG] at g0
    clear hG hb1
    go_loopw [7, 9] (fun v j wr => ∃ (k : Nat) (n ax ay : Int), k ≤ order.length ∧ j = .int .i64 k ∧ v = .int .i64 n ∧ 0 ≤ n ∧ n ≤ (k : Int) * 2199023255552 ∧ Hid (travelTo shapes (0, 0) order = n + travelTo shapes (ax, ay) (order.drop k)) ∧ Hid (Near (ax, ay)) ∧ Blk wr G 28 #[.int .i64 ax, .int .i64 ay] ∧ G < wr.heap.size ∧ Below w.heap.size w wr) (fun _ j _ => order.length - (intOf j).toNat)
    case atStart => exact ⟨0, 0, 0, 0, Nat.zero_le _, rfl, rfl, by omega, by omega, by show _ = _; simp, ⟨⟨by decide, by decide⟩, by decide, by decide⟩, g0, hGl, hb2⟩
    case round =>
      obtain ⟨k, n, ax, ay, hk, rfl, rfl, hn0, hn1, htr, hnear, hblk, hGr, hb⟩ := hrel
      have hz := hb.size
      by_cases hlt : k < order.length
      · obtain ⟨b, off, x, y, rfl, hx, hbD, d0, d1, -⟩ := pairs_at (Rep.at_ ho hb) hlt
        have hbl : b < w.heap.size := hbD
        have hbn : ¬ b = wr.heap.size := by omega
        have hmem := HM.out (x, y) (List.mem_of_getElem? hx.out)
        have HMEM := Lib.hid hmem
        have HTN := Lib.hid (travel_next htr.out hx.out)
        have HBN := Lib.hid (begin_near hmem)
        have hmv := move_bd hnear.out (begin_near hmem)
        obtain ⟨hmv0, hmv1⟩ := hmv
        generalize hbg : beginF shapes (x, y) = bp at *
        obtain ⟨bx, by_⟩ := bp
        have HM1 : Hid (prArr (beginF shapes (x, y)) = #[.int .i64 bx, .int .i64 by_]) := by show prArr _ = _; rw [hbg]; rfl
        generalize hmvv : moveF (ax, ay) (bx, by_) = mv at *
        have HMV := Lib.hid hmvv
        have hn2 : n ≤ 635000000000000 := by omega
        clear hbg hmem hmvv
        go_wp2_with fail
        have HSY := Lib.hid (start_yes (show (contoursF shapes).contains (x, y) = true by simpa using HMEM.out))
        refine (refStart_any _ _ c shapes x y _ (Rep.below hs hb) hS).mono ?_
        rintro e w3 ⟨he, hb4⟩
        rw [HSY.out] at he
        simp only [] at he
        rw [HM1.out] at he
        subst he
        have g2 := hblk.below hb4 hblk.lt
        have hb5 := bstep hb hz hb4
        have hz4 := hb4.size
        have hGn : ¬ G = w3.heap.size := by omega
        have hG3 : G < w3.heap.size := by omega
        clear hb4
        have j0 := g2.c20
        have j1 := g2.c21
        have hb6 := hb5.alloc hb5.size (.cells #[.int .i64 bx, .int .i64 by_] 28)
        have g3 := g2.alloc (.cells #[.int .i64 bx, .int .i64 by_] 28)
        have p3 := Blk.new w3 28 #[.int .i64 bx, .int .i64 by_]
        go_wp2_with fail
        refine (refMove_any (ax, ay) (bx, by_) _ hnear.out.1 hnear.out.2 HBN.out.1 HBN.out.2).mono ?_
        rintro e w4 ⟨he, hb7⟩
        rw [HMV.out] at he
        subst he
        have g4 := g3.below hb7 g3.lt
        have p4 := p3.below hb7 p3.lt
        have hb8 := bstep hb6 hb6.size hb7
        have hG4 : G < w4.heap.size := g4.lt
        clear j0 j1
        have j0 := g4.c20
        have j1 := g4.c21
        have f0 := g4.free 0
        have f1 := g4.free 1
        have i0 := p4.c20
        have i1 := p4.c21
        go_wp2
        go_roundw
        case rel =>
          refine ⟨k + 1, n + mv, bx, by_, by omega, by go_num, rfl, by omega, by push_cast; omega, HTN.out, HBN, ?_, by simpa [World.setCell] using hG4, ?_⟩
          · exact (g4.set_ 0 (.int .i64 bx)).set_ 1 (.int .i64 by_)
          · exact (hb8.setCell (p := ⟨G, 0, none⟩) hGw _).setCell (p := ⟨G, 1, none⟩) hGw _
        case measure => simp [intOf]; omega
      · obtain rfl : k = order.length := by omega
        have HR : Hid (travelTo shapes (0, 0) order = n) := by show _ = _; rw [htr.out, List.drop_of_length_le (Nat.le_refl _), travelTo]; omega
        go_wp2
        go_ret2
        exact TravelPost.of (by rw [HT.out, HR.out]) hb
  · have hb0 : (checkT (contoursF shapes) order != 0) = true := by simp [hc]
    have HT := Lib.hid (travelF_bad hc)
    clear hc
    go_enter Try.func18, Try.ntmps18
    go_wp2_with fail
    refine (refCheckT_any _ _ shapes order _ hs ho hS).mono ?_
    rintro e w1 ⟨rfl, hb1⟩
    go_wp2
    go_ret2
    exact TravelPost.of HT.out hb1
end Go.Proofs.Ytpefmbjaolcapaa
