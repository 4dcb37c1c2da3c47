/- TopCuts: the law's walk: running the cutting program of the greedy order cuts every contour once, with the areas of the shapes. -/
import Derived.Test.YtcnkocnajamclaaTopWB
import Derived.Test.YtcnkocnajamclaaTorX8
import Derived.Test.YtcnkocnajamclaaTorX4
import Derived.Test.YtcnkocnajamclaaNcW8
import Derived.Test.YtcnkocnajamclaaNcW6
import Derived.Test.YtcnkocnajamclaaOpenZ
namespace Go.Proofs.Ytcnkocnajamclaa
open Go Go.RowKit

theorem opens_i : Opens Try.prog 3 Rep.int := opens_int Try.underlying3
theorem opens_pt : Opens Try.prog 74 prR := opens_struct Try.underlying74 (tot := 2) (by kernel_rfl) (opensF_cons rfl (by kernel_rfl) opens_i (opensF_last rfl (by kernel_rfl) opens_i))
theorem opens_pts : Opens Try.prog 39 ptsR := opens_slice Try.underlying39 (by kernel_rfl) (by decide) opens_pt
theorem opens_holes : Opens Try.prog 40 holesR := opens_slice Try.underlying40 (by kernel_rfl) (by decide) opens_pts
theorem opens_shape : Opens Try.prog 42 shR := opens_struct Try.underlying42 (tot := 2) (by kernel_rfl) (opensF_cons rfl (by kernel_rfl) opens_pts (opensF_last rfl (by kernel_rfl) opens_holes))
theorem opens_shapes : Opens Try.prog 37 shpsR := opens_slice Try.underlying37 (by kernel_rfl) (by decide) opens_shape
theorem opensZ_shapes : OpensZ Try.prog 37 shpsR (fun _ => True) := opensZ_of opens_shapes

theorem areasTo_bd {shapes : List Shp} (h : ∀ k, k < shapes.length → Fine13 (shapes.getD k default)) : ∀ k, k ≤ shapes.length → -((k : Int) * 2473901162496) ≤ areasTo shapes k ∧ areasTo shapes k ≤ (k : Int) * 2473901162496
  | 0, _ => by simp [areasTo]
  | k + 1, hk => by
    have h1 := areasTo_bd h k (by omega)
    have h2 := area13_bd (h k (by omega))
    rw [areasTo]
    push_cast
    omega
theorem areasTo_le {shapes : List Shp} {n : Nat} (h : ∀ k, k < n → check13 (shapes.getD k default) = 0) : ∀ k, k ≤ n → -((k : Int) * 2473901162496) ≤ areasTo shapes k ∧ areasTo shapes k ≤ (k : Int) * 2473901162496
  | 0, _ => by simp [areasTo]
  | k + 1, hk => by
    have h1 := areasTo_le h k (by omega)
    have h2 := area13_bd (check13_fine (h k (by omega)))
    rw [areasTo]
    push_cast
    omega
theorem fine_all {shapes : List Shp} (h : ∀ k, k < shapes.length → check13 (shapes.getD k default) = 0) : ∀ s ∈ shapes, Fine13 s := by
  intro s hs
  obtain ⟨k, hk, rfl⟩ := List.getElem_of_mem hs
  have := h k hk
  rw [List.getD_eq_getElem?_getD, List.getElem?_eq_getElem hk] at this
  exact check13_fine this
theorem sumOf_bd {f : Pt → Int} {M : Int} : ∀ {l : List Pt}, (∀ c ∈ l, -M ≤ f c ∧ f c ≤ M) → -((l.length : Int) * M) ≤ sumOf f l ∧ sumOf f l ≤ (l.length : Int) * M
  | [], _ => by simp [sumOf]
  | c :: l, h => by
    have h1 := sumOf_bd (l := l) (fun d hd => h d (by simp [hd]))
    have h2 := h c (by simp)
    rw [sumOf, List.length_cons]
    push_cast
    rw [Int.add_mul]
    omega
set_option maxRecDepth 100000 in
set_option maxHeartbeats 4000000 in
theorem cuts_law (vs : Value) (shapes : List Shp) (w : World) (hs : shpsR.R w (Lt w) shapes [vs]) :
    Calls Try.prog 4 #[vs] w (Ret (.bool true) w) := by
  obtain ⟨A, c, rfl, hm, -⟩ := slice_inv hs
  by_cases h0 : shapes.length = 0
  · have e0 : ((shapes.length : Int) == 0) = true := by simp [h0]
    have e1 : shapes = [] := List.eq_nil_of_length_eq_zero h0
    subst e1
    clear h0 e0
    go_enter Try.func4, Try.ntmps4
    go_wp2
    go_ret
    exact ⟨rfl, Below.refl _ _⟩
  have e0 : ((shapes.length : Int) == 0) = false := by simp; intro e; exact h0 (by rw [e]; rfl)
  have hne : ¬ shapes = [] := fun e => h0 (by rw [e]; rfl)
  by_cases h6 : 6 < shapes.length
  · have h6' : 6 < (shapes.length : Int) := by omega
    clear h6 h0
    go_enter Try.func4, Try.ntmps4
    go_wp2
    go_ret
    exact ⟨rfl, Below.refl _ _⟩
  have h6' : ¬ 6 < (shapes.length : Int) := by omega
  have hle : shapes.length ≤ 6 := by omega
  have hpos : 0 < shapes.length := by omega
  clear h6 h0
  go_enter Try.func4, Try.ntmps4
  go_wp2
  go_loopw [3, 4] (fun sv iv wr => ∃ i : Nat, i ≤ shapes.length ∧ iv = .int .i64 i ∧ sv = .int .i64 (areasTo shapes i) ∧ Hid (∀ k, k < i → check13 (shapes.getD k default) = 0) ∧ Below w.heap.size w wr) (fun _ iv _ => shapes.length - (intOf iv).toNat)
  case atStart => exact ⟨0, Nat.zero_le _, rfl, rfl, fun k hk => absurd hk (by omega), Below.refl _ _⟩
  case round =>
    obtain ⟨i, hi, rfl, rfl, hAll, hb⟩ := hrel
    have hz := hb.size
    by_cases hlt : i < shapes.length
    · have hli : (i : Int) < (shapes.length : Int) := by omega
      obtain ⟨b, off, s, O, no, co, H, nh, ch, rfl, hsx, hbD, c0, c1, -, -, hO, hH, -, -⟩ := shape_at (Rep.at_ hs hb) hlt
      have hbw : b < w.heap.size := hbD
      have hbl : b < wr.heap.size := by omega
      have hO : ptsR.R wr (Lt wr) s.1 [.slice O no co] := Rep.mono _ (fun _ hb' => Nat.lt_of_lt_of_le hb' hz) hO
      have hH : holesR.R wr (Lt wr) s.2 [.slice H nh ch] := Rep.mono _ (fun _ hb' => Nat.lt_of_lt_of_le hb' hz) hH
      have HGD := Lib.hid (getD_at hsx.out)
      have hbd := areasTo_le hAll.out i (Nat.le_refl _)
      obtain ⟨x, hx⟩ : ∃ x, x = areasTo shapes i := ⟨_, rfl⟩
      rw [← hx] at hbd ⊢
      have HX := Lib.hid hx
      have hx1 : -30000000000000 ≤ x := by omega
      have hx2 : x ≤ 30000000000000 := by omega
      clear hbd hx
      by_cases hc : check13 s = 0
      · have HC := Lib.hid hc
        have hab := area13_bd (check13_fine hc)
        have HA2 := Lib.hid (fun w1 h1 h2 => area13_any O no co H nh ch s w1 h1 h2 hc)
        have HNX : Hid (areasTo shapes (i + 1) = x + area13 s) := by show _ = _; rw [areasTo, HX.out, HGD.out]
        have HALL : Hid (∀ k, k < i + 1 → check13 (shapes.getD k default) = 0) := fun k hk => by
          by_cases he : k = i
          · rw [he, HGD.out]; exact HC.out
          · exact hAll.out k (by omega)
        obtain ⟨y, hy⟩ : ∃ y, y = area13 s := ⟨_, rfl⟩
        rw [← hy] at hab HA2 HNX
        clear hc hy
        go_wp2_with fail
        refine (check13_any O no co H nh ch s _ hO hH).mono ?_
        rintro e w1 ⟨rfl, hq⟩
        rw [HC.out]
        have hb1 := bstep hb hz hq
        have hO := Rep.below hO hq
        have hH := Rep.below hH hq
        have c0 := ((bcell hq).1 b (off + i * 2) hbl).trans c0
        have c1 := ((bcell hq).1 b (off + i * 2 + 1) hbl).trans c1
        clear hq
        go_wp2_with fail
        refine (HA2.out _ hO hH).mono ?_
        rintro e w2 ⟨rfl, hq⟩
        have hb2 := bstep hb1 hb1.size hq
        go_wp2
        go_roundw
        case rel => exact ⟨i + 1, by omega, by go_num, by rw [HNX.out], HALL.out, hb2⟩
        case measure => simp [intOf]; omega
      · have hcb : (check13 s != 0) = true := by simp [hc]
        clear hc
        go_wp2_with fail
        refine (check13_any O no co H nh ch s _ hO hH).mono ?_
        rintro e w1 ⟨rfl, hq⟩
        go_wp2
        go_ret
        exact ⟨rfl, bstep hb hz hq⟩
    · have hli : ¬ (i : Int) < (shapes.length : Int) := by omega
      have hin : i = shapes.length := by omega
      have hall := hAll.out
      rw [hin] at hall
      have hfine := fine_all hall
      have hfk : ∀ k, k < shapes.length → Fine13 (shapes.getD k default) := fun k hk => check13_fine (hall k hk)
      have HCT := Lib.hid (ct_count hfine hle)
      have HSM : Hid (SmallS shapes) := ⟨by omega, fun s hs' => by have := (hfine s hs').holes; omega⟩
      have HSR : Hid (SmallR shapes) := fun c hc => by have := (ct_fine hfine hc).hi; omega
      have hg := greedy_ok (shapes := shapes) (by have := HCT.out; omega)
      obtain ⟨order, hord⟩ : ∃ r, greedyTF shapes = r := ⟨_, rfl⟩
      rw [hord] at hg
      have HORD := Lib.hid hord
      have HG := Lib.hid hg
      obtain ⟨m, hm1, hm2, hm3, hm4⟩ := cuts_run hfine hle hg.2
      have hperm := order_perm hg.2
      have HCF : Hid (∀ c ∈ order, Fine12 (cutOf shapes c)) := fun c hc => (cut_fine hfine (hperm.mem_iff.1 hc)).1
      have HAR := Lib.hid (cuts_area hfine hg.2)
      have hol : order.length ≤ 54 := by rw [hg.1]; exact HCT.out.2
      have hos : shapes.length ≤ order.length := by rw [hg.1]; exact HCT.out.1
      have HTR := Lib.hid (travelF_yes hg.2)
      have HMK := Lib.hid (makeF_yes hg.2)
      obtain ⟨T, hT⟩ : ∃ T, travelTo shapes (0, 0) order = T := ⟨_, rfl⟩
      rw [hT] at HTR hm2
      obtain ⟨tr, bu, pi, at_, lit, ring, rings⟩ := m
      have hm2 : tr = T := hm2
      have hm3 : pi = (order.length : Int) := hm3
      have hm4 : rings = order.map (cutOf shapes) := hm4
      subst hm2 hm3
      have HRN := Lib.hid hm1
      have HRG := Lib.hid hm4
      have HFK := Lib.hid hfk
      have HIN := Lib.hid hin
      have hlo : ¬ (order.length : Int) < (shapes.length : Int) := by omega
      have hlo2 : decide (order.length < shapes.length) = false := decide_eq_false (by omega)
      clear hlt hin hall hfine hfk hord hg hm1 hm4 hperm hT hAll
      go_wp2_with fail
      refine (greedyT_any _ shapes _ (Rep.below hs hb) HSM.out).mono ?_
      rintro e w1 ⟨v, rfl, hor, hq⟩
      rw [HORD.out] at hor
      have hb1 := bstep hb hz hq
      obtain ⟨OA, oc, rfl, hom, -⟩ := slice_inv hor
      clear hq
      go_wp2_with fail
      have hT := travel_any _ _ shapes order _ (Rep.below hs hb1) hor HSM.out
      rw [HTR.out] at hT
      refine hT.mono ?_
      rintro e w2 ⟨he, hq⟩
      have he : e = .returned (.tuple #[.int .i64 tr, .int .i64 0]) := he
      subst he
      have hb2 := bstep hb1 hb1.size hq
      have hor2 := Rep.below hor hq
      clear hq hor hT hb1
      go_wp2_with fail
      have hM := make_any _ _ shapes order _ (Rep.below hs hb2) hor2 HSM.out HSR.out
      rw [HMK.out] at hM
      refine hM.mono ?_
      rintro e w3 ⟨lv, he, hlr, hq⟩
      have he : e = .returned (.tuple #[lv, .int .i64 0]) := he
      subst he
      have hlr : stR.slice.R w3 (Lt w3) (makeT shapes order) [lv] := hlr
      have hb3 := bstep hb2 hb2.size hq
      have hor3 := Rep.below hor2 hq
      clear hq hor2 hM hb2
      go_wp2_with fail
      have hR := run_any _ _ _ hlr
      rw [HRN.out] at hR
      refine hR.mono ?_
      rintro e w4 ⟨cv, he, hcr, hq⟩
      have he : e = .returned (.tuple #[.agg #[.int .i64 tr, .int .i64 bu, .int .i64 (order.length : Int)], cv, .int .i64 0]) := he
      subst he
      have hcr : holesR.R w4 (Lt w4) rings [cv] := hcr
      rw [HRG.out] at hcr
      obtain ⟨CA, cc, rfl, hcm, -⟩ := slice_inv hcr
      have hb4 := bstep hb3 hb3.size hq
      have hor4 := Rep.below hor3 hq
      have hb5 := hb4.alloc hb4.size (.cells #[.int .i64 tr, .int .i64 bu, .int .i64 (order.length : Int)] 51)
      have BT := Blk.new w4 51 #[.int .i64 tr, .int .i64 bu, .int .i64 (order.length : Int)]
      have hor5 := Rep.below hor4 ((Below.refl _ _).alloc (Nat.le_refl _) (.cells #[.int .i64 tr, .int .i64 bu, .int .i64 (order.length : Int)] 51))
      have hcr5 := Rep.below hcr ((Below.refl _ _).alloc (Nat.le_refl _) (.cells #[.int .i64 tr, .int .i64 bu, .int .i64 (order.length : Int)] 51))
      obtain ⟨n, hn⟩ : ∃ n, n = (order.map (cutOf shapes)).length := ⟨_, rfl⟩
      have hn' : n = order.length := by rw [hn, List.length_map]
      subst hn'
      rw [← hn] at hcm hcr5 ⊢
      have HNN := Lib.hid hn
      clear hq hor3 hR hb3 hlr hcr hor4 hn
      go_wp2_with fail
      have hK := checkT_any _ _ shapes order _ (Rep.below hs hb5) hor5 HSM.out
      rw [HG.out.2] at hK
      refine hK.mono ?_
      rintro e w6 ⟨rfl, hq⟩
      have hb6 := bstep hb5 hb5.size hq
      have BT6 := BT.below hq BT.lt
      have hcr6 := Rep.below hcr5 hq
      have t0 := BT6.cell 0
      have t2 := BT6.cell 2
      simp only [List.getElem?_toArray, List.getElem?_cons_zero, List.getElem?_cons_succ] at t0 t2
      have n1 : ((order.length : Int) != (order.length : Int)) = false := by simp
      have n2 : (tr != tr) = false := by simp
      have hbd : ∀ c ∈ order, -274877906944 ≤ areaP (cutOf shapes c) ∧ areaP (cutOf shapes c) ≤ 274877906944 := fun c hc => areaP_bd (HCF.out c hc)
      have HBD := Lib.hid hbd
      obtain ⟨w7, hw7⟩ : ∃ W, W = w6 := ⟨_, rfl⟩
      subst hw7
      clear hq hK hb5 BT hor5 hcr5 hbd hb4
      go_wp2
      go_loopw [13, 14] (fun sv iv wr => ∃ j : Nat, j ≤ order.length ∧ iv = .int .i64 j ∧ sv = .int .i64 (sumOf (fun c => areaP (cutOf shapes c)) (order.take j)) ∧ Below w7.heap.size w7 wr) (fun _ iv _ => order.length - (intOf iv).toNat)
      case atStart => exact ⟨0, Nat.zero_le _, rfl, rfl, Below.refl _ _⟩
      case round =>
        obtain ⟨j, hj, rfl, rfl, hb⟩ := hrel
        have hz := hb.size
        by_cases hlt : j < order.length
        · have hji : (j : Int) < (order.length : Int) := by omega
          obtain ⟨b, off, p, PO, pn, pc, rfl, hp, hbD, c0, -, hr2, -⟩ := hole_at (Rep.at_ hcr6 hb) (show j < (order.map (cutOf shapes)).length from by rw [← HNN.out]; exact hlt)
          have hr2 : ptsR.R wr (Lt wr) p [.slice PO pn pc] := Rep.mono _ (fun _ hb' => Nat.lt_of_lt_of_le hb' hz) hr2
          have hpo := hp.out
          rw [List.getElem?_map, List.getElem?_eq_getElem hlt, Option.map_some] at hpo
          have hpo := Option.some.inj hpo
          have hmem := List.getElem_mem hlt
          have hfp := HCF.out _ hmem
          rw [hpo] at hfp
          have hpd := areaP_bd hfp
          have HAP := Lib.hid (area12_fine hfp)
          have hsb := sumOf_bd (f := fun c => areaP (cutOf shapes c)) (M := 274877906944) (l := order.take j) (fun c hc => HBD.out c (List.mem_of_mem_take hc))
          have HNX : Hid (sumOf (fun c => areaP (cutOf shapes c)) (order.take (j + 1)) = sumOf (fun c => areaP (cutOf shapes c)) (order.take j) + areaP p) := by
            show _ = _
            rw [take_snoc order j hlt, sumOf_app]
            simp only [sumOf, hpo]
            omega
          obtain ⟨x, hx⟩ : ∃ x, x = sumOf (fun c => areaP (cutOf shapes c)) (order.take j) := ⟨_, rfl⟩
          obtain ⟨y, hy⟩ : ∃ y, y = areaP p := ⟨_, rfl⟩
          rw [← hx] at hsb HNX
          rw [← hy] at hpd HNX HAP
          rw [← hx]
          rw [List.length_take] at hsb
          have hm54 : ((min j order.length : Nat) : Int) ≤ 54 := by omega
          generalize ((min j order.length : Nat) : Int) = mj at hsb hm54
          have hx1 : -30000000000000 ≤ x := by omega
          have hx2 : x ≤ 30000000000000 := by omega
          clear hsb hx hy hfp hpo hmem hm54
          go_wp2_with fail
          refine (area12_any PO pn pc p _ hr2).mono ?_
          rintro e w8 ⟨rfl, hq⟩
          rw [HAP.out]
          have hb8 := bstep hb hz hq
          go_wp2
          go_roundw
          case rel => exact ⟨j + 1, by omega, by go_num, by rw [HNX.out], hb8⟩
          case measure => simp [intOf]; omega
        · have hji : ¬ (j : Int) < (order.length : Int) := by omega
          have HE : Hid (sumOf (fun c => areaP (cutOf shapes c)) (order.take j) = areasTo shapes i) := by
            show _ = _
            rw [List.take_of_length_le (by omega), HAR.out, HIN.out]
          rw [HE.out]
          clear hlt
          go_wp2
          go_ret
          exact ⟨ret_bool (by simp), bstep hb6 hb6.size hb⟩
end Go.Proofs.Ytcnkocnajamclaa
