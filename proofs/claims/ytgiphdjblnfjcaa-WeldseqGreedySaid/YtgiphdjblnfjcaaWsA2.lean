/- Chapter 34: the unevenness of a beginning, by walking the program's text. -/
import Derived.Test.YtgiphdjblnfjcaaWsA1
import Derived.Test.YtgiphdjblnfjcaaDistWalksE
namespace Go.Proofs.Ytgiphdjblnfjcaa
open Go Go.RowKit

theorem fill_in {b : List Int} {k : Nat} (h : b.contains (k : Int) = true) : fillTo b (k + 1) = fillTo b k := by rw [fillTo, if_pos h]
theorem fill_out {b : List Int} {k : Nat} (h : b.contains (k : Int) = false) : fillTo b (k + 1) = fillTo b k ++ [(k : Int)] := by rw [fillTo, if_neg (by rw [h]; decide)]
def stepU (mid twice x : Int) (n : Int) : Int := unevStep mid twice x n
theorem stepU_lt {mid twice x n : Int} (h : twice < mid) : stepU mid twice x n = n + x := if_pos h
theorem stepU_gt {mid twice x n : Int} (h : mid < twice) : stepU mid twice x n = n - x := by unfold stepU unevStep; rw [if_neg (by omega), if_pos h]
theorem stepU_eq {mid twice x n : Int} (h : twice = mid) : stepU mid twice x n = n := by unfold stepU unevStep; rw [if_neg (by omega), if_neg (by omega)]
theorem unevB_is {l : List Bead} {reach stiff : Int} {b : List Int} (hC : checkF l reach stiff = 0) (hB : Beg l.length b) :
    unevB l reach stiff b = max (unevTo l (lowTo l l.length + highTo l l.length) (runTo l reach stiff (fillTo b l.length) (fillTo b l.length).length) b b.length).1 (-(unevTo l (lowTo l l.length + highTo l l.length) (runTo l reach stiff (fillTo b l.length) (fillTo b l.length).length) b b.length).1) := by
  unfold unevB
  rw [runF_yes hC (fill_order hB)]
theorem unevTo_step {l : List Bead} {mid : Int} {sh b : List Int} {k i : Nat} {p s y : Int} (h1 : b[k]? = some (i : Int)) (h2 : l[i]? = some ⟨p, s⟩) (h3 : sh[i]? = some y) : (unevTo l mid sh b (k + 1)).1 = stepU mid (2 * p) y (unevTo l mid sh b k).1 := by
  rw [unevTo, getD_of' h1, Int.toNat_natCast, getD_of h2, getD_of' h3]; rfl
set_option maxHeartbeats 1000000 in
theorem punev_any (g : Nat) (vl vb vo : Value) (l : List Bead) (reach stiff : Int) (b : List Int) (w : World) (hg : Blk w g 68 (panelCells vl vb reach stiff (midOf l))) (hl : beadR.slice.R w (Lt w) l [vl]) (ho : Rep.int.slice.R w (Lt w) b [vo])
    (hC : checkF l reach stiff = 0) (hB : Beg l.length b) (hpos : 0 < l.length) :
    Calls Try.prog 28 #[.pointer (some ⟨g, 0, none⟩), vo] w (Ret (.int .i64 (unevB l reach stiff b)) w) := by
  obtain ⟨A, c, rfl, hm, -⟩ := slice_inv hl
  obtain ⟨F, d, rfl, hmb, -⟩ := slice_inv ho
  obtain ⟨h32, hr, hok⟩ := checkF_ok hC
  have HU := Lib.hid (unevB_is hC hB)
  have HRY := Lib.hid (runF_yes hC (fill_order hB))
  have HLB := Lib.hid (lowTo_bd hok hpos l.length (Nat.le_refl _))
  have HHB := Lib.hid (highTo_bd hok hpos l.length (Nat.le_refl _))
  have HBB := Lib.hid (runTo_bd (order := fillTo b l.length) hr hok (fillTo b l.length).length)
  have HFL := Lib.hid fun k hk => (fillTo_mem hB k hk).1.len
  have HBL := hB.len
  have HFI : Hid (∀ x ∈ fillTo b l.length, inI64 x) := by
    show ∀ x ∈ fillTo b l.length, inI64 x
    intro x hx
    have := (fillTo_mem hB l.length (Nat.le_refl _)).1.rng x hx
    unfold inI64; omega
  have HBI := Lib.hid (fun k hk => ints_bd (Rep.slice_take ho (k := k) hk))
  have HM : Hid (midOf l = lowTo l l.length + highTo l l.length) := by show midOf l = _; unfold midOf; rw [if_neg (by omega)]
  have HK := Lib.hid hok
  clear hok hr
  rw [HM.out] at hg
  obtain ⟨i0, hi, hz0, hz1, hz2⟩ := info_parts int_info
  go_enter Try.func28, Try.ntmps28
  go_wp2_with fail
  refine (clone_any _ b w ho (by omega)).mono ?_
  rintro e w1 ⟨v1, rfl, hown, hb1⟩
  have g1 := hg.below hb1 hg.lt
  have k0 := g1.cell 0
  simp only [panelCells, List.getElem?_toArray, List.getElem?_cons_zero] at k0
  go_wp2
  clear k0
  go_loopw [5, 20] (fun v i wr => ∃ k : Nat, k ≤ l.length ∧ i = .int .i64 k ∧ OwnI wr w.heap.size v (fillTo b k) ∧ Below w.heap.size w wr) (fun _ i _ => l.length - (intOf i).toNat)
  case atStart => exact ⟨0, Nat.zero_le _, rfl, hown, hb1⟩
  case round =>
    obtain ⟨k, hk, rfl, hown, hbw⟩ := hrel
    have hz := hbw.size
    have hfl := HFL.out k hk
    by_cases hlt : k < l.length
    · rcases Bool.eq_false_or_eq_true (b.contains (k : Int)) with hc | hc
      · have HF := Lib.hid (fill_in hc)
        generalize hcb : b.contains (k : Int) = cb at *
        subst hc
        have HC := Lib.hid hcb
        clear hcb
        go_wp2_with (go_at_call 45; refine (contains_any _ b _ _ (Rep.below ho hbw)).mono ?_; rintro e W1 ⟨he, rfl⟩; rw [HC.out] at he; subst he)
        go_roundw
        case rel => exact ⟨k + 1, by omega, by go_num, by rw [HF.out]; exact hown, hbw⟩
        case measure => simp [intOf]; omega
      · have HF := Lib.hid (fill_out hc)
        generalize hcb : b.contains (k : Int) = cb at *
        subst hc
        have HC := Lib.hid hcb
        clear hcb
        go_wp2_with (first
          | (go_at_call 45; refine (contains_any _ b _ _ (Rep.below ho hbw)).mono ?_; rintro e W1 ⟨he, rfl⟩; rw [HC.out] at he; subst he)
          | (at_builtin; refine wpList_append_own _ rfl _ _ 28 rfl w.heap.size 3 i0 (.int .i64 0) 1 8 Try.underlying28 hi hz0 hz1 hz2 rfl (by decide) _ _ _ rfl (World.ownsRow.alloc hown _) ⟨W1.heap.size, 0, none⟩ 1 1 [.int .i64 k] rfl rfl (new1_cells _ _ _) (one_oneCell rfl) (by unfold maxLen; omega) (by omega) (by simp; omega) ?_; intro v2 w2 hown2 hg2 _))
        go_roundw
        case rel => exact ⟨k + 1, by omega, by go_num, by rw [HF.out]; exact ownI_snoc hown2, (hbw.alloc hz _).grown hg2 (by simp; omega) (fun j hj => (World.ownsRow.lt hown j hj).1)⟩
        case measure => simp [intOf]; omega
    · obtain rfl : k = l.length := by omega
      have gr := hg.below hbw hg.lt
      have k0 := gr.cell 0
      have k1 := gr.cell 1
      have k2 := gr.cell 2
      simp only [panelCells, List.getElem?_toArray, List.getElem?_cons_zero, List.getElem?_cons_succ] at k0 k1 k2
      have gl := gr.lt
      have hv := own_ints hown (HFI.out)
      go_wp2
      go_region_held3 (fun W => Below wr.heap.size wr W ∧ W.cell? ⟨g, 0, none⟩ = some (.slice A l.length c) ∧ W.cell? ⟨g, 1, none⟩ = some (.int .i64 reach) ∧ W.cell? ⟨g, 2, none⟩ = some (.int .i64 stiff))
        (first
          | exact ⟨(Below.refl _ _).drew, k0, k1, k2⟩
          | exact ⟨hSa, (hSa.cell (p := ⟨g, 0, none⟩) gl).trans k0, (hSa.cell (p := ⟨g, 1, none⟩) gl).trans k1, (hSa.cell (p := ⟨g, 2, none⟩) gl).trans k2⟩)
        (first
          | (go_at_call 21
             go_split_ands
             refine (run_any _ _ l reach stiff (fillTo b l.length) _ (Rep.below hl (bstep hbw hz (by assumption))) (Rep.below hv (by assumption))).mono ?_
             rintro e W1 ⟨vr, rfl, hvr, hq⟩
             have hSa := bstep (B := wr.heap.size) (a := wr) (by assumption) (Below.size (by assumption)) hq))
      all_goals
        go_split_ands
        rw [HRY.out] at hvr
        simp only [] at hvr
        have gq := gr.below (w' := W1) (by assumption) gl
        have hbq := bstep hbw hz (by assumption)
        clear k0 k1 k2
        have k0 := gq.cell 0
        have k4 := gq.cell 4
        simp only [panelCells, List.getElem?_toArray, List.getElem?_cons_zero, List.getElem?_cons_succ] at k0 k4
        have HSL : Hid ((runTo l reach stiff (fillTo b l.length) (fillTo b l.length).length).length = l.length) := runTo_length _ _ _ _ _
        generalize hsh : runTo l reach stiff (fillTo b l.length) (fillTo b l.length).length = sh at *
        have HSH := Lib.hid hsh
        clear hsh
        obtain ⟨V, cv, rfl, hml, -⟩ := slice_inv hvr
        have hsl : sh.length ≤ 32 := by have := HSL.out; omega
        go_wp2
        clear k0 k4
        have l0 := HLB.out.1
        have l1 := HLB.out.2
        have h0 := HHB.out.1
        have h1 := HHB.out.2
        generalize hlo : lowTo l l.length = lo at *
        generalize hhi : highTo l l.length = hi at *
        have HLO := Lib.hid hlo
        have HHI := Lib.hid hhi
        clear hlo hhi
        obtain ⟨wo, hwo⟩ : ∃ wo : World, wo = W1 := ⟨_, rfl⟩
        subst hwo
        go_loopw [9, 47] (fun n i wq => ∃ k : Nat, k ≤ b.length ∧ i = .int .i64 k ∧ n = .int .i64 (unevTo l (lo + hi) sh b k).1 ∧ wq = wo) (fun _ i _ => b.length - (intOf i).toNat)
        case atStart => exact ⟨0, Nat.zero_le _, rfl, rfl, rfl⟩
        case round =>
          obtain ⟨k, hk, rfl, rfl, rfl⟩ := hrel
          by_cases hlt : k < b.length
          · obtain ⟨b3, off3, x, rfl, hi2, -, c3, -⟩ := ints_at (Rep.at_ ho hbq) hlt
            have HX := Lib.hid (hB.rng x (List.mem_of_getElem? hi2.out))
            have hx0 := HX.out.1
            have hx1 := HX.out.2
            obtain ⟨i, rfl⟩ := Int.eq_ofNat_of_zero_le hx0
            have hil : i < l.length := by omega
            obtain ⟨b2, off2, p', s', rfl, hy, -, c1, c2, -⟩ := beads_at (Rep.at_ hl hbq) hil
            have HB' := Lib.hid (okBead_at HK.out hy.out)
            have hp0' : -32768 ≤ p' := HB'.out.1
            have hp1' : p' ≤ 32768 := HB'.out.2.1
            obtain ⟨b4, off4, y, rfl, hs2, -, c4, -⟩ := ints_at hvr (k := i) (by have := HSL.out; omega)
            have HY := Lib.hid (HBB.out y (List.mem_of_getElem? hs2.out))
            have hy0 := HY.out.1
            have hy1 := HY.out.2
            have HST := Lib.hid (unevTo_step (mid := lo + hi) hi2.out hy.out hs2.out)
            have HUB := Lib.hid (unevTo_bd (l := l) (mid := lo + hi) (order := b) HBB.out k)
            generalize hu : (unevTo l (lo + hi) sh b k).1 = n at *
            have HN := Lib.hid hu
            clear hu
            have hu0 : -3200000 ≤ n := by have := HUB.out.1; omega
            have hu1 : n ≤ 3200000 := by have := HUB.out.2.1; omega
            have k0 := gq.cell 0
            have k4 := gq.cell 4
            simp only [panelCells, List.getElem?_toArray, List.getElem?_cons_zero, List.getElem?_cons_succ] at k0 k4
            have hsi : i < sh.length := by have := HSL.out; omega
            rcases Int.lt_trichotomy (2 * p') (lo + hi) with hc | hc | hc
            · have HE := Lib.hid (stepU_lt (x := y) (n := n) hc)
              go_wp2
              go_roundw
              case rel => exact ⟨k + 1, by omega, by go_num, by rw [HST.out, HE.out], by trivial⟩
              case measure => simp [intOf]; omega
            · have HE := Lib.hid (stepU_eq (x := y) (n := n) hc)
              have hc1 : ¬ 2 * p' < lo + hi := by omega
              have hc2 : ¬ lo + hi < 2 * p' := by omega
              clear hc
              go_wp2
              go_roundw
              case rel => exact ⟨k + 1, by omega, by go_num, by rw [HST.out, HE.out], by trivial⟩
              case measure => simp [intOf]; omega
            · have HE := Lib.hid (stepU_gt (x := y) (n := n) hc)
              have hc1 : ¬ 2 * p' < lo + hi := by omega
              go_wp2
              go_roundw
              case rel => exact ⟨k + 1, by omega, by go_num, by rw [HST.out, HE.out], by trivial⟩
              case measure => simp [intOf]; omega
          · obtain rfl : k = b.length := by omega
            have HUB := Lib.hid (unevTo_bd (l := l) (mid := lo + hi) (order := b) HBB.out b.length)
            generalize hu : (unevTo l (lo + hi) sh b b.length).1 = n at *
            have HN := Lib.hid hu
            clear hu
            have hu0 : -3200000 ≤ n := by have := HUB.out.1; omega
            have hu1 : n ≤ 3200000 := by have := HUB.out.2.1; omega
            go_wp2
            go_ret
            exact ⟨ret_int (by rw [HU.out, int_max_if]), hbq⟩
end Go.Proofs.Ytgiphdjblnfjcaa
