/- Chapter 34: the reference's Check, by walking its text. -/
import Derived.Test.YtgiphdjblnfjcaaWsW5
namespace Go.Proofs.Ytgiphdjblnfjcaa
open Go Go.RowKit

set_option maxHeartbeats 800000 in
theorem wsRefCheck_any (vl vb vo : Value) (l : List Bead) (reach stiff : Int) (before : List (Int × Int)) (order : List Int) (w : World) (hl : beadR.slice.R w (Lt w) l [vl]) (hb : prR.slice.R w (Lt w) before [vb]) (ho : Rep.int.slice.R w (Lt w) order [vo]) :
    Calls Try.prog 13 #[vl, .agg #[.int .i64 reach, .int .i64 stiff], vb, vo] w (Ret (.int .i64 (wsCheckF l reach stiff before order)) w) := by
  obtain ⟨A, c, rfl, hm, -⟩ := slice_inv hl
  obtain ⟨B, d, rfl, hmb, -⟩ := slice_inv hb
  have hw0 : Below w.heap.size w (w.alloc (.cells #[.int .i64 reach, .int .i64 stiff] 24)) := (Below.refl _ _).alloc (Nat.le_refl _) _
  by_cases hc : wrongF l reach stiff before = 0
  · have hb0 : (wrongF l reach stiff before != 0) = false := by simp [hc]
    have HC := Lib.hid hc
    clear hc
    rcases Bool.eq_false_or_eq_true (orderB order l.length) with hord | hord
    · generalize hob : orderB order l.length = ob at *
      subst hord
      have HOB := Lib.hid hob
      clear hob
      go_enter Try.func13, Try.ntmps13
      go_wp2_with fail
      refine (refWrong_any _ _ _ _ _ before _ (Rep.below hl hw0) (Rep.below hb hw0)).mono ?_
      rintro e w1 ⟨rfl, hb1⟩
      have hw1 := bstep hw0 hw0.size hb1
      go_wp2_with fail
      refine (permutation_any _ _ _ _ hm (Rep.below ho hw1)).mono ?_
      rintro e w2 ⟨he, hq2⟩
      rw [HOB.out] at he
      subst he
      have hw2 := bstep hw1 hw1.size (hq2.below _)
      clear hq2 hb1
      go_wp2
      go_loopw [10] (fun i wr => ∃ k : Nat, k ≤ before.length ∧ i = .int .i64 k ∧ Hid ((before.take k).all (fun x => !badPair order x) = true) ∧ Below w.heap.size w wr) (fun i _ => before.length - (intOf i).toNat)
      case atStart => exact ⟨0, Nat.zero_le _, rfl, rfl, hw2⟩
      case round =>
        obtain ⟨k, hk, rfl, hall, hbw⟩ := hrel
        by_cases hlt : k < before.length
        · obtain ⟨b, off, p, s, rfl, hx, hbw0, k0, k1, -⟩ := pairs_at (Rep.at_ hb hbw) hlt
          have hbz := hbw.size
          have hbb : b < wr.heap.size := Nat.lt_of_lt_of_le hbw0 hbz
          rcases Bool.eq_false_or_eq_true (badPair order (p, s)) with hd | hd
          · have hlt2 : placeF order s < placeF order p := of_decide_eq_true hd
            have HD := Lib.hid hd
            clear hd
            generalize hpp : placeF order p = pp at *
            generalize hps : placeF order s = ps at *
            have HPP := Lib.hid hpp
            have HPS := Lib.hid hps
            clear hpp hps
            go_wp2
            go_region_held3 (fun W => Below wr.heap.size wr W ∧ W.cell? ⟨b, off + k * 2, none⟩ = some (.int .i64 p) ∧ W.cell? ⟨b, off + k * 2 + 1, none⟩ = some (.int .i64 s))
              (first
                | exact ⟨(Below.refl _ _).drew, k0, k1⟩
                | exact ⟨hSa, (hSa.cell (p := ⟨b, off + k * 2, none⟩) hbb).trans k0, (hSa.cell (p := ⟨b, off + k * 2 + 1, none⟩) hbb).trans k1⟩)
              (first
                | (go_at_call 25
                   go_split_ands
                   refine (place_any _ _ _ _ (Rep.below ho (bstep hbw hbz (by assumption)))).mono ?_
                   rintro e W1 ⟨he, hq⟩
                   first | rw [HPP.out] at he | rw [HPS.out] at he
                   subst he
                   have hSa := bstep (B := wr.heap.size) (a := wr) (by assumption) (Below.size (by assumption)) (hq.below _)))
            all_goals
              go_split_ands
              go_wp2
              go_ret
              exact ⟨ret_int (wsCheck_pair HC.out HOB.out (all_bad hx.out (by rw [HD.out]; rfl))).symm, bstep hbw hbz (by assumption)⟩
          · have hlt2 : ¬ placeF order s < placeF order p := of_decide_eq_false hd
            have HD := Lib.hid hd
            clear hd
            generalize hpp : placeF order p = pp at *
            generalize hps : placeF order s = ps at *
            have HPP := Lib.hid hpp
            have HPS := Lib.hid hps
            clear hpp hps
            go_wp2
            go_region_held3 (fun W => Below wr.heap.size wr W ∧ W.cell? ⟨b, off + k * 2, none⟩ = some (.int .i64 p) ∧ W.cell? ⟨b, off + k * 2 + 1, none⟩ = some (.int .i64 s))
              (first
                | exact ⟨(Below.refl _ _).drew, k0, k1⟩
                | exact ⟨hSa, (hSa.cell (p := ⟨b, off + k * 2, none⟩) hbb).trans k0, (hSa.cell (p := ⟨b, off + k * 2 + 1, none⟩) hbb).trans k1⟩)
              (first
                | (go_at_call 25
                   go_split_ands
                   refine (place_any _ _ _ _ (Rep.below ho (bstep hbw hbz (by assumption)))).mono ?_
                   rintro e W1 ⟨he, hq⟩
                   first | rw [HPP.out] at he | rw [HPS.out] at he
                   subst he
                   have hSa := bstep (B := wr.heap.size) (a := wr) (by assumption) (Below.size (by assumption)) (hq.below _)))
            all_goals
              go_split_ands
              go_wp2
              go_roundw
              case rel => exact ⟨k + 1, by omega, by go_num, all_take_succ hall.out hx.out (by rw [HD.out]; rfl), bstep hbw hbz (by assumption)⟩
              case measure => simp [intOf]; omega
        · go_wp2
          go_ret
          have h3 := hall.out
          rw [List.take_of_length_le (by omega)] at h3
          exact ⟨ret_int (wsCheck_ok HC.out HOB.out h3).symm, hbw⟩
    · have HO := Lib.hid (wsCheck_order HC.out hord)
      generalize hob : orderB order l.length = ob at *
      subst hord
      have HOB := Lib.hid hob
      clear hob
      go_enter Try.func13, Try.ntmps13
      go_wp2_with fail
      refine (refWrong_any _ _ _ _ _ before _ (Rep.below hl hw0) (Rep.below hb hw0)).mono ?_
      rintro e w1 ⟨rfl, hb1⟩
      have hw1 := bstep hw0 hw0.size hb1
      go_wp2_with fail
      refine (permutation_any _ _ _ _ hm (Rep.below ho hw1)).mono ?_
      rintro e w2 ⟨he, hq2⟩
      rw [HOB.out] at he
      subst he
      have hw2 := bstep hw1 hw1.size (hq2.below _)
      go_wp2
      go_ret
      exact ⟨ret_int HO.out.symm, hw2⟩
  · have hb0 : (wrongF l reach stiff before != 0) = true := by simp [hc]
    have HC := Lib.hid (wsCheck_bad (order := order) hc)
    clear hc
    go_enter Try.func13, Try.ntmps13
    go_wp2_with fail
    refine (refWrong_any _ _ _ _ _ before _ (Rep.below hl hw0) (Rep.below hb hw0)).mono ?_
    rintro e w1 ⟨rfl, hb1⟩
    have hw1 := bstep hw0 hw0.size hb1
    go_wp2
    go_ret
    exact ⟨ret_int HC.out.symm, hw1⟩
end Go.Proofs.Ytgiphdjblnfjcaa
