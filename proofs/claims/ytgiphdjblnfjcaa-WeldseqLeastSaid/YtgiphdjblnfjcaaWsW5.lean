/- Chapter 34: Check, of the program and of the reference, by walking their text. -/
import Derived.Test.YtgiphdjblnfjcaaWsW4
import Derived.Test.YtgiphdjblnfjcaaDistWalksD
import Derived.Deep.RegionHeld3
namespace Go.Proofs.Ytgiphdjblnfjcaa
open Go Go.RowKit

theorem wrongF_bad {l : List Bead} {reach stiff : Int} {before : List (Int × Int)} (h : checkF l reach stiff ≠ 0) : wrongF l reach stiff before = checkF l reach stiff := if_pos h
theorem wrongF_ok {l : List Bead} {reach stiff : Int} {before : List (Int × Int)} (h : checkF l reach stiff = 0) : wrongF l reach stiff before = orderE l.length before := by
  unfold wrongF; rw [if_neg (by simpa using h)]
set_option maxHeartbeats 400000 in
theorem wrong_any (vl vb : Value) (l : List Bead) (reach stiff : Int) (before : List (Int × Int)) (w : World) (hl : beadR.slice.R w (Lt w) l [vl]) (hb : prR.slice.R w (Lt w) before [vb]) :
    Calls Try.prog 20 #[vl, .agg #[.int .i64 reach, .int .i64 stiff], vb] w (Ret (.int .i64 (wrongF l reach stiff before)) w) := by
  obtain ⟨A, c, rfl, hm, -⟩ := slice_inv hl
  have hw0 : Below w.heap.size w (w.alloc (.cells #[.int .i64 reach, .int .i64 stiff] 24)) := (Below.refl _ _).alloc (Nat.le_refl _) _
  by_cases hc : checkF l reach stiff = 0
  · have h32 := (checkF_ok hc).1
    have hb0 : (checkF l reach stiff != 0) = false := by simp [hc]
    have HC := Lib.hid (wrongF_ok (before := before) hc)
    clear hc
    go_enter Try.func20, Try.ntmps20
    go_wp2_with fail
    refine (check_any _ _ _ _ _ (Rep.below hl hw0)).mono ?_
    rintro e w1 ⟨rfl, hb1⟩
    have hw1 := bstep hw0 hw0.size hb1
    go_wp2_with fail
    refine (dagOrder_any _ before l.length _ (by omega) (Rep.below hb hw1)).mono ?_
    rintro e w2 ⟨u, rfl, hb2⟩
    have hw2 := bstep hw1 hw1.size hb2
    go_wp2
    go_ret
    exact ⟨ret_int HC.out.symm, hw2⟩
  · have hb0 : (checkF l reach stiff != 0) = true := by simp [hc]
    have HC := Lib.hid (wrongF_bad (before := before) hc)
    clear hc
    go_enter Try.func20, Try.ntmps20
    go_wp2_with fail
    refine (check_any _ _ _ _ _ (Rep.below hl hw0)).mono ?_
    rintro e w1 ⟨rfl, hb1⟩
    have hw1 := bstep hw0 hw0.size hb1
    go_wp2
    go_ret
    exact ⟨ret_int HC.out.symm, hw1⟩
set_option maxHeartbeats 400000 in
theorem refWrong_any (vl vb : Value) (l : List Bead) (reach stiff : Int) (before : List (Int × Int)) (w : World) (hl : beadR.slice.R w (Lt w) l [vl]) (hb : prR.slice.R w (Lt w) before [vb]) :
    Calls Try.prog 23 #[vl, .agg #[.int .i64 reach, .int .i64 stiff], vb] w (Ret (.int .i64 (wrongF l reach stiff before)) w) := by
  obtain ⟨A, c, rfl, hm, -⟩ := slice_inv hl
  have hw0 : Below w.heap.size w (w.alloc (.cells #[.int .i64 reach, .int .i64 stiff] 24)) := (Below.refl _ _).alloc (Nat.le_refl _) _
  by_cases hc : checkF l reach stiff = 0
  · have h32 := (checkF_ok hc).1
    have hb0 : (checkF l reach stiff != 0) = false := by simp [hc]
    have HC := Lib.hid (wrongF_ok (before := before) hc)
    clear hc
    go_enter Try.func23, Try.ntmps23
    go_wp2_with fail
    refine (refCheck_any _ _ _ _ _ (Rep.below hl hw0)).mono ?_
    rintro e w1 ⟨rfl, hb1⟩
    have hw1 := bstep hw0 hw0.size hb1
    go_wp2_with fail
    refine (refOrder_any _ before l.length _ (by omega) (Rep.below hb hw1)).mono ?_
    rintro e w2 ⟨u, rfl, hb2⟩
    have hw2 := bstep hw1 hw1.size hb2
    go_wp2
    go_ret
    exact ⟨ret_int HC.out.symm, hw2⟩
  · have hb0 : (checkF l reach stiff != 0) = true := by simp [hc]
    have HC := Lib.hid (wrongF_bad (before := before) hc)
    clear hc
    go_enter Try.func23, Try.ntmps23
    go_wp2_with fail
    refine (refCheck_any _ _ _ _ _ (Rep.below hl hw0)).mono ?_
    rintro e w1 ⟨rfl, hb1⟩
    have hw1 := bstep hw0 hw0.size hb1
    go_wp2
    go_ret
    exact ⟨ret_int HC.out.symm, hw1⟩

/-! ### Check -/
theorem wsCheck_bad {l : List Bead} {reach stiff : Int} {before : List (Int × Int)} {order : List Int} (h : wrongF l reach stiff before ≠ 0) : wsCheckF l reach stiff before order = wrongF l reach stiff before := if_pos h
theorem wsCheck_order {l : List Bead} {reach stiff : Int} {before : List (Int × Int)} {order : List Int} (h : wrongF l reach stiff before = 0) (ho : orderB order l.length = false) : wsCheckF l reach stiff before order = 2 := by
  unfold wsCheckF; rw [if_neg (by simpa using h), if_pos ho]
theorem wsCheck_pair {l : List Bead} {reach stiff : Int} {before : List (Int × Int)} {order : List Int} (h : wrongF l reach stiff before = 0) (ho : orderB order l.length = true) (hp : before.all (fun x => !badPair order x) = false) : wsCheckF l reach stiff before order = 11 := by
  unfold wsCheckF; rw [if_neg (by simpa using h), ho, hp]; simp
theorem wsCheck_ok {l : List Bead} {reach stiff : Int} {before : List (Int × Int)} {order : List Int} (h : wrongF l reach stiff before = 0) (ho : orderB order l.length = true) (hp : before.all (fun x => !badPair order x) = true) : wsCheckF l reach stiff before order = 0 := by
  unfold wsCheckF; rw [if_neg (by simpa using h), ho, hp]; simp
set_option maxHeartbeats 800000 in
theorem wsCheck_any (vl vb vo : Value) (l : List Bead) (reach stiff : Int) (before : List (Int × Int)) (order : List Int) (w : World) (hl : beadR.slice.R w (Lt w) l [vl]) (hb : prR.slice.R w (Lt w) before [vb]) (ho : Rep.int.slice.R w (Lt w) order [vo]) :
    Calls Try.prog 12 #[vl, .agg #[.int .i64 reach, .int .i64 stiff], vb, vo] w (Ret (.int .i64 (wsCheckF l reach stiff before order)) w) := by
  obtain ⟨B, d, rfl, hmb, -⟩ := slice_inv hb
  have hw0 : Below w.heap.size w (w.alloc (.cells #[.int .i64 reach, .int .i64 stiff] 24)) := (Below.refl _ _).alloc (Nat.le_refl _) _
  have b0 := Blk.new w 24 #[.int .i64 reach, .int .i64 stiff]
  by_cases hc : wrongF l reach stiff before = 0
  · have hb0 : (wrongF l reach stiff before != 0) = false := by simp [hc]
    have HC := Lib.hid hc
    have hck := (wrongF_zero hc).1
    clear hc
    rcases Bool.eq_false_or_eq_true (orderB order l.length) with hord | hord
    · have hb2 : ((runF l reach stiff order).2 != 0) = false := by rw [runF_yes hck hord]; rfl
      clear hck
      have HO := Lib.hid hord
      clear hord
      go_enter Try.func12, Try.ntmps12
      go_wp2_with fail
      refine (wrong_any _ _ _ _ _ before _ (Rep.below hl hw0) (Rep.below hb hw0)).mono ?_
      rintro e w1 ⟨rfl, hb1⟩
      have hw1 := bstep hw0 hw0.size hb1
      have b1 := b0.below hb1 (by simp)
      have k0 := b1.c20
      have k1 := b1.c21
      go_wp2_with fail
      refine (run_any _ _ _ _ _ _ _ (Rep.below hl hw1) (Rep.below ho hw1)).mono ?_
      rintro e w2 ⟨v, rfl, -, hb3⟩
      have hw2 := bstep hw1 hw1.size hb3
      clear b0 b1 k0 k1 hb3 hb1
      go_wp2
      go_loopw [33] (fun i wr => ∃ k : Nat, k ≤ before.length ∧ i = .int .i64 k ∧ Hid ((before.take k).all (fun x => !badPair order x) = true) ∧ Below w.heap.size w wr) (fun i _ => before.length - (intOf i).toNat)
      case atStart => exact ⟨0, Nat.zero_le _, rfl, rfl, hw2⟩
      case round =>
        obtain ⟨k, hk, rfl, hall, hbw⟩ := hrel
        by_cases hlt : k < before.length
        · obtain ⟨b, off, p, s, rfl, hx, -, c0, c1, -⟩ := pairs_at (Rep.at_ hb hbw) hlt
          have hbz := hbw.size
          rcases Bool.eq_false_or_eq_true (badPair order (p, s)) with hd | hd
          · have hlt2 : placeF order s < placeF order p := of_decide_eq_true hd
            have HD := Lib.hid hd
            clear hd
            have nb := Blk.new wr 46 #[.int .i64 p, .int .i64 s]
            have k0 := nb.c20
            have k1 := nb.c21
            have hwA := hbw.alloc hbz (.cells #[.int .i64 p, .int .i64 s] 46)
            clear nb
            generalize hpp : placeF order p = pp at *
            generalize hps : placeF order s = ps at *
            have HPP := Lib.hid hpp
            have HPS := Lib.hid hps
            clear hpp hps
            go_wp2
            generalize wr.alloc (.cells #[.int .i64 p, .int .i64 s] 46) = wA at *
            have hzA := hwA.size
            go_region_held3 (fun W => Below wA.heap.size wA W ∧ W.cell? ⟨wr.heap.size, 0, none⟩ = some (.int .i64 p) ∧ W.cell? ⟨wr.heap.size, 1, none⟩ = some (.int .i64 s))
              (first
                | exact ⟨(Below.refl _ _).drew, k0, k1⟩
                | exact ⟨by assumption, by assumption, by assumption⟩)
              (first
                | (go_at_call 22
                   go_split_ands
                   refine (index_any _ _ _ _ (Rep.below ho (bstep hwA hzA (by assumption)))).mono ?_
                   rintro e W1 ⟨he, rfl⟩
                   first | rw [HPP.out] at he | rw [HPS.out] at he
                   subst he))
            all_goals
              go_split_ands
              go_wp2
              go_ret
              exact ⟨ret_int (wsCheck_pair HC.out HO.out (all_bad hx.out (by rw [HD.out]; rfl))).symm, bstep hwA hzA (by assumption)⟩
          · have hlt2 : ¬ placeF order s < placeF order p := of_decide_eq_false hd
            have HD := Lib.hid hd
            clear hd
            have nb := Blk.new wr 46 #[.int .i64 p, .int .i64 s]
            have k0 := nb.c20
            have k1 := nb.c21
            have hwA := hbw.alloc hbz (.cells #[.int .i64 p, .int .i64 s] 46)
            clear nb
            generalize hpp : placeF order p = pp at *
            generalize hps : placeF order s = ps at *
            have HPP := Lib.hid hpp
            have HPS := Lib.hid hps
            clear hpp hps
            go_wp2
            generalize wr.alloc (.cells #[.int .i64 p, .int .i64 s] 46) = wA at *
            have hzA := hwA.size
            go_region_held3 (fun W => Below wA.heap.size wA W ∧ W.cell? ⟨wr.heap.size, 0, none⟩ = some (.int .i64 p) ∧ W.cell? ⟨wr.heap.size, 1, none⟩ = some (.int .i64 s))
              (first
                | exact ⟨(Below.refl _ _).drew, k0, k1⟩
                | exact ⟨by assumption, by assumption, by assumption⟩)
              (first
                | (go_at_call 22
                   go_split_ands
                   refine (index_any _ _ _ _ (Rep.below ho (bstep hwA hzA (by assumption)))).mono ?_
                   rintro e W1 ⟨he, rfl⟩
                   first | rw [HPP.out] at he | rw [HPS.out] at he
                   subst he))
            all_goals
              go_split_ands
              go_wp2
              go_roundw
              case rel => exact ⟨k + 1, by omega, by go_num, all_take_succ hall.out hx.out (by rw [HD.out]; rfl), bstep hwA hzA (by assumption)⟩
              case measure => simp [intOf]; omega
        · go_wp2
          go_ret
          have h3 := hall.out
          rw [List.take_of_length_le (by omega)] at h3
          exact ⟨ret_int (wsCheck_ok HC.out HO.out h3).symm, hbw⟩
    · have hb2 : ((runF l reach stiff order).2 != 0) = true := by rw [runF_order hck hord]; rfl
      have HR := Lib.hid (runF_order hck hord)
      have HO := Lib.hid (wsCheck_order HC.out hord)
      clear hck hord
      go_enter Try.func12, Try.ntmps12
      go_wp2_with fail
      refine (wrong_any _ _ _ _ _ before _ (Rep.below hl hw0) (Rep.below hb hw0)).mono ?_
      rintro e w1 ⟨rfl, hb1⟩
      have hw1 := bstep hw0 hw0.size hb1
      have b1 := b0.below hb1 (by simp)
      have k0 := b1.c20
      have k1 := b1.c21
      go_wp2_with fail
      refine (run_any _ _ _ _ _ _ _ (Rep.below hl hw1) (Rep.below ho hw1)).mono ?_
      rintro e w2 ⟨v, rfl, -, hb3⟩
      have hw2 := bstep hw1 hw1.size hb3
      go_wp2
      go_ret
      exact ⟨ret_int (by rw [HR.out, HO.out]), hw2⟩
  · have hb0 : (wrongF l reach stiff before != 0) = true := by simp [hc]
    have HC := Lib.hid (wsCheck_bad (order := order) hc)
    clear hc
    go_enter Try.func12, Try.ntmps12
    go_wp2_with fail
    refine (wrong_any _ _ _ _ _ before _ (Rep.below hl hw0) (Rep.below hb hw0)).mono ?_
    rintro e w1 ⟨rfl, hb1⟩
    have hw1 := bstep hw0 hw0.size hb1
    go_wp2
    go_ret
    exact ⟨ret_int HC.out.symm, hw1⟩
end Go.Proofs.Ytgiphdjblnfjcaa
