/- Chapter 33: what the program's and the reference's functions do, by walking their text: the reference's Run. -/
import Derived.Test.YtgiphdjblnfjcaaDistWalksC
namespace Go.Proofs.Ytgiphdjblnfjcaa
open Go Go.RowKit

set_option maxHeartbeats 800000 in
theorem refRun_any (vl vo : Value) (l : List Bead) (reach stiff : Int) (order : List Int) (w : World)
    (hl : beadR.slice.R w (Lt w) l [vl]) (ho : Rep.int.slice.R w (Lt w) order [vo]) :
    Calls Try.prog 46 #[vl, .agg #[.int .i64 reach, .int .i64 stiff], vo] w (RunPost l reach stiff order w) := by
  obtain ⟨A, c, rfl, hm, -⟩ := slice_inv hl
  obtain ⟨F, d, rfl, hm', hcap⟩ := slice_inv ho
  by_cases hchk : checkF l reach stiff = 0
  · have hb0 : (checkF l reach stiff != 0) = false := by simp [hchk]
    obtain ⟨h32, hr, hok⟩ := checkF_ok hchk
    rcases Bool.eq_false_or_eq_true (orderB order l.length) with hord | hord
    · have HC := Lib.hid hchk
      have HR := Lib.hid (restrOk_iff.1 hr)
      have hr0 : 0 ≤ reach := HR.out.1
      have hr1 : reach ≤ 32768 := HR.out.2.1
      have hs0 : 0 ≤ stiff := HR.out.2.2.1
      have hs1 : stiff ≤ 1000 := HR.out.2.2.2
      have HRR := Lib.hid hr
      have HK := Lib.hid hok
      clear hchk hr hok
      have hmk := fun u => run_make1 (P := Try.prog) Try.underlying28 int_info rfl l.length (by omega) (by omega) u
      go_enter Try.func46, Try.ntmps46
      go_wp2_with fail
      refine (refCheck_any _ _ _ _ _ (Rep.below hl (by go_grown))).mono ?_
      rintro e w1 ⟨rfl, hb1⟩
      have hw1 : Below w.heap.size w w1 := bstep (by go_grown) (by simp) hb1
      have hz1 := hb1.size
      simp only [World.size_alloc] at hz1
      have b1 := (Blk.new w 24 #[.int .i64 reach, .int .i64 stiff]).below hb1 (by simp)
      clear hb1
      go_wp2_with fail
      refine (refIsOrder_any _ _ _ _ h32 (Rep.below ho hw1)).mono ?_
      rintro e w2 ⟨rfl, hb2⟩
      have hw2 : Below w.heap.size w w2 := bstep hw1 hw1.size (hb2.below _)
      have hz2 := (hb2.below 0).size
      have b1' := b1.qt hb2
      clear hb2 hw1 b1
      go_wp2_with fail
      clear hmk
      have HO := Lib.hid (orderB_yes hord)
      have hol : order.length ≤ 32 := by have := HO.out.1; omega
      have b2 := Blk.new w2 3 (Array.replicate l.length (.int .i64 0))
      rw [intsArr_replicate] at b2
      go_loopw [10] (fun j wr => ∃ k : Nat, k ≤ order.length ∧ j = .int .i64 k ∧ Blk wr w.heap.size 24 #[.int .i64 reach, .int .i64 stiff] ∧
          Blk wr w2.heap.size 3 (intsArr (runTo l reach stiff order k)) ∧ Below w.heap.size w wr) (fun j _ => order.length - (intOf j).toNat)
      case atStart =>
        rw [intsArr_replicate]
        exact ⟨0, Nat.zero_le _, rfl, b1'.alloc _, b2, hw2.alloc (by omega) _⟩
      case round =>
        obtain ⟨k, hk, rfl, d1, d2, hb⟩ := hrel
        have kr0 := d1.c20
        have kr1 := d1.c21
        by_cases hlt : k < order.length
        · obtain ⟨b, off, x, rfl, hx, -, c0, -⟩ := ints_at (Rep.at_ ho hb) hlt
          have HX := Lib.hid (HO.out.2.1 x (List.mem_of_getElem? hx.out))
          have hx0 := HX.out.1
          have hx1 := HX.out.2
          obtain ⟨i, rfl⟩ := Int.eq_ofNat_of_zero_le hx0
          have hil : i < l.length := by omega
          obtain ⟨b', off', p, s, rfl, hp, -, c1, c2, -⟩ := beads_at (Rep.at_ hl hb) hil
          have HB := Lib.hid (okBead_at HK.out hp.out)
          have hp0 : -32768 ≤ p := HB.out.1
          have hp1 : p ≤ 32768 := HB.out.2.1
          have hq0 : 0 ≤ s := HB.out.2.2.1
          have hq1 : s ≤ 100000 := HB.out.2.2.2
          go_wp2_with fail
          have hz := hb.size
          have d1' := d1.alloc (.cells #[.int .i64 p, .int .i64 s] 45)
          have d2' := d2.alloc (.cells #[.int .i64 p, .int .i64 s] 45)
          have d4 := Blk.new wr 45 #[.int .i64 p, .int .i64 s]
          have hb' := hb.alloc hz (.cells #[.int .i64 p, .int .i64 s] 45)
          clear kr0 kr1 c0 c1 c2 d1 hb hz
          go_loopw [12, 13] (fun near j wq => ∃ m : Nat, m ≤ k ∧ j = .int .i64 m ∧ near = .int .i64 (nearN l reach i (order.take m)) ∧ Qt (wr.alloc (.cells #[.int .i64 p, .int .i64 s] 45)) wq) (fun _ j _ => k - (intOf j).toNat)
          case atStart => exact ⟨0, Nat.zero_le _, rfl, rfl, Qt.refl _⟩
          case round =>
            obtain ⟨m, hmk, rfl, rfl, hq⟩ := hrel
            have hnk := nearN_le l reach i (order.take m)
            have hnl : (order.take m).length ≤ m := List.length_take_le _ _
            have hbq := bstep hb' hb'.size (hq.below _)
            have e4 := d4.qt hq
            have e1 := d1'.qt hq
            have e2 := d2'.qt hq
            have g0 := e4.c20
            have g1 := e4.c21
            have kr0 := e1.c20
            have kr1 := e1.c21
            by_cases hltm : m < k
            · obtain ⟨b2, off2, x, e, hy, -, c3, -⟩ := ints_at (Rep.at_ ho hbq) (k := m) (by omega)
              injection e with e
              injection e with e5 e6 _
              subst e5 e6
              have HX := Lib.hid (HO.out.2.1 x (List.mem_of_getElem? hy.out))
              have hx0 := HX.out.1
              have hx1 := HX.out.2
              obtain ⟨j, rfl⟩ := Int.eq_ofNat_of_zero_le hx0
              obtain ⟨b2, off2, p', s', e, hz, -, c4, -⟩ := beads_at (Rep.at_ hl hbq) (k := j) (by omega)
              injection e with e
              injection e with e5 e6 _
              subst e5 e6
              have HB' := Lib.hid (okBead_at HK.out hz.out)
              have hp0' : -32768 ≤ p' := HB'.out.1
              have hp1' : p' ≤ 32768 := HB'.out.2.1
              have HN := Lib.hid (nearN_succ (l := l) (reach := reach) (i := i) hy.out)
              rw [Int.toNat_natCast, nearB_of hp.out hz.out] at HN
              generalize hnn : nearN l reach i (order.take m) = nn at *
              have HNN := Lib.hid hnn
              clear hnn
              have hjl : j < l.length := by omega
              by_cases hd : -reach ≤ p' - p ∧ p' - p ≤ reach
              · rw [fromB_iff.2 hd] at HN
                obtain ⟨hd1, hd2⟩ := hd
                go_wp2
                go_quiet (fail)
                go_wp2
                go_roundw
                case rel => exact ⟨m + 1, by omega, by go_num, by rw [HN.out]; go_num, hq.drewN _⟩
                case measure => simp [intOf]; omega
              · rw [bool_of_not (fun h => hd (fromB_iff.1 h))] at HN
                by_cases hd1 : -reach ≤ p' - p
                · have hd2 : ¬ p' - p ≤ reach := fun h => hd ⟨hd1, h⟩
                  clear hd
                  go_wp2
                  go_quiet (fail)
                  go_wp2
                  go_roundw
                  case rel => exact ⟨m + 1, by omega, by go_num, by rw [HN.out]; go_num, hq.drewN _⟩
                  case measure => simp [intOf]; omega
                · clear hd
                  go_wp2
                  go_quiet (fail)
                  go_wp2
                  go_roundw
                  case rel => exact ⟨m + 1, by omega, by go_num, by rw [HN.out]; go_num, hq.drewN _⟩
                  case measure => simp [intOf]; omega
            · have hmk' : m = k := by omega
              subst hmk'
              obtain ⟨b2, off2, x, e, hy, -, c3, -⟩ := ints_at (Rep.at_ ho hbq) hlt
              injection e with e
              injection e with e5 e6 _
              subst e5 e6
              obtain rfl : x = (i : Int) := by have := hy.out.symm.trans hx.out; injection this
              have cg := (e2.cell i).trans (Array.getElem?_eq_getElem (by rw [intsArr_size, runTo_length]; exact hil))
              generalize (intsArr (runTo l reach stiff order m))[i]'(by rw [intsArr_size, runTo_length]; exact hil) = old at cg
              have cf := e2.free i
              generalize hnn : nearN l reach i (order.take m) = nn at *
              have HNN := Lib.hid hnn
              clear hnn
              obtain ⟨hm0, hm1⟩ := mul_bd (a := (nn : Int)) (s := stiff) (A := 32) (S := 1000) (by omega) (by omega) hs0 hs1
              go_wp2
              go_region
              go_wp2
              go_roundw
              case rel =>
                refine ⟨m + 1, by omega, by go_num, (e1.drewN 1).far (by show w.heap.size ≠ w2.heap.size; omega) _, ?_, Below.setCell (p := ⟨w2.heap.size, i, none⟩) (below_drewN hbq 1) (by show w.heap.size ≤ w2.heap.size; omega) _⟩
                have h := (e2.drewN 1).set_ i (.int .i64 (shrinkOf l reach stiff i (order.take m)))
                rw [intsArr_set] at h
                have e : runTo l reach stiff order (m + 1) = (runTo l reach stiff order m).set i (shrinkOf l reach stiff i (order.take m)) := by
                  rw [runTo, getD_of' hx.out, Int.toNat_natCast]
                rw [e]
                rw [shrinkOf_eq hp.out HNN.out] at h ⊢
                exact h
              case measure => simp [intOf]; omega
        · have hke : k = order.length := by omega
          subst hke
          go_wp2
          go_ret2
          have h := d2.ints (fun x hx => by have := runTo_bd HRR.out HK.out _ x hx; unfold inI64; omega) (c := l.length) (by rw [runTo_length]; omega) (by omega)
          rw [runTo_length] at h
          exact RunPost.yes (runF_yes HC.out hord) h hb
    · have HC := Lib.hid hchk
      clear hchk hr hok
      go_enter Try.func46, Try.ntmps46
      go_wp2_with fail
      refine (refCheck_any _ _ _ _ _ (Rep.below hl (by go_grown))).mono ?_
      rintro e w1 ⟨rfl, hb1⟩
      have hw1 : Below w.heap.size w w1 := bstep (by go_grown) (by simp) hb1
      clear hb1
      go_wp2_with fail
      refine (refIsOrder_any _ _ _ _ h32 (Rep.below ho hw1)).mono ?_
      rintro e w2 ⟨rfl, hb2⟩
      have hw2 : Below w.heap.size w w2 := bstep hw1 hw1.size (hb2.below _)
      go_wp2_with fail
      go_ret2
      exact RunPost.bad (runF_order HC.out hord) hw2
  · have hb0 : (checkF l reach stiff != 0) = true := by simp [hchk]
    have HC := Lib.hid hchk
    clear hchk
    go_enter Try.func46, Try.ntmps46
    go_wp2_with fail
    refine (refCheck_any _ _ _ _ _ (Rep.below hl (by go_grown))).mono ?_
    rintro e w1 ⟨rfl, hb1⟩
    have hw1 : Below w.heap.size w w1 := bstep (by go_grown) (by simp) hb1
    go_wp2_with fail
    go_ret2
    exact RunPost.bad (runF_bad HC.out) hw1
end Go.Proofs.Ytgiphdjblnfjcaa
