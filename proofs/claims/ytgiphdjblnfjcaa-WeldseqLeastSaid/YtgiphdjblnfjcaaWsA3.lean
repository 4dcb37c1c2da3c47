/- Chapter 34: the unevenness of a beginning, by walking the reference's text. -/
import Derived.Test.YtgiphdjblnfjcaaWsA2
import Derived.Test.YtgiphdjblnfjcaaAppend
namespace Go.Proofs.Ytgiphdjblnfjcaa
open Go Go.RowKit

theorem made_int (w : World) : (w.alloc (.cells #[] 3)).ownsRow w.heap.size 3 1 (.slice (some ⟨w.heap.size, 0, none⟩) 0 0) 0 [] := World.ownsRow_made _ _ _ (Nat.le_refl _) (by unfold maxLen; omega) rfl
set_option maxHeartbeats 1000000 in
theorem refUnev_any (vl vo : Value) (l : List Bead) (reach stiff : Int) (b : List Int) (w : World) (hl : beadR.slice.R w (Lt w) l [vl]) (ho : Rep.int.slice.R w (Lt w) b [vo])
    (hC : checkF l reach stiff = 0) (hB : Beg l.length b) (hpos : 0 < l.length) :
    Calls Try.prog 31 #[vl, .agg #[.int .i64 reach, .int .i64 stiff], vo] w (Ret (.int .i64 (unevB l reach stiff b)) w) := by
  obtain ⟨A, c, rfl, hm, -⟩ := slice_inv hl
  obtain ⟨F, d, rfl, hmb, -⟩ := slice_inv ho
  obtain ⟨h32, hr, hok⟩ := checkF_ok hC
  have HU := Lib.hid (unevB_is hC hB)
  have HRY := Lib.hid (runF_yes hC (fill_order hB))
  have HLB := Lib.hid (lowTo_bd hok hpos l.length (Nat.le_refl _))
  have HHB := Lib.hid (highTo_bd hok hpos l.length (Nat.le_refl _))
  have HBB := Lib.hid (runTo_bd (order := fillTo b l.length) hr hok (fillTo b l.length).length)
  have HFL := Lib.hid fun k hk => (fillTo_mem hB k hk).1.len
  have HBL := hB.len
  have HFI : Hid (∀ x ∈ fillTo b l.length, inI64 x) := by
    show ∀ x ∈ fillTo b l.length, inI64 x
    intro x hx
    have := (fillTo_mem hB l.length (Nat.le_refl _)).1.rng x hx
    unfold inI64; omega
  have HK := Lib.hid hok
  clear hok hr
  obtain ⟨i0, hi, hz0, hz1, hz2⟩ := info_parts int_info
  have hown0 : ((w.alloc (.cells #[.int .i64 reach, .int .i64 stiff] 24)).alloc (.cells #[] 3)).ownsRow (w.heap.size + 1) 3 1 (.slice (some ⟨w.heap.size + 1, 0, none⟩) 0 0) 0 [] := by
    have h := made_int (w.alloc (.cells #[.int .i64 reach, .int .i64 stiff] 24))
    simpa using h
  have ho1 : Rep.int.slice.R ((w.alloc (.cells #[.int .i64 reach, .int .i64 stiff] 24)).alloc (.cells #[] 3)) (Lt _) b [.slice F b.length d] := Rep.below ho (((Below.refl _ _).alloc (Nat.le_refl _) _).alloc (by simp) _)
  go_enter Try.func31, Try.ntmps31
  go_wp2_with (at_builtin; refine wpList_append_flat flat_int rfl _ _ 28 rfl (w.heap.size + 1) 3 i0 (.int .i64 0) 8 Try.underlying28 hi hz0 hz1 hz2 rfl _ _ _ rfl hown0 b rfl ho1 (by omega) (by omega) (by simp) ?_; intro v1 w1 hown hg1)
  simp only [Nat.zero_add, List.nil_append, fm_int] at hown
  have hbk1 : Blk w1 w.heap.size 24 #[.int .i64 reach, .int .i64 stiff] := Blk.grown ((Blk.new w 24 #[.int .i64 reach, .int .i64 stiff]).alloc _) hg1 (fun e => by have e : w.heap.size = w.heap.size + 1 := Option.some.inj e; omega)
  have hw1 : Below w.heap.size w w1 := (((Below.refl _ _).alloc (Nat.le_refl _) _).alloc (by simp) _).grown hg1 (by simp; omega) (fun j hj => by have e : w.heap.size + 1 = j := Option.some.inj hj; omega)
  clear hg1 hown0 ho1
  go_loopw [7, 8] (fun v i wr => ∃ k : Nat, k ≤ l.length ∧ i = .int .i64 k ∧ OwnI wr (w.heap.size + 1) v (fillTo b k) ∧ Blk wr w.heap.size 24 #[.int .i64 reach, .int .i64 stiff] ∧ Below w.heap.size w wr) (fun _ i _ => l.length - (intOf i).toNat)
  case atStart => exact ⟨0, Nat.zero_le _, rfl, hown, hbk1, hw1⟩
  case round =>
    obtain ⟨k, hk, rfl, hown, hbk, hbw⟩ := hrel
    have hz := hbw.size
    have hbl := hbk.lt
    have hfl := HFL.out k hk
    by_cases hlt : k < l.length
    · rcases Bool.eq_false_or_eq_true (b.contains (k : Int)) with hc | hc
      · have HF := Lib.hid (fill_in hc)
        have hp := place_neg_f hc
        clear hc
        go_wp2_with (go_at_call 25; refine (place_any _ b _ _ (Rep.below ho hbw)).mono ?_; rintro e W1 ⟨rfl, hq⟩)
        go_roundw
        case rel => exact ⟨k + 1, by omega, by go_num, by rw [HF.out]; exact own_below hown (hq.below _), hbk.qt hq, bstep hbw hz (hq.below _)⟩
        case measure => simp [intOf]; omega
      · have HF := Lib.hid (fill_out hc)
        have hp := place_neg_t hc
        clear hc
        go_wp2_with fail
        refine (place_any _ b _ _ (Rep.below ho hbw)).mono ?_
        rintro e W1 ⟨rfl, hq⟩
        have hbk' := hbk.qt hq
        have hbw' := bstep hbw hz (hq.below _)
        have hown' : OwnI W1 _ _ _ := own_below hown (hq.below _)
        have hz' := hbw'.size
        have hbl' := hbk'.lt
        clear hq hown hbk hbw hz hbl
        go_wp2_with (at_builtin; refine wpList_append_own _ rfl _ _ 28 rfl (w.heap.size + 1) 3 i0 (.int .i64 0) 1 8 Try.underlying28 hi hz0 hz1 hz2 rfl (by decide) _ _ _ rfl (World.ownsRow.alloc hown' _) ⟨W1.heap.size, 0, none⟩ 1 1 [.int .i64 k] rfl rfl (new1_cells _ _ _) (one_oneCell rfl) (by unfold maxLen; omega) (by omega) (by simp; omega) ?_; intro v2 w2 hown2 hg2 _)
        go_roundw
        case rel => exact ⟨k + 1, by omega, by go_num, by rw [HF.out]; exact ownI_snoc hown2, Blk.grown (hbk'.alloc _) hg2 (fun e => by have := (World.ownsRow.lt hown' _ e.symm).1; omega), (hbw'.alloc hz' _).grown hg2 (by simp; omega) (fun j hj => by have := (World.ownsRow.lt hown' j hj).1; omega)⟩
        case measure => simp [intOf]; omega
    · obtain rfl : k = l.length := by omega
      have hv := own_ints hown (HFI.out)
      have k0 := hbk.c20
      have k1 := hbk.c21
      go_wp2_with fail
      refine (refRun_any _ _ l reach stiff (fillTo b l.length) _ (Rep.below hl hbw) hv).mono ?_
      rintro e W1 ⟨vr, rfl, hvr, hq⟩
      rw [HRY.out] at hvr
      simp only [] at hvr
      have hbq := bstep hbw hz hq
      clear k0 k1 hq
      have HSL : Hid ((runTo l reach stiff (fillTo b l.length) (fillTo b l.length).length).length = l.length) := runTo_length _ _ _ _ _
      generalize hsh : runTo l reach stiff (fillTo b l.length) (fillTo b l.length).length = sh at *
      have HSH := Lib.hid hsh
      clear hsh
      obtain ⟨V, cv, rfl, hml, -⟩ := slice_inv hvr
      have hsl : sh.length ≤ 32 := by have := HSL.out; omega
      obtain ⟨b0, off, p, s, rfl, hx, -, c0, -⟩ := beads_at (Rep.at_ hl hbq) hpos
      rw [Nat.zero_mul, Nat.add_zero] at c0
      go_wp2
      go_quiet (fail)
      go_wp2
      have E0 : Hid (lowTo l 0 = p) := by show lowTo l 0 = p; rw [lowTo, getD_of hx.out]
      have E1 : Hid (highTo l 0 = p) := by show highTo l 0 = p; rw [highTo, getD_of hx.out]
      clear c0
      obtain ⟨wo, hwo⟩ : ∃ wo : World, wo = W1 := ⟨_, rfl⟩
      subst hwo
      go_loopw [11, 12, 13] (fun lo hi i wr => ∃ k : Nat, k ≤ l.length ∧ i = .int .i64 k ∧ lo = .int .i64 (lowTo l k) ∧ hi = .int .i64 (highTo l k) ∧ Below wo.heap.size wo wr) (fun _ _ i _ => l.length - (intOf i).toNat)
      case atStart => exact ⟨0, Nat.zero_le _, rfl, by rw [E0.out], by rw [E1.out], below_drewN (Below.refl _ _) _⟩
      case round =>
        obtain ⟨k, hk, rfl, rfl, rfl, hb⟩ := hrel
        by_cases hlt : k < l.length
        · obtain ⟨b2, off2, p', s', e, hy, -, c1, c2, -⟩ := beads_at (Rep.at_ (Rep.below hl hbq) hb) hlt
          injection e with e
          injection e with e5 e6 _
          subst e5 e6
          have H1 : Hid (lowTo l (k + 1) = min (lowTo l k) p') := by show lowTo l (k + 1) = _; rw [lowTo, getD_of hy.out]
          have H2 : Hid (highTo l (k + 1) = max (highTo l k) p') := by show highTo l (k + 1) = _; rw [highTo, getD_of hy.out]
          generalize hlo : lowTo l k = lo at *
          generalize hhi : highTo l k = hi at *
          have HLO := Lib.hid hlo
          have HHI := Lib.hid hhi
          clear hlo hhi
          go_wp2
          go_roundw
          case rel => exact ⟨k + 1, by omega, by go_num, by rw [H1.out, int_min_if], by rw [H2.out, int_max_if], hb⟩
          case measure => simp [intOf]; omega
        · obtain rfl : k = l.length := by omega
          have hbq2 := bstep hbq hbq.size hb
          have hvr2 := Rep.below hvr hb
          have l0 := HLB.out.1
          have l1 := HLB.out.2
          have h0 := HHB.out.1
          have h1 := HHB.out.2
          clear hb hbq hvr
          generalize hlo : lowTo l l.length = lo at *
          generalize hhi : highTo l l.length = hi at *
          have HLO := Lib.hid hlo
          have HHI := Lib.hid hhi
          clear hlo hhi
          go_wp2
          obtain ⟨wp, hwp⟩ : ∃ wp : World, wp = wr := ⟨_, rfl⟩
          subst hwp
          go_loopw [14, 15] (fun n i wq => ∃ k : Nat, k ≤ b.length ∧ i = .int .i64 k ∧ n = .int .i64 (unevTo l (lo + hi) sh b k).1 ∧ wq = wp) (fun _ i _ => b.length - (intOf i).toNat)
          case atStart => exact ⟨0, Nat.zero_le _, rfl, rfl, rfl⟩
          case round =>
            obtain ⟨k, hk, rfl, rfl, rfl⟩ := hrel
            by_cases hlt : k < b.length
            · obtain ⟨b3, off3, x, rfl, hi2, -, c3, -⟩ := ints_at (Rep.at_ ho hbq2) hlt
              have HX := Lib.hid (hB.rng x (List.mem_of_getElem? hi2.out))
              have hx0 := HX.out.1
              have hx1 := HX.out.2
              obtain ⟨i, rfl⟩ := Int.eq_ofNat_of_zero_le hx0
              have hil : i < l.length := by omega
              obtain ⟨b2, off2, p', s', e, hy, -, c1, c2, -⟩ := beads_at (Rep.at_ hl hbq2) hil
              injection e with e
              injection e with e5 e6 _
              subst e5 e6
              have HB' := Lib.hid (okBead_at HK.out hy.out)
              have hp0' : -32768 ≤ p' := HB'.out.1
              have hp1' : p' ≤ 32768 := HB'.out.2.1
              obtain ⟨b4, off4, y, rfl, hs2, -, c4, -⟩ := ints_at hvr2 (k := i) (by have := HSL.out; omega)
              have HY := Lib.hid (HBB.out y (List.mem_of_getElem? hs2.out))
              have hy0 := HY.out.1
              have hy1 := HY.out.2
              have HST := Lib.hid (unevTo_step (mid := lo + hi) hi2.out hy.out hs2.out)
              have HUB := Lib.hid (unevTo_bd (l := l) (mid := lo + hi) (order := b) HBB.out k)
              generalize hu : (unevTo l (lo + hi) sh b k).1 = n at *
              have HN := Lib.hid hu
              clear hu
              have hu0 : -3200000 ≤ n := by have := HUB.out.1; omega
              have hu1 : n ≤ 3200000 := by have := HUB.out.2.1; omega
              have hsi : i < sh.length := by have := HSL.out; omega
              rcases Int.lt_trichotomy (2 * p') (lo + hi) with hc | hc | hc
              · have HE := Lib.hid (stepU_lt (x := y) (n := n) hc)
                have hc1 : ¬ lo + hi < 2 * p' := by omega
                go_wp2
                go_roundw
                case rel => exact ⟨k + 1, by omega, by go_num, by rw [HST.out, HE.out], by trivial⟩
                case measure => simp [intOf]; omega
              · have HE := Lib.hid (stepU_eq (x := y) (n := n) hc)
                have hc1 : ¬ 2 * p' < lo + hi := by omega
                have hc2 : ¬ lo + hi < 2 * p' := by omega
                clear hc
                go_wp2
                go_roundw
                case rel => exact ⟨k + 1, by omega, by go_num, by rw [HST.out, HE.out], by trivial⟩
                case measure => simp [intOf]; omega
              · have HE := Lib.hid (stepU_gt (x := y) (n := n) hc)
                have hc1 : ¬ 2 * p' < lo + hi := by omega
                go_wp2
                go_roundw
                case rel => exact ⟨k + 1, by omega, by go_num, by rw [HST.out, HE.out], by trivial⟩
                case measure => simp [intOf]; omega
            · obtain rfl : k = b.length := by omega
              have HUB := Lib.hid (unevTo_bd (l := l) (mid := lo + hi) (order := b) HBB.out b.length)
              generalize hu : (unevTo l (lo + hi) sh b b.length).1 = n at *
              have HN := Lib.hid hu
              clear hu
              have hu0 : -3200000 ≤ n := by have := HUB.out.1; omega
              have hu1 : n ≤ 3200000 := by have := HUB.out.2.1; omega
              go_wp2
              go_ret
              exact ⟨ret_int (by rw [HU.out, int_max_if]), hbq2⟩
end Go.Proofs.Ytgiphdjblnfjcaa
