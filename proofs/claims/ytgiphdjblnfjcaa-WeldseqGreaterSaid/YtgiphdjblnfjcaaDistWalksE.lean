/- Chapter 33: what the program's and the reference's functions do, by walking their text: Uneven. -/
import Derived.Test.YtgiphdjblnfjcaaDistWalksD
namespace Go.Proofs.Ytgiphdjblnfjcaa
open Go Go.RowKit

def UnevPost (l : List Bead) (reach stiff : Int) (order : List Int) (w : World) (e : Ending) (w' : World) : Prop :=
  e = .returned (.tuple #[.int .i64 (unevF l reach stiff order).1, .int .i64 (unevF l reach stiff order).2]) ∧ Below w.heap.size w w'
theorem UnevPost.of {l : List Bead} {reach stiff : Int} {order : List Int} {w w' : World} {a b : Int} (h : unevF l reach stiff order = (a, b)) (hb : Below w.heap.size w w') :
    UnevPost l reach stiff order w (.returned (.tuple #[.int .i64 a, .int .i64 b])) w' := ⟨by rw [h], hb⟩
theorem unevF_bad {l : List Bead} {reach stiff : Int} {order : List Int} (h : (runF l reach stiff order).2 ≠ 0) : unevF l reach stiff order = (0, (runF l reach stiff order).2) := by simp [unevF, h]
theorem unevF_nil {l : List Bead} {reach stiff : Int} {order : List Int} (h : (runF l reach stiff order).2 = 0) (hl : l.length = 0) : unevF l reach stiff order = (0, 0) := by simp [unevF, h, hl]
theorem unevF_yes {l : List Bead} {reach stiff : Int} {order : List Int} (h : (runF l reach stiff order).2 = 0) (hl : 0 < l.length) :
    unevF l reach stiff order = ((unevTo l (lowTo l l.length + highTo l l.length) (runF l reach stiff order).1 order order.length).2, 0) := by
  have : ¬ l.length = 0 := by omega
  simp only [unevF, h, this]; simp

theorem int_min_if (a b : Int) : min a b = if b < a then b else a := by split <;> omega
theorem int_max_if (a b : Int) : max a b = if a < b then b else a := by split <;> omega

def unevNext (mid twice x : Int) (u : Int × Int) : Int × Int := (unevStep mid twice x u.1, max (max u.2 (unevStep mid twice x u.1)) (-(unevStep mid twice x u.1)))
theorem unevNext_lt {mid twice x s m : Int} (h : twice < mid) : unevNext mid twice x (s, m) = (s + x, max (max m (s + x)) (-(s + x))) := by simp [unevNext, unevStep, h]
theorem unevNext_gt {mid twice x s m : Int} (h : mid < twice) : unevNext mid twice x (s, m) = (s - x, max (max m (s - x)) (-(s - x))) := by
  have : ¬ twice < mid := by omega
  simp [unevNext, unevStep, h, this]
theorem unevNext_eq {mid twice x s m : Int} (h : twice = mid) : unevNext mid twice x (s, m) = (s, max (max m s) (-s)) := by simp [unevNext, unevStep, h]

set_option maxHeartbeats 1000000 in
theorem uneven_any (vl vo : Value) (l : List Bead) (reach stiff : Int) (order : List Int) (w : World)
    (hl : beadR.slice.R w (Lt w) l [vl]) (ho : Rep.int.slice.R w (Lt w) order [vo]) :
    Calls Try.prog 19 #[vl, .agg #[.int .i64 reach, .int .i64 stiff], vo] w (UnevPost l reach stiff order w) := by
  obtain ⟨A, c, rfl, hm, -⟩ := slice_inv hl
  obtain ⟨F, d, rfl, hm', -⟩ := slice_inv ho
  by_cases hz : (runF l reach stiff order).2 = 0
  · by_cases h0 : l.length = 0
    · have hb1 : ((runF l reach stiff order).2 != 0) = false := by simp [hz]
      have hb2 : ((l.length : Int) == 0) = true := by simp [h0]
      have HZ := Lib.hid hz
      have H0 := Lib.hid h0
      clear hz h0
      go_enter Try.func19, Try.ntmps19
      go_wp2_with fail
      refine (run_any _ _ _ _ _ _ _ (Rep.below hl (by go_grown)) (Rep.below ho (by go_grown))).mono ?_
      rintro e w1 ⟨v, rfl, -, hb⟩
      have hw1 : Below w.heap.size w w1 := bstep (by go_grown) (by simp) hb
      clear hb
      go_wp2
      go_ret2
      exact UnevPost.of (by rw [unevF_nil HZ.out H0.out, HZ.out]) hw1
    · have hb1 : ((runF l reach stiff order).2 != 0) = false := by simp [hz]
      have hb2 : ((l.length : Int) == 0) = false := by simp [h0]
      have hpos : 0 < l.length := by omega
      have HZ := Lib.hid hz
      clear hz h0
      go_enter Try.func19, Try.ntmps19
      go_wp2_with fail
      refine (run_any _ _ _ _ _ _ _ (Rep.below hl (by go_grown)) (Rep.below ho (by go_grown))).mono ?_
      rintro e w1 ⟨v, rfl, hv, hb⟩
      have hw1 : Below w.heap.size w w1 := bstep (by go_grown) (by simp) hb
      clear hb
      obtain ⟨hC, hO, hR⟩ := runF_zero HZ.out
      obtain ⟨h32, hr, hok⟩ := checkF_ok hC
      have HO := Lib.hid (orderB_yes hO)
      have HK := Lib.hid hok
      have HR := Lib.hid hR
      have HB := Lib.hid (runTo_bd (order := order) hr hok order.length)
      have hol : order.length ≤ 32 := by have := HO.out.1; omega
      have hvl : (runF l reach stiff order).1.length = l.length := by rw [hR, runTo_length]
      clear hC hO hR hr hok
      obtain ⟨V, cv, rfl, -, -⟩ := slice_inv hv
      have HVL := Lib.hid hvl
      clear hvl
      obtain ⟨b, off, p, s, rfl, hx, -, c0, -⟩ := beads_at (Rep.at_ hl hw1) hpos
      rw [Nat.zero_mul, Nat.add_zero] at c0
      go_wp2
      go_quiet (fail)
      go_wp2
      have e0 : lowTo l 0 = p := by rw [lowTo, getD_of hx.out]
      have e1 : highTo l 0 = p := by rw [highTo, getD_of hx.out]
      have E0 := Lib.hid e0
      have E1 := Lib.hid e1
      clear e0 e1 c0
      go_loopw [10, 11, 44] (fun lo hi i wr => ∃ k : Nat, k ≤ l.length ∧ i = .int .i64 k ∧ lo = .int .i64 (lowTo l k) ∧ hi = .int .i64 (highTo l k) ∧ Below w1.heap.size w1 wr) (fun _ _ i _ => l.length - (intOf i).toNat)
      case atStart => exact ⟨0, Nat.zero_le _, rfl, by rw [E0.out], by rw [E1.out], below_drewN (Below.refl _ _) _⟩
      case round =>
        obtain ⟨k, hk, rfl, rfl, rfl, hb⟩ := hrel
        by_cases hlt : k < l.length
        · obtain ⟨b2, off2, p', s', e, hy, -, c1, c2, -⟩ := beads_at (Rep.at_ (Rep.below hl hw1) hb) hlt
          injection e with e
          injection e with e5 e6 _
          subst e5 e6
          have H1 : Hid (lowTo l (k + 1) = min (lowTo l k) p') := by show lowTo l (k + 1) = _; rw [lowTo, getD_of hy.out]
          have H2 : Hid (highTo l (k + 1) = max (highTo l k) p') := by show highTo l (k + 1) = _; rw [highTo, getD_of hy.out]
          generalize hlo : lowTo l k = lo at *
          generalize hhi : highTo l k = hi at *
          have HLO := Lib.hid hlo
          have HHI := Lib.hid hhi
          clear hlo hhi
          go_wp2
          go_quiet (fail)
          go_wp2
          go_roundw
          case rel => exact ⟨k + 1, by omega, by go_num, by rw [H1.out, int_min_if], by rw [H2.out, int_max_if], below_drewN (hb.alloc hb.size _) _⟩
          case measure => simp [intOf]; omega
        · have hke : k = l.length := by omega
          subst hke
          have hsh : Rep.int.slice.R wr (Lt wr) (runTo l reach stiff order order.length) [.slice V (runF l reach stiff order).1.length cv] := by
            have := Rep.below hv hb
            rw [HR.out] at this ⊢; exact this
          have HMID := Lib.hid (unevF_yes HZ.out hpos)
          have HLB := Lib.hid (lowTo_bd HK.out hpos l.length (Nat.le_refl _))
          have HHB := Lib.hid (highTo_bd HK.out hpos l.length (Nat.le_refl _))
          have hl0 := HLB.out.1
          have hl1 := HLB.out.2
          have hh0 := HHB.out.1
          have hh1 := HHB.out.2
          rw [HR.out] at HMID
          have hw2 : Below w.heap.size w wr := bstep hw1 hw1.size hb
          clear hv hb
          generalize hlo : lowTo l l.length = lo at *
          generalize hhi : highTo l l.length = hi at *
          generalize hlen : (runF l reach stiff order).1.length = lenS at *
          have hlS : lenS = l.length := HVL.out
          subst hlS
          go_wp2
          obtain ⟨wo, hwo⟩ : ∃ wo : World, wo = wr := ⟨_, rfl⟩
          subst hwo
          go_loopw [14, 15, 59] (fun df gr i wq => ∃ k : Nat, k ≤ order.length ∧ i = .int .i64 k ∧ df = .int .i64 (unevTo l (lo + hi) (runTo l reach stiff order order.length) order k).1 ∧
              gr = .int .i64 (unevTo l (lo + hi) (runTo l reach stiff order order.length) order k).2 ∧ wq = wo) (fun _ _ i _ => order.length - (intOf i).toNat)
          case atStart => exact ⟨0, Nat.zero_le _, rfl, rfl, rfl, rfl⟩
          case round =>
            obtain ⟨k, hk, rfl, rfl, rfl, rfl⟩ := hrel
            by_cases hltk : k < order.length
            · obtain ⟨b3, off3, x, rfl, hi2, -, c3, -⟩ := ints_at (Rep.at_ ho hw2) hltk
              have HX := Lib.hid (HO.out.2.1 x (List.mem_of_getElem? hi2.out))
              have hx0 := HX.out.1
              have hx1 := HX.out.2
              obtain ⟨i, rfl⟩ := Int.eq_ofNat_of_zero_le hx0
              have hil : i < l.length := by omega
              obtain ⟨b2, off2, p', s', e, hy, -, c1, c2, -⟩ := beads_at (Rep.at_ hl hw2) hil
              injection e with e
              injection e with e5 e6 _
              subst e5 e6
              have HB' := Lib.hid (okBead_at HK.out hy.out)
              have hp0' : -32768 ≤ p' := HB'.out.1
              have hp1' : p' ≤ 32768 := HB'.out.2.1
              obtain ⟨b4, off4, y, rfl, hs2, -, c4, -⟩ := ints_at hsh (k := i) (by rw [runTo_length]; exact hil)
              have HY := Lib.hid (HB.out y (List.mem_of_getElem? hs2.out))
              have hy0 := HY.out.1
              have hy1 := HY.out.2
              have HU : Hid (unevTo l (lo + hi) (runTo l reach stiff order order.length) order (k + 1) = unevNext (lo + hi) (2 * p') y (unevTo l (lo + hi) (runTo l reach stiff order order.length) order k)) := by
                show unevTo l (lo + hi) (runTo l reach stiff order order.length) order (k + 1) = _
                rw [unevTo, getD_of' hi2.out, Int.toNat_natCast, getD_of hy.out, getD_of' hs2.out]; rfl
              have HUB := Lib.hid (unevTo_bd (l := l) (mid := lo + hi) (order := order) HB.out k)
              generalize hu : unevTo l (lo + hi) (runTo l reach stiff order order.length) order k = u at *
              have HUU := Lib.hid hu
              clear hu
              obtain ⟨df, gr⟩ := u
              have hu0 : -3200000 ≤ df := by have := HUB.out.1; simp only at this; omega
              have hu1 : df ≤ 3200000 := by have := HUB.out.2.1; simp only at this; omega
              have hu2 : 0 ≤ gr := by have := HUB.out.2.2.1; simp only at this; omega
              have hu3 : gr ≤ 3200000 := by have := HUB.out.2.2.2; simp only at this; omega
              rcases Int.lt_trichotomy (2 * p') (lo + hi) with hc | hc | hc
              · have HN := Lib.hid (unevNext_lt (x := y) (s := df) (m := gr) hc)
                go_wp2
                all_goals
                  go_roundw
                  case rel => exact ⟨k + 1, by omega, by go_num, by rw [HU.out, HN.out], by rw [HU.out, HN.out]; simp only []; rw [int_max_if, int_max_if], by trivial⟩
                  case measure => simp [intOf]; omega
              · have HN := Lib.hid (unevNext_eq (x := y) (s := df) (m := gr) hc)
                have hc1 : ¬ 2 * p' < lo + hi := by omega
                have hc2 : ¬ lo + hi < 2 * p' := by omega
                clear hc
                go_wp2
                all_goals
                  go_roundw
                  case rel => exact ⟨k + 1, by omega, by go_num, by rw [HU.out, HN.out], by rw [HU.out, HN.out]; simp only []; rw [int_max_if, int_max_if], by trivial⟩
                  case measure => simp [intOf]; omega
              · have HN := Lib.hid (unevNext_gt (x := y) (s := df) (m := gr) hc)
                have hc1 : ¬ 2 * p' < lo + hi := by omega
                go_wp2
                all_goals
                  go_roundw
                  case rel => exact ⟨k + 1, by omega, by go_num, by rw [HU.out, HN.out], by rw [HU.out, HN.out]; simp only []; rw [int_max_if, int_max_if], by trivial⟩
                  case measure => simp [intOf]; omega
            · have hke : k = order.length := by omega
              subst hke
              go_wp2
              go_ret2
              exact UnevPost.of HMID.out hw2
  · have hb1 : ((runF l reach stiff order).2 != 0) = true := by simp [hz]
    have HZ := Lib.hid hz
    clear hz
    go_enter Try.func19, Try.ntmps19
    go_wp2_with fail
    refine (run_any _ _ _ _ _ _ _ (Rep.below hl (by go_grown)) (Rep.below ho (by go_grown))).mono ?_
    rintro e w1 ⟨v, rfl, -, hb⟩
    have hw1 : Below w.heap.size w w1 := bstep (by go_grown) (by simp) hb
    clear hb
    go_wp2
    go_ret2
    exact UnevPost.of (unevF_bad HZ.out) hw1
end Go.Proofs.Ytgiphdjblnfjcaa
