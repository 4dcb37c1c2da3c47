/- Chapter 13: the area of a checked shape, by walking the reference's text. -/
import Derived.Test.YtcnkocnajamclaaTopWA
namespace Go.Proofs.Ytcnkocnajamclaa
open Go Go.RowKit

theorem fine_near {p : List Pt} (h : Fine12 p) (i : Nat) : NearP (cn p i) := by
  have := h.lo
  exact near_cn (near_all (check12_of h)) (by omega) i
theorem areaP_bd {p : List Pt} (h : Fine12 p) : -274877906944 ≤ areaP p ∧ areaP p ≤ 274877906944 := by
  have h1 := areaTo_bd (fine_near h) 0 p.length
  have h2 := h.hi
  unfold areaP
  omega
theorem ringsTo_bd {s : Shp} (h : Fine13 s) : ∀ k, k ≤ s.2.length + 1 → -((k : Int) * 274877906944) ≤ ringsTo s k ∧ ringsTo s k ≤ (k : Int) * 274877906944
  | 0, _ => by simp [ringsTo]
  | k + 1, hk => by
    have h1 := ringsTo_bd h k (by omega)
    have h2 := areaP_bd (h.ring (k := k) (by omega))
    rw [ringsTo]
    push_cast
    omega
theorem area13_bd {s : Shp} (h : Fine13 s) : -2473901162496 ≤ area13 s ∧ area13 s ≤ 2473901162496 := by
  have h1 := ringsTo_bd h (s.2.length + 1) (Nat.le_refl _)
  have h2 := h.holes
  have h3 : ((s.2.length + 1 : Nat) : Int) ≤ 9 := by omega
  generalize ((s.2.length + 1 : Nat) : Int) = m at h1 h3
  unfold area13
  omega
theorem area12_fine {p : List Pt} (h : Fine12 p) : area12 p = areaP p := by unfold area12; rw [if_pos (check12_of h)]
theorem rings_get {s : Shp} {k : Nat} {r : List Pt} (h : (s.1 :: s.2)[k]? = some r) : ringOf s k = r := by
  unfold ringOf
  cases k with
  | zero => simpa using h
  | succ k =>
    rw [if_neg (by omega), Nat.add_sub_cancel, List.getD_eq_getElem?_getD]
    rw [show s.2[k]? = some r from by simpa using h]
    rfl
set_option maxRecDepth 100000 in
set_option maxHeartbeats 2000000 in
theorem area13_any (O : Option Addr) (sn sc : Nat) (H : Option Addr) (nh ch : Nat) (s : Shp) (w : World) (hso : ptsR.R w (Lt w) s.1 [.slice O sn sc]) (hsh : holesR.R w (Lt w) s.2 [.slice H nh ch]) (hc : check13 s = 0) :
    Calls Try.prog 12 #[.agg #[.slice O sn sc, .slice H nh ch]] w (Ret (.int .i64 (area13 s)) w) := by
  have hf := check13_fine hc
  have h8 := hf.holes
  have hw0 : Below w.heap.size w (w.alloc (.cells #[.slice O sn sc, .slice H nh ch] 42)) := (Below.refl _ _).alloc (Nat.le_refl _) _
  have BS := Blk.new w 42 #[.slice O sn sc, .slice H nh ch]
  have b0 := BS.c20
  have b1 := BS.c21
  have HC := Lib.hid hc
  have HF := Lib.hid hf
  have HA : Hid (area13 s = ringsTo s (s.2.length + 1)) := rfl
  clear hc hf
  go_enter Try.func12, Try.ntmps12
  go_wp2_with fail
  refine (check13_any O sn sc H nh ch s _ (Rep.below hso hw0) (Rep.below hsh hw0)).mono ?_
  rintro e w1 ⟨rfl, hq⟩
  rw [HC.out]
  have BS := BS.below hq BS.lt
  have hb1 := bstep hw0 hw0.size hq
  clear b0 b1 hq hw0
  have b0 := BS.c20
  have b1 := BS.c21
  go_wp2_with fail
  refine (contours13_any O sn sc H nh ch s _ (Rep.below hso hb1) (Rep.below hsh hb1) h8).mono ?_
  rintro e w2 ⟨v, rfl, hr, hq⟩
  have hb2 := bstep hb1 hb1.size hq
  obtain ⟨A, c, rfl, hm, -⟩ := slice_inv hr
  have hll : (s.1 :: s.2).length = s.2.length + 1 := rfl
  have HLL := Lib.hid hll
  obtain ⟨n, hn⟩ : ∃ n, n = (s.1 :: s.2).length := ⟨_, rfl⟩
  have hn9 : n ≤ 9 := by rw [hn, hll]; omega
  rw [← hn] at hr hm ⊢
  have HN : Hid (n = s.2.length + 1) := hn
  obtain ⟨wb, hwb⟩ : ∃ W, W = w2 := ⟨_, rfl⟩
  subst hwb
  clear hll hn b0 b1 hq hb1
  go_wp2
  go_loopw [3, 5] (fun sv iv wr => ∃ i : Nat, i ≤ n ∧ iv = .int .i64 i ∧ sv = .int .i64 (ringsTo s i) ∧ Below wb.heap.size wb wr) (fun _ iv _ => n - (intOf iv).toNat)
  case atStart => exact ⟨0, Nat.zero_le _, rfl, rfl, Below.refl _ _⟩
  case round =>
    obtain ⟨i, hi, rfl, rfl, hb⟩ := hrel
    have hz := hb.size
    by_cases hlt : i < n
    · have hli : (i : Int) < (n : Int) := by omega
      obtain ⟨b, off, p, PO, pn, pc, rfl, hp, hbD, c0, -, hr2, -⟩ := hole_at (Rep.at_ hr hb) (show i < (s.1 :: s.2).length from by rw [HLL.out, ← HN.out]; exact hlt)
      have hbw : b < wb.heap.size := hbD
      have hbl : b < wr.heap.size := by omega
      have hr2 : ptsR.R wr (Lt wr) p [.slice PO pn pc] := Rep.mono _ (fun _ hb' => Nat.lt_of_lt_of_le hb' hz) hr2
      have hrg := rings_get hp.out
      have hfp := HF.out.ring (k := i) (by rw [← HN.out]; exact hlt)
      rw [hrg] at hfp
      have hbd := ringsTo_bd HF.out i (by rw [← HN.out]; omega)
      have hpd := areaP_bd hfp
      have HNX : Hid (ringsTo s (i + 1) = ringsTo s i + areaP p) := by show _ = _; rw [ringsTo, hrg]
      have HAP := Lib.hid (area12_fine hfp)
      obtain ⟨x, hx⟩ : ∃ x, x = ringsTo s i := ⟨_, rfl⟩
      obtain ⟨y, hy⟩ : ∃ y, y = areaP p := ⟨_, rfl⟩
      rw [← hx] at hbd HNX
      rw [← hy] at hpd HNX HAP
      rw [← hx]
      have hx1 : -3000000000000 ≤ x := by omega
      have hx2 : x ≤ 3000000000000 := by omega
      clear hbd hx hy hfp hrg
      go_wp2_with fail
      refine (area12_any PO pn pc p _ hr2).mono ?_
      rintro e w3 ⟨rfl, hq⟩
      rw [HAP.out]
      have hb3 := bstep hb hz hq
      go_wp2
      go_roundw
      case rel => exact ⟨i + 1, by omega, by go_num, by rw [HNX.out], hb3⟩
      case measure => simp [intOf]; omega
    · have hli : ¬ (i : Int) < (n : Int) := by omega
      have HE : Hid (ringsTo s i = area13 s) := by
        have : i = n := by omega
        show _ = _
        rw [HA.out, this, HN.out]
      clear hlt
      go_wp2
      go_ret
      exact ⟨ret_int HE.out, bstep hb2 hb2.size hb⟩
end Go.Proofs.Ytcnkocnajamclaa
