/- Chapter 34: dag.Order, by walking its text. -/
import Derived.Test.YtgiphdjblnfjcaaWsCnt
import Derived.Test.YtgiphdjblnfjcaaWsW2
import Derived.Maps.AppendAt
import Derived.WalkMore
import Derived.Deep.LoopGhost
import Derived.Outline
import Derived.OneCell
namespace Go.Proofs.Ytgiphdjblnfjcaa
open Go Go.RowKit

def ErrPost (n : Int) (w : World) (e : Ending) (w' : World) : Prop := ∃ u, e = .returned (.tuple #[u, .int .i64 n]) ∧ Below w.heap.size w w'
theorem ErrPost.of {n m : Int} {u : Value} {w w' : World} (h : n = m) (hb : Below w.heap.size w w') : ErrPost n w (.returned (.tuple #[u, .int .i64 m])) w' := ⟨u, by rw [h], hb⟩

theorem not_free_next {before : List (Int × Int)} {t : List Int} {m : Nat} (h : ∀ u : Nat, u < m → freeB before t (u : Int) = false) (hm : freeB before t (m : Int) = false) : ∀ u : Nat, u < m + 1 → freeB before t (u : Int) = false := by
  intro u hu
  by_cases e : u = m
  · subst e; exact hm
  · exact h u (by omega)
set_option maxHeartbeats 1000000 in
theorem dagOrder_any (v : Value) (before : List (Int × Int)) (n : Nat) (w : World) (hn : n ≤ 256) (hx : prR.slice.R w (Lt w) before [v]) :
    Calls Try.prog 36 #[.int .i64 n, v] w (ErrPost (orderE n before) w) := by
  obtain ⟨A, c, rfl, hm, _⟩ := slice_inv hx
  by_cases he : endsF n before = 0
  · have hb0 : (endsF n before != 0) = false := by simp [he]
    have HE := Lib.hid he
    clear he
    obtain ⟨i0, hi, hz0, hz1, hz2⟩ := info_parts int_info
    have hmk := fun u => run_make1 (P := Try.prog) Try.underlying28 int_info rfl n (by omega) (by omega) u
    have hmb := fun u => run_make1 (P := Try.prog) Try.underlying72 bool_info rfl n (by omega) (by omega) u
    have hmo := fun u => run_make (P := Try.prog) u 28 3 i0 (.int .i64 0) Try.underlying28 hi hz0 .i64 .i64 0 (n : Int) (by omega) (by omega) (by rw [hz2]; omega) (by omega)
    simp only [Int.toNat_natCast, hz1, Nat.mul_one, Int.toNat_zero] at hmo
    go_enter Try.func36, Try.ntmps36
    go_wp2
    go_step3
    go_wp2_with fail
    refine (ends_any _ before n _ (Rep.below hx (by go_grown))).mono ?_
    rintro e w1 ⟨rfl, hw1⟩
    have hs1 := hw1.size
    go_wp2_with fail
    have c0 := Blk.new w1 3 (Array.replicate n (.int .i64 0))
    go_loopw [31] (fun i wr => ∃ (k : Nat) (cs : Array Value), k ≤ before.length ∧ i = .int .i64 k ∧ Hid (cntIs cs n (fun u => cntN [] (u : Int) (before.take k))) ∧ Blk wr w1.heap.size 3 cs ∧ w1.heap.size < wr.heap.size ∧ Below w.heap.size w wr) (fun i _ => before.length - (intOf i).toNat)
    case atStart => exact ⟨0, _, Nat.zero_le _, rfl, cntIs_congr (cntIs_zero n) (fun u => by simp [cntN]), c0, by simp, hw1.alloc (by omega) _⟩
    case round =>
      obtain ⟨k, cs, hk, rfl, hcn, hblk, hlt0, hb⟩ := hrel
      by_cases hlt : k < before.length
      · obtain ⟨b, off, p, s, rfl, hxk, -, a0, a1, -⟩ := pairs_at (Rep.at_ hx hb) hlt
        have HR := Lib.hid (ends_at HE.out hxk.out)
        have r1 := HR.out.2.2.1
        have r2 := HR.out.2.2.2.1
        obtain ⟨j, rfl⟩ := Int.eq_ofNat_of_zero_le r1
        have hj : j < n := by omega
        have a2 : wr.cell? ⟨w1.heap.size, j, none⟩ = some (.int .i64 (cntN [] (j : Int) (before.take k) : Int)) := (hblk.cell j).trans (hcn.out.2 j hj)
        have a3 := hblk.free j
        have HL := Lib.hid (cntN_le [] (j : Int) (before.take k))
        have HS := Lib.hid (fun u : Nat => cntN_snoc [] (u : Int) hxk.out)
        have hl : cntN [] (j : Int) (before.take k) ≤ k := by have := HL.out; rw [List.length_take] at this; omega
        generalize hcv : cntN [] (j : Int) (before.take k) = cv at *
        have HCV := Lib.hid hcv
        clear hcv
        go_wp2
        go_roundw
        case rel =>
          refine ⟨k + 1, _, by omega, by go_num, ?_, (hblk.set_ j _).alloc _, by simp [World.setCell]; omega, (hb.setCell (p := ⟨w1.heap.size, j, none⟩) (by show w.heap.size ≤ w1.heap.size; omega) _).alloc (by simp [World.setCell]; omega) _⟩
          refine cntIs_set hcn.out hj ?_ (fun u hu => ?_)
          · rw [HS.out j, HCV.out]; simp
          · rw [HS.out u]
            have : ¬ (j : Int) = (u : Int) := by omega
            simp [this]
        case measure => simp [intOf]; omega
      · have hke : k = before.length := by omega
        subst hke
        go_wp2
        clear hmk
        have d0 := (hblk.alloc (.cells (madeCells #[Value.int .i64 0] n) 3)).alloc (.cells (Array.replicate n (.bool false)) 4)
        have d1 := Blk.new (wr.alloc (.cells (madeCells #[Value.int .i64 0] n) 3)) 4 (Array.replicate n (.bool false))
        have o0 : ((wr.alloc (.cells (madeCells #[Value.int .i64 0] n) 3)).alloc (.cells (Array.replicate n (.bool false)) 4)).ownsRow wr.heap.size 3 1 (.slice (some ⟨wr.heap.size, 0, none⟩) 0 n) 0 [] :=
          World.ownsRow.alloc (World.ownsRow_made (base := wr.heap.size) (e := 3) (size := 1) wr (madeCells #[Value.int .i64 0] n) n (Nat.le_refl _) (by unfold maxLen; omega) (by simp [madeCells])) _
        have hb3 : Below w.heap.size w ((wr.alloc (.cells (madeCells #[Value.int .i64 0] n) 3)).alloc (.cells (Array.replicate n (.bool false)) 4)) := (hb.alloc (by omega) _).alloc (by simp; omega) _
        simp only [World.size_alloc] at d1
        obtain ⟨B, hB⟩ : ∃ B, wr.heap.size = B := ⟨_, rfl⟩
        rw [hB] at d1 o0
        have hBl : w1.heap.size < B := by omega
        go_step3
        go_wp2
        rw [hB]
        clear hmb hmo c0
        go_loopg [10] n (fun g vo wq => ∃ (t : List Int) (cs ts : Array Value), t.length + g = n ∧ Hid (Beg n t) ∧ Hid (topoOk n before n [] = topoOk n before (n - t.length) t) ∧ OwnI wq B vo t ∧ vo.ownBlock ≠ some (B + 1) ∧ B + 1 < wq.heap.size ∧
            Hid (cntIs cs n (fun u => cntN t (u : Int) before)) ∧ Blk wq w1.heap.size 3 cs ∧ Hid (seenIs ts n t) ∧ Blk wq (B + 1) 4 ts ∧ Below w.heap.size w wq)
        case atStart =>
          subst hB
          refine ⟨[], _, _, by simp, Beg.nil n, rfl, o0, ?_, by simp, ?_, d0, ⟨by simp, fun i hi => by simp [hi]⟩, d1, hb3⟩
          · intro e; simp [Value.ownBlock] at e
          · have := hcn.out
            rw [List.take_of_length_le (Nat.le_refl _)] at this
            exact this
        case round =>
          obtain ⟨t, cs', ts, htg, hbeg, htop, hown, hnb, hBz, hcn', hblk', hsn, hblt, hbq⟩ := hrel
          obtain ⟨vA, vc, rfl⟩ := own_slice hown
          cases gk with
          | zero =>
            have hlen : ¬ ((t.length : Int) < (n : Int)) := by omega
            go_wp2
            (try rw [Exit.noGoto_ret])
            go_ret2
            exact ErrPost.of (orderE_ok HE.out (topo_end htop.out (by omega))) hbq
          | succ g =>
            have hlen : (t.length : Int) < (n : Int) := by omega
            go_wp2
            obtain ⟨wo, hwo⟩ : ∃ wo : World, wo = wr := ⟨_, rfl⟩
            subst hwo
            go_loopg [10, 52] n (fun g3 vo i wq3 => ∃ m : Nat, m + g3 = n ∧ i = .int .i64 m ∧ vo = .slice vA t.length vc ∧ Hid (∀ u : Nat, u < m → freeB before t (u : Int) = false) ∧ wq3 = wo)
            case atStart => exact ⟨0, by omega, rfl, rfl, fun u hu => absurd hu (by omega), rfl⟩
            case round =>
              obtain ⟨m, hmg, rfl, rfl, hno, rfl⟩ := hrel
              cases gk with
              | zero =>
                have hlm : ¬ ((m : Int) < (n : Int)) := by omega
                obtain rfl : m = n := by omega
                go_wp2
                (try rw [Exit.noGoto_ret])
                go_ret2
                exact ErrPost.of (orderE_cycle HE.out (topo_stuck htop.out (by omega) (firstFree_none hno.out))) hbq
              | succ g3 =>
                have hlm : (m : Int) < (n : Int) := by omega
                have hmn : m < n := by omega
                have HF := Lib.hid (@cntN_free t (m : Int) before)
                have k0 := (hblt.cell m).trans (hsn.out.2 m hmn)
                have k1 := (hblk'.cell m).trans (hcn'.out.2 m hmn)
                replace k1 : _ = some (Value.int .i64 (cntN t (m : Int) before : Int)) := k1
                rcases Bool.eq_false_or_eq_true (decide ((m : Int) ∈ t)) with hd | hd
                · have HD := Lib.hid hd
                  rw [hd] at k0
                  clear hd
                  go_wp2
                  go_roundg g3
                  case measure => omega
                  case rel =>
                    refine ⟨m + 1, by omega, by go_num, rfl, not_free_next hno.out ?_, rfl⟩
                    rw [HF.out]
                    have := of_decide_eq_true HD.out
                    simp [this]
                · have HD := Lib.hid hd
                  rw [hd] at k0
                  clear hd
                  have HL := Lib.hid (cntN_le t (m : Int) before)
                  by_cases hz : 0 < cntN t (m : Int) before
                  · have HZ := Lib.hid hz
                    have hz' : (0 : Int) < (cntN t (m : Int) before : Int) := by omega
                    generalize hcv : cntN t (m : Int) before = cv at *
                    have HCV := Lib.hid hcv
                    clear hcv hz
                    go_wp2
                    go_roundg g3
                    case measure => omega
                    case rel =>
                      refine ⟨m + 1, by omega, by go_num, rfl, not_free_next hno.out ?_, rfl⟩
                      rw [HF.out]
                      have : ¬ cv = 0 := by have := HZ.out; omega
                      simp [this]
                  · have hz0 : cntN t (m : Int) before = 0 := by omega
                    have HFF : Hid (freeB before t (m : Int) = true) := by
                      show freeB before t (m : Int) = true
                      rw [HF.out, hz0]
                      have := of_decide_eq_false HD.out
                      simp [this]
                    rw [hz0] at k1
                    have HZ := Lib.hid hz0
                    clear hz hz0
                    have k2 := hblt.free m
                    have HFI := Lib.hid (firstFree_is hmn hno.out HFF.out)
                    have hbz := hbq.size
                    have hnm : (m : Int) ∉ t := freeB_not HFF.out
                    have HNM := Lib.hid hnm
                    clear hnm
                    have ho2 := World.ownsRow.alloc (ownsRow_setCell_other hown (a := ⟨B + 1, m, none⟩) hnb (.bool true)) (.cells #[.int .i64 (m : Int)] 3)
                    have hnc : ∀ j x, [Value.int .i64 (m : Int)][j]? = some x → ((wr.setCell ⟨B + 1, m, none⟩ (.bool true)).alloc (.cells #[.int .i64 (m : Int)] 3)).cell? ((⟨wr.heap.size, 0, none⟩ : Addr).add j) = some x := by
                      have h := new1_cells (wr.setCell ⟨B + 1, m, none⟩ (.bool true)) (.int .i64 (m : Int)) 3
                      rw [show (wr.setCell ⟨B + 1, m, none⟩ (.bool true)).heap.size = wr.heap.size from by simp [World.setCell]] at h
                      exact h
                    go_wp2_with (at_builtin; refine wpList_append_own_at _ rfl _ _ 28 rfl B 3 i0 (.int .i64 0) 1 8 Try.underlying28 hi hz0 hz1 hz2 rfl (by decide) _ _ _ rfl ho2 ⟨wr.heap.size, 0, none⟩ 1 1 [.int .i64 (m : Int)] rfl rfl hnc (one_oneCell rfl) (by unfold maxLen; omega) (by omega) (by simp [World.setCell]; omega) ?_; intro v1 w2 hown1 hg1 _ hob1)
                    have hws : wr.heap.size < w2.heap.size := by have := hg1.size; simp [World.setCell] at this; omega
                    have q1 := Blk.grown ((hblk'.far (p := ⟨B + 1, m, none⟩) (by show w1.heap.size ≠ B + 1; omega) (.bool true)).alloc (.cells #[.int .i64 (m : Int)] 3)) hg1 (fun e => by have := (World.ownsRow.lt hown _ e.symm).1; omega)
                    have q2 := Blk.grown ((hblt.set_ m (.bool true)).alloc (.cells #[.int .i64 (m : Int)] 3)) hg1 (fun e => hnb e.symm)
                    have q3 := ((hbq.setCell (p := ⟨B + 1, m, none⟩) (by show w.heap.size ≤ B + 1; omega) (.bool true)).alloc (by simp [World.setCell]; omega) (.cells #[.int .i64 (m : Int)] 3)).grown hg1 (by simp [World.setCell]; omega) (fun j hj => by have := (World.ownsRow.lt hown j hj).1; omega)
                    have q4 : v1.ownBlock ≠ some (B + 1) := by
                      rcases hob1 with h | h
                      · rw [h]; exact hnb
                      · rw [h]; intro e; simp [World.setCell] at e; omega
                    have q5 := ownI_snoc hown1
                    have q6 := Lib.hid (seenIs_set hsn.out hmn)
                    have q7 := Lib.hid (cntIs_congr (g := midN t (m : Int) before 0) hcn'.out (fun u => midN_zero t (m : Int) before u))
                    clear hown1 hg1 ho2 hblk' hblt hcn' hsn k0 k1 k2 hob1 hnb
                    go_loopw [75] (fun i wq => ∃ (j : Nat) (cs4 : Array Value), j ≤ before.length ∧ i = .int .i64 j ∧ Hid (cntIs cs4 n (midN t (m : Int) before j)) ∧ Blk wq w1.heap.size 3 cs4 ∧ Blk wq (B + 1) 4 (ts.setIfInBounds m (.bool true)) ∧ OwnI wq B v1 (t ++ [(m : Int)]) ∧ B + 1 < wq.heap.size ∧ Below w.heap.size w wq) (fun i _ => before.length - (intOf i).toNat)
                    case atStart => exact ⟨0, _, Nat.zero_le _, rfl, q7.out, q1, q2, q5, by omega, q3⟩
                    case round =>
                      obtain ⟨j, cs4, hj, rfl, hc4, hb4, hbt4, ho4, hz4, hbw4⟩ := hrel
                      by_cases hltj : j < before.length
                      · obtain ⟨b, off, p, s, rfl, hxj, -, a0, a1, -⟩ := pairs_at (Rep.at_ hx hbw4) hltj
                        have HR := Lib.hid (ends_at HE.out hxj.out)
                        have r1 := HR.out.2.2.1
                        have r2 := HR.out.2.2.2.1
                        obtain ⟨y, rfl⟩ := Int.eq_ofNat_of_zero_le r1
                        have hy : y < n := by omega
                        by_cases hpm : p = (m : Int)
                        · subst hpm
                          have HY := Lib.hid (fun u : Nat => midN_yes hxj.out HNM.out u)
                          have a2 : wr.cell? ⟨w1.heap.size, y, none⟩ = some (.int .i64 (midN t (m : Int) before j y : Int)) := (hb4.cell y).trans (hc4.out.2 y hy)
                          have a3 := hb4.free y
                          have hz5 : w1.heap.size < wr.heap.size := by omega
                          have HL4 := Lib.hid (midN_le t (m : Int) before j y)
                          have hl4 : midN t (m : Int) before j y ≤ before.length := HL4.out
                          have e1 : ((m : Int) == (m : Int)) = true := by simp
                          generalize hcv : midN t (m : Int) before j y = cv at *
                          have HCV := Lib.hid hcv
                          clear hcv
                          go_wp2
                          go_roundw
                          case rel =>
                            refine ⟨j + 1, _, by omega, by go_num, ?_, (hb4.set_ y _).alloc _, (hbt4.far (p := ⟨w1.heap.size, y, none⟩) (by show B + 1 ≠ w1.heap.size; omega) _).alloc _,
                              World.ownsRow.alloc (ownsRow_setCell_below ho4 (a := ⟨w1.heap.size, y, none⟩) (by show w1.heap.size < B; omega) _) _, by simp [World.setCell]; omega,
                              (hbw4.setCell (p := ⟨w1.heap.size, y, none⟩) (by show w.heap.size ≤ w1.heap.size; omega) _).alloc (by have := hbw4.size; simp [World.setCell]; omega) _⟩
                            refine cntIs_set hc4.out hy ?_ (fun u hu => ?_)
                            · have := HY.out y
                              rw [HCV.out] at this
                              simp at this
                              omega
                            · have := HY.out u
                              have h' : ¬ (y : Int) = (u : Int) := by omega
                              simp [h'] at this
                              omega
                          case measure => simp [intOf]; omega
                        · have HN := Lib.hid (fun u : Nat => midN_no (t := t) hxj.out hpm u)
                          have e1 : (p == (m : Int)) = false := ieq_f hpm
                          go_wp2
                          go_roundw
                          case rel =>
                            refine ⟨j + 1, _, by omega, by go_num, cntIs_congr hc4.out (fun u => HN.out u), hb4.alloc _, hbt4.alloc _, World.ownsRow.alloc ho4 _, by simp; omega, hbw4.alloc hbw4.size _⟩
                          case measure => simp [intOf]; omega
                      · go_wp2
                        go_roundg g
                        case measure => omega
                        case rel =>
                          refine ⟨t ++ [(m : Int)], _, _, by simp; omega, hbeg.out.snoc hmn HNM.out, topo_next htop.out (by omega) HFI.out, ho4, q4, hz4, cntIs_congr hc4.out (fun u => (midN_end t (m : Int) before (by omega) u).symm), hb4, q6.out, hbt4, hbw4⟩
  · have hb0 : (endsF n before != 0) = true := by simp [he]
    have HE := Lib.hid he
    clear he
    go_enter Try.func36, Try.ntmps36
    go_wp2
    go_step3
    go_wp2_with fail
    refine (ends_any _ before n _ (Rep.below hx (by go_grown))).mono ?_
    rintro e w1 ⟨rfl, hw1⟩
    go_wp2
    (try rw [Exit.noGoto_ret])
    go_ret2
    exact ErrPost.of (orderE_ends HE.out) hw1
end Go.Proofs.Ytgiphdjblnfjcaa
