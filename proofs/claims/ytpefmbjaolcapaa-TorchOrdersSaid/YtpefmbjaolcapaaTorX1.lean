/- Chapter 26: free, by walking the reference's text. -/
import Derived.Test.YtpefmbjaolcapaaTorW9
namespace Go.Proofs.Ytpefmbjaolcapaa
open Go Go.RowKit

set_option maxRecDepth 100000 in
set_option maxHeartbeats 1000000 in
theorem refFreeT_any (va vb : Value) (all before : List Pt) (x y : Int) (w : World) (hv : prR.slice.R w (Lt w) all [va]) (hb' : prR.slice.R w (Lt w) before [vb]) (hy : 0 ≤ y) :
    Calls Try.prog 38 #[va, vb, .agg #[.int .i64 x, .int .i64 y]] w (Ret (.bool (freeC all before (x, y))) w) := by
  obtain ⟨A, c, rfl, hm, -⟩ := slice_inv hv
  have hw0 : Below w.heap.size w (w.alloc (.cells #[.int .i64 x, .int .i64 y] 24)) := (Below.refl _ _).alloc (Nat.le_refl _) _
  have bk := Blk.new w 24 #[.int .i64 x, .int .i64 y]
  by_cases hy0 : 0 < y
  · have HF := Lib.hid (freeC_ring (all := all) (before := before) (x := x) hy0)
    have b0 : (y == 0) = false := ieq_f (by omega)
    clear hy
    go_enter Try.func38, Try.ntmps38
    go_wp2
    go_loopw [7] (fun j wr => ∃ k : Nat, k ≤ all.length ∧ j = .int .i64 k ∧ Blk wr w.heap.size 24 #[.int .i64 x, .int .i64 y] ∧ Below w.heap.size w wr) (fun j _ => all.length - (intOf j).toNat)
    case atStart => exact ⟨0, Nat.zero_le _, rfl, bk, hw0⟩
    case round =>
      obtain ⟨k, hk, rfl, bk, hb⟩ := hrel
      have k0 := bk.c20
      have k1 := bk.c21
      by_cases hlt : k < all.length
      · go_wp2
        go_quiet (fail)
        go_wp2
        go_roundw
        case rel => exact ⟨k + 1, by omega, by go_num, bk.drewN _, below_drewN hb _⟩
        case measure => simp [intOf]; omega
      · go_wp2
        go_ret
        exact ⟨ret_bool HF.out.symm, hb⟩
  · obtain rfl : y = 0 := by omega
    have HF := Lib.hid (freeC_all (all := all) (before := before) (x := x) hy0)
    clear hy hy0
    go_enter Try.func38, Try.ntmps38
    go_wp2
    go_loopw [7] (fun j wr => ∃ k : Nat, k ≤ all.length ∧ j = .int .i64 k ∧ Hid ((all.take k).all (okAt before x) = true) ∧ Blk wr w.heap.size 24 #[.int .i64 x, .int .i64 0] ∧ Below w.heap.size w wr) (fun j _ => all.length - (intOf j).toNat)
    case atStart => exact ⟨0, Nat.zero_le _, rfl, rfl, bk, hw0⟩
    case round =>
      obtain ⟨k, hk, rfl, hall, bk, hb⟩ := hrel
      have hz := hb.size
      have k0 := bk.c20
      have k1 := bk.c21
      have lk := bk.lt
      by_cases hlt : k < all.length
      · obtain ⟨b, off, p, q, rfl, hx, hbD, d0, d1, -⟩ := pairs_at (Rep.at_ hv hb) hlt
        have hbl : b < w.heap.size := hbD
        have hbr : b < wr.heap.size := Nat.lt_of_lt_of_le hbl hz
        by_cases e2 : 0 < q
        · have b2 : decide (0 < q) = true := decide_eq_true e2
          by_cases e1 : p = x
          · have b1 : (p == x) = true := ieq_t e1
            rcases Bool.eq_false_or_eq_true (before.contains (p, q)) with hc | hc
            · have HP : Hid (okAt before x (p, q) = true) := by show okAt before x (p, q) = true; simp only [okAt, hc, Bool.or_true]
              have hn : ¬ idxC before (p, q) < 0 := by have := idxC_contains before (p, q); rw [hc] at this; simp at this; omega
              generalize hix : idxC before (p, q) = ix at *
              have HIX : Hid (idxC before (p, q) = ix) := hix
              clear hix hc e1
              go_wp2
              go_region_held3 (fun W => Below wr.heap.size wr W ∧ W.cell? ⟨b, off + k * 2, none⟩ = some (.int .i64 p) ∧ W.cell? ⟨b, off + k * 2 + 1, none⟩ = some (.int .i64 q) ∧ W.cell? ⟨w.heap.size, 0, none⟩ = some (.int .i64 x) ∧ W.cell? ⟨w.heap.size, 1, none⟩ = some (.int .i64 0))
                (first
                  | exact ⟨(Below.refl _ _).drew, d0, d1, k0, k1⟩
                  | exact ⟨hSa, (hSa.cell (p := ⟨b, off + k * 2, none⟩) hbr).trans d0, (hSa.cell (p := ⟨b, off + k * 2 + 1, none⟩) hbr).trans d1, (hSa.cell (p := ⟨w.heap.size, 0, none⟩) lk).trans k0, (hSa.cell (p := ⟨w.heap.size, 1, none⟩) lk).trans k1⟩)
                (first
                  | (go_at_call 30
                     refine (find_any vb before p q _ (Rep.below hb' hb.drew)).mono ?_
                     rintro e W1 ⟨he, hq⟩
                     rw [HIX.out] at he
                     subst he
                     have hSa : Below wr.heap.size wr W1 := bstep ((Below.refl _ _).drew) (Nat.le_refl _) hq))
              go_wp2
              go_roundw
              case rel => exact ⟨k + 1, by omega, by go_num, all_take_succ hall.out hx.out HP.out, bk.below hSa lk, bstep hb hz hSa⟩
              case measure => simp [intOf]; omega
            · have HP : Hid (okAt before x (p, q) = false) := by show okAt before x (p, q) = false; simp only [okAt, hc, b1, b2]; rfl
              have hn : idxC before (p, q) < 0 := by have := idxC_contains before (p, q); rw [hc] at this; simp at this; omega
              generalize hix : idxC before (p, q) = ix at *
              have HIX : Hid (idxC before (p, q) = ix) := hix
              clear hix hc e1
              go_wp2
              go_region_held3 (fun W => Below wr.heap.size wr W ∧ W.cell? ⟨b, off + k * 2, none⟩ = some (.int .i64 p) ∧ W.cell? ⟨b, off + k * 2 + 1, none⟩ = some (.int .i64 q) ∧ W.cell? ⟨w.heap.size, 0, none⟩ = some (.int .i64 x) ∧ W.cell? ⟨w.heap.size, 1, none⟩ = some (.int .i64 0))
                (first
                  | exact ⟨(Below.refl _ _).drew, d0, d1, k0, k1⟩
                  | exact ⟨hSa, (hSa.cell (p := ⟨b, off + k * 2, none⟩) hbr).trans d0, (hSa.cell (p := ⟨b, off + k * 2 + 1, none⟩) hbr).trans d1, (hSa.cell (p := ⟨w.heap.size, 0, none⟩) lk).trans k0, (hSa.cell (p := ⟨w.heap.size, 1, none⟩) lk).trans k1⟩)
                (first
                  | (go_at_call 30
                     refine (find_any vb before p q _ (Rep.below hb' hb.drew)).mono ?_
                     rintro e W1 ⟨he, hq⟩
                     rw [HIX.out] at he
                     subst he
                     have hSa : Below wr.heap.size wr W1 := bstep ((Below.refl _ _).drew) (Nat.le_refl _) hq))
              go_wp2
              go_ret
              exact ⟨ret_bool (by rw [HF.out, all_bad hx.out HP.out]), bstep hb hz hSa⟩
          · have b1 : (p == x) = false := ieq_f e1
            have HP : Hid (okAt before x (p, q) = true) := by show okAt before x (p, q) = true; simp only [okAt, b1, Bool.false_and]; rfl
            clear e1
            go_wp2
            go_quiet (fail)
            go_wp2
            go_roundw
            case rel => exact ⟨k + 1, by omega, by go_num, all_take_succ hall.out hx.out HP.out, bk.drewN _, below_drewN hb _⟩
            case measure => simp [intOf]; omega
        · have b2 : decide (0 < q) = false := decide_eq_false e2
          have HP : Hid (okAt before x (p, q) = true) := by show okAt before x (p, q) = true; simp only [okAt, b2, Bool.and_false]; rfl
          go_wp2
          go_quiet (fail)
          go_wp2
          go_roundw
          case rel => exact ⟨k + 1, by omega, by go_num, all_take_succ hall.out hx.out HP.out, bk.drewN _, below_drewN hb _⟩
          case measure => simp [intOf]; omega
      · go_wp2
        go_ret
        have h3 := hall.out
        rw [List.take_of_length_le (by omega)] at h3
        exact ⟨ret_bool (by rw [HF.out, h3]), hb⟩
end Go.Proofs.Ytpefmbjaolcapaa
