/- Chapter 26: free, by walking the program's text. -/
import Derived.Test.YtcnkocnajamclaaTorW8
namespace Go.Proofs.Ytcnkocnajamclaa
open Go Go.RowKit

/-- which contours are done: a block of Bools. -/
structure DoneIs (all before : List Pt) (cs : Array Value) : Prop where
  size : cs.size = all.length
  at_ : ∀ (k : Nat) (a : Pt), all[k]? = some a → cs[k]? = some (.bool (before.contains a))
def okAt (before : List Pt) (x : Int) (a : Pt) : Bool := !(a.1 == x && decide (0 < a.2)) || before.contains a
theorem freeC_ring {all before : List Pt} {x y : Int} (h : 0 < y) : freeC all before (x, y) = true := by simp [freeC, h]
theorem freeC_all {all before : List Pt} {x y : Int} (h : ¬ 0 < y) : freeC all before (x, y) = all.all (okAt before x) := by simp only [freeC, h, decide_false, Bool.false_or]; rfl
set_option maxRecDepth 100000 in
set_option maxHeartbeats 1000000 in
theorem freeT_any (v : Value) (all before : List Pt) (g : Nat) (cs : Array Value) (i : Nat) (x y : Int) (w : World) (hv : prR.slice.R w (Lt w) all [v]) (hg : Blk w g 4 cs) (hd : DoneIs all before cs) (hi : all[i]? = some (x, y)) :
    Calls Try.prog 34 #[v, .slice (some ⟨g, 0, none⟩) all.length all.length, .int .i64 i] w (Ret (.bool (freeC all before (x, y))) w) := by
  obtain ⟨A, c, rfl, hm, -⟩ := slice_inv hv
  have hil := lt_of_get hi
  obtain ⟨b, off, x', y', rfl, hx', hbD, c0, c1, -⟩ := pairs_at hv hil
  have hxe := hx'.out.symm.trans hi
  injection hxe with hxe
  injection hxe with h1 h2
  subst h1 h2
  have hbl : b < w.heap.size := hbD
  by_cases hy : 0 < y'
  · have HF := Lib.hid (freeC_ring (all := all) (before := before) (x := x') hy)
    clear hi hx'
    go_enter Try.func34, Try.ntmps34
    go_wp2
    go_ret
    exact ⟨ret_bool HF.out.symm, Below.refl _ _⟩
  · have HF := Lib.hid (freeC_all (all := all) (before := before) (x := x') hy)
    clear hi
    go_enter Try.func34, Try.ntmps34
    go_wp2
    go_loopw [17] (fun j wr => ∃ k : Nat, k ≤ all.length ∧ j = .int .i64 k ∧ Hid ((all.take k).all (okAt before x') = true) ∧ Below w.heap.size w wr) (fun j _ => all.length - (intOf j).toNat)
    case atStart => exact ⟨0, Nat.zero_le _, rfl, rfl, Below.refl _ _⟩
    case round =>
      obtain ⟨k, hk, rfl, hall, hb⟩ := hrel
      have hz := hb.size
      by_cases hlt : k < all.length
      · obtain ⟨b2, off2, p, q, e, hx, -, d0, d1, -⟩ := pairs_at (Rep.at_ hv hb) hlt
        injection e with e
        injection e with e5 e6 _
        subst e5 e6
        have hbr : b < wr.heap.size := Nat.lt_of_lt_of_le hbl hz
        have hbn : ¬ b = wr.heap.size := by omega
        have c0' := ((bcell hb).1 b (off + i * 2) hbl).trans c0
        have c1' := ((bcell hb).1 b (off + i * 2 + 1) hbl).trans c1
        have hgl := hg.lt
        have hgr : g < wr.heap.size := Nat.lt_of_lt_of_le hgl hz
        have hgn : ¬ g = wr.heap.size := by omega
        have hg' := hg.below hb hgl
        have hdk := hd.at_ k _ hx.out
        have k0 := hg'.cell k
        rw [hdk] at k0
        have hil1 : (i : Int) < (all.length : Int) := by omega
        clear hg' hdk
        by_cases e1 : p = x'
        · have b1 : (p == x') = true := ieq_t e1
          by_cases e2 : 0 < q
          · have b2 : decide (0 < q) = true := decide_eq_true e2
            rcases Bool.eq_false_or_eq_true (before.contains (p, q)) with hc | hc
            · have HP : Hid (okAt before x' (p, q) = true) := by show okAt before x' (p, q) = true; simp only [okAt, hc, Bool.or_true]
              rw [hc] at k0
              clear hc e1
              go_wp2
              go_quiet (fail)
              go_wp2
              go_roundw
              case rel => exact ⟨k + 1, by omega, by go_num, all_take_succ hall.out hx.out HP.out, below_drewN (hb.alloc hz _) _⟩
              case measure => simp [intOf]; omega
            · have HP : Hid (okAt before x' (p, q) = false) := by show okAt before x' (p, q) = false; simp only [okAt, hc, b1, b2]; rfl
              rw [hc] at k0
              clear hc e1
              go_wp2
              go_quiet (fail)
              go_wp2
              go_ret
              exact ⟨ret_bool (by rw [HF.out, all_bad hx.out HP.out]), below_drewN (hb.alloc hz _) _⟩
          · have b2 : decide (0 < q) = false := decide_eq_false e2
            have HP : Hid (okAt before x' (p, q) = true) := by show okAt before x' (p, q) = true; simp only [okAt, b2, Bool.and_false]; rfl
            clear e1
            go_wp2
            go_quiet (fail)
            go_wp2
            go_roundw
            case rel => exact ⟨k + 1, by omega, by go_num, all_take_succ hall.out hx.out HP.out, below_drewN (hb.alloc hz _) _⟩
            case measure => simp [intOf]; omega
        · have b1 : (p == x') = false := ieq_f e1
          have HP : Hid (okAt before x' (p, q) = true) := by show okAt before x' (p, q) = true; simp only [okAt, b1, Bool.false_and]; rfl
          clear e1
          go_wp2
          go_quiet (fail)
          go_wp2
          go_roundw
          case rel => exact ⟨k + 1, by omega, by go_num, all_take_succ hall.out hx.out HP.out, below_drewN (hb.alloc hz _) _⟩
          case measure => simp [intOf]; omega
      · go_wp2
        go_ret
        have h3 := hall.out
        rw [List.take_of_length_le (by omega)] at h3
        exact ⟨ret_bool (by rw [HF.out, h3]), hb⟩
end Go.Proofs.Ytcnkocnajamclaa
