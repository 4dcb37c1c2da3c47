/- Chapter 27: a contour's corners, and where a point is among them, by walking the program's text. -/
import Derived.Test.YtcnkocnajamclaaNcMem
import Derived.Test.YtcnkocnajamclaaTorW8
namespace Go.Proofs.Ytcnkocnajamclaa
open Go Go.RowKit

set_option maxHeartbeats 800000 in
theorem indexP_any (v : Value) (l : List Pt) (x y : Int) (w : World) (hl : prR.slice.R w (Lt w) l [v]) :
    Calls Try.prog 39 #[v, .agg #[.int .i64 x, .int .i64 y]] w (Ret (.int .i64 (idxC l (x, y))) w) := by
  obtain ⟨A, c, rfl, hm, -⟩ := slice_inv hl
  have hw0 : Below w.heap.size w (w.alloc (.cells #[.int .i64 x, .int .i64 y] 74)) := (Below.refl _ _).alloc (Nat.le_refl _) _
  have b0 := Blk.new w 74 #[.int .i64 x, .int .i64 y]
  have q1 := nc_pt_eql
  have q2 := nc_pt_eqg
  go_enter Try.func39, Try.ntmps39
  go_wp2
  go_loopw [8] (fun i wr => ∃ k : Nat, k ≤ l.length ∧ i = .int .i64 k ∧ Hid ((x, y) ∉ l.take k) ∧ Blk wr w.heap.size 74 #[.int .i64 x, .int .i64 y] ∧ Below w.heap.size w wr) (fun i _ => l.length - (intOf i).toNat)
  case atStart => exact ⟨0, Nat.zero_le _, rfl, by show (x, y) ∉ l.take 0; simp, b0, hw0⟩
  case round =>
    obtain ⟨k, hk, rfl, hno, hblk, hb⟩ := hrel
    have k0 := hblk.c20
    have k1 := hblk.c21
    by_cases hlt : k < l.length
    · obtain ⟨b, off, p, q, rfl, hx, -, c0, c1, -⟩ := pairs_at (Rep.at_ hl hb) hlt
      by_cases he : (p, q) = (x, y)
      · injection he with e1 e2
        subst e1 e2
        have HE := Lib.hid (idxC_hit hx.out hno.out)
        have e3 : (p == p && q == q) = true := by simp
        go_wp2
        go_quiet (fail)
        go_wp2
        go_ret
        exact ⟨ret_int HE.out.symm, below_drewN hb _⟩
      · have HE := Lib.hid (notin_one hno.out hx.out he)
        have e3 := pr_ne (fun e => he e.symm)
        clear he
        go_wp2
        go_quiet (fail)
        go_wp2
        go_roundw
        case rel => exact ⟨k + 1, by omega, by go_num, HE.out, hblk, below_drewN hb _⟩
        case measure => simp [intOf]; omega
    · go_wp2
      go_ret
      have h := hno.out
      rw [List.take_of_length_le (by omega)] at h
      exact ⟨ret_int (idxC_miss h).symm, hb⟩
set_option maxRecDepth 100000 in
set_option maxHeartbeats 800000 in
theorem contour_any (A : Option Addr) (n c : Nat) (shapes : List Shp) (x y : Int) (w : World) (D : Nat → Prop) (hD : ∀ b, D b → b < w.heap.size) (hs : shpsR.R w D shapes [.slice A n c]) (hc : (x, y) ∈ contoursF shapes) (hS : SmallS shapes) :
    Calls Try.prog 38 #[.slice A n c, .agg #[.int .i64 x, .int .i64 y]] w (RingPost (ringC shapes (x, y)) D w) := by
  obtain ⟨rfl, hm⟩ := slice_len hs
  obtain ⟨i, k, hi, hk, hok, hxy⟩ := mem_contours.1 hc
  injection hxy with h1 h2
  subst h1 h2
  have hsl := hS.len
  obtain ⟨b, off, s, O, no, co, H, nh, ch, rfl, hx, hbD, c0, c1, hno, hnh, hO, hH, hnom, hnhm⟩ := shape_at hs hi
  have hno' := hno.out
  have hnh' := hnh.out
  subst hno' hnh'
  rw [getD_at hx.out] at hk hok
  have HB : Hid (ringC shapes ((i : Int), (k : Int)) = ringOf s k) := ringC_nat hx.out
  have hbl : b < w.heap.size := hD b hbD
  have hb0 : ¬ b = w.heap.size := by omega
  have hil : (i : Int) < (shapes.length : Int) := by omega
  have hw0 : Below w.heap.size w (w.alloc (.cells #[.int .i64 (i : Int), .int .i64 (k : Int)] 78)) := (Below.refl _ _).alloc (Nat.le_refl _) _
  have e0 := (hw0.cell (p := ⟨b, off + i * 2, none⟩) hbl).trans c0
  have e1 := (hw0.cell (p := ⟨b, off + i * 2 + 1, none⟩) hbl).trans c1
  rw [HB.out]
  clear hok hc hi hx HB
  by_cases h0 : k = 0
  · subst h0
    go_enter Try.func38, Try.ntmps38
    go_wp2
    go_ret
    exact ⟨O, _, co, rfl, rfl, hO, hw0⟩
  · obtain ⟨j, rfl⟩ : ∃ j, k = j + 1 := ⟨k - 1, by omega⟩
    have hj : j < s.2.length := by omega
    have hnz : (((j + 1 : Nat) : Int) == 0) = false := ieq_f (by omega)
    obtain ⟨b2, off2, p, O', no', co', rfl, hp, hD', hc2, hno2, hr, hm2⟩ := hole_at hH hj
    have hb2l : b2 < w.heap.size := hD b2 hD'
    have HR : Hid (ringOf s (j + 1) = p) := by
      show ringOf s (j + 1) = p
      unfold ringOf
      rw [if_neg (by omega), Nat.add_sub_cancel, getD_of' hp.out]
    have e2 := (hw0.cell (p := ⟨b2, off2 + j, none⟩) hb2l).trans hc2
    have hjI : (j : Int) < (s.2.length : Int) := by omega
    have hk1 : ((j + 1 : Nat) : Int) - 1 = (j : Int) := by omega
    have hb20 : ¬ b2 = w.heap.size := by omega
    rw [HR.out]
    clear hp
    go_enter Try.func38, Try.ntmps38
    go_wp2
    go_quiet (fail)
    go_wp2
    go_ret
    exact ⟨O', no', co', rfl, hno2.out, hr, below_drewN hw0 _⟩
end Go.Proofs.Ytcnkocnajamclaa
