/- Chapter 26: place, Same, square, Few: the chapter's own helpers, by walking their text. -/
import Derived.Test.YtpefmbjaolcapaaTorW7
namespace Go.Proofs.Ytpefmbjaolcapaa
open Go Go.RowKit

theorem ct_neq (x y x' y' : Int) (w : World) : (binOp .neq 24 (.agg #[.int .i64 x, .int .i64 y]) (.agg #[.int .i64 x', .int .i64 y'])).run Try.prog w = .ok (.bool (!(x == x' && y == y'))) w := by
  have u3 := Try.underlying3
  have a3 := Try.isAgg3
  have z3 := Try.sizeOf3
  rw [run_neq_struct, show (10000 : Nat) = 9999 + 1 from rfl, run_equalIn_agg w 9999 24 _ _ ct_under ct_held]
  simp only [Program.fieldsOf, Try.underlying24]
  go_simp
  by_cases h1 : x = x' <;> by_cases h2 : y = y' <;> simp [h1, h2]
set_option maxHeartbeats 800000 in
theorem place_any (v : Value) (l : List Pt) (x y : Int) (w : World) (hl : prR.slice.R w (Lt w) l [v]) :
    Calls Try.prog 26 #[v, .agg #[.int .i64 x, .int .i64 y]] w (Ret (.int .i64 (idxC l (x, y))) w) := by
  obtain ⟨A, c, rfl, hm, -⟩ := slice_inv hl
  have hw0 : Below w.heap.size w (w.alloc (.cells #[.int .i64 x, .int .i64 y] 24)) := (Below.refl _ _).alloc (Nat.le_refl _) _
  have b0 := Blk.new w 24 #[.int .i64 x, .int .i64 y]
  have q1 := ct_eql
  have q2 := ct_eqg
  go_enter Try.func26, Try.ntmps26
  go_wp2
  go_loopw [5] (fun i wr => ∃ k : Nat, k ≤ l.length ∧ i = .int .i64 k ∧ Hid ((x, y) ∉ l.take k) ∧ Blk wr w.heap.size 24 #[.int .i64 x, .int .i64 y] ∧ Below w.heap.size w wr) (fun i _ => l.length - (intOf i).toNat)
  case atStart => exact ⟨0, Nat.zero_le _, rfl, by show (x, y) ∉ l.take 0; simp, b0, hw0⟩
  case round =>
    obtain ⟨k, hk, rfl, hno, hblk, hb⟩ := hrel
    have k0 := hblk.c20
    have k1 := hblk.c21
    by_cases hlt : k < l.length
    · obtain ⟨b, off, p, q, rfl, hx, -, c0, c1, -⟩ := pairs_at (Rep.at_ hl hb) hlt
      by_cases he : (p, q) = (x, y)
      · injection he with e1 e2
        subst e1 e2
        have HE := Lib.hid (idxC_hit hx.out hno.out)
        have e3 : (p == p && q == q) = true := by simp
        go_wp2
        go_quiet (fail)
        go_wp2
        go_ret
        exact ⟨ret_int HE.out.symm, below_drewN hb _⟩
      · have HE := Lib.hid (notin_one hno.out hx.out he)
        have e3 := pr_ne he
        clear he
        go_wp2
        go_quiet (fail)
        go_wp2
        go_roundw
        case rel => exact ⟨k + 1, by omega, by go_num, HE.out, hblk, below_drewN hb _⟩
        case measure => simp [intOf]; omega
    · go_wp2
      go_ret
      have h := hno.out
      rw [List.take_of_length_le (by omega)] at h
      exact ⟨ret_int (idxC_miss h).symm, hb⟩
set_option maxHeartbeats 800000 in
theorem same_any (vx vy : Value) (xs ys : List Pt) (w : World) (hx : prR.slice.R w (Lt w) xs [vx]) (hy : prR.slice.R w (Lt w) ys [vy]) :
    Calls Try.prog 14 #[vx, vy] w (Ret (.bool (decide (xs = ys))) w) := by
  obtain ⟨A, c, rfl, hm, _⟩ := slice_inv hx
  obtain ⟨B, d, rfl, hm', _⟩ := slice_inv hy
  have q1 := ct_neq
  have q2 := ct_eqg
  by_cases hl : xs.length = ys.length
  · have hne : ((xs.length : Int) != (ys.length : Int)) = false := by simp [hl]
    have HL := Lib.hid hl
    clear hl
    go_enter Try.func14, Try.ntmps14
    go_wp2
    clear hne
    go_loopw [5] (fun i wr => ∃ k : Nat, k ≤ xs.length ∧ i = .int .i64 k ∧ Hid (xs.take k = ys.take k) ∧ Below w.heap.size w wr) (fun i _ => xs.length - (intOf i).toNat)
    case atStart => exact ⟨0, Nat.zero_le _, rfl, rfl, Below.refl _ _⟩
    case round =>
      obtain ⟨k, hk, rfl, HT, hb⟩ := hrel
      by_cases hlt : k < xs.length
      · obtain ⟨b, off, p, q, rfl, hxk, -, c0, c1, -⟩ := pairs_at (Rep.at_ hx hb) hlt
        obtain ⟨b', off', p', q', rfl, hyk, -, d0, d1, -⟩ := pairs_at (Rep.at_ hy hb) (k := k) (by have := HL.out; omega)
        have hlt' : k < ys.length := by have := HL.out; omega
        by_cases he : (p, q) = (p', q')
        · injection he with e1 e2
          subst e1 e2
          have e3 : (p == p && q == q) = true := by simp
          go_wp2
          go_quiet (fail)
          go_wp2
          go_roundw
          case rel => exact ⟨k + 1, by omega, by go_num, take_ext HT.out hxk.out hyk.out, below_drewN hb _⟩
          case measure => simp [intOf]; omega
        · have HE := Lib.hid he
          have e3 := pr_ne he
          clear he
          go_wp2
          go_quiet (fail)
          go_wp2
          go_ret
          refine ⟨?_, below_drewN hb _⟩
          have hne : ¬ xs = ys := by
            rintro rfl
            exact HE.out (by have := hxk.out.symm.trans hyk.out; injection this)
          simp [hne]
      · go_wp2
        go_ret
        refine ⟨?_, hb⟩
        have h1 := HT.out
        rw [List.take_of_length_le (by omega), List.take_of_length_le (by have := HL.out; omega)] at h1
        simp [h1]
  · have hne : ((xs.length : Int) != (ys.length : Int)) = true := by simp; omega
    have hxy : ¬ xs = ys := fun e => hl (by rw [e])
    go_enter Try.func14, Try.ntmps14
    go_wp2
    go_ret
    exact ⟨by simp [hxy], Below.refl _ _⟩
end Go.Proofs.Ytpefmbjaolcapaa
