/- Chapter 34: the reference's Order, by walking its text. -/
import Derived.Test.YtgiphdjblnfjcaaWsW3
namespace Go.Proofs.Ytgiphdjblnfjcaa
open Go Go.RowKit

def boolIs (cs : Array Value) (n : Nat) (f : Nat → Bool) : Prop := cs.size = n ∧ ∀ u : Nat, u < n → cs[u]? = some (.bool (f u))
theorem boolIs_set {cs : Array Value} {n : Nat} {f g : Nat → Bool} {j : Nat} (h : boolIs cs n f) (hj : j < n) (hx : g j = true) (hg : ∀ u : Nat, u ≠ j → g u = f u) : boolIs (cs.setIfInBounds j (.bool true)) n g := by
  refine ⟨by simp [h.1], fun u hu => ?_⟩
  by_cases hij : j = u
  · subst hij
    rw [Array.getElem?_setIfInBounds_self_of_lt (by rw [h.1]; exact hj), hx]
  · rw [Array.getElem?_setIfInBounds_ne hij, h.2 u hu, hg u (fun e => hij e.symm)]
theorem boolIs_congr {cs : Array Value} {n : Nat} {f g : Nat → Bool} (h : boolIs cs n f) (hg : ∀ u : Nat, g u = f u) : boolIs cs n g := ⟨h.1, fun u hu => by rw [h.2 u hu, hg u]⟩
def blkd (before : List (Int × Int)) (t : List Int) (k u : Nat) : Bool := decide (0 < cntN t (u : Int) (before.take k))
theorem blkd_zero (before : List (Int × Int)) (t : List Int) (u : Nat) : blkd before t 0 u = false := by simp [blkd, cntN]
theorem blkd_skip {before : List (Int × Int)} {t : List Int} {k : Nat} {p s : Int} (hx : before[k]? = some (p, s)) (hp : p ∈ t) (u : Nat) : blkd before t (k + 1) u = blkd before t k u := by
  unfold blkd; rw [cntN_snoc _ _ hx]; simp [hp]
theorem blkd_set {before : List (Int × Int)} {t : List Int} {k : Nat} {p s : Int} (hx : before[k]? = some (p, s)) (hp : p ∉ t) (u : Nat) : blkd before t (k + 1) u = (decide (s = (u : Int)) || blkd before t k u) := by
  unfold blkd; rw [cntN_snoc _ _ hx]
  by_cases h : s = (u : Int) <;> simp [hp, h]
theorem free_blkd {before : List (Int × Int)} {t : List Int} {k u : Nat} (hk : before.length ≤ k) : freeB before t (u : Int) = (!decide ((u : Int) ∈ t) && !blkd before t k u) := by
  rw [cntN_free]
  unfold blkd
  rw [List.take_of_length_le hk]
  by_cases h : cntN t (u : Int) before = 0
  · simp [h]
  · have : 0 < cntN t (u : Int) before := by omega
    simp [h, this]
/-- the least that is free, from k on. -/
def nextIs (n : Nat) (before : List (Int × Int)) (t : List Int) (k : Nat) (nx : Int) : Prop :=
  (nx = -1 ∧ ∀ u : Nat, k ≤ u → u < n → freeB before t (u : Int) = false) ∨ (∃ v : Nat, nx = (v : Int) ∧ k ≤ v ∧ v < n ∧ freeB before t (v : Int) = true ∧ ∀ u : Nat, k ≤ u → u < v → freeB before t (u : Int) = false)
theorem nextIs_start (n : Nat) (before : List (Int × Int)) (t : List Int) : nextIs n before t n (-1) := .inl ⟨rfl, fun u h1 h2 => absurd h1 (by omega)⟩
theorem nextIs_yes {n : Nat} {before : List (Int × Int)} {t : List Int} {k : Nat} (hk : k < n) (hf : freeB before t (k : Int) = true) : nextIs n before t k (k : Int) :=
  .inr ⟨k, rfl, Nat.le_refl _, hk, hf, fun u h1 h2 => absurd h1 (by omega)⟩
theorem nextIs_no {n : Nat} {before : List (Int × Int)} {t : List Int} {k : Nat} {nx : Int} (h : nextIs n before t (k + 1) nx) (hf : freeB before t (k : Int) = false) : nextIs n before t k nx := by
  rcases h with ⟨rfl, h⟩ | ⟨v, rfl, h1, h2, h3, h4⟩
  · refine .inl ⟨rfl, fun u h1 h2 => ?_⟩
    by_cases e : u = k
    · subst e; exact hf
    · exact h u (by omega) h2
  · refine .inr ⟨v, rfl, by omega, h2, h3, fun u h5 h6 => ?_⟩
    by_cases e : u = k
    · subst e; exact hf
    · exact h4 u (by omega) h6

set_option maxHeartbeats 1000000 in
theorem refOrder_any (v : Value) (before : List (Int × Int)) (n : Nat) (w : World) (hn : n ≤ 256) (hx : prR.slice.R w (Lt w) before [v]) :
    Calls Try.prog 41 #[.int .i64 n, v] w (ErrPost (orderE n before) w) := by
  obtain ⟨A, c, rfl, hm, _⟩ := slice_inv hx
  by_cases he : endsF n before = 0
  · have hb0 : (endsF n before != 0) = false := by simp [he]
    have HE := Lib.hid he
    clear he
    obtain ⟨i0, hi, hz0, hz1, hz2⟩ := info_parts int_info
    have hmb := fun u => run_make1 (P := Try.prog) Try.underlying72 bool_info rfl n (by omega) (by omega) u
    go_enter Try.func41, Try.ntmps41
    go_wp2_with fail
    refine (refEnds_any _ before n _ (Rep.below hx (by go_grown))).mono ?_
    rintro e w1 ⟨rfl, hq1⟩
    have hw1 := hq1.below w.heap.size
    have hs1 := hw1.size
    go_wp2_with fail
    have c0 := Blk.new w1 4 (Array.replicate n (.bool false))
    go_loopg [7] n (fun g vo wq => ∃ (t : List Int) (ts : Array Value), t.length + g = n ∧ Hid (Beg n t) ∧ Hid (topoOk n before n [] = topoOk n before (n - t.length) t) ∧ OwnI wq (w1.heap.size + 1) vo t ∧ w1.heap.size + 1 ≤ wq.heap.size ∧
        Hid (seenIs ts n t) ∧ Blk wq w1.heap.size 4 ts ∧ Below w.heap.size w wq)
    case atStart =>
      exact ⟨[], _, by simp, Beg.nil n, rfl, World.ownsRow_nil _ _ _ _, by simp, ⟨by simp, fun i hi => by simp [hi]⟩, c0, hw1.alloc hs1 _⟩
    case round =>
      obtain ⟨t, ts, htg, hbeg, htop, hown, hBz, hsn, hblt, hbq⟩ := hrel
      obtain ⟨vA, vc, rfl⟩ := own_slice hown
      cases gk with
      | zero =>
        have hlen : ¬ ((t.length : Int) < (n : Int)) := by omega
        go_wp2
        go_ret2
        exact ErrPost.of (orderE_ok HE.out (topo_end htop.out (by omega))) hbq
      | succ g =>
        have hlen : (t.length : Int) < (n : Int) := by omega
        have hbz := hbq.size
        go_wp2
        clear hmb
        obtain ⟨C, hC⟩ : ∃ C, wr.heap.size = C := ⟨_, rfl⟩
        rw [hC]
        have n0 := Blk.new wr 4 (Array.replicate n (.bool false))
        rw [hC] at n0
        have n1 := hblt.alloc (.cells (Array.replicate n (.bool false)) 4)
        have n2 := World.ownsRow.alloc hown (.cells (Array.replicate n (.bool false)) 4)
        have n3 := hbq.alloc hbz (.cells (Array.replicate n (.bool false)) 4)
        go_loopw [10] (fun i wq => ∃ (k : Nat) (cs : Array Value), k ≤ before.length ∧ i = .int .i64 k ∧ Hid (boolIs cs n (blkd before t k)) ∧ Blk wq C 4 cs ∧ Blk wq w1.heap.size 4 ts ∧ OwnI wq (w1.heap.size + 1) (.slice vA t.length vc) t ∧ C < wq.heap.size ∧ Below w.heap.size w wq) (fun i _ => before.length - (intOf i).toNat)
        case atStart => exact ⟨0, _, Nat.zero_le _, rfl, ⟨by simp, fun u hu => by simp [hu, blkd_zero]⟩, n0, n1, n2, by simp [hC], n3⟩
        case round =>
          obtain ⟨k, cs, hk, rfl, hbl, hbc, hbt, hown', hCz, hbw⟩ := hrel
          have hw1C : w1.heap.size < C := by omega
          by_cases hlt : k < before.length
          · obtain ⟨b, off, p, s, rfl, hxk, -, a0, a1, -⟩ := pairs_at (Rep.at_ hx hbw) hlt
            have HR := Lib.hid (ends_at HE.out hxk.out)
            have r1 := HR.out.2.2.1
            have r2 := HR.out.2.2.2.1
            have r3 := HR.out.1
            have r4 := HR.out.2.1
            obtain ⟨y, rfl⟩ := Int.eq_ofNat_of_zero_le r1
            obtain ⟨x, rfl⟩ := Int.eq_ofNat_of_zero_le r3
            have hy : y < n := by omega
            have hxn : x < n := by omega
            have a2 : wr.cell? ⟨w1.heap.size, x, none⟩ = some (.bool (decide ((x : Int) ∈ t))) := (hbt.cell x).trans (hsn.out.2 x hxn)
            have a3 : wr.cell? ⟨C, y, none⟩ = some (.bool (blkd before t k y)) := (hbc.cell y).trans (hbl.out.2 y hy)
            have a4 := hbc.free y
            rcases Bool.eq_false_or_eq_true (decide ((x : Int) ∈ t)) with hd | hd
            · have HD := Lib.hid hd
              rw [hd] at a2
              clear hd
              go_wp2
              go_roundw
              case rel => exact ⟨k + 1, _, by omega, by go_num, boolIs_congr hbl.out (fun u => blkd_skip hxk.out (of_decide_eq_true HD.out) u), hbc, hbt, hown', hCz, hbw⟩
              case measure => simp [intOf]; omega
            · have HD := Lib.hid hd
              rw [hd] at a2
              clear hd
              go_wp2
              go_roundw
              case rel =>
                refine ⟨k + 1, _, by omega, by go_num, boolIs_set hbl.out hy ?_ (fun u hu => ?_), hbc.set_ y _, hbt.far (p := ⟨C, y, none⟩) (by show w1.heap.size ≠ C; omega) _, ownsRow_setCell_other hown' (a := ⟨C, y, none⟩) (fun e => by have := (World.ownsRow.lt hown _ e).2; simp at this; omega) _,
                  by simp [World.setCell]; omega, hbw.setCell (p := ⟨C, y, none⟩) (by show w.heap.size ≤ C; omega) _⟩
                · rw [blkd_set hxk.out (of_decide_eq_false HD.out)]; simp
                · rw [blkd_set hxk.out (of_decide_eq_false HD.out)]
                  have : ¬ (y : Int) = (u : Int) := by omega
                  simp [this]
              case measure => simp [intOf]; omega
          · have hke : before.length ≤ k := by omega
            go_wp2
            obtain ⟨wo, hwo⟩ : ∃ wo : World, wo = wr := ⟨_, rfl⟩
            subst hwo
            go_loopw [11, 12] (fun nx i wq => ∃ (m : Nat) (x : Int), m ≤ n ∧ i = .int .i64 ((m : Int) - 1) ∧ nx = .int .i64 x ∧ Hid (nextIs n before t m x) ∧ wq = wo) (fun _ i _ => (intOf i + 1).toNat)
            case atStart => exact ⟨n, -1, Nat.le_refl _, rfl, rfl, nextIs_start n before t, rfl⟩
            case round =>
              obtain ⟨m, x, hmn, rfl, rfl, hnx, rfl⟩ := hrel
              cases m with
              | zero =>
                rcases hnx.out with ⟨rfl, hno⟩ | ⟨y, rfl, -, hy, hyf, hno⟩
                · have HN := Lib.hid hno
                  clear hno
                  go_wp2
                  go_ret2
                  exact ErrPost.of (orderE_cycle HE.out (topo_stuck htop.out (by omega) (firstFree_none (fun u hu => HN.out u (Nat.zero_le _) hu)))) hbw
                · have HFI := Lib.hid (firstFree_is hy (fun u hu => hno u (Nat.zero_le _) hu) hyf)
                  have HNM := Lib.hid (freeB_not hyf)
                  clear hno hyf
                  have k0 : wr.cell? ⟨w1.heap.size, y, none⟩ = some (.bool (decide ((y : Int) ∈ t))) := (hbt.cell y).trans (hsn.out.2 y hy)
                  have k2 := hbt.free y
                  have hbz := hbw.size
                  have ho2 := World.ownsRow.alloc (ownsRow_setCell_below hown' (a := ⟨w1.heap.size, y, none⟩) (by show w1.heap.size < w1.heap.size + 1; omega) (.bool true)) (.cells #[.int .i64 (y : Int)] 3)
                  have hnc : ∀ j x, [Value.int .i64 (y : Int)][j]? = some x → ((wr.setCell ⟨w1.heap.size, y, none⟩ (.bool true)).alloc (.cells #[.int .i64 (y : Int)] 3)).cell? ((⟨wr.heap.size, 0, none⟩ : Addr).add j) = some x := by
                    have h := new1_cells (wr.setCell ⟨w1.heap.size, y, none⟩ (.bool true)) (.int .i64 (y : Int)) 3
                    rw [show (wr.setCell ⟨w1.heap.size, y, none⟩ (.bool true)).heap.size = wr.heap.size from by simp [World.setCell]] at h
                    exact h
                  go_wp2_with (at_builtin; refine wpList_append_own _ rfl _ _ 28 rfl (w1.heap.size + 1) 3 i0 (.int .i64 0) 1 8 Try.underlying28 hi hz0 hz1 hz2 rfl (by decide) _ _ _ rfl ho2 ⟨wr.heap.size, 0, none⟩ 1 1 [.int .i64 (y : Int)] rfl rfl hnc (one_oneCell rfl) (by unfold maxLen; omega) (by omega) (by simp [World.setCell]; omega) ?_; intro v1 w2 hown1 hg1 _)
                  have hws : wr.heap.size < w2.heap.size := by have := hg1.size; simp [World.setCell] at this; omega
                  have q2 := Blk.grown ((hbt.set_ y (.bool true)).alloc (.cells #[.int .i64 (y : Int)] 3)) hg1 (fun e => by have := (World.ownsRow.lt hown' _ e.symm).1; omega)
                  have q3 := ((hbw.setCell (p := ⟨w1.heap.size, y, none⟩) (by show w.heap.size ≤ w1.heap.size; omega) (.bool true)).alloc (by simp [World.setCell]; omega) (.cells #[.int .i64 (y : Int)] 3)).grown hg1 (by simp [World.setCell]; omega) (fun j hj => by have := (World.ownsRow.lt hown' j hj).1; omega)
                  go_roundg g
                  case measure => omega
                  case rel => exact ⟨t ++ [(y : Int)], _, by simp; omega, hbeg.out.snoc hy HNM.out, topo_next htop.out (by omega) HFI.out, ownI_snoc hown1, by omega, seenIs_set hsn.out hy, q2, q3⟩
              | succ m =>
                have hmn' : m < n := by omega
                have HF := Lib.hid (free_blkd (t := t) (u := m) hke)
                have k0 : wr.cell? ⟨w1.heap.size, m, none⟩ = some (.bool (decide ((m : Int) ∈ t))) := (hbt.cell m).trans (hsn.out.2 m hmn')
                have k1 : wr.cell? ⟨C, m, none⟩ = some (.bool (blkd before t k m)) := (hbc.cell m).trans (hbl.out.2 m hmn')
                have em : ((m + 1 : Nat) : Int) - 1 = (m : Int) := by omega
                rw [em]
                rcases Bool.eq_false_or_eq_true (decide ((m : Int) ∈ t)) with hd | hd
                · rw [hd] at k0 HF
                  have HFF : Hid (freeB before t (m : Int) = false) := by show freeB before t (m : Int) = false; rw [HF.out]; rfl
                  clear hd
                  go_wp2
                  go_roundw
                  case rel => exact ⟨m, _, by omega, by go_num, rfl, nextIs_no hnx.out HFF.out, by trivial⟩
                  case measure => simp [intOf] <;> omega
                · rw [hd] at k0 HF
                  clear hd
                  rcases Bool.eq_false_or_eq_true (blkd before t k m) with hd | hd
                  · rw [hd] at k1 HF
                    have HFF : Hid (freeB before t (m : Int) = false) := by show freeB before t (m : Int) = false; rw [HF.out]; rfl
                    clear hd
                    go_wp2
                    go_roundw
                    case rel => exact ⟨m, _, by omega, by go_num, rfl, nextIs_no hnx.out HFF.out, by trivial⟩
                    case measure => simp [intOf] <;> omega
                  · rw [hd] at k1 HF
                    have HFF : Hid (freeB before t (m : Int) = true) := by show freeB before t (m : Int) = true; rw [HF.out]; rfl
                    clear hd
                    go_wp2
                    go_roundw
                    case rel => exact ⟨m, _, by omega, by go_num, rfl, nextIs_yes hmn' HFF.out, by trivial⟩
                    case measure => simp [intOf] <;> omega
  · have hb0 : (endsF n before != 0) = true := by simp [he]
    have HE := Lib.hid he
    clear he
    go_enter Try.func41, Try.ntmps41
    go_wp2_with fail
    refine (refEnds_any _ before n _ (Rep.below hx (by go_grown))).mono ?_
    rintro e w1 ⟨rfl, hq1⟩
    go_wp2
    go_ret2
    exact ErrPost.of (orderE_ends HE.out) (hq1.below _)
end Go.Proofs.Ytgiphdjblnfjcaa
