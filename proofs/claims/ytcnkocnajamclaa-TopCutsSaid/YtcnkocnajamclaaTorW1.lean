/- Chapter 26: far, ring, move, and the search for a far point, by walking their text. -/
import Derived.Test.YtcnkocnajamclaaChecked
import Derived.Test.YtcnkocnajamclaaTorBase
import Derived.Deep.RegionHeld3
namespace Go.Proofs.Ytcnkocnajamclaa
open Go Go.RowKit

theorem far_le {x y : Int} (h : x ≤ y) : farB (x, y) = (decide (1099511627776 < y) || decide (x < -1099511627776)) := by
  simp only [farB]; rw [Int.max_eq_right h, Int.min_eq_left h]
theorem far_gt {x y : Int} (h : ¬ x ≤ y) : farB (x, y) = (decide (1099511627776 < x) || decide (y < -1099511627776)) := by
  simp only [farB]; rw [Int.max_eq_left (by omega), Int.min_eq_right (by omega)]
set_option maxHeartbeats 400000 in
theorem far_any (x y : Int) (w : World) :
    Calls Try.prog 70 #[.agg #[.int .i64 x, .int .i64 y]] w (Ret (.bool (farB (x, y))) w) := by
  rcases Int.lt_trichotomy x y with h | h | h
  · have HF := Lib.hid (far_le (Int.le_of_lt h))
    have h2 : ¬ y < x := by omega
    go_enter Try.func70, Try.ntmps70
    go_wp2
    all_goals
      go_ret
      refine ⟨ret_bool ?_, (Below.refl _ _).alloc (Nat.le_refl _) _⟩
      rw [HF.out]
      try simp [*]
  · subst h
    have HF := Lib.hid (far_le (Int.le_refl x))
    go_enter Try.func70, Try.ntmps70
    go_wp2
    all_goals
      go_ret
      refine ⟨ret_bool ?_, (Below.refl _ _).alloc (Nat.le_refl _) _⟩
      rw [HF.out]
      try simp [*]
  · have HF := Lib.hid (far_gt (show ¬ x ≤ y by omega))
    have h2 : ¬ x < y := by omega
    go_enter Try.func70, Try.ntmps70
    go_wp2
    all_goals
      go_ret
      refine ⟨ret_bool ?_, (Below.refl _ _).alloc (Nat.le_refl _) _⟩
      rw [HF.out]
      try simp [*]
/-- a contour of a shape. -/
def RingPost (p : List Pt) (D : Nat → Prop) (w : World) (e : Ending) (w' : World) : Prop := ∃ O no co, e = .returned (.slice O no co) ∧ no = p.length ∧ ptsR.R w D p [.slice O no co] ∧ Below w.heap.size w w'
set_option maxHeartbeats 400000 in
theorem ring_any (O H : Option Addr) (no co nh ch n : Nat) (s : Shp) (D : Nat → Prop) (w : World) (hO : ptsR.R w D s.1 [.slice O no co]) (hH : holesR.R w D s.2 [.slice H nh ch]) (hD : ∀ b, D b → b < w.heap.size) (hn : n ≤ s.2.length) :
    Calls Try.prog 68 #[.agg #[.slice O no co, .slice H nh ch], .int .i64 n] w (RingPost (ringOf s n) D w) := by
  by_cases h0 : n = 0
  · have hb : ((n : Int) == 0) = true := by simp [h0]
    have HR : Hid (ringOf s n = s.1) := by show ringOf s n = s.1; unfold ringOf; rw [if_pos h0]
    clear h0
    go_enter Try.func68, Try.ntmps68
    go_wp2
    go_ret
    rw [HR.out]
    obtain ⟨_, _, e, _⟩ := id hO
    injection e with e _
    injection e with _ e _
    exact ⟨O, no, co, rfl, e, hO, (Below.refl _ _).alloc (Nat.le_refl _) _⟩
  · have hb : ((n : Int) == 0) = false := by simp [h0]
    obtain ⟨k, rfl⟩ : ∃ k, n = k + 1 := ⟨n - 1, by omega⟩
    have hk : k < s.2.length := by omega
    obtain ⟨eH, hnm⟩ := slice_len hH
    subst eH
    have hkm : (k : Int) ≤ 9223372036854775806 := by omega
    obtain ⟨b, off, p, O', no', co', rfl, hp, hD', hc, hno, hr, hm⟩ := hole_at hH hk
    have hbl := hD b hD'
    have HR : Hid (ringOf s (k + 1) = p) := by
      show ringOf s (k + 1) = p
      unfold ringOf
      rw [if_neg h0, Nat.add_sub_cancel, getD_of' hp.out]
    have hc' : (w.alloc (.cells #[.slice O no co, .slice (some ⟨b, off, none⟩) s.2.length ch] 42)).cell? ⟨b, off + k, none⟩ = some (.slice O' no' co') := by
      rw [((Below.refl w.heap.size w).alloc (Nat.le_refl _) _).cell (p := ⟨b, off + k, none⟩) hbl]; exact hc
    have hne : ¬ b = w.heap.size := by omega
    have hk1 : ((k + 1 : Nat) : Int) - 1 = (k : Int) := by omega
    go_enter Try.func68, Try.ntmps68
    go_wp2
    go_ret
    rw [HR.out]
    exact ⟨O', no', co', rfl, hno.out, hr, (Below.refl _ _).alloc (Nat.le_refl _) _⟩
set_option maxHeartbeats 400000 in
theorem move_any (a b : Pt) (w : World) (h1 : -1099511627776 ≤ a.1 ∧ a.1 ≤ 1099511627776) (h2 : -1099511627776 ≤ a.2 ∧ a.2 ≤ 1099511627776) (h3 : -1099511627776 ≤ b.1 ∧ b.1 ≤ 1099511627776) (h4 : -1099511627776 ≤ b.2 ∧ b.2 ≤ 1099511627776) :
    Calls Try.prog 35 #[.agg (prArr a), .agg (prArr b)] w (Ret (.int .i64 (moveF a b)) w) := by
  obtain ⟨x, y⟩ := a
  obtain ⟨x', y'⟩ := b
  simp only [prArr, moveF] at h1 h2 h3 h4 ⊢
  obtain ⟨a1, a2⟩ := h1
  obtain ⟨b1, b2⟩ := h2
  obtain ⟨c1, c2⟩ := h3
  obtain ⟨d1, d2⟩ := h4
  go_enter Try.func35, Try.ntmps35
  go_wp2
  all_goals
    go_ret
    exact ⟨ret_int (by omega), ((Below.refl _ _).alloc (Nat.le_refl _) _).alloc (by simp) _⟩
end Go.Proofs.Ytcnkocnajamclaa
