/- Chapter 26: far points in a contour, by walking the text of the program, of the library and of the reference. -/
import Derived.Test.YtcnkocnajamclaaTorW1
namespace Go.Proofs.Ytcnkocnajamclaa
open Go Go.RowKit

def IdxPost (b : Bool) (w : World) (e : Ending) (w' : World) : Prop := ∃ n : Int, e = .returned (.int .i64 n) ∧ Hid (decide (0 ≤ n) = b) ∧ Below w.heap.size w w'
theorem any_take_succ {α : Type} {l : List α} {p : α → Bool} {k : Nat} {x : α} (h : (l.take k).any p = false) (hx : l[k]? = some x) (hp : p x = false) : (l.take (k + 1)).any p = false := by
  rw [List.take_add_one, hx]; simp [h, hp]
theorem any_hit {α : Type} {l : List α} {p : α → Bool} {k : Nat} {x : α} (hx : l[k]? = some x) (hp : p x = true) : l.any p = true := by
  rw [List.any_eq_true]; exact ⟨x, List.mem_of_getElem? hx, hp⟩
set_option maxHeartbeats 400000 in
theorem indexFar_any (A : Option Addr) (n c : Nat) (p : List Pt) (w : World) (hp : ptsR.R w (Lt w) p [.slice A n c]) :
    Calls Try.prog 101 #[.slice A n c, .func (.func 70) #[] #[]] w (IdxPost (p.any farB) w) := by
  obtain ⟨rfl, hm⟩ := slice_len hp
  go_enter Try.func101, Try.ntmps101
  go_wp2
  go_loopw [8] (fun i wr => ∃ k : Nat, k ≤ p.length ∧ i = .int .i64 k ∧ Hid ((p.take k).any farB = false) ∧ Below w.heap.size w wr) (fun i _ => p.length - (intOf i).toNat)
  case atStart => exact ⟨0, Nat.zero_le _, rfl, rfl, Below.refl _ _⟩
  case round =>
    obtain ⟨k, hk, rfl, hno, hb⟩ := hrel
    by_cases hlt : k < p.length
    · obtain ⟨b, off, x, y, rfl, hx, -, c0, c1, -⟩ := pairs_at (Rep.at_ hp hb) hlt
      rcases Bool.eq_false_or_eq_true (farB (x, y)) with hf | hf
      · have HA := Lib.hid (any_hit hx.out hf)
        have HF := Lib.hid hf
        clear hf
        go_wp2_with fail
        refine (far_any _ _ _).mono ?_
        rintro e w1 ⟨he, hb1⟩
        rw [HF.out] at he
        subst he
        go_wp2
        go_ret
        exact ⟨k, rfl, by show decide _ = _; rw [HA.out]; simp, bstep hb hb.size hb1⟩
      · have HF := Lib.hid hf
        clear hf
        go_wp2_with fail
        refine (far_any _ _ _).mono ?_
        rintro e w1 ⟨he, hb1⟩
        rw [HF.out] at he
        subst he
        go_wp2
        go_roundw
        case rel => exact ⟨k + 1, by omega, by go_num, any_take_succ hno.out hx.out HF.out, bstep hb hb.size hb1⟩
        case measure => simp [intOf]; omega
    · go_wp2
      go_ret
      have h3 := hno.out
      rw [List.take_of_length_le (by omega)] at h3
      exact ⟨-1, rfl, by show decide _ = _; rw [h3]; rfl, hb⟩
set_option maxHeartbeats 400000 in
theorem containsFar_any (A : Option Addr) (n c : Nat) (p : List Pt) (w : World) (hp : ptsR.R w (Lt w) p [.slice A n c]) :
    Calls Try.prog 69 #[.slice A n c, .func (.func 70) #[] #[]] w (Ret (.bool (p.any farB)) w) := by
  go_enter Try.func69, Try.ntmps69
  go_wp2_with fail
  refine (indexFar_any A n c p _ hp).mono ?_
  rintro e w1 ⟨i, rfl, hi, hb⟩
  go_wp2
  go_ret
  exact ⟨ret_bool hi.out, hb⟩
theorem far_cases {x y : Int} (h : farB (x, y) = true) : x < -1099511627776 ∨ (-1099511627776 ≤ x ∧ 1099511627776 < x) ∨ ((-1099511627776 ≤ x ∧ x ≤ 1099511627776) ∧ y < -1099511627776) ∨ ((-1099511627776 ≤ x ∧ x ≤ 1099511627776) ∧ -1099511627776 ≤ y ∧ 1099511627776 < y) := by
  simp only [farB, Bool.or_eq_true, decide_eq_true_eq] at h; omega
theorem near_of {x y : Int} (h : farB (x, y) = false) : (-1099511627776 ≤ x ∧ x ≤ 1099511627776) ∧ -1099511627776 ≤ y ∧ y ≤ 1099511627776 := by
  simp only [farB, Bool.or_eq_false_iff, decide_eq_false_iff_not] at h; omega
theorem okRing_bad {p : List Pt} (h : p.any farB = true) : okRing p = false := by unfold okRing; rw [h]; simp
theorem okRing_is {p : List Pt} (h : p.any farB = false) : okRing p = decide (0 < p.length) := by unfold okRing; rw [h]; simp
end Go.Proofs.Ytcnkocnajamclaa
