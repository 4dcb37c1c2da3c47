/- Chapter 27: what a step does, whether a point is too far, the length of a way, by walking the program's text. -/
import Derived.Test.YtcnkocnajamclaaNcPlain
import Derived.IntWalk
namespace Go.Proofs.Ytcnkocnajamclaa
open Go Go.RowKit

section
variable (x y : Int) (w : World)
theorem op_move : Calls Try.prog 41 #[.agg #[.int .i64 1, .int .i64 x, .int .i64 y]] w (Ret (.iface 131 (.agg #[.int .i64 x, .int .i64 y])) w) := by
  go_enter Try.func41, Try.ntmps41
  go_wp2
  go_ret
  exact ⟨rfl, (Below.refl _ _).alloc (Nat.le_refl _) _⟩
theorem op_pierce : Calls Try.prog 41 #[.agg #[.int .i64 2, .int .i64 x, .int .i64 y]] w (Ret (.iface 133 (.agg #[])) w) := by
  go_enter Try.func41, Try.ntmps41
  go_wp2
  go_ret
  exact ⟨rfl, (Below.refl _ _).alloc (Nat.le_refl _) _⟩
theorem op_cut : Calls Try.prog 41 #[.agg #[.int .i64 3, .int .i64 x, .int .i64 y]] w (Ret (.iface 134 (.agg #[.int .i64 x, .int .i64 y])) w) := by
  go_enter Try.func41, Try.ntmps41
  go_wp2
  go_ret
  exact ⟨rfl, (Below.refl _ _).alloc (Nat.le_refl _) _⟩
theorem op_off : Calls Try.prog 41 #[.agg #[.int .i64 4, .int .i64 x, .int .i64 y]] w (Ret (.iface 135 (.agg #[])) w) := by
  go_enter Try.func41, Try.ntmps41
  go_wp2
  go_ret
  exact ⟨rfl, (Below.refl _ _).alloc (Nat.le_refl _) _⟩
theorem op_none (o : Int) (h1 : (o == 1) = false) (h2 : (o == 2) = false) (h3 : (o == 3) = false) (h4 : (o == 4) = false) : Calls Try.prog 41 #[.agg #[.int .i64 o, .int .i64 x, .int .i64 y]] w (Ret .nilIface w) := by
  go_enter Try.func41, Try.ntmps41
  go_wp2
  go_ret
  exact ⟨rfl, (Below.refl _ _).alloc (Nat.le_refl _) _⟩
theorem farB_t {x y : Int} (h : x < -1099511627776 ∨ 1099511627776 < x ∨ y < -1099511627776 ∨ 1099511627776 < y) : farB (x, y) = true := by
  unfold farB
  rw [Bool.or_eq_true, decide_eq_true_eq, decide_eq_true_eq]
  show 1099511627776 < max x y ∨ min x y < -1099511627776
  omega
theorem farB_f {x y : Int} (h : ¬ (x < -1099511627776 ∨ 1099511627776 < x ∨ y < -1099511627776 ∨ 1099511627776 < y)) : farB (x, y) = false := by
  unfold farB
  rw [Bool.or_eq_false_iff]
  exact ⟨decide_eq_false (by show ¬ 1099511627776 < max x y; omega), decide_eq_false (by show ¬ min x y < -1099511627776; omega)⟩
theorem ncfar_any : Calls Try.prog 74 #[.agg #[.int .i64 x, .int .i64 y]] w (Ret (.bool (farB (x, y))) w) := by
  have hb := (Below.refl w.heap.size w).alloc (Nat.le_refl _) (.cells #[.int .i64 x, .int .i64 y] 74)
  rcases (show (x < -1099511627776) ∨ (¬ x < -1099511627776 ∧ 1099511627776 < x) ∨ (¬ x < -1099511627776 ∧ ¬ 1099511627776 < x ∧ y < -1099511627776) ∨ (¬ x < -1099511627776 ∧ ¬ 1099511627776 < x ∧ ¬ y < -1099511627776 ∧ 1099511627776 < y) ∨ (¬ x < -1099511627776 ∧ ¬ 1099511627776 < x ∧ ¬ y < -1099511627776 ∧ ¬ 1099511627776 < y) from by omega) with h | ⟨h, h1⟩ | ⟨h, h1, h2⟩ | ⟨h, h1, h2, h3⟩ | ⟨h, h1, h2, h3⟩
  · have HF := Lib.hid (farB_t (x := x) (y := y) (by omega))
    rw [HF.out]
    go_enter Try.func74, Try.ntmps74
    go_wp2
    go_ret
    exact ⟨rfl, hb⟩
  · have HF := Lib.hid (farB_t (x := x) (y := y) (by omega))
    rw [HF.out]
    go_enter Try.func74, Try.ntmps74
    go_wp2
    go_ret
    exact ⟨rfl, hb⟩
  · have HF := Lib.hid (farB_t (x := x) (y := y) (by omega))
    rw [HF.out]
    go_enter Try.func74, Try.ntmps74
    go_wp2
    go_ret
    exact ⟨rfl, hb⟩
  · have HF := Lib.hid (farB_t (x := x) (y := y) (by omega))
    rw [HF.out]
    go_enter Try.func74, Try.ntmps74
    go_wp2
    go_ret
    exact ⟨rfl, hb⟩
  · have HF := Lib.hid (farB_f (x := x) (y := y) (by omega))
    rw [HF.out]
    go_enter Try.func74, Try.ntmps74
    go_wp2
    go_ret
    exact ⟨rfl, hb⟩
end
set_option maxHeartbeats 800000 in
theorem way_any (x y x' y' : Int) (w : World) (h : Near (x, y)) (h' : Near (x', y')) :
    Calls Try.prog 75 #[.agg #[.int .i64 x, .int .i64 y], .agg #[.int .i64 x', .int .i64 y']] w (Ret (.int .i64 (moveF (x, y) (x', y'))) w) := by
  obtain ⟨⟨a1, a2⟩, a3, a4⟩ := h
  obtain ⟨⟨b1, b2⟩, b3, b4⟩ := h'
  simp only [] at a1 a2 a3 a4 b1 b2 b3 b4
  have e1 : IntKind.i64.wrap (x' - x) = x' - x := IntWalk.i64_in _ (by omega)
  have e2 : IntKind.i64.wrap (y' - y) = y' - y := IntWalk.i64_in _ (by omega)
  have e3 : IntKind.i64.wrap (-(x' - x)) = -(x' - x) := IntWalk.i64_in _ (by omega)
  have e4 : IntKind.i64.wrap (-(y' - y)) = -(y' - y) := IntWalk.i64_in _ (by omega)
  have hb := ((Below.refl w.heap.size w).alloc (Nat.le_refl _) (.cells #[.int .i64 x, .int .i64 y] 74)).alloc (by simp) (.cells #[.int .i64 x', .int .i64 y'] 74)
  go_enter Try.func75, Try.ntmps75
  go_wp2
  go_quiet (fail)
  go_wp2
  all_goals
    go_ret
    exact ⟨ret_int (by unfold moveF; simp only []; omega), below_drewN hb _⟩
end Go.Proofs.Ytcnkocnajamclaa
