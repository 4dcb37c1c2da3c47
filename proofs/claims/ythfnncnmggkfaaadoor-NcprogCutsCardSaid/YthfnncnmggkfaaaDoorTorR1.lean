/- Chapter 26: Move of the reference, by walking its text. -/
import Derived.Test.YthfnncnmggkfaaaDoorTorRgM
namespace Go.Proofs.YthfnncnmggkfaaaDoor
open Go Go.RowKit

set_option maxHeartbeats 400000 in
theorem refMove_any (a b : Pt) (w : World) (h1 : -1099511627776 ≤ a.1 ∧ a.1 ≤ 1099511627776) (h2 : -1099511627776 ≤ a.2 ∧ a.2 ≤ 1099511627776) (h3 : -1099511627776 ≤ b.1 ∧ b.1 ≤ 1099511627776) (h4 : -1099511627776 ≤ b.2 ∧ b.2 ≤ 1099511627776) :
    Calls Tryd.prog 44 #[.agg (prArr a), .agg (prArr b)] w (Ret (.int .i64 (moveF a b)) w) := by
  obtain ⟨x, y⟩ := a
  obtain ⟨x', y'⟩ := b
  simp only [prArr, moveF] at h1 h2 h3 h4 ⊢
  obtain ⟨a1, a2⟩ := h1
  obtain ⟨b1, b2⟩ := h2
  obtain ⟨c1, c2⟩ := h3
  obtain ⟨d1, d2⟩ := h4
  go_enter Tryd.func44, Tryd.ntmps44
  go_wp2
  all_goals
    go_ret
    exact ⟨ret_int (by omega), ((Below.refl _ _).alloc (Nat.le_refl _) _).alloc (by simp) _⟩
end Go.Proofs.YthfnncnmggkfaaaDoor
