/- Chapter 01: the law NumRoots, by walking its text. -/
import Derived.Test.YticohjhohbkmaaaDoorNumLawA
import Derived.Deep.DeepCutAuto
namespace Go.Proofs.YticohjhohbkmaaaDoor
open Go Go.RowKit Go.ChangeShapes

set_option maxRecDepth 100000 in
set_option maxHeartbeats 2000000 in
theorem roots_law (n n' : Int) (w : World) (hT : TabP w) (ha : Rep.int.R w (Lt w) n' (Value.int .i64 n).cells.toList) (_ : True) :
    Calls Tryd.prog 6 #[.int .i64 n] w (Ret (.bool true) w) := by
  obtain ⟨rfl, a0, a1⟩ := i64_inv ha
  clear ha
  have HT := Lib.hid hT
  clear hT
  by_cases hn : n < 0
  · go_enter Tryd.func6, Tryd.ntmps6
    go_wp2_with fail
    refine (root_neg n _ hn).mono ?_
    rintro e w1 ⟨rfl, rfl⟩
    go_wp2_with fail
    refine (alive_any _ HT.out).mono ?_
    rintro e w3 ⟨rfl, hb⟩
    go_wp2_with fail
    go_ret
    exact ⟨rfl, hb⟩
  · obtain ⟨m, rfl⟩ : ∃ m : Nat, n = m := ⟨n.toNat, by omega⟩
    go_enter Tryd.func6, Tryd.ntmps6
    go_wp2_with fail
    refine (root_any m _ (by omega)).mono ?_
    rintro e w1 ⟨r, rfl, h1, h2, h3, rfl⟩
    have hr2 : (r + 1) * (r + 1) < 18446744073709551616 := by
      have h4 : r < 3037000500 := by
        rcases Nat.lt_or_ge r 3037000500 with h | h
        · exact h
        · have := Nat.mul_le_mul h h; omega
      have := Nat.mul_le_mul (show r + 1 ≤ 3037000500 by omega) (show r + 1 ≤ 3037000500 by omega)
      omega
    have e1 : IntKind.u64.wrap ((r : Int) * (r : Int)) = ((r * r : Nat) : Int) := by rw [← Int.natCast_mul]; exact IntWalk.u64_in _ (by omega)
    have e2 : IntKind.u64.wrap (((r : Int) + 1) * ((r : Int) + 1)) = (((r + 1) * (r + 1) : Nat) : Int) := by
      rw [show (r : Int) + 1 = ((r + 1 : Nat) : Int) from by omega, ← Int.natCast_mul]; exact IntWalk.u64_in _ (by omega)
    generalize hp : r * r = p at *
    generalize hq : (r + 1) * (r + 1) = q at *
    have HP := Lib.hid hp
    have HQ := Lib.hid hq
    clear hp hq
    have k1 : (p : Int) ≤ (m : Int) := by omega
    have k2 : (m : Int) < (q : Int) := by omega
    have k3 : decide ((4294967296 : Int) ≤ (r : Int)) = false := decide_eq_false (by omega)
    have k4 : (r : Int) ≤ 4294967295 := by omega
    clear h1 h2 hn hr2 h3
    go_wp2_with fail
    refine (alive_any _ HT.out).mono ?_
    rintro e w3 ⟨rfl, hb⟩
    go_wp2_with fail
    go_ret
    exact ⟨rfl, hb⟩
end Go.Proofs.YticohjhohbkmaaaDoor
