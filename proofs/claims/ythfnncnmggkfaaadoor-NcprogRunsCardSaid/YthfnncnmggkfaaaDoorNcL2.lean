/- Chapter 27: the law NcprogRuns, by walking its text. -/
import Derived.Test.YthfnncnmggkfaaaDoorNcAvM
import Derived.Test.YthfnncnmggkfaaaDoorNcWB
import Derived.Test.YthfnncnmggkfaaaDoorNcOpM
namespace Go.Proofs.YthfnncnmggkfaaaDoor
open Go Go.RowKit

theorem rt_under : Tryd.prog.underlying 42 = some (.struct (Tryd.prog.fieldsOf 42)) := by kernel_rfl
theorem rt_held : Tryd.prog.stoodInHeld 42 = false := by kernel_rfl
theorem rt_guard : Tryd.prog.eqGuardType Tryd.prog.depth 42 = false := by kernel_rfl
theorem rt_eql (a b c a' b' c' : Int) (w : World) : (binOp .eql 42 (.agg #[.int .i64 a, .int .i64 b, .int .i64 c]) (.agg #[.int .i64 a', .int .i64 b', .int .i64 c'])).run Tryd.prog w = .ok (.bool (a == a' && (b == b' && c == c'))) w := by
  have u3 := Tryd.underlying3
  have a3 := Tryd.isAgg3
  have z3 := Tryd.sizeOf3
  rw [run_eql_struct, show (10000 : Nat) = 9999 + 1 from rfl, run_equalIn_agg w 9999 42 _ _ rt_under rt_held]
  simp only [Program.fieldsOf, Tryd.underlying42]
  go_simp
  by_cases h1 : a = a' <;> by_cases h2 : b = b' <;> by_cases h3 : c = c' <;> simp [h1, h2, h3]
theorem rt_eqg (op : BinOp) (p q : Operand) (xs ys : Array Value) (w : World) : (eqGuard op 42 p q (.agg xs) (.agg ys)).run Tryd.prog w = .ok () w := run_eqGuard_agg w op _ p q xs ys rt_guard
set_option maxRecDepth 100000 in
set_option maxHeartbeats 2000000 in
theorem nc_runs_law (vl : Value) (l : List Stp) (w : World) (hT : TabP w) (hl : stR.slice.R w (Lt w) l [vl]) :
    Calls Tryd.prog 6 #[vl] w (Ret (.bool true) w) := by
  obtain ⟨A, c, rfl, hm, -⟩ := slice_inv hl
  have HT := Lib.hid hT
  clear hT
  by_cases h : 300 < l.length
  · have h' : (300 : Int) < (l.length : Int) := by omega
    clear h
    go_enter Tryd.func6, Tryd.ntmps6
    go_wp2_with fail
    refine (alive_any _ HT.out).mono ?_
    rintro e w1 ⟨rfl, hb1⟩
    go_wp2
    go_ret
    exact ⟨rfl, hb1⟩
  · have h' : ¬ (300 : Int) < (l.length : Int) := by omega
    have C1 := Lib.hid (run_any _ l w hl)
    have C2 := Lib.hid (fun w1 (hb : Below w.heap.size w w1) => refRun_any _ l w1 (Rep.below hl hb))
    clear h
    generalize runF l = r at *
    obtain ⟨m, er⟩ := r
    have q1 := rt_eql
    have q2 := rt_eqg
    go_enter Tryd.func6, Tryd.ntmps6
    go_wp2_with fail
    refine C1.out.mono ?_
    rintro e w1 ⟨v1, rfl, hr1, hb1⟩
    go_wp2_with fail
    have hbx := hb1.alloc hb1.size (.cells #[.int .i64 m.tr, .int .i64 m.bu, .int .i64 m.pi] 38)
    have hby := (Below.refl w1.heap.size w1).alloc (Nat.le_refl _) (.cells #[.int .i64 m.tr, .int .i64 m.bu, .int .i64 m.pi] 38)
    have bt := Blk.new w1 38 #[.int .i64 m.tr, .int .i64 m.bu, .int .i64 m.pi]
    refine (C2.out _ hbx).mono ?_
    rintro e w2 ⟨v2, rfl, hr2, hb2⟩
    have hr1 := Rep.below (Rep.below hr1 hby) hb2
    have bt := bt.below hb2 bt.lt
    have hbw2 := bstep hbx hbx.size hb2
    clear hb1 hb2 hbx hby
    have hby := (Below.refl w2.heap.size w2).alloc (Nat.le_refl _) (.cells #[.int .i64 m.tr, .int .i64 m.bu, .int .i64 m.pi] 42)
    have hbx := hbw2.alloc hbw2.size (.cells #[.int .i64 m.tr, .int .i64 m.bu, .int .i64 m.pi] 42)
    have k0 : w2.cell? ⟨w1.heap.size, 0, none⟩ = some (.int .i64 m.tr) := bt.cell 0
    have k1 : w2.cell? ⟨w1.heap.size, 1, none⟩ = some (.int .i64 m.bu) := bt.cell 1
    have k2 : w2.cell? ⟨w1.heap.size, 2, none⟩ = some (.int .i64 m.pi) := bt.cell 2
    have HLT := bt.lt
    have HNE : ¬ w1.heap.size = w2.heap.size := by omega
    go_wp2_with fail
    refine (rings27_any _ _ _ _ _ (Rep.below hr1 hby) (Rep.below hr2 hby)).mono ?_
    rintro e w3 ⟨rfl, hb3⟩
    have hbw3 := bstep hbx hbx.size hb3
    have hT3 := HT.out.below hbw3
    clear hbw2 hb3 hbx hby hr1 hr2 bt
    rw [show decide (m.rings = m.rings) = true from by simp]
    go_wp2_with fail
    refine (alive_any _ hT3).mono ?_
    rintro e w4 ⟨rfl, hb4⟩
    have hbw4 := bstep hbw3 hbw3.size hb4
    clear hT3
    go_wp2
    go_ret
    exact ⟨rfl, hbw4⟩
theorem runs_card (v : Value) (l : List Stp) (w : World) (hT : TabP w) (hl : stR.slice.R w (Lt w) l [v]) (_ : True) :
    Calls Tryd.prog 6 #[v] w (Ret (.bool true) w) := nc_runs_law v l w hT hl
end Go.Proofs.YthfnncnmggkfaaaDoor
