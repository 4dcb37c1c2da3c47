/- Chapter 15: what Parse defers, in both modes of the frame below it, by walking its text. -/
import Derived.Test.YtacbmmnipedpdaaDoorMatP3
import Derived.Defers
import Derived.Recover
import Derived.Laws.Pointers
namespace Go.Proofs.YtacbmmnipedpdaaDoor
open Go Go.RowKit

set_option maxHeartbeats 1000000 in
theorem catch_idle15 (p q r : Addr) (w : World) :
    CallsD Tryd.prog 44 #[.pointer (some p), .pointer (some q), .pointer (some r)] .returning w fun e u' w' => e = .returned (.tuple #[]) ∧ u' = .returning ∧ w' = w := by
  refine callsD_of_wpS Tryd.func44 rfl fun c₀ cs hu => ?_
  apply wpS_seq
  apply wpS_region
  simp [wpOpsS, go_sem, recoverD, hu, Tryd.ntmps44, Exit.thenS]
  apply wpS_seq
  apply wpS_region
  simp [wpOpsS, go_sem, Exit.thenS]
  refine wpS_cond (t := false) (by simp [Act.eval, Array.replicate]) ?_
  simp only [Bool.false_eq_true, if_false]
  refine wpS_of_wp (wp_skip ?_)
  cases c₀
  simp_all [bodyPostS, results, Tryd.results44]
theorem as_mis (v : Int) (w : World) : (Instr.typeAssert (.iface 73 (.int .i64 v)) 20 73 true).run Tryd.prog w = .ok (.tuple #[.int .i64 v, .bool true]) w := by kernel_rfl
set_option maxHeartbeats 2000000 in
theorem catch_mis15 (M : Nat) (at_ : Int) (c0 c1 c2 c3 : Value) (older : List PanicEntry) (w : World) (b0 : Blk w M 25 #[c0, c1]) (b1 : Blk w (M + 1) 27 #[c2]) (b2 : Blk w (M + 1 + 1) 3 #[c3]) :
    CallsD Tryd.prog 44 #[.pointer (some ⟨M, 0, none⟩), .pointer (some ⟨M + 1, 0, none⟩), .pointer (some ⟨M + 1 + 1, 0, none⟩)] (.panicking ({ v := .iface 73 (.int .i64 at_), recovered := false } :: older)) w fun e u' w' =>
      e = .returned (.tuple #[]) ∧ u' = .panicking ({ v := .iface 73 (.int .i64 at_), recovered := true } :: older) ∧ w' = (((w.setCell ⟨M, 0, none⟩ (.slice none 0 0)).setCell ⟨M, 1, none⟩ (.slice none 0 0)).setCell ⟨M + 1, 0, none⟩ (.int .i64 5)).setCell ⟨M + 1 + 1, 0, none⟩ (.int .i64 at_) := by
  have q := as_mis at_
  refine callsD_of_wpS Tryd.func44 rfl fun c₀ cs hu => ?_
  apply wpS_seq
  apply wpS_region
  simp [wpOpsS, go_sem, recoverD, hu, Tryd.ntmps44, Exit.thenS]
  apply wpS_seq
  apply wpS_region
  simp [wpOpsS, go_sem, Exit.thenS]
  refine wpS_cond (t := true) (by simp [Act.eval, Array.replicate]) ?_
  simp only [if_true]
  apply wpS_seq
  apply wpS_region
  simp [wpOpsS, go_sem, Exit.thenS, q]
  apply wpS_seq
  apply wpS_seq
  apply wpS_region
  simp [wpOpsS, go_sem, Exit.thenS]
  refine wpS_cond (t := false) (by simp [Act.eval]) ?_
  simp only [Bool.false_eq_true, if_false]
  refine wpS_of_wp (wp_skip ?_)
  simp only [Exit.thenS]
  apply wpS_region
  have k0 := b0.c20
  have k1 := b0.c21
  have k2 := b1.c0
  have k3 := b2.c0
  have f0 := b0.free 0
  have f1 := b0.free 1
  have f2 := b1.free 0
  have f3 := b2.free 0
  simp [wpOpsS, go_sem, k0, k1, k2, k3, f0, f1, f2, f3, bodyPostS, results, Tryd.results44]
end Go.Proofs.YtacbmmnipedpdaaDoor
