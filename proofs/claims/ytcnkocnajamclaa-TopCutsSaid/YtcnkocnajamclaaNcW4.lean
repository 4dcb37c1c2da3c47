/- Chapter 27: a step that lights the torch, or puts it out, by walking the program's text. -/
import Derived.Test.YtcnkocnajamclaaNcW3
import Derived.Deep.DeepCutAuto
set_option linter.unusedSimpArgs false
set_option linter.unusedVariables false
namespace Go.Proofs.Ytcnkocnajamclaa
open Go Go.RowKit

attribute [local simp] as_move as_pierce as_cut as_off as_move_pierce as_move_cut as_move_off as_pierce_move as_pierce_cut as_pierce_off as_cut_move as_cut_pierce as_cut_off as_off_move as_off_pierce as_off_cut
set_option maxRecDepth 100000 in
set_option maxHeartbeats 2000000 in
theorem nc_pierce (gm k : Nat) (m : Mc) (x y : Int) (w : World) (h : MAt gm m w) (hl : m.lit = false) (hfit : Fit m k) (hk : k ≤ 20000) : Calls Try.prog 40 #[.pointer (some ⟨gm, 0, none⟩), .iface 133 (.agg #[])] w (DoPost gm (doF m (2, (x, y))) w) := by
  have HDO := Lib.hid (do_pierce (p := (x, y)) hl)
  obtain ⟨rv, rsv, base, h1, h2, h3, h4, h5⟩ := h.ex
  rw [hl] at h1
  have HL := Lib.hid hl
  have HH := Lib.hid (show RingsAt (gm + 1) base rsv m.rings w from h4)
  obtain ⟨⟨ax, ay⟩, hat⟩ : ∃ r, m.at_ = r := ⟨_, rfl⟩
  rw [hat] at h1
  have HAT := Lib.hid hat
  have h1 : Blk w gm 89 #[.int .i64 m.tr, .int .i64 m.bu, .int .i64 m.pi, .int .i64 ax, .int .i64 ay, .bool false, rv, rsv] := h1
  have hgl := h1.lt
  have hp0 := hfit.pi0
  have hp1 := hfit.pi1
  have hsum : IntKind.i64.wrap (m.pi + 1) = m.pi + 1 := IntWalk.i64_in _ (by omega)
  have g0 := h1.alloc (.cells #[] 133)
  have c2 : (w.alloc (.cells #[] 133)).cell? ⟨gm, 2, none⟩ = some (.int .i64 m.pi) := g0.cell 2
  have c3 : (w.alloc (.cells #[] 133)).cell? ⟨gm, 3, none⟩ = some (.int .i64 ax) := g0.cell 3
  have c4 : (w.alloc (.cells #[] 133)).cell? ⟨gm, 4, none⟩ = some (.int .i64 ay) := g0.cell 4
  have c5 : (w.alloc (.cells #[] 133)).cell? ⟨gm, 5, none⟩ = some (.bool false) := g0.cell 5
  have c6 : (w.alloc (.cells #[] 133)).cell? ⟨gm, 6, none⟩ = some rv := g0.cell 6
  have f2 := g0.free 2
  have f5 := g0.free 5
  have f6 := g0.free 6
  have hgn : ¬ gm = w.heap.size := by omega
  have hb0 := (Below.refl w.heap.size w).alloc (Nat.le_refl _) (.cells #[] 133)
  clear h1 h4 h5 hl hfit hat
  obtain ⟨w1, hw1⟩ : ∃ W, W = w.alloc (.cells #[] 133) := ⟨_, rfl⟩
  have hs1 : w1.heap.size = w.heap.size + 1 := by rw [hw1]; simp
  have HW1 := Lib.hid hw1
  have HS1 := Lib.hid hs1
  have hgn1 : ¬ gm = w1.heap.size := by omega
  have hgl1 : gm < w1.heap.size := by omega
  have hgn2 : ¬ w1.heap.size = gm := by omega
  rw [← hw1] at c2 c3 c4 c5 c6 f2 f5 f6 g0 hb0
  clear hw1 hs1
  go_enter Try.func40, Try.ntmps40
  go_upto_region 15 with fail
  rw [← HW1.out]
  go_wp2
  go_ret
  rw [HDO.out]
  have g3 := ((g0.set_ 5 (.bool true)).set_ 2 (.int .i64 (m.pi + 1))).set_ 6 (.slice (some ⟨w1.heap.size, 0, none⟩) 1 1)
  have hz := size3 w1 gm 5 2 6 (.bool true) (.int .i64 (m.pi + 1)) (.slice (some ⟨w1.heap.size, 0, none⟩) 1 1)
  have hbl := Blk.new (((w1.setCell ⟨gm, 5, none⟩ (.bool true)).setCell ⟨gm, 2, none⟩ (.int .i64 (m.pi + 1))).setCell ⟨gm, 6, none⟩ (.slice (some ⟨w1.heap.size, 0, none⟩) 1 1)) 74 #[.int .i64 ax, .int .i64 ay]
  rw [hz] at hbl
  have hsw := HS1.out
  refine ⟨rfl, ⟨⟨.slice (some ⟨w1.heap.size, 0, none⟩) 1 1, rsv, w1.heap.size, ?_, hgl1, ?_, ?_, fun _ => ?_⟩⟩, ?_⟩
  · simp only [HAT.out]
    exact g3.alloc _
  · rw [World.size_alloc, hz]; exact Nat.le_succ _
  · exact (HH.out.keep (fun i hi hib => (Below.heap_alloc _ _ i (by rw [hz]; omega)).trans ((heap3 w1 gm 5 2 6 _ _ _ i (by omega)).trans (hb0.block i (by omega))))).up (by omega)
  · show OwnP _ _ _ _ [m.at_]
    rw [HAT.out]
    exact ⟨rfl, .inr ⟨w1.heap.size, 1, #[.int .i64 ax, .int .i64 ay], rfl, Nat.le_refl _, hbl, Nat.le_refl _, by unfold maxLen; omega, rfl, rfl⟩⟩
  · exact ((((hb0.mono (Nat.le_of_lt hgl)).setCell (p := ⟨gm, 5, none⟩) (Nat.le_refl _) _).setCell (p := ⟨gm, 2, none⟩) (Nat.le_refl _) _).setCell (p := ⟨gm, 6, none⟩) (Nat.le_refl _) _).alloc (by rw [hz]; omega) _
end Go.Proofs.Ytcnkocnajamclaa
