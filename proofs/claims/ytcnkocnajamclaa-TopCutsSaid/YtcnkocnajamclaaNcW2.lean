/- Chapter 27: a step that a torch refuses, by walking the program's text. -/
import Derived.Test.YtcnkocnajamclaaNcMem
set_option linter.unusedSimpArgs false
set_option linter.unusedVariables false
namespace Go.Proofs.Ytcnkocnajamclaa
open Go Go.RowKit

attribute [local simp] as_move as_pierce as_cut as_off as_move_pierce as_move_cut as_move_off as_pierce_move as_pierce_cut as_pierce_off as_cut_move as_cut_pierce as_cut_off as_off_move as_off_pierce as_off_cut
set_option maxRecDepth 100000 in
set_option maxHeartbeats 2000000 in
theorem nc_do_none (gm : Nat) (m : Mc) (w : World) (h : MAt gm m w) : Calls Try.prog 40 #[.pointer (some ⟨gm, 0, none⟩), .nilIface] w (DoPost gm (10, m) w) := by
  go_enter Try.func40, Try.ntmps40
  go_wp2
  go_ret
  exact ⟨rfl, h, Below.refl _ _⟩
set_option maxRecDepth 100000 in
set_option maxHeartbeats 2000000 in
theorem nc_move_far (gm k : Nat) (m : Mc) (x y : Int) (w : World) (h : MAt gm m w) (hf : farB (x, y) = true)  : Calls Try.prog 40 #[.pointer (some ⟨gm, 0, none⟩), .iface 131 (.agg #[.int .i64 x, .int .i64 y])] w (DoPost gm (9, m) w) := by
  have hC := ncfar_any x y
  rw [hf] at hC
  have HC := Lib.hid hC
  clear hC hf
  obtain ⟨rv, rsv, base, h1, h2, h3, -⟩ := h.ex
  have hgm : gm ≤ w.heap.size := by omega
  have hgl := h1.lt
  have hgn : ¬ gm = w.heap.size := by omega
  have hb := (Below.refl w.heap.size w).alloc (Nat.le_refl _) (.cells #[.int .i64 x, .int .i64 y] 131)
  have bp := Blk.new w 131 #[.int .i64 x, .int .i64 y]
  have c0 := bp.c20
  have c1 := bp.c21
  clear h1 h2 h3
  go_enter Try.func40, Try.ntmps40
  go_wp2_with fail
  refine (HC.out _).mono ?_
  rintro e w1 ⟨rfl, hq⟩
  have hb2 := bstep hb hb.size hq
  go_wp2
  go_ret
  exact ⟨rfl, h.below hb2, hb2.mono hgm⟩
set_option maxRecDepth 100000 in
set_option maxHeartbeats 2000000 in
theorem nc_move_lit (gm k : Nat) (m : Mc) (x y : Int) (w : World) (h : MAt gm m w) (hf : farB (x, y) = false) (hl : m.lit = true) : Calls Try.prog 40 #[.pointer (some ⟨gm, 0, none⟩), .iface 131 (.agg #[.int .i64 x, .int .i64 y])] w (DoPost gm (14, m) w) := by
  have hC := ncfar_any x y
  rw [hf] at hC
  have HC := Lib.hid hC
  clear hC hf
  obtain ⟨rv, rsv, base, h1, h2, h3, -⟩ := h.ex
  have hgm : gm ≤ w.heap.size := by omega
  have hgl := h1.lt
  have hgn : ¬ gm = w.heap.size := by omega
  have hb := (Below.refl w.heap.size w).alloc (Nat.le_refl _) (.cells #[.int .i64 x, .int .i64 y] 131)
  have bp := Blk.new w 131 #[.int .i64 x, .int .i64 y]
  have c0 := bp.c20
  have c1 := bp.c21
  rw [hl] at h1
  have hg1 := h1.alloc (.cells #[.int .i64 x, .int .i64 y] 131)
  have c5 : (w.alloc (.cells #[.int .i64 x, .int .i64 y] 131)).cell? ⟨gm, 5, none⟩ = some (.bool true) := hg1.cell 5
  clear h1 h2 h3
  go_enter Try.func40, Try.ntmps40
  go_wp2_with fail
  refine (HC.out _).mono ?_
  rintro e w1 ⟨rfl, hq⟩
  have c5 : w1.cell? ⟨gm, 5, none⟩ = some (.bool true) := (hg1.below hq hg1.lt).cell 5
  have hb2 := bstep hb hb.size hq
  go_wp2
  go_ret
  exact ⟨rfl, h.below hb2, hb2.mono hgm⟩
set_option maxRecDepth 100000 in
set_option maxHeartbeats 2000000 in
theorem nc_pierce_lit (gm k : Nat) (m : Mc) (x y : Int) (w : World) (h : MAt gm m w) (hl : m.lit = true) : Calls Try.prog 40 #[.pointer (some ⟨gm, 0, none⟩), .iface 133 (.agg #[])] w (DoPost gm (14, m) w) := by
  obtain ⟨rv, rsv, base, h1, h2, h3, -⟩ := h.ex
  have hgm : gm ≤ w.heap.size := by omega
  have hgl := h1.lt
  have hgn : ¬ gm = w.heap.size := by omega
  have hb := (Below.refl w.heap.size w).alloc (Nat.le_refl _) (.cells #[] 133)
  rw [hl] at h1
  have hg1 := h1.alloc (.cells #[] 133)
  have c5 : (w.alloc (.cells #[] 133)).cell? ⟨gm, 5, none⟩ = some (.bool true) := hg1.cell 5
  clear h1 h2 h3
  go_enter Try.func40, Try.ntmps40
  have hb2 := hb
  go_wp2
  go_ret
  exact ⟨rfl, h.below hb2, hb2.mono hgm⟩
set_option maxRecDepth 100000 in
set_option maxHeartbeats 2000000 in
theorem nc_cut_far (gm k : Nat) (m : Mc) (x y : Int) (w : World) (h : MAt gm m w) (hf : farB (x, y) = true)  : Calls Try.prog 40 #[.pointer (some ⟨gm, 0, none⟩), .iface 134 (.agg #[.int .i64 x, .int .i64 y])] w (DoPost gm (9, m) w) := by
  have hC := ncfar_any x y
  rw [hf] at hC
  have HC := Lib.hid hC
  clear hC hf
  obtain ⟨rv, rsv, base, h1, h2, h3, -⟩ := h.ex
  have hgm : gm ≤ w.heap.size := by omega
  have hgl := h1.lt
  have hgn : ¬ gm = w.heap.size := by omega
  have hb := (Below.refl w.heap.size w).alloc (Nat.le_refl _) (.cells #[.int .i64 x, .int .i64 y] 134)
  have bp := Blk.new w 134 #[.int .i64 x, .int .i64 y]
  have c0 := bp.c20
  have c1 := bp.c21
  clear h1 h2 h3
  go_enter Try.func40, Try.ntmps40
  go_wp2_with fail
  refine (HC.out _).mono ?_
  rintro e w1 ⟨rfl, hq⟩
  have hb2 := bstep hb hb.size hq
  go_wp2
  go_ret
  exact ⟨rfl, h.below hb2, hb2.mono hgm⟩
set_option maxRecDepth 100000 in
set_option maxHeartbeats 2000000 in
theorem nc_cut_off (gm k : Nat) (m : Mc) (x y : Int) (w : World) (h : MAt gm m w) (hf : farB (x, y) = false) (hl : m.lit = false) : Calls Try.prog 40 #[.pointer (some ⟨gm, 0, none⟩), .iface 134 (.agg #[.int .i64 x, .int .i64 y])] w (DoPost gm (14, m) w) := by
  have hC := ncfar_any x y
  rw [hf] at hC
  have HC := Lib.hid hC
  clear hC hf
  obtain ⟨rv, rsv, base, h1, h2, h3, -⟩ := h.ex
  have hgm : gm ≤ w.heap.size := by omega
  have hgl := h1.lt
  have hgn : ¬ gm = w.heap.size := by omega
  have hb := (Below.refl w.heap.size w).alloc (Nat.le_refl _) (.cells #[.int .i64 x, .int .i64 y] 134)
  have bp := Blk.new w 134 #[.int .i64 x, .int .i64 y]
  have c0 := bp.c20
  have c1 := bp.c21
  rw [hl] at h1
  have hg1 := h1.alloc (.cells #[.int .i64 x, .int .i64 y] 134)
  have c5 : (w.alloc (.cells #[.int .i64 x, .int .i64 y] 134)).cell? ⟨gm, 5, none⟩ = some (.bool false) := hg1.cell 5
  clear h1 h2 h3
  go_enter Try.func40, Try.ntmps40
  go_wp2_with fail
  refine (HC.out _).mono ?_
  rintro e w1 ⟨rfl, hq⟩
  have c5 : w1.cell? ⟨gm, 5, none⟩ = some (.bool false) := (hg1.below hq hg1.lt).cell 5
  have hb2 := bstep hb hb.size hq
  go_wp2
  go_ret
  exact ⟨rfl, h.below hb2, hb2.mono hgm⟩
set_option maxRecDepth 100000 in
set_option maxHeartbeats 2000000 in
theorem nc_off_off (gm k : Nat) (m : Mc) (x y : Int) (w : World) (h : MAt gm m w) (hl : m.lit = false) : Calls Try.prog 40 #[.pointer (some ⟨gm, 0, none⟩), .iface 135 (.agg #[])] w (DoPost gm (14, m) w) := by
  obtain ⟨rv, rsv, base, h1, h2, h3, -⟩ := h.ex
  have hgm : gm ≤ w.heap.size := by omega
  have hgl := h1.lt
  have hgn : ¬ gm = w.heap.size := by omega
  have hb := (Below.refl w.heap.size w).alloc (Nat.le_refl _) (.cells #[] 135)
  rw [hl] at h1
  have hg1 := h1.alloc (.cells #[] 135)
  have c5 : (w.alloc (.cells #[] 135)).cell? ⟨gm, 5, none⟩ = some (.bool false) := hg1.cell 5
  clear h1 h2 h3
  go_enter Try.func40, Try.ntmps40
  have hb2 := hb
  go_wp2
  go_ret
  exact ⟨rfl, h.below hb2, hb2.mono hgm⟩
end Go.Proofs.Ytcnkocnajamclaa
