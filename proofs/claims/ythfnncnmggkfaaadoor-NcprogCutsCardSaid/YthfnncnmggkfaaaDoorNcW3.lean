/- Chapter 27: a step that moves the torch, by walking the program's text. -/
import Derived.Test.YthfnncnmggkfaaaDoorNcW2M
import Derived.Test.YthfnncnmggkfaaaDoorTorRgM
set_option linter.unusedSimpArgs false
set_option linter.unusedVariables false
namespace Go.Proofs.YthfnncnmggkfaaaDoor
open Go Go.RowKit

attribute [local simp] as_move as_pierce as_cut as_off as_move_pierce as_move_cut as_move_off as_pierce_move as_pierce_cut as_pierce_off as_cut_move as_cut_pierce as_cut_off as_off_move as_off_pierce as_off_cut
theorem cell_far {w : World} {p q : Addr} {v u : Value} (h : w.cell? q = some v) (hn : q.block ≠ p.block ∨ q.off ≠ p.off) : (w.setCell p u).cell? q = some v := by
  rw [World.cell?_setCell_other _ _ _ _ (fun e => by subst e; rcases hn with hn | hn <;> exact hn rfl)]
  exact h
theorem sw_set {gm bx : Nat} {ax ay x y : Int} {W : World} (h : W.cell? ⟨gm, 3, none⟩ = some (.int .i64 ax) ∧ W.cell? ⟨gm, 4, none⟩ = some (.int .i64 ay) ∧ W.cell? ⟨bx, 0, none⟩ = some (.int .i64 x) ∧ W.cell? ⟨bx, 1, none⟩ = some (.int .i64 y)) (hn : ¬ bx = gm) (o : Nat) (ho : o < 3) (v : Value) : ((W.setCell ⟨gm, o, none⟩ v).cell? ⟨gm, 3, none⟩ = some (.int .i64 ax) ∧ (W.setCell ⟨gm, o, none⟩ v).cell? ⟨gm, 4, none⟩ = some (.int .i64 ay) ∧ (W.setCell ⟨gm, o, none⟩ v).cell? ⟨bx, 0, none⟩ = some (.int .i64 x) ∧ (W.setCell ⟨gm, o, none⟩ v).cell? ⟨bx, 1, none⟩ = some (.int .i64 y)) :=
  ⟨cell_far h.1 (.inr (by show 3 ≠ o; omega)), cell_far h.2.1 (.inr (by show 4 ≠ o; omega)), cell_far h.2.2.1 (.inl hn), cell_far h.2.2.2 (.inl hn)⟩
theorem nc_pt_info : (Tryd.prog.info? 47).map (fun i => (i.zero, i.size, i.bytes)) = some (some (.agg #[.int .i64 0, .int .i64 0]), 2, 16) := by kernel_rfl
theorem nc_pr_one_rep {w : World} {g : Nat} {t : TypeId} {x y : Int} (h : Blk w g t #[.int .i64 x, .int .i64 y]) (hx : inI64 x) (hy : inI64 y) : prR.slice.R w (Lt w) [(x, y)] [.slice (some ⟨g, 0, none⟩) 1 1] :=
  ⟨some ⟨g, 0, none⟩, 1, rfl, Nat.le_refl _, by unfold maxLen; omega, fun k hk => by
    have hk0 : k = 0 := by simp at hk; exact hk
    subst hk0
    refine ⟨g, 0, [.int .i64 x, .int .i64 y], rfl, h.lt, ⟨[.int .i64 x], [.int .i64 y], rfl, ⟨rfl, hx⟩, ⟨rfl, hy⟩⟩, fun j hj => ?_⟩
    rw [Nat.zero_mul, Nat.add_zero, Nat.zero_add, h.cell]
    simp⟩
theorem box_set {W : World} {bx gm : Nat} {x y : Int} (h : W.cell? ⟨bx, 0, none⟩ = some (.int .i64 x) ∧ W.cell? ⟨bx, 1, none⟩ = some (.int .i64 y)) (hn : ¬ bx = gm) (o : Nat) (v : Value) : (W.setCell ⟨gm, o, none⟩ v).cell? ⟨bx, 0, none⟩ = some (.int .i64 x) ∧ (W.setCell ⟨gm, o, none⟩ v).cell? ⟨bx, 1, none⟩ = some (.int .i64 y) :=
  ⟨cell_far h.1 (.inl hn), cell_far h.2 (.inl hn)⟩
set_option maxRecDepth 100000 in
set_option maxHeartbeats 2000000 in
theorem nc_move (gm k : Nat) (m : Mc) (x y : Int) (w : World) (h : MAt gm m w) (hf : farB (x, y) = false) (hl : m.lit = false) (hfit : Fit m k) (hk : k ≤ 20000) : Calls Tryd.prog 42 #[.pointer (some ⟨gm, 0, none⟩), .iface 80 (.agg #[.int .i64 x, .int .i64 y])] w (DoPost gm (doF m (1, (x, y))) w) := by
  have hn := far_near hf
  have hC := ncfar_any x y
  rw [hf] at hC
  have HC := Lib.hid hC
  have HDO := Lib.hid (do_move hf hl)
  have hna := hfit.near
  have hbd := hfit.tr1
  have hbd0 := hfit.tr0
  clear hC hf
  obtain ⟨rv, rsv, base, h1, h2, h3, h4, h5⟩ := h.ex
  rw [hl] at h1
  obtain ⟨mv, hmv⟩ : ∃ r, moveF m.at_ (x, y) = r := ⟨_, rfl⟩
  have hmb := move_bd hna hn
  rw [hmv] at hmb
  have HMV := Lib.hid hmv
  have HFIT := Lib.hid hfit
  have HH := Lib.hid (show RingsAt (gm + 1) base rsv m.rings w from h4)
  have HL := Lib.hid hl
  obtain ⟨⟨ax, ay⟩, hat⟩ : ∃ r, m.at_ = r := ⟨_, rfl⟩
  rw [hat] at hmv h1 hna
  have HWAY : Hid (∀ W, Calls Tryd.prog 64 #[.agg #[.int .i64 ax, .int .i64 ay], .agg #[.int .i64 x, .int .i64 y]] W (Ret (.int .i64 mv) W)) := fun W => by
    rw [← hmv]; exact way_any ax ay x y W hna hn
  have h1 : Blk w gm 97 #[.int .i64 m.tr, .int .i64 m.bu, .int .i64 m.pi, .int .i64 ax, .int .i64 ay, .bool false, rv, rsv] := h1
  have hgl := h1.lt
  obtain ⟨bx, hbx⟩ : ∃ b, b = w.heap.size := ⟨_, rfl⟩
  have hb0 := (Below.refl w.heap.size w).alloc (Nat.le_refl _) (.cells #[.int .i64 x, .int .i64 y] 80)
  have g0 := h1.alloc (.cells #[.int .i64 x, .int .i64 y] 80)
  have p0 := Blk.new w 80 #[.int .i64 x, .int .i64 y]
  have c0 := p0.c20
  have c1 := p0.c21
  have hbn : ¬ bx = gm := by omega
  have hsum : IntKind.i64.wrap (m.tr + mv) = m.tr + mv := IntWalk.i64_in _ (by omega)
  have HBX := Lib.hid hbx
  clear hbx
  clear hmv h1 h4 h5 hl hbd hmb hna hn hfit hat
  go_enter Tryd.func42, Tryd.ntmps42
  go_wp2_with fail
  refine (HC.out _).mono ?_
  rintro e w1 ⟨rfl, hq⟩
  have hb1 := bstep hb0 hb0.size hq
  have g1 := g0.below hq g0.lt
  have p1 := p0.below hq p0.lt
  have c5 : w1.cell? ⟨gm, 5, none⟩ = some (.bool false) := g1.cell 5
  rw [← HBX.out] at p1 c0 c1 ⊢
  have k0 := p1.c20
  have k1 := p1.c21
  have e0 : w1.cell? ⟨gm, 0, none⟩ = some (.int .i64 m.tr) := g1.cell 0
  have e3 : w1.cell? ⟨gm, 3, none⟩ = some (.int .i64 ax) := g1.cell 3
  have e4 : w1.cell? ⟨gm, 4, none⟩ = some (.int .i64 ay) := g1.cell 4
  have HS1 : Hid (w1.drew.cell? ⟨gm, 3, none⟩ = some (.int .i64 ax) ∧ w1.drew.cell? ⟨gm, 4, none⟩ = some (.int .i64 ay) ∧ w1.drew.cell? ⟨bx, 0, none⟩ = some (.int .i64 x) ∧ w1.drew.cell? ⟨bx, 1, none⟩ = some (.int .i64 y)) := ⟨e3, e4, k0, k1⟩
  clear g0 p0 hq c0 c1
  go_wp2
  refine wp_region_held_drew (S := fun W => W.cell? ⟨gm, 3, none⟩ = some (.int .i64 ax) ∧ W.cell? ⟨gm, 4, none⟩ = some (.int .i64 ay) ∧ W.cell? ⟨bx, 0, none⟩ = some (.int .i64 x) ∧ W.cell? ⟨bx, 1, none⟩ = some (.int .i64 y)) (by kernel_rfl) (HS1.out) (fun hH => ?_)
  refine take_run (i := 0) (v := ?_) (by decide) (by kernel_rfl) (by kernel_rfl) (by kernel_rfl) (fun _ _ _ _ h => h) hH rfl ?_ ?_
  rotate_left
  · (intro w hSw; (try dsimp only at hSw); (try go_split_ands); simp only [List.getElem_toArray, List.getElem_cons_zero]; go_simp; try with_reducible rfl)
  try simp (config := { failIfUnchanged := false }) only [Act.put, List.setIfInBounds_toArray, List.set_cons_zero, List.set_cons_succ, List.getElem_toArray, List.getElem_cons_zero, List.getElem_cons_succ]
  refine take_run (i := 1) (v := ?_) (by decide) (by kernel_rfl) (by kernel_rfl) (by kernel_rfl) (fun _ _ _ _ h => h) hH rfl ?_ ?_
  rotate_left
  · (intro w hSw; (try dsimp only at hSw); (try go_split_ands); simp only [List.getElem_toArray, List.getElem_cons_zero, List.getElem_cons_succ]; go_simp; try with_reducible rfl)
  try simp (config := { failIfUnchanged := false }) only [Act.put, List.setIfInBounds_toArray, List.set_cons_zero, List.set_cons_succ, List.getElem_toArray, List.getElem_cons_zero, List.getElem_cons_succ]
  refine take_run (i := 2) (v := ?_) (by decide) (by kernel_rfl) (by kernel_rfl) (by kernel_rfl) (fun _ _ _ _ h => h) hH rfl ?_ ?_
  rotate_left
  · (intro w hSw; (try dsimp only at hSw); (try go_split_ands); simp only [List.getElem_toArray, List.getElem_cons_zero, List.getElem_cons_succ]; go_simp; try with_reducible rfl)
  try simp (config := { failIfUnchanged := false }) only [Act.put, List.setIfInBounds_toArray, List.set_cons_zero, List.set_cons_succ, List.getElem_toArray, List.getElem_cons_zero, List.getElem_cons_succ]
  refine take_run (i := 3) (v := ?_) (by decide) (by kernel_rfl) (by kernel_rfl) (by kernel_rfl) (fun _ _ _ _ h => h) hH rfl ?_ ?_
  rotate_left
  · (intro w hSw; (try dsimp only at hSw); (try go_split_ands); simp only [List.getElem_toArray, List.getElem_cons_zero, List.getElem_cons_succ]; go_simp; try with_reducible rfl)
  try simp (config := { failIfUnchanged := false }) only [Act.put, List.setIfInBounds_toArray, List.set_cons_zero, List.set_cons_succ, List.getElem_toArray, List.getElem_cons_zero, List.getElem_cons_succ]
  refine take_run (i := 5) (v := ?_) (by decide) (by kernel_rfl) (by kernel_rfl) (by kernel_rfl) (fun _ _ _ _ h => h) hH rfl ?_ ?_
  rotate_left
  · (intro w hSw; (try dsimp only at hSw); (try go_split_ands); simp only [List.getElem_toArray, List.getElem_cons_zero, List.getElem_cons_succ]; go_simp; try with_reducible rfl)
  try simp (config := { failIfUnchanged := false }) only [Act.put, List.setIfInBounds_toArray, List.set_cons_zero, List.set_cons_succ, List.getElem_toArray, List.getElem_cons_zero, List.getElem_cons_succ]
  refine take_run (i := 6) (v := ?_) (by decide) (by kernel_rfl) (by kernel_rfl) (by kernel_rfl) (fun _ _ _ _ h => h) hH rfl ?_ ?_
  rotate_left
  · (intro w hSw; (try dsimp only at hSw); (try go_split_ands); simp only [List.getElem_toArray, List.getElem_cons_zero, List.getElem_cons_succ]; go_simp; try with_reducible rfl)
  try simp (config := { failIfUnchanged := false }) only [Act.put, List.setIfInBounds_toArray, List.set_cons_zero, List.set_cons_succ, List.getElem_toArray, List.getElem_cons_zero, List.getElem_cons_succ]
  refine take_run (i := 7) (v := ?_) (by decide) (by kernel_rfl) (by kernel_rfl) (by kernel_rfl) (fun _ _ _ _ h => h) hH rfl ?_ ?_
  rotate_left
  · (intro w hSw; (try dsimp only at hSw); (try go_split_ands); simp only [List.getElem_toArray, List.getElem_cons_zero, List.getElem_cons_succ]; go_simp; try with_reducible rfl)
  try simp (config := { failIfUnchanged := false }) only [Act.put, List.setIfInBounds_toArray, List.set_cons_zero, List.set_cons_succ, List.getElem_toArray, List.getElem_cons_zero, List.getElem_cons_succ]
  refine take_run (i := 8) (v := ?_) (by decide) (by kernel_rfl) (by kernel_rfl) (by kernel_rfl) (fun _ _ _ _ h => h) hH rfl ?_ ?_
  rotate_left
  · (intro w hSw; (try dsimp only at hSw); (try go_split_ands); simp only [List.getElem_toArray, List.getElem_cons_zero, List.getElem_cons_succ]; go_simp; try with_reducible rfl)
  try simp (config := { failIfUnchanged := false }) only [Act.put, List.setIfInBounds_toArray, List.set_cons_zero, List.set_cons_succ, List.getElem_toArray, List.getElem_cons_zero, List.getElem_cons_succ]
  refine take_run (i := 9) (v := ?_) (by decide) (by kernel_rfl) (by kernel_rfl) (by kernel_rfl) (fun _ _ _ _ h => h) hH rfl ?_ ?_
  rotate_left
  · (intro w hSw; (try dsimp only at hSw); (try go_split_ands); simp only [List.getElem_toArray, List.getElem_cons_zero, List.getElem_cons_succ]; go_simp; try with_reducible rfl)
  try simp (config := { failIfUnchanged := false }) only [Act.put, List.setIfInBounds_toArray, List.set_cons_zero, List.set_cons_succ, List.getElem_toArray, List.getElem_cons_zero, List.getElem_cons_succ]
  refine take_run (i := 10) (v := ?_) (by decide) (by kernel_rfl) (by kernel_rfl) (by kernel_rfl) (fun _ _ _ _ h => h) hH rfl ?_ ?_
  rotate_left
  · (intro w hSw; (try dsimp only at hSw); (try go_split_ands); simp only [List.getElem_toArray, List.getElem_cons_zero, List.getElem_cons_succ]; go_simp; try with_reducible rfl)
  try simp (config := { failIfUnchanged := false }) only [Act.put, List.setIfInBounds_toArray, List.set_cons_zero, List.set_cons_succ, List.getElem_toArray, List.getElem_cons_zero, List.getElem_cons_succ]
  refine take_two (i := 4) (j := 11) (by decide) (by decide) (by kernel_rfl) (fun K hK => ?_) (fun K hK => ?_)
  focus
    simp only [List.getElem_toArray, List.getElem_cons_zero, List.getElem_cons_succ]
    go_simp
    refine hK.out _ _ (by first | exact HS1.out | exact hS2 | exact hS3 _) (fun hH => ?_)
    clear hK K
    try simp (config := { failIfUnchanged := false }) only [Act.put, List.setIfInBounds_toArray, List.set_cons_zero, List.set_cons_succ, List.getElem_toArray, List.getElem_cons_zero, List.getElem_cons_succ]
    refine take_call (i := 11) (by decide) (by kernel_rfl) (fun K hK => ?_)
    simp only [List.getElem_toArray, List.getElem_cons_zero, List.getElem_cons_succ]
    go_simp
    go_at_call 64
    refine (HWAY.out _).mono ?_
    rintro e w2 ⟨rfl, hq2⟩
    have hq2 : Below w1.heap.size w1 w2 := bstep (Below.drew (Below.refl _ _)) (Nat.le_refl _) hq2
    have g2 := g1.below hq2 g1.lt
    have p2 := p1.below hq2 p1.lt
    have d0 : w2.cell? ⟨gm, 0, none⟩ = some (.int .i64 m.tr) := g2.cell 0
    have d1 : w2.cell? ⟨gm, 1, none⟩ = some (.int .i64 m.bu) := g2.cell 1
    have d3 : w2.cell? ⟨gm, 3, none⟩ = some (.int .i64 ax) := g2.cell 3
    have d4 : w2.cell? ⟨gm, 4, none⟩ = some (.int .i64 ay) := g2.cell 4
    have f0 := g2.free 0
    have f1 := g2.free 1
    have f3 := g2.free 3
    have f4 := g2.free 4
    have q0 := p2.c20
    have q1 := p2.c21
    have hS2 : w2.cell? ⟨gm, 3, none⟩ = some (.int .i64 ax) ∧ w2.cell? ⟨gm, 4, none⟩ = some (.int .i64 ay) ∧ w2.cell? ⟨bx, 0, none⟩ = some (.int .i64 x) ∧ w2.cell? ⟨bx, 1, none⟩ = some (.int .i64 y) := ⟨d3, d4, q0, q1⟩
    have hS3 := fun v => sw_set hS2 hbn 0 (by omega) v
    refine hK.out _ _ (by first | exact HS1.out | exact hS2 | exact hS3 _) (fun hH => ?_)
    clear hK K
    try simp (config := { failIfUnchanged := false }) only [Act.put, List.setIfInBounds_toArray, List.set_cons_zero, List.set_cons_succ, List.getElem_toArray, List.getElem_cons_zero, List.getElem_cons_succ]
    refine take_run (i := 12) (v := ?_) (by decide) (by kernel_rfl) (by kernel_rfl) (by kernel_rfl) (fun _ _ _ _ h => h) hH rfl ?_ ?_
    rotate_left
    · (intro w hSw; (try dsimp only at hSw); (try go_split_ands); simp only [List.getElem_toArray, List.getElem_cons_zero, List.getElem_cons_succ]; go_simp; try with_reducible rfl)
    try simp (config := { failIfUnchanged := false }) only [Act.put, List.setIfInBounds_toArray, List.set_cons_zero, List.set_cons_succ, List.getElem_toArray, List.getElem_cons_zero, List.getElem_cons_succ]
    refine take_run (i := 13) (v := ?_) (by decide) (by kernel_rfl) (by kernel_rfl) (by kernel_rfl) (fun _ _ _ _ h => h) hH rfl ?_ ?_
    rotate_left
    · (intro w hSw; (try dsimp only at hSw); (try go_split_ands); simp only [List.getElem_toArray, List.getElem_cons_zero, List.getElem_cons_succ]; go_simp; try with_reducible rfl)
    try simp (config := { failIfUnchanged := false }) only [Act.put, List.setIfInBounds_toArray, List.set_cons_zero, List.set_cons_succ, List.getElem_toArray, List.getElem_cons_zero, List.getElem_cons_succ]
    refine take_run (i := 14) (v := ?_) (by decide) (by kernel_rfl) (by kernel_rfl) (by kernel_rfl) (fun _ _ _ _ h => h) hH rfl ?_ ?_
    rotate_left
    · (intro w hSw; (try dsimp only at hSw); (try go_split_ands); simp only [List.getElem_toArray, List.getElem_cons_zero, List.getElem_cons_succ]; go_simp; try with_reducible rfl)
    try simp (config := { failIfUnchanged := false }) only [Act.put, List.setIfInBounds_toArray, List.set_cons_zero, List.set_cons_succ, List.getElem_toArray, List.getElem_cons_zero, List.getElem_cons_succ]
    refine take_run (i := 15) (v := ?_) (by decide) (by kernel_rfl) (by kernel_rfl) (by kernel_rfl) (fun _ _ _ _ h => h) hH rfl ?_ ?_
    rotate_left
    · (intro w hSw; (try dsimp only at hSw); (try go_split_ands); simp only [List.getElem_toArray, List.getElem_cons_zero, List.getElem_cons_succ]; go_simp; try with_reducible rfl)
    try simp (config := { failIfUnchanged := false }) only [Act.put, List.setIfInBounds_toArray, List.set_cons_zero, List.set_cons_succ, List.getElem_toArray, List.getElem_cons_zero, List.getElem_cons_succ]
    refine take_call (i := 16) (by decide) (by kernel_rfl) (fun K hK => ?_)
    simp only [List.getElem_toArray, List.getElem_cons_zero, List.getElem_cons_succ]
    go_simp
    refine hK.out _ _ (by first | exact HS1.out | exact hS2 | exact hS3 _) (fun hH => ?_)
    clear hK K
    try simp (config := { failIfUnchanged := false }) only [Act.put, List.setIfInBounds_toArray, List.set_cons_zero, List.set_cons_succ, List.getElem_toArray, List.getElem_cons_zero, List.getElem_cons_succ]
    refine wpAnyH_done (by kernel_rfl) ?_ _
  rotate_left 1
  focus
    simp only [List.getElem_toArray, List.getElem_cons_zero, List.getElem_cons_succ]
    go_simp
    go_at_call 64
    refine (HWAY.out _).mono ?_
    rintro e w2 ⟨rfl, hq2⟩
    have hq2 : Below w1.heap.size w1 w2 := bstep (Below.drew (Below.refl _ _)) (Nat.le_refl _) hq2
    have g2 := g1.below hq2 g1.lt
    have p2 := p1.below hq2 p1.lt
    have d0 : w2.cell? ⟨gm, 0, none⟩ = some (.int .i64 m.tr) := g2.cell 0
    have d1 : w2.cell? ⟨gm, 1, none⟩ = some (.int .i64 m.bu) := g2.cell 1
    have d3 : w2.cell? ⟨gm, 3, none⟩ = some (.int .i64 ax) := g2.cell 3
    have d4 : w2.cell? ⟨gm, 4, none⟩ = some (.int .i64 ay) := g2.cell 4
    have f0 := g2.free 0
    have f1 := g2.free 1
    have f3 := g2.free 3
    have f4 := g2.free 4
    have q0 := p2.c20
    have q1 := p2.c21
    have hS2 : w2.cell? ⟨gm, 3, none⟩ = some (.int .i64 ax) ∧ w2.cell? ⟨gm, 4, none⟩ = some (.int .i64 ay) ∧ w2.cell? ⟨bx, 0, none⟩ = some (.int .i64 x) ∧ w2.cell? ⟨bx, 1, none⟩ = some (.int .i64 y) := ⟨d3, d4, q0, q1⟩
    have hS3 := fun v => sw_set hS2 hbn 0 (by omega) v
    refine hK.out _ _ (by first | exact HS1.out | exact hS2 | exact hS3 _) (fun hH => ?_)
    clear hK K
    try simp (config := { failIfUnchanged := false }) only [Act.put, List.setIfInBounds_toArray, List.set_cons_zero, List.set_cons_succ, List.getElem_toArray, List.getElem_cons_zero, List.getElem_cons_succ]
    refine take_call (i := 4) (by decide) (by kernel_rfl) (fun K hK => ?_)
    simp only [List.getElem_toArray, List.getElem_cons_zero, List.getElem_cons_succ]
    go_simp
    refine hK.out _ _ (by first | exact HS1.out | exact hS2 | exact hS3 _) (fun hH => ?_)
    clear hK K
    try simp (config := { failIfUnchanged := false }) only [Act.put, List.setIfInBounds_toArray, List.set_cons_zero, List.set_cons_succ, List.getElem_toArray, List.getElem_cons_zero, List.getElem_cons_succ]
    refine take_run (i := 12) (v := ?_) (by decide) (by kernel_rfl) (by kernel_rfl) (by kernel_rfl) (fun _ _ _ _ h => h) hH rfl ?_ ?_
    rotate_left
    · (intro w hSw; (try dsimp only at hSw); (try go_split_ands); simp only [List.getElem_toArray, List.getElem_cons_zero, List.getElem_cons_succ]; go_simp; try with_reducible rfl)
    try simp (config := { failIfUnchanged := false }) only [Act.put, List.setIfInBounds_toArray, List.set_cons_zero, List.set_cons_succ, List.getElem_toArray, List.getElem_cons_zero, List.getElem_cons_succ]
    refine take_run (i := 13) (v := ?_) (by decide) (by kernel_rfl) (by kernel_rfl) (by kernel_rfl) (fun _ _ _ _ h => h) hH rfl ?_ ?_
    rotate_left
    · (intro w hSw; (try dsimp only at hSw); (try go_split_ands); simp only [List.getElem_toArray, List.getElem_cons_zero, List.getElem_cons_succ]; go_simp; try with_reducible rfl)
    try simp (config := { failIfUnchanged := false }) only [Act.put, List.setIfInBounds_toArray, List.set_cons_zero, List.set_cons_succ, List.getElem_toArray, List.getElem_cons_zero, List.getElem_cons_succ]
    refine take_run (i := 14) (v := ?_) (by decide) (by kernel_rfl) (by kernel_rfl) (by kernel_rfl) (fun _ _ _ _ h => h) hH rfl ?_ ?_
    rotate_left
    · (intro w hSw; (try dsimp only at hSw); (try go_split_ands); simp only [List.getElem_toArray, List.getElem_cons_zero, List.getElem_cons_succ]; go_simp; try with_reducible rfl)
    try simp (config := { failIfUnchanged := false }) only [Act.put, List.setIfInBounds_toArray, List.set_cons_zero, List.set_cons_succ, List.getElem_toArray, List.getElem_cons_zero, List.getElem_cons_succ]
    refine take_run (i := 15) (v := ?_) (by decide) (by kernel_rfl) (by kernel_rfl) (by kernel_rfl) (fun _ _ _ _ h => h) hH rfl ?_ ?_
    rotate_left
    · (intro w hSw; (try dsimp only at hSw); (try go_split_ands); simp only [List.getElem_toArray, List.getElem_cons_zero, List.getElem_cons_succ]; go_simp; try with_reducible rfl)
    try simp (config := { failIfUnchanged := false }) only [Act.put, List.setIfInBounds_toArray, List.set_cons_zero, List.set_cons_succ, List.getElem_toArray, List.getElem_cons_zero, List.getElem_cons_succ]
    refine take_call (i := 16) (by decide) (by kernel_rfl) (fun K hK => ?_)
    simp only [List.getElem_toArray, List.getElem_cons_zero, List.getElem_cons_succ]
    go_simp
    refine hK.out _ _ (by first | exact HS1.out | exact hS2 | exact hS3 _) (fun hH => ?_)
    clear hK K
    try simp (config := { failIfUnchanged := false }) only [Act.put, List.setIfInBounds_toArray, List.set_cons_zero, List.set_cons_succ, List.getElem_toArray, List.getElem_cons_zero, List.getElem_cons_succ]
    refine wpAnyH_done (by kernel_rfl) ?_ _
  all_goals
    have hq3 := bstep hb1 hb1.size hq2
    go_wp2
    go_ret
    rw [HDO.out]
    refine ⟨rfl, ?_, ?_⟩
    · have hB := ((g2.set_ 0 (.int .i64 (m.tr + mv))).set_ 3 (.int .i64 x)).set_ 4 (.int .i64 y)
      refine mat_mk h2 h3 HH.out (rv := rv) ?_ (fun i hi hil => (heap3 _ gm 0 3 4 _ _ _ i (by omega)).trans (hq3.block i hil)) (by rw [size3]; exact hq3.size) rfl (fun hl => absurd (HL.out.symm.trans hl) (by decide))
      simp only [HMV.out, HL.out]
      exact hB
    · exact ((((hq3.mono (Nat.le_of_lt hgl)).setCell (p := ⟨gm, 0, none⟩) (Nat.le_refl _) _).setCell (p := ⟨gm, 3, none⟩) (Nat.le_refl _) _).setCell (p := ⟨gm, 4, none⟩) (Nat.le_refl _) _)
set_option maxRecDepth 100000 in
set_option maxHeartbeats 2000000 in
theorem nc_cut (gm k : Nat) (m : Mc) (x y : Int) (w : World) (h : MAt gm m w) (hf : farB (x, y) = false) (hl : m.lit = true) (hfit : Fit m k) (hk : k ≤ 20000) : Calls Tryd.prog 42 #[.pointer (some ⟨gm, 0, none⟩), .iface 81 (.agg #[.int .i64 x, .int .i64 y])] w (DoPost gm (doF m (3, (x, y))) w) := by
  have hn := far_near hf
  have hC := ncfar_any x y
  rw [hf] at hC
  have HC := Lib.hid hC
  have HDO := Lib.hid (do_cut hf hl)
  have hna := hfit.near
  have hbd := hfit.bu1
  have hbd0 := hfit.bu0
  clear hC hf
  obtain ⟨rv, rsv, base, h1, h2, h3, h4, h5⟩ := h.ex
  rw [hl] at h1
  obtain ⟨mv, hmv⟩ : ∃ r, moveF m.at_ (x, y) = r := ⟨_, rfl⟩
  have hmb := move_bd hna hn
  rw [hmv] at hmb
  have HMV := Lib.hid hmv
  have HFIT := Lib.hid hfit
  have HH := Lib.hid (show RingsAt (gm + 1) base rsv m.rings w from h4)
  have HL := Lib.hid hl
  obtain ⟨⟨ax, ay⟩, hat⟩ : ∃ r, m.at_ = r := ⟨_, rfl⟩
  rw [hat] at hmv h1 hna
  have HWAY : Hid (∀ W, Calls Tryd.prog 64 #[.agg #[.int .i64 ax, .int .i64 ay], .agg #[.int .i64 x, .int .i64 y]] W (Ret (.int .i64 mv) W)) := fun W => by
    rw [← hmv]; exact way_any ax ay x y W hna hn
  have h1 : Blk w gm 97 #[.int .i64 m.tr, .int .i64 m.bu, .int .i64 m.pi, .int .i64 ax, .int .i64 ay, .bool true, rv, rsv] := h1
  have hgl := h1.lt
  obtain ⟨bx, hbx⟩ : ∃ b, b = w.heap.size := ⟨_, rfl⟩
  have hb0 := (Below.refl w.heap.size w).alloc (Nat.le_refl _) (.cells #[.int .i64 x, .int .i64 y] 81)
  have g0 := h1.alloc (.cells #[.int .i64 x, .int .i64 y] 81)
  have p0 := Blk.new w 81 #[.int .i64 x, .int .i64 y]
  have c0 := p0.c20
  have c1 := p0.c21
  have hbn : ¬ bx = gm := by omega
  have hsum : IntKind.i64.wrap (m.bu + mv) = m.bu + mv := IntWalk.i64_in _ (by omega)
  have HBX := Lib.hid hbx
  clear hbx
  have HO := Lib.hid (show OwnP w base 47 rv m.ring from h5 hl)
  have hrl := hfit.rl
  obtain ⟨i0, hinf, hz0, hz1, hz2⟩ := info_parts nc_pt_info
  have HNX : Hid (inI64 x) := by obtain ⟨⟨a, b⟩, -⟩ := hn; show inI64 x; unfold inI64; simp only [] at a b; omega
  have HNY : Hid (inI64 y) := by obtain ⟨-, a, b⟩ := hn; show inI64 y; unfold inI64; simp only [] at a b; omega
  clear hmv h1 h4 h5 hl hbd hmb hna hn hfit hat
  go_enter Tryd.func42, Tryd.ntmps42
  go_wp2_with fail
  refine (HC.out _).mono ?_
  rintro e w1 ⟨rfl, hq⟩
  have hb1 := bstep hb0 hb0.size hq
  have g1 := g0.below hq g0.lt
  have p1 := p0.below hq p0.lt
  have c5 : w1.cell? ⟨gm, 5, none⟩ = some (.bool true) := g1.cell 5
  rw [← HBX.out] at p1 c0 c1 ⊢
  have k0 := p1.c20
  have k1 := p1.c21
  have e0 : w1.cell? ⟨gm, 1, none⟩ = some (.int .i64 m.bu) := g1.cell 1
  have e3 : w1.cell? ⟨gm, 3, none⟩ = some (.int .i64 ax) := g1.cell 3
  have e4 : w1.cell? ⟨gm, 4, none⟩ = some (.int .i64 ay) := g1.cell 4
  have HS1 : Hid (w1.drew.cell? ⟨gm, 3, none⟩ = some (.int .i64 ax) ∧ w1.drew.cell? ⟨gm, 4, none⟩ = some (.int .i64 ay) ∧ w1.drew.cell? ⟨bx, 0, none⟩ = some (.int .i64 x) ∧ w1.drew.cell? ⟨bx, 1, none⟩ = some (.int .i64 y)) := ⟨e3, e4, k0, k1⟩
  clear g0 p0 hq c0 c1
  go_wp2
  refine wp_region_held_drew (S := fun W => W.cell? ⟨gm, 3, none⟩ = some (.int .i64 ax) ∧ W.cell? ⟨gm, 4, none⟩ = some (.int .i64 ay) ∧ W.cell? ⟨bx, 0, none⟩ = some (.int .i64 x) ∧ W.cell? ⟨bx, 1, none⟩ = some (.int .i64 y)) (by kernel_rfl) (HS1.out) (fun hH => ?_)
  refine take_run (i := 0) (v := ?_) (by decide) (by kernel_rfl) (by kernel_rfl) (by kernel_rfl) (fun _ _ _ _ h => h) hH rfl ?_ ?_
  rotate_left
  · (intro w hSw; (try dsimp only at hSw); (try go_split_ands); simp only [List.getElem_toArray, List.getElem_cons_zero]; go_simp; try with_reducible rfl)
  try simp (config := { failIfUnchanged := false }) only [Act.put, List.setIfInBounds_toArray, List.set_cons_zero, List.set_cons_succ, List.getElem_toArray, List.getElem_cons_zero, List.getElem_cons_succ]
  refine take_run (i := 1) (v := ?_) (by decide) (by kernel_rfl) (by kernel_rfl) (by kernel_rfl) (fun _ _ _ _ h => h) hH rfl ?_ ?_
  rotate_left
  · (intro w hSw; (try dsimp only at hSw); (try go_split_ands); simp only [List.getElem_toArray, List.getElem_cons_zero, List.getElem_cons_succ]; go_simp; try with_reducible rfl)
  try simp (config := { failIfUnchanged := false }) only [Act.put, List.setIfInBounds_toArray, List.set_cons_zero, List.set_cons_succ, List.getElem_toArray, List.getElem_cons_zero, List.getElem_cons_succ]
  refine take_run (i := 2) (v := ?_) (by decide) (by kernel_rfl) (by kernel_rfl) (by kernel_rfl) (fun _ _ _ _ h => h) hH rfl ?_ ?_
  rotate_left
  · (intro w hSw; (try dsimp only at hSw); (try go_split_ands); simp only [List.getElem_toArray, List.getElem_cons_zero, List.getElem_cons_succ]; go_simp; try with_reducible rfl)
  try simp (config := { failIfUnchanged := false }) only [Act.put, List.setIfInBounds_toArray, List.set_cons_zero, List.set_cons_succ, List.getElem_toArray, List.getElem_cons_zero, List.getElem_cons_succ]
  refine take_run (i := 3) (v := ?_) (by decide) (by kernel_rfl) (by kernel_rfl) (by kernel_rfl) (fun _ _ _ _ h => h) hH rfl ?_ ?_
  rotate_left
  · (intro w hSw; (try dsimp only at hSw); (try go_split_ands); simp only [List.getElem_toArray, List.getElem_cons_zero, List.getElem_cons_succ]; go_simp; try with_reducible rfl)
  try simp (config := { failIfUnchanged := false }) only [Act.put, List.setIfInBounds_toArray, List.set_cons_zero, List.set_cons_succ, List.getElem_toArray, List.getElem_cons_zero, List.getElem_cons_succ]
  refine take_run (i := 5) (v := ?_) (by decide) (by kernel_rfl) (by kernel_rfl) (by kernel_rfl) (fun _ _ _ _ h => h) hH rfl ?_ ?_
  rotate_left
  · (intro w hSw; (try dsimp only at hSw); (try go_split_ands); simp only [List.getElem_toArray, List.getElem_cons_zero, List.getElem_cons_succ]; go_simp; try with_reducible rfl)
  try simp (config := { failIfUnchanged := false }) only [Act.put, List.setIfInBounds_toArray, List.set_cons_zero, List.set_cons_succ, List.getElem_toArray, List.getElem_cons_zero, List.getElem_cons_succ]
  refine take_run (i := 6) (v := ?_) (by decide) (by kernel_rfl) (by kernel_rfl) (by kernel_rfl) (fun _ _ _ _ h => h) hH rfl ?_ ?_
  rotate_left
  · (intro w hSw; (try dsimp only at hSw); (try go_split_ands); simp only [List.getElem_toArray, List.getElem_cons_zero, List.getElem_cons_succ]; go_simp; try with_reducible rfl)
  try simp (config := { failIfUnchanged := false }) only [Act.put, List.setIfInBounds_toArray, List.set_cons_zero, List.set_cons_succ, List.getElem_toArray, List.getElem_cons_zero, List.getElem_cons_succ]
  refine take_run (i := 7) (v := ?_) (by decide) (by kernel_rfl) (by kernel_rfl) (by kernel_rfl) (fun _ _ _ _ h => h) hH rfl ?_ ?_
  rotate_left
  · (intro w hSw; (try dsimp only at hSw); (try go_split_ands); simp only [List.getElem_toArray, List.getElem_cons_zero, List.getElem_cons_succ]; go_simp; try with_reducible rfl)
  try simp (config := { failIfUnchanged := false }) only [Act.put, List.setIfInBounds_toArray, List.set_cons_zero, List.set_cons_succ, List.getElem_toArray, List.getElem_cons_zero, List.getElem_cons_succ]
  refine take_run (i := 8) (v := ?_) (by decide) (by kernel_rfl) (by kernel_rfl) (by kernel_rfl) (fun _ _ _ _ h => h) hH rfl ?_ ?_
  rotate_left
  · (intro w hSw; (try dsimp only at hSw); (try go_split_ands); simp only [List.getElem_toArray, List.getElem_cons_zero, List.getElem_cons_succ]; go_simp; try with_reducible rfl)
  try simp (config := { failIfUnchanged := false }) only [Act.put, List.setIfInBounds_toArray, List.set_cons_zero, List.set_cons_succ, List.getElem_toArray, List.getElem_cons_zero, List.getElem_cons_succ]
  refine take_run (i := 9) (v := ?_) (by decide) (by kernel_rfl) (by kernel_rfl) (by kernel_rfl) (fun _ _ _ _ h => h) hH rfl ?_ ?_
  rotate_left
  · (intro w hSw; (try dsimp only at hSw); (try go_split_ands); simp only [List.getElem_toArray, List.getElem_cons_zero, List.getElem_cons_succ]; go_simp; try with_reducible rfl)
  try simp (config := { failIfUnchanged := false }) only [Act.put, List.setIfInBounds_toArray, List.set_cons_zero, List.set_cons_succ, List.getElem_toArray, List.getElem_cons_zero, List.getElem_cons_succ]
  refine take_run (i := 10) (v := ?_) (by decide) (by kernel_rfl) (by kernel_rfl) (by kernel_rfl) (fun _ _ _ _ h => h) hH rfl ?_ ?_
  rotate_left
  · (intro w hSw; (try dsimp only at hSw); (try go_split_ands); simp only [List.getElem_toArray, List.getElem_cons_zero, List.getElem_cons_succ]; go_simp; try with_reducible rfl)
  try simp (config := { failIfUnchanged := false }) only [Act.put, List.setIfInBounds_toArray, List.set_cons_zero, List.set_cons_succ, List.getElem_toArray, List.getElem_cons_zero, List.getElem_cons_succ]
  refine take_two (i := 4) (j := 11) (by decide) (by decide) (by kernel_rfl) (fun K hK => ?_) (fun K hK => ?_)
  focus
    simp only [List.getElem_toArray, List.getElem_cons_zero, List.getElem_cons_succ]
    go_simp
    refine hK.out _ _ (by first | exact HS1.out | exact hS2 | exact hS3 _) (fun hH => ?_)
    clear hK K
    try simp (config := { failIfUnchanged := false }) only [Act.put, List.setIfInBounds_toArray, List.set_cons_zero, List.set_cons_succ, List.getElem_toArray, List.getElem_cons_zero, List.getElem_cons_succ]
    refine take_call (i := 11) (by decide) (by kernel_rfl) (fun K hK => ?_)
    simp only [List.getElem_toArray, List.getElem_cons_zero, List.getElem_cons_succ]
    go_simp
    go_at_call 64
    refine (HWAY.out _).mono ?_
    rintro e w2 ⟨rfl, hq2⟩
    have hq2 : Below w1.heap.size w1 w2 := bstep (Below.drew (Below.refl _ _)) (Nat.le_refl _) hq2
    have g2 := g1.below hq2 g1.lt
    have p2 := p1.below hq2 p1.lt
    have d0 : w2.cell? ⟨gm, 0, none⟩ = some (.int .i64 m.tr) := g2.cell 0
    have d1 : w2.cell? ⟨gm, 1, none⟩ = some (.int .i64 m.bu) := g2.cell 1
    have d3 : w2.cell? ⟨gm, 3, none⟩ = some (.int .i64 ax) := g2.cell 3
    have d4 : w2.cell? ⟨gm, 4, none⟩ = some (.int .i64 ay) := g2.cell 4
    have f0 := g2.free 0
    have f1 := g2.free 1
    have f3 := g2.free 3
    have f4 := g2.free 4
    have q0 := p2.c20
    have q1 := p2.c21
    have hS2 : w2.cell? ⟨gm, 3, none⟩ = some (.int .i64 ax) ∧ w2.cell? ⟨gm, 4, none⟩ = some (.int .i64 ay) ∧ w2.cell? ⟨bx, 0, none⟩ = some (.int .i64 x) ∧ w2.cell? ⟨bx, 1, none⟩ = some (.int .i64 y) := ⟨d3, d4, q0, q1⟩
    have hS3 := fun v => sw_set hS2 hbn 1 (by omega) v
    refine hK.out _ _ (by first | exact HS1.out | exact hS2 | exact hS3 _) (fun hH => ?_)
    clear hK K
    try simp (config := { failIfUnchanged := false }) only [Act.put, List.setIfInBounds_toArray, List.set_cons_zero, List.set_cons_succ, List.getElem_toArray, List.getElem_cons_zero, List.getElem_cons_succ]
    refine take_run (i := 12) (v := ?_) (by decide) (by kernel_rfl) (by kernel_rfl) (by kernel_rfl) (fun _ _ _ _ h => h) hH rfl ?_ ?_
    rotate_left
    · (intro w hSw; (try dsimp only at hSw); (try go_split_ands); simp only [List.getElem_toArray, List.getElem_cons_zero, List.getElem_cons_succ]; go_simp; try with_reducible rfl)
    try simp (config := { failIfUnchanged := false }) only [Act.put, List.setIfInBounds_toArray, List.set_cons_zero, List.set_cons_succ, List.getElem_toArray, List.getElem_cons_zero, List.getElem_cons_succ]
    refine take_run (i := 13) (v := ?_) (by decide) (by kernel_rfl) (by kernel_rfl) (by kernel_rfl) (fun _ _ _ _ h => h) hH rfl ?_ ?_
    rotate_left
    · (intro w hSw; (try dsimp only at hSw); (try go_split_ands); simp only [List.getElem_toArray, List.getElem_cons_zero, List.getElem_cons_succ]; go_simp; try with_reducible rfl)
    try simp (config := { failIfUnchanged := false }) only [Act.put, List.setIfInBounds_toArray, List.set_cons_zero, List.set_cons_succ, List.getElem_toArray, List.getElem_cons_zero, List.getElem_cons_succ]
    refine take_run (i := 14) (v := ?_) (by decide) (by kernel_rfl) (by kernel_rfl) (by kernel_rfl) (fun _ _ _ _ h => h) hH rfl ?_ ?_
    rotate_left
    · (intro w hSw; (try dsimp only at hSw); (try go_split_ands); simp only [List.getElem_toArray, List.getElem_cons_zero, List.getElem_cons_succ]; go_simp; try with_reducible rfl)
    try simp (config := { failIfUnchanged := false }) only [Act.put, List.setIfInBounds_toArray, List.set_cons_zero, List.set_cons_succ, List.getElem_toArray, List.getElem_cons_zero, List.getElem_cons_succ]
    refine take_run (i := 15) (v := ?_) (by decide) (by kernel_rfl) (by kernel_rfl) (by kernel_rfl) (fun _ _ _ _ h => h) hH rfl ?_ ?_
    rotate_left
    · (intro w hSw; (try dsimp only at hSw); (try go_split_ands); simp only [List.getElem_toArray, List.getElem_cons_zero, List.getElem_cons_succ]; go_simp; try with_reducible rfl)
    try simp (config := { failIfUnchanged := false }) only [Act.put, List.setIfInBounds_toArray, List.set_cons_zero, List.set_cons_succ, List.getElem_toArray, List.getElem_cons_zero, List.getElem_cons_succ]
    refine take_call (i := 16) (by decide) (by kernel_rfl) (fun K hK => ?_)
    simp only [List.getElem_toArray, List.getElem_cons_zero, List.getElem_cons_succ]
    go_simp
    refine hK.out _ _ (by first | exact HS1.out | exact hS2 | exact hS3 _) (fun hH => ?_)
    clear hK K
    try simp (config := { failIfUnchanged := false }) only [Act.put, List.setIfInBounds_toArray, List.set_cons_zero, List.set_cons_succ, List.getElem_toArray, List.getElem_cons_zero, List.getElem_cons_succ]
    refine wpAnyH_done (by kernel_rfl) ?_ _
  rotate_left 1
  focus
    simp only [List.getElem_toArray, List.getElem_cons_zero, List.getElem_cons_succ]
    go_simp
    go_at_call 64
    refine (HWAY.out _).mono ?_
    rintro e w2 ⟨rfl, hq2⟩
    have hq2 : Below w1.heap.size w1 w2 := bstep (Below.drew (Below.refl _ _)) (Nat.le_refl _) hq2
    have g2 := g1.below hq2 g1.lt
    have p2 := p1.below hq2 p1.lt
    have d0 : w2.cell? ⟨gm, 0, none⟩ = some (.int .i64 m.tr) := g2.cell 0
    have d1 : w2.cell? ⟨gm, 1, none⟩ = some (.int .i64 m.bu) := g2.cell 1
    have d3 : w2.cell? ⟨gm, 3, none⟩ = some (.int .i64 ax) := g2.cell 3
    have d4 : w2.cell? ⟨gm, 4, none⟩ = some (.int .i64 ay) := g2.cell 4
    have f0 := g2.free 0
    have f1 := g2.free 1
    have f3 := g2.free 3
    have f4 := g2.free 4
    have q0 := p2.c20
    have q1 := p2.c21
    have hS2 : w2.cell? ⟨gm, 3, none⟩ = some (.int .i64 ax) ∧ w2.cell? ⟨gm, 4, none⟩ = some (.int .i64 ay) ∧ w2.cell? ⟨bx, 0, none⟩ = some (.int .i64 x) ∧ w2.cell? ⟨bx, 1, none⟩ = some (.int .i64 y) := ⟨d3, d4, q0, q1⟩
    have hS3 := fun v => sw_set hS2 hbn 1 (by omega) v
    refine hK.out _ _ (by first | exact HS1.out | exact hS2 | exact hS3 _) (fun hH => ?_)
    clear hK K
    try simp (config := { failIfUnchanged := false }) only [Act.put, List.setIfInBounds_toArray, List.set_cons_zero, List.set_cons_succ, List.getElem_toArray, List.getElem_cons_zero, List.getElem_cons_succ]
    refine take_call (i := 4) (by decide) (by kernel_rfl) (fun K hK => ?_)
    simp only [List.getElem_toArray, List.getElem_cons_zero, List.getElem_cons_succ]
    go_simp
    refine hK.out _ _ (by first | exact HS1.out | exact hS2 | exact hS3 _) (fun hH => ?_)
    clear hK K
    try simp (config := { failIfUnchanged := false }) only [Act.put, List.setIfInBounds_toArray, List.set_cons_zero, List.set_cons_succ, List.getElem_toArray, List.getElem_cons_zero, List.getElem_cons_succ]
    refine take_run (i := 12) (v := ?_) (by decide) (by kernel_rfl) (by kernel_rfl) (by kernel_rfl) (fun _ _ _ _ h => h) hH rfl ?_ ?_
    rotate_left
    · (intro w hSw; (try dsimp only at hSw); (try go_split_ands); simp only [List.getElem_toArray, List.getElem_cons_zero, List.getElem_cons_succ]; go_simp; try with_reducible rfl)
    try simp (config := { failIfUnchanged := false }) only [Act.put, List.setIfInBounds_toArray, List.set_cons_zero, List.set_cons_succ, List.getElem_toArray, List.getElem_cons_zero, List.getElem_cons_succ]
    refine take_run (i := 13) (v := ?_) (by decide) (by kernel_rfl) (by kernel_rfl) (by kernel_rfl) (fun _ _ _ _ h => h) hH rfl ?_ ?_
    rotate_left
    · (intro w hSw; (try dsimp only at hSw); (try go_split_ands); simp only [List.getElem_toArray, List.getElem_cons_zero, List.getElem_cons_succ]; go_simp; try with_reducible rfl)
    try simp (config := { failIfUnchanged := false }) only [Act.put, List.setIfInBounds_toArray, List.set_cons_zero, List.set_cons_succ, List.getElem_toArray, List.getElem_cons_zero, List.getElem_cons_succ]
    refine take_run (i := 14) (v := ?_) (by decide) (by kernel_rfl) (by kernel_rfl) (by kernel_rfl) (fun _ _ _ _ h => h) hH rfl ?_ ?_
    rotate_left
    · (intro w hSw; (try dsimp only at hSw); (try go_split_ands); simp only [List.getElem_toArray, List.getElem_cons_zero, List.getElem_cons_succ]; go_simp; try with_reducible rfl)
    try simp (config := { failIfUnchanged := false }) only [Act.put, List.setIfInBounds_toArray, List.set_cons_zero, List.set_cons_succ, List.getElem_toArray, List.getElem_cons_zero, List.getElem_cons_succ]
    refine take_run (i := 15) (v := ?_) (by decide) (by kernel_rfl) (by kernel_rfl) (by kernel_rfl) (fun _ _ _ _ h => h) hH rfl ?_ ?_
    rotate_left
    · (intro w hSw; (try dsimp only at hSw); (try go_split_ands); simp only [List.getElem_toArray, List.getElem_cons_zero, List.getElem_cons_succ]; go_simp; try with_reducible rfl)
    try simp (config := { failIfUnchanged := false }) only [Act.put, List.setIfInBounds_toArray, List.set_cons_zero, List.set_cons_succ, List.getElem_toArray, List.getElem_cons_zero, List.getElem_cons_succ]
    refine take_call (i := 16) (by decide) (by kernel_rfl) (fun K hK => ?_)
    simp only [List.getElem_toArray, List.getElem_cons_zero, List.getElem_cons_succ]
    go_simp
    refine hK.out _ _ (by first | exact HS1.out | exact hS2 | exact hS3 _) (fun hH => ?_)
    clear hK K
    try simp (config := { failIfUnchanged := false }) only [Act.put, List.setIfInBounds_toArray, List.set_cons_zero, List.set_cons_succ, List.getElem_toArray, List.getElem_cons_zero, List.getElem_cons_succ]
    refine wpAnyH_done (by kernel_rfl) ?_ _
  all_goals
    have hq3 := bstep hb1 hb1.size hq2
    have g4 := ((g2.set_ 1 (.int .i64 (m.bu + mv))).set_ 3 (.int .i64 x)).set_ 4 (.int .i64 y)
    have p4 := ((p2.far (p := ⟨gm, 1, none⟩) hbn (.int .i64 (m.bu + mv))).far (p := ⟨gm, 3, none⟩) hbn (.int .i64 x)).far (p := ⟨gm, 4, none⟩) hbn (.int .i64 y)
    have hk4 : ∀ i, i ≠ gm → i < w.heap.size → (((w2.setCell ⟨gm, 1, none⟩ (.int .i64 (m.bu + mv))).setCell ⟨gm, 3, none⟩ (.int .i64 x)).setCell ⟨gm, 4, none⟩ (.int .i64 y)).heap[i]? = w.heap[i]? := fun i hi hil => (heap3 w2 gm 1 3 4 _ _ _ i hi).trans (hq3.block i hil)
    have hs4 := size3 w2 gm 1 3 4 (.int .i64 (m.bu + mv)) (.int .i64 x) (.int .i64 y)
    have hbg4 := (((hq3.mono (Nat.le_of_lt hgl)).setCell (p := ⟨gm, 1, none⟩) (Nat.le_refl _) (.int .i64 (m.bu + mv))).setCell (p := ⟨gm, 3, none⟩) (Nat.le_refl _) (.int .i64 x)).setCell (p := ⟨gm, 4, none⟩) (Nat.le_refl _) (.int .i64 y)
    obtain ⟨w4, hw4⟩ : ∃ W, W = ((w2.setCell ⟨gm, 1, none⟩ (.int .i64 (m.bu + mv))).setCell ⟨gm, 3, none⟩ (.int .i64 x)).setCell ⟨gm, 4, none⟩ (.int .i64 y) := ⟨_, rfl⟩
    rw [← hw4] at g4 p4 hs4 hbg4
    simp only [← hw4] at hk4
    have HW4 := Lib.hid hw4
    clear hw4
    have HO4 : Hid (OwnP w4 base 47 rv m.ring) := own_keep HO.out (fun g hg => hk4 g (by have := (World.ownsRow.lt HO.out g hg).1; omega) (World.ownsRow.lt HO.out g hg).2)
    have g4 : Blk w4 gm 97 #[.int .i64 m.tr, .int .i64 (m.bu + mv), .int .i64 m.pi, .int .i64 x, .int .i64 y, .bool true, rv, rsv] := g4
    have hsz2 := hq3.size
    have HB4 : Hid (base ≤ w4.heap.size) := by show _ ≤ _; omega
    have HS4 := Lib.hid hs4
    clear hs4
    have r6 : w4.cell? ⟨gm, 6, none⟩ = some rv := g4.cell 6
    have r6a : (w4.alloc (.cells #[.int .i64 x, .int .i64 y] 47)).cell? ⟨gm, 6, none⟩ = some rv := (g4.alloc (.cells #[.int .i64 x, .int .i64 y] 47)).cell 6
    have t0 := p4.c20
    have t1 := p4.c21
    have HT1 : Hid (w4.drew.cell? ⟨bx, 0, none⟩ = some (.int .i64 x) ∧ w4.drew.cell? ⟨bx, 1, none⟩ = some (.int .i64 y)) := ⟨t0, t1⟩
    have HT2 : Hid ((w4.alloc (.cells #[.int .i64 x, .int .i64 y] 47)).drew.cell? ⟨bx, 0, none⟩ = some (.int .i64 x) ∧ (w4.alloc (.cells #[.int .i64 x, .int .i64 y] 47)).drew.cell? ⟨bx, 1, none⟩ = some (.int .i64 y)) := ⟨(p4.alloc (.cells #[.int .i64 x, .int .i64 y] 47)).c20, (p4.alloc (.cells #[.int .i64 x, .int .i64 y] 47)).c21⟩
    have HT2b : Hid ((w4.drew.alloc (.cells #[.int .i64 x, .int .i64 y] 47)).cell? ⟨bx, 0, none⟩ = some (.int .i64 x) ∧ (w4.drew.alloc (.cells #[.int .i64 x, .int .i64 y] 47)).cell? ⟨bx, 1, none⟩ = some (.int .i64 y)) := ⟨((p4.drewN 1).alloc (.cells #[.int .i64 x, .int .i64 y] 47)).c20, ((p4.drewN 1).alloc (.cells #[.int .i64 x, .int .i64 y] 47)).c21⟩
    clear d0 d1 d3 d4 f0 f1 q0 q1 hS2 hS3 e0 e3 e4 k0 k1
    go_wp2
    rw [← HW4.out]
    refine wp_region_held_drew (S := fun W => W.cell? ⟨bx, 0, none⟩ = some (.int .i64 x) ∧ W.cell? ⟨bx, 1, none⟩ = some (.int .i64 y)) (by kernel_rfl) (HT1.out) (fun hH => ?_)
    refine take_run (i := 0) (v := ?_) (by decide) (by kernel_rfl) (by kernel_rfl) (by kernel_rfl) (fun _ _ _ _ h => h) hH rfl ?_ ?_
    rotate_left
    · (intro w hSw; (try dsimp only at hSw); (try go_split_ands); simp only [List.getElem_toArray, List.getElem_cons_zero]; go_simp; try with_reducible rfl)
    try simp (config := { failIfUnchanged := false }) only [Act.put, List.setIfInBounds_toArray, List.set_cons_zero, List.set_cons_succ, List.getElem_toArray, List.getElem_cons_zero, List.getElem_cons_succ]
    refine take_run (i := 1) (v := ?_) (by decide) (by kernel_rfl) (by kernel_rfl) (by kernel_rfl) (fun _ _ _ _ h => h) hH rfl ?_ ?_
    rotate_left
    · (intro w hSw; (try dsimp only at hSw); (try go_split_ands); simp only [List.getElem_toArray, List.getElem_cons_zero, List.getElem_cons_succ]; go_simp; try with_reducible rfl)
    try simp (config := { failIfUnchanged := false }) only [Act.put, List.setIfInBounds_toArray, List.set_cons_zero, List.set_cons_succ, List.getElem_toArray, List.getElem_cons_zero, List.getElem_cons_succ]
    refine take_run (i := 2) (v := ?_) (by decide) (by kernel_rfl) (by kernel_rfl) (by kernel_rfl) (fun _ _ _ _ h => h) hH rfl ?_ ?_
    rotate_left
    · (intro w hSw; (try dsimp only at hSw); (try go_split_ands); simp only [List.getElem_toArray, List.getElem_cons_zero, List.getElem_cons_succ]; go_simp; try with_reducible rfl)
    try simp (config := { failIfUnchanged := false }) only [Act.put, List.setIfInBounds_toArray, List.set_cons_zero, List.set_cons_succ, List.getElem_toArray, List.getElem_cons_zero, List.getElem_cons_succ]
    refine take_run (i := 3) (v := ?_) (by decide) (by kernel_rfl) (by kernel_rfl) (by kernel_rfl) (fun _ _ _ _ h => h) hH rfl ?_ ?_
    rotate_left
    · (intro w hSw; (try dsimp only at hSw); (try go_split_ands); simp only [List.getElem_toArray, List.getElem_cons_zero, List.getElem_cons_succ]; go_simp; try with_reducible rfl)
    try simp (config := { failIfUnchanged := false }) only [Act.put, List.setIfInBounds_toArray, List.set_cons_zero, List.set_cons_succ, List.getElem_toArray, List.getElem_cons_zero, List.getElem_cons_succ]
    refine take_run (i := 5) (v := ?_) (by decide) (by kernel_rfl) (by kernel_rfl) (by kernel_rfl) (fun _ _ _ _ h => h) hH rfl ?_ ?_
    rotate_left
    · (intro w hSw; (try dsimp only at hSw); (try go_split_ands); simp only [List.getElem_toArray, List.getElem_cons_zero, List.getElem_cons_succ]; go_simp; try with_reducible rfl)
    try simp (config := { failIfUnchanged := false }) only [Act.put, List.setIfInBounds_toArray, List.set_cons_zero, List.set_cons_succ, List.getElem_toArray, List.getElem_cons_zero, List.getElem_cons_succ]
    refine take_run (i := 6) (v := ?_) (by decide) (by kernel_rfl) (by kernel_rfl) (by kernel_rfl) (fun _ _ _ _ h => h) hH rfl ?_ ?_
    rotate_left
    · (intro w hSw; (try dsimp only at hSw); (try go_split_ands); simp only [List.getElem_toArray, List.getElem_cons_zero, List.getElem_cons_succ]; go_simp; try with_reducible rfl)
    try simp (config := { failIfUnchanged := false }) only [Act.put, List.setIfInBounds_toArray, List.set_cons_zero, List.set_cons_succ, List.getElem_toArray, List.getElem_cons_zero, List.getElem_cons_succ]
    refine take_two (i := 4) (j := 7) (by decide) (by decide) (by kernel_rfl) (fun K hK => ?_) (fun K hK => ?_)
    focus
      simp only [List.getElem_toArray, List.getElem_cons_zero, List.getElem_cons_succ]
      go_simp
      refine hK.out _ _ (by first | exact HT1.out | exact HT2.out | exact HT2b.out | exact hT3 | exact hT4 _) (fun hH => ?_)
      clear hK K
      try simp (config := { failIfUnchanged := false }) only [Act.put, List.setIfInBounds_toArray, List.set_cons_zero, List.set_cons_succ, List.getElem_toArray, List.getElem_cons_zero, List.getElem_cons_succ]
      refine take_call (i := 7) (by decide) (by kernel_rfl) (fun K hK => ?_)
      simp only [List.getElem_toArray, List.getElem_cons_zero, List.getElem_cons_succ]
      go_simp
      refine hK.out _ _ (by first | exact HT1.out | exact HT2.out | exact HT2b.out | exact hT3 | exact hT4 _) (fun hH => ?_)
      clear hK K
      try simp (config := { failIfUnchanged := false }) only [Act.put, List.setIfInBounds_toArray, List.set_cons_zero, List.set_cons_succ, List.getElem_toArray, List.getElem_cons_zero, List.getElem_cons_succ]
      refine take_call (i := 8) (by decide) (by kernel_rfl) (fun K hK => ?_)
      refine step_append_flat flat_pr (by rfl) _ _ _ (by rfl) base 47 i0 (.agg #[.int .i64 0, .int .i64 0]) 16 Tryd.underlying54 hinf hz0 hz1 hz2 rfl rv _ _ (by rfl) (World.ownsRow.alloc (own_below HO4.out (Below.drew (Below.refl _ _))) _) [(x, y)] (by rfl) (nc_pr_one_rep (Blk.new _ 47 #[.int .i64 x, .int .i64 y]) HNX.out HNY.out) (by simp; omega) (by simp; omega) (by have := HB4.out; simp; omega) ?_
      intro v2 W2 hown2 hg2
      have hown3 : OwnP W2 base 47 v2 (m.ring ++ [(x, y)]) := ownP_snoc hown2
      obtain ⟨A2, c2, rfl⟩ := own_slice hown3
      have hbq : Below base w4 W2 := ((Below.drew (Below.refl _ _)).alloc (by have := HB4.out; simp; omega) _).grown hg2 (by have := HB4.out; simp; omega) (fun j hj => (World.ownsRow.lt HO4.out j hj).1)
      have g5 := g4.below hbq h2
      have b5 := Blk.grown ((p4.drewN 1).alloc _) hg2 (fun e => by have h1 := (World.ownsRow.lt HO.out _ e.symm).2; have h2 := HBX.out; omega)
      have s6 : W2.cell? ⟨gm, 6, none⟩ = some rv := g5.cell 6
      have sf6 := g5.free 6
      have s0 := b5.c20
      have s1 := b5.c21
      have hT3 : W2.cell? ⟨bx, 0, none⟩ = some (.int .i64 x) ∧ W2.cell? ⟨bx, 1, none⟩ = some (.int .i64 y) := ⟨s0, s1⟩
      have hT4 := fun v => box_set hT3 hbn 6 v
      refine hK.out _ _ (by first | exact HT1.out | exact HT2.out | exact HT2b.out | exact hT3 | exact hT4 _) (fun hH => ?_)
      clear hK K
      try simp (config := { failIfUnchanged := false }) only [Act.put, List.setIfInBounds_toArray, List.set_cons_zero, List.set_cons_succ, List.getElem_toArray, List.getElem_cons_zero, List.getElem_cons_succ]
      refine take_run (i := 9) (v := ?_) (by decide) (by kernel_rfl) (by kernel_rfl) (by kernel_rfl) (fun _ _ _ _ h => h) hH rfl ?_ ?_
      rotate_left
      · (intro w hSw; (try dsimp only at hSw); (try go_split_ands); simp only [List.getElem_toArray, List.getElem_cons_zero, List.getElem_cons_succ]; go_simp; try with_reducible rfl)
      try simp (config := { failIfUnchanged := false }) only [Act.put, List.setIfInBounds_toArray, List.set_cons_zero, List.set_cons_succ, List.getElem_toArray, List.getElem_cons_zero, List.getElem_cons_succ]
      refine take_run (i := 10) (v := ?_) (by decide) (by kernel_rfl) (by kernel_rfl) (by kernel_rfl) (fun _ _ _ _ h => h) hH rfl ?_ ?_
      rotate_left
      · (intro w hSw; (try dsimp only at hSw); (try go_split_ands); simp only [List.getElem_toArray, List.getElem_cons_zero, List.getElem_cons_succ]; go_simp; try with_reducible rfl)
      try simp (config := { failIfUnchanged := false }) only [Act.put, List.setIfInBounds_toArray, List.set_cons_zero, List.set_cons_succ, List.getElem_toArray, List.getElem_cons_zero, List.getElem_cons_succ]
      refine take_call (i := 11) (by decide) (by kernel_rfl) (fun K hK => ?_)
      simp only [List.getElem_toArray, List.getElem_cons_zero, List.getElem_cons_succ]
      go_simp
      refine hK.out _ _ (by first | exact HT1.out | exact HT2.out | exact HT2b.out | exact hT3 | exact hT4 _) (fun hH => ?_)
      clear hK K
      try simp (config := { failIfUnchanged := false }) only [Act.put, List.setIfInBounds_toArray, List.set_cons_zero, List.set_cons_succ, List.getElem_toArray, List.getElem_cons_zero, List.getElem_cons_succ]
      refine wpAnyH_done (by kernel_rfl) ?_ _
    rotate_left 1
    focus
      simp only [List.getElem_toArray, List.getElem_cons_zero, List.getElem_cons_succ]
      go_simp
      refine hK.out _ _ (by first | exact HT1.out | exact HT2.out | exact HT2b.out | exact hT3 | exact hT4 _) (fun hH => ?_)
      clear hK K
      try simp (config := { failIfUnchanged := false }) only [Act.put, List.setIfInBounds_toArray, List.set_cons_zero, List.set_cons_succ, List.getElem_toArray, List.getElem_cons_zero, List.getElem_cons_succ]
      refine take_call (i := 4) (by decide) (by kernel_rfl) (fun K hK => ?_)
      simp only [List.getElem_toArray, List.getElem_cons_zero, List.getElem_cons_succ]
      go_simp
      refine hK.out _ _ (by first | exact HT1.out | exact HT2.out | exact HT2b.out | exact hT3 | exact hT4 _) (fun hH => ?_)
      clear hK K
      try simp (config := { failIfUnchanged := false }) only [Act.put, List.setIfInBounds_toArray, List.set_cons_zero, List.set_cons_succ, List.getElem_toArray, List.getElem_cons_zero, List.getElem_cons_succ]
      refine take_call (i := 8) (by decide) (by kernel_rfl) (fun K hK => ?_)
      refine step_append_flat flat_pr (by rfl) _ _ _ (by rfl) base 47 i0 (.agg #[.int .i64 0, .int .i64 0]) 16 Tryd.underlying54 hinf hz0 hz1 hz2 rfl rv _ _ (by rfl) (World.ownsRow.alloc (own_below HO4.out (Below.drew (Below.refl _ _))) _) [(x, y)] (by rfl) (nc_pr_one_rep (Blk.new _ 47 #[.int .i64 x, .int .i64 y]) HNX.out HNY.out) (by simp; omega) (by simp; omega) (by have := HB4.out; simp; omega) ?_
      intro v2 W2 hown2 hg2
      have hown3 : OwnP W2 base 47 v2 (m.ring ++ [(x, y)]) := ownP_snoc hown2
      obtain ⟨A2, c2, rfl⟩ := own_slice hown3
      have hbq : Below base w4 W2 := ((Below.drew (Below.refl _ _)).alloc (by have := HB4.out; simp; omega) _).grown hg2 (by have := HB4.out; simp; omega) (fun j hj => (World.ownsRow.lt HO4.out j hj).1)
      have g5 := g4.below hbq h2
      have b5 := Blk.grown ((p4.drewN 1).alloc _) hg2 (fun e => by have h1 := (World.ownsRow.lt HO.out _ e.symm).2; have h2 := HBX.out; omega)
      have s6 : W2.cell? ⟨gm, 6, none⟩ = some rv := g5.cell 6
      have sf6 := g5.free 6
      have s0 := b5.c20
      have s1 := b5.c21
      have hT3 : W2.cell? ⟨bx, 0, none⟩ = some (.int .i64 x) ∧ W2.cell? ⟨bx, 1, none⟩ = some (.int .i64 y) := ⟨s0, s1⟩
      have hT4 := fun v => box_set hT3 hbn 6 v
      refine hK.out _ _ (by first | exact HT1.out | exact HT2.out | exact HT2b.out | exact hT3 | exact hT4 _) (fun hH => ?_)
      clear hK K
      try simp (config := { failIfUnchanged := false }) only [Act.put, List.setIfInBounds_toArray, List.set_cons_zero, List.set_cons_succ, List.getElem_toArray, List.getElem_cons_zero, List.getElem_cons_succ]
      refine take_run (i := 9) (v := ?_) (by decide) (by kernel_rfl) (by kernel_rfl) (by kernel_rfl) (fun _ _ _ _ h => h) hH rfl ?_ ?_
      rotate_left
      · (intro w hSw; (try dsimp only at hSw); (try go_split_ands); simp only [List.getElem_toArray, List.getElem_cons_zero, List.getElem_cons_succ]; go_simp; try with_reducible rfl)
      try simp (config := { failIfUnchanged := false }) only [Act.put, List.setIfInBounds_toArray, List.set_cons_zero, List.set_cons_succ, List.getElem_toArray, List.getElem_cons_zero, List.getElem_cons_succ]
      refine take_run (i := 10) (v := ?_) (by decide) (by kernel_rfl) (by kernel_rfl) (by kernel_rfl) (fun _ _ _ _ h => h) hH rfl ?_ ?_
      rotate_left
      · (intro w hSw; (try dsimp only at hSw); (try go_split_ands); simp only [List.getElem_toArray, List.getElem_cons_zero, List.getElem_cons_succ]; go_simp; try with_reducible rfl)
      try simp (config := { failIfUnchanged := false }) only [Act.put, List.setIfInBounds_toArray, List.set_cons_zero, List.set_cons_succ, List.getElem_toArray, List.getElem_cons_zero, List.getElem_cons_succ]
      refine take_call (i := 11) (by decide) (by kernel_rfl) (fun K hK => ?_)
      simp only [List.getElem_toArray, List.getElem_cons_zero, List.getElem_cons_succ]
      go_simp
      refine hK.out _ _ (by first | exact HT1.out | exact HT2.out | exact HT2b.out | exact hT3 | exact hT4 _) (fun hH => ?_)
      clear hK K
      try simp (config := { failIfUnchanged := false }) only [Act.put, List.setIfInBounds_toArray, List.set_cons_zero, List.set_cons_succ, List.getElem_toArray, List.getElem_cons_zero, List.getElem_cons_succ]
      refine wpAnyH_done (by kernel_rfl) ?_ _
    all_goals
      go_wp2
      go_ret
      rw [HDO.out]
      refine ⟨rfl, ?_, ?_⟩
      · have hl2 : (m.ring ++ [(x, y)]).length = m.ring.length + 1 := by simp
        rw [hl2] at hown3
        refine ⟨⟨.slice A2 (m.ring.length + 1) c2, rsv, base, ?_, h2, ?_, ?_, fun _ => ?_⟩⟩
        · have hB := g5.set_ 6 (.slice A2 (m.ring.length + 1) c2)
          simp only [HMV.out, HL.out]
          exact hB
        · have h1 := HB4.out
          have h2 := hbq.size
          simp [World.setCell]
          omega
        · exact HH.out.keep (fun i hi hib => (Below.heap_setCell W2 ⟨gm, 6, none⟩ _ i (by show i ≠ gm; omega)).trans ((hbq.block i hib).trans (hk4 i (by omega) (by omega))))
        · exact own_keep hown3 (fun g hg => Below.heap_setCell W2 ⟨gm, 6, none⟩ _ g (by show g ≠ gm; have := (World.ownsRow.lt hown3 g hg).1; omega))
      · exact (hbg4.trans (hbq.mono (Nat.le_of_lt h2))).setCell (p := ⟨gm, 6, none⟩) (Nat.le_refl _) _
end Go.Proofs.YthfnncnmggkfaaaDoor
