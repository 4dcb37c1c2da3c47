/- Chapter 26: Best of at most nine contours, by walking the program's text. -/
import Derived.Test.YtpefmbjaolcapaaTorPick
import Derived.Test.YtpefmbjaolcapaaTorRg
import Derived.IntWalk
import Derived.Deep.AppendLies
import Derived.Deep.RegionLaw
import Derived.StillTailTactics
import Derived.Test.YtpefmbjaolcapaaAppend
set_option linter.unusedSimpArgs false
namespace Go.Proofs.Ytpefmbjaolcapaa
open Go Go.RowKit

theorem pr_one_rep {w : World} {g : Nat} {t : TypeId} {x y : Int} (h : Blk w g t #[.int .i64 x, .int .i64 y]) (hx : inI64 x) (hy : inI64 y) : prR.slice.R w (Lt w) [(x, y)] [.slice (some ⟨g, 0, none⟩) 1 1] :=
  ⟨some ⟨g, 0, none⟩, 1, rfl, Nat.le_refl _, by unfold maxLen; omega, fun k hk => by
    have hk0 : k = 0 := by simp at hk; exact hk
    subst hk0
    refine ⟨g, 0, [.int .i64 x, .int .i64 y], rfl, h.lt, ⟨[.int .i64 x], [.int .i64 y], rfl, ⟨rfl, hx⟩, ⟨rfl, hy⟩⟩, fun j hj => ?_⟩
    rw [Nat.zero_mul, Nat.add_zero, Nat.zero_add, h.cell]
    simp⟩
theorem pt_info : (Try.prog.info? 28).map (fun i => (i.zero, i.size, i.bytes)) = some (some (.agg #[.int .i64 0, .int .i64 0]), 2, 16) := by kernel_rfl
attribute [local simp] zeroValue_sets zsets_size zsets_ne sets_at0
set_option maxRecDepth 100000 in
set_option maxHeartbeats 2000000 in
theorem best_few (A : Option Addr) (n c : Nat) (shapes : List Shp) (w : World) (hs : shpsR.R w (Lt w) shapes [.slice A n c]) (hS : SmallS shapes) (h9 : (contoursF shapes).length ≤ 9) :
    Calls Try.prog 22 #[.slice A n c] w (BestPost (bestF shapes) w) := by
  have HS := Lib.hid hs
  have HBD := Lib.hid (ct_bd hS)
  obtain ⟨i0, hinf, hz0, hz1, hz2⟩ := info_parts pt_info
  obtain ⟨i1, hinfc, ic0, ic1, ic2⟩ := info_parts ct_info
  go_enter Try.func22, Try.ntmps22
  go_wp2_with fail
  refine (contours_any A n c shapes w hs hS).mono ?_
  rintro en w1 ⟨v, rfl, hown, hb1⟩
  have hv1 := own_prs hown HBD.out
  obtain ⟨A1, c1, rfl⟩ := own_slice hown
  generalize hall : contoursF shapes = all at *
  have HALL := Lib.hid hall
  clear hall hown
  have g0 := (Blk.new w1 66 (zsets.setIfInBounds 0 (.slice A1 all.length c1))).alloc (.cells #[.pointer (some ⟨w1.heap.size, 0, none⟩)] 60)
  have g1 := Blk.new (w1.alloc (.cells (zsets.setIfInBounds 0 (.slice A1 all.length c1)) 66)) 60 #[.pointer (some ⟨w1.heap.size, 0, none⟩)]
  simp only [World.size_alloc] at g1
  have hb2 := (hb1.alloc hb1.size (.cells (zsets.setIfInBounds 0 (.slice A1 all.length c1)) 66)).alloc (by have := hb1.size; simp; omega) (.cells #[.pointer (some ⟨w1.heap.size, 0, none⟩)] 60)
  have hva := Rep.at_ hv1 (((Below.refl w1.heap.size w1).alloc (Nat.le_refl _) (.cells (zsets.setIfInBounds 0 (.slice A1 all.length c1)) 66)).alloc (by simp) (.cells #[.pointer (some ⟨w1.heap.size, 0, none⟩)] 60))
  obtain ⟨w2, hw2⟩ : ∃ w2, w2 = (w1.alloc (.cells (zsets.setIfInBounds 0 (.slice A1 all.length c1)) 66)).alloc (.cells #[.pointer (some ⟨w1.heap.size, 0, none⟩)] 60) := ⟨_, rfl⟩
  go_wp2
  obtain ⟨GS, hGS⟩ : ∃ G, G = w1.heap.size := ⟨_, rfl⟩
  have hva' : prR.slice.R w2 (fun b => b < GS) all [.slice A1 all.length c1] := by rw [hw2, hGS]; exact hva
  have hGs : GS + 1 < w2.heap.size := by rw [hw2, hGS]; simp
  have hGw : w.heap.size ≤ GS := by rw [hGS]; exact hb1.size
  have hb2' : Below w.heap.size w w2 := by rw [hw2]; exact hb2
  rw [← hGS] at g0 g1 hw2
  rw [← hw2] at g0 g1
  rw [← hGS, ← hw2]
  clear hw2 hGS hv1 hva hb1 hb2
  go_loopw [27] (fun i wr => ∃ (k : Nat) (v : Value) (cs : Array Value), k ≤ all.length ∧ i = .int .i64 k ∧ Hid (Fresh all (.slice A1 all.length c1) v cs ∧ ∀ s l, s < 512 → l < 9 → cs[4610 + s * 9 + l]? = some (.bool false)) ∧
      OwnP wr (GS + 2) 28 v ((all.map (beginF shapes)).take k) ∧ Blk wr GS 66 cs ∧ Blk wr (GS + 1) 60 #[.pointer (some ⟨GS, 0, none⟩)] ∧ prR.slice.R wr (fun b => b < GS) all [.slice A1 all.length c1] ∧ GS + 1 < wr.heap.size ∧ Below w.heap.size w wr) (fun i _ => all.length - (intOf i).toNat)
  case atStart => exact ⟨0, _, _, Nat.zero_le _, rfl, ⟨fresh_new all _, fun s l hs hl => by rw [Array.getElem?_setIfInBounds, if_neg (by omega), Nat.add_assoc]; exact zero_bool (by omega)⟩, by rw [List.take_zero]; exact World.ownsRow_nil _ _ _ _, g0, g1, hva', hGs, hb2'⟩
  case round =>
    obtain ⟨k, v, cs, hk, rfl, hfr, hown, hgs, hg5, hva, hGr, hb⟩ := hrel
    by_cases hlt : k < all.length
    · obtain ⟨bb, off, x, y, rfl, hx, hbD, d0, d1, -⟩ := pairs_at hva hlt
      have hki : (k : Int) < (all.length : Int) := by omega
      have k5 := hg5.c0
      have s0 := hgs.cell 0
      have s1 := hgs.cell 1
      rw [(hfr.out.1 []).c0] at s0
      rw [(hfr.out.1 []).c1] at s1
      have hmem : (x, y) ∈ contoursF shapes := by rw [HALL.out]; exact List.mem_of_getElem? hx.out
      have HMEM := Lib.hid hmem
      obtain ⟨bx, by_, hbg⟩ : ∃ bx by_, beginF shapes (x, y) = (bx, by_) := ⟨_, _, rfl⟩
      have HM1 : Hid (prArr (beginF shapes (x, y)) = #[.int .i64 bx, .int .i64 by_]) := by show prArr _ = _; rw [hbg]; rfl
      have HBG := Lib.hid hbg
      clear hmem hbg
      have hwB := (Below.refl wr.heap.size wr).alloc (Nat.le_refl _) (.cells #[.int .i64 x, .int .i64 y] 24)
      obtain ⟨wb, hwb⟩ : ∃ wb, wb = wr.alloc (.cells #[.int .i64 x, .int .i64 y] 24) := ⟨_, rfl⟩
      have hbx := Blk.new wr 24 #[.int .i64 x, .int .i64 y]
      have hownB : OwnP wb (GS + 2) 28 v ((all.map (beginF shapes)).take k) := by rw [hwb]; exact World.ownsRow.alloc hown _
      have hszB : wb.heap.size = wr.heap.size + 1 := by rw [hwb]; simp
      rw [← hwb] at hwB hbx
      have HWB := Lib.hid hwb
      clear hwb
      have hownr := hown
      have hgsB := hgs.below hwB hgs.lt
      have hg5B := hg5.below hwB hg5.lt
      have hbB := bstep hb hb.size hwB
      have t0 := hbx.c20
      have t1 := hbx.c21
      have u5 := hg5B.c0
      have u1 := hgsB.cell 1
      rw [(hfr.out.1 []).c1] at u1
      have uf := hgsB.free 1
      have hne := begin_near HMEM.out
      rw [HBG.out] at hne
      have HNE : Hid (inI64 bx ∧ inI64 by_) := by obtain ⟨⟨n1, n2⟩, n3, n4⟩ := hne; show _ ∧ _; unfold inI64; omega
      have HTL : Hid (((all.map (beginF shapes)).take k).length = k) := by show _ = _; rw [List.length_take, List.length_map]; omega
      have hGw2 : GS + 2 ≤ wb.heap.size := by omega
      clear hne
      go_wp2
      rw [← HWB.out]
      refine wp_region_held_drew (S := (fun W => W.cell? ⟨GS + 1, 0, none⟩ = some (.pointer (some ⟨GS, 0, none⟩)) ∧ W.cell? ⟨wr.heap.size, 0, none⟩ = some (.int .i64 x) ∧ W.cell? ⟨wr.heap.size, 1, none⟩ = some (.int .i64 y))) (by kernel_rfl) (⟨u5, t0, t1⟩) (fun hH => ?_)
      refine take_run (i := 0) (v := ?_) (by decide) (by kernel_rfl) (by kernel_rfl) (by kernel_rfl) (fun _ _ _ _ h => h) hH rfl ?_ ?_
      rotate_left
      · (intro w hSw; (try dsimp only at hSw); (try go_split_ands); simp only [List.getElem_toArray, List.getElem_cons_zero]; go_simp; try with_reducible rfl)
      try simp (config := { failIfUnchanged := false }) only [Act.put, List.setIfInBounds_toArray, List.set_cons_zero, List.set_cons_succ, List.getElem_toArray, List.getElem_cons_zero, List.getElem_cons_succ]
      refine take_run (i := 1) (v := ?_) (by decide) (by kernel_rfl) (by kernel_rfl) (by kernel_rfl) (fun _ _ _ _ h => h) hH rfl ?_ ?_
      rotate_left
      · (intro w hSw; (try dsimp only at hSw); (try go_split_ands); simp only [List.getElem_toArray, List.getElem_cons_zero, List.getElem_cons_succ]; go_simp; try with_reducible rfl)
      try simp (config := { failIfUnchanged := false }) only [Act.put, List.setIfInBounds_toArray, List.set_cons_zero, List.set_cons_succ, List.getElem_toArray, List.getElem_cons_zero, List.getElem_cons_succ]
      refine take_run (i := 2) (v := ?_) (by decide) (by kernel_rfl) (by kernel_rfl) (by kernel_rfl) (fun _ _ _ _ h => h) hH rfl ?_ ?_
      rotate_left
      · (intro w hSw; (try dsimp only at hSw); (try go_split_ands); simp only [List.getElem_toArray, List.getElem_cons_zero, List.getElem_cons_succ]; go_simp; try with_reducible rfl)
      try simp (config := { failIfUnchanged := false }) only [Act.put, List.setIfInBounds_toArray, List.set_cons_zero, List.set_cons_succ, List.getElem_toArray, List.getElem_cons_zero, List.getElem_cons_succ]
      refine take_run (i := 3) (v := ?_) (by decide) (by kernel_rfl) (by kernel_rfl) (by kernel_rfl) (fun _ _ _ _ h => h) hH rfl ?_ ?_
      rotate_left
      · (intro w hSw; (try dsimp only at hSw); (try go_split_ands); simp only [List.getElem_toArray, List.getElem_cons_zero, List.getElem_cons_succ]; go_simp; try with_reducible rfl)
      try simp (config := { failIfUnchanged := false }) only [Act.put, List.setIfInBounds_toArray, List.set_cons_zero, List.set_cons_succ, List.getElem_toArray, List.getElem_cons_zero, List.getElem_cons_succ]
      refine take_run (i := 5) (v := ?_) (by decide) (by kernel_rfl) (by kernel_rfl) (by kernel_rfl) (fun _ _ _ _ h => h) hH rfl ?_ ?_
      rotate_left
      · (intro w hSw; (try dsimp only at hSw); (try go_split_ands); simp only [List.getElem_toArray, List.getElem_cons_zero, List.getElem_cons_succ]; go_simp; try with_reducible rfl)
      try simp (config := { failIfUnchanged := false }) only [Act.put, List.setIfInBounds_toArray, List.set_cons_zero, List.set_cons_succ, List.getElem_toArray, List.getElem_cons_zero, List.getElem_cons_succ]
      refine take_run (i := 6) (v := ?_) (by decide) (by kernel_rfl) (by kernel_rfl) (by kernel_rfl) (fun _ _ _ _ h => h) hH rfl ?_ ?_
      rotate_left
      · (intro w hSw; (try dsimp only at hSw); (try go_split_ands); simp only [List.getElem_toArray, List.getElem_cons_zero, List.getElem_cons_succ]; go_simp; try with_reducible rfl)
      try simp (config := { failIfUnchanged := false }) only [Act.put, List.setIfInBounds_toArray, List.set_cons_zero, List.set_cons_succ, List.getElem_toArray, List.getElem_cons_zero, List.getElem_cons_succ]
      refine take_two (i := 4) (j := 7) (by decide) (by decide) (by kernel_rfl) (fun K hK => ?_) (fun K hK => ?_)
      focus
        simp only [List.getElem_toArray, List.getElem_cons_zero, List.getElem_cons_succ]
        go_simp
        refine hK.out _ _ (by first | exact ⟨u5, t0, t1⟩ | exact ⟨u5', t0', t1'⟩ | exact ⟨u5a, t0a, t1a⟩ | exact ⟨u5'', t0'', t1''⟩ | exact ⟨(hf5 _).c0, (hfx _).c20, (hfx _).c21⟩) (fun hH => ?_)
        clear hK K
        try simp (config := { failIfUnchanged := false }) only [Act.put, List.setIfInBounds_toArray, List.set_cons_zero, List.set_cons_succ, List.getElem_toArray, List.getElem_cons_zero, List.getElem_cons_succ]
        refine take_call (i := 7) (by decide) (by kernel_rfl) (fun K hK => ?_)
        simp only [List.getElem_toArray, List.getElem_cons_zero, List.getElem_cons_succ]
        go_simp
        go_at_call 29
        refine (begin_at A _ c shapes x y _ (Rep.below hs (bstep hbB hbB.size ((Below.refl _ _).drew))) HMEM.out hS).mono ?_
        rintro e W1 ⟨he, hq⟩
        rw [HM1.out] at he
        subst he
        have hSa : Below wb.heap.size wb W1 := bstep ((Below.refl _ _).drew) (Nat.le_refl _) hq
        have hown1 : OwnP W1 (GS + 2) 28 v ((all.map (beginF shapes)).take k) := own_below (own_below hownB ((Below.refl _ _).drew)) hq
        have u5' := (hSa.cell (p := ⟨GS + 1, 0, none⟩) hg5B.lt).trans u5
        have u1' := (hSa.cell (p := ⟨GS, 1, none⟩) hgsB.lt).trans u1
        have hbxb := hbx.below hSa hbx.lt
        have t0' := hbxb.c20
        have t1' := hbxb.c21
        have hgsA := (hgsB.below hSa hgsB.lt).alloc (.cells #[.int .i64 bx, .int .i64 by_] 28)
        have hg5A := (hg5B.below hSa hg5B.lt).alloc (.cells #[.int .i64 bx, .int .i64 by_] 28)
        have hbxA := hbxb.alloc (.cells #[.int .i64 bx, .int .i64 by_] 28)
        have t0a := hbxA.c20
        have t1a := hbxA.c21
        have u5a := hg5A.c0
        have u1a := hgsA.cell 1
        rw [(hfr.out.1 []).c1] at u1a
        refine hK.out _ _ (by first | exact ⟨u5, t0, t1⟩ | exact ⟨u5', t0', t1'⟩ | exact ⟨u5a, t0a, t1a⟩ | exact ⟨u5'', t0'', t1''⟩ | exact ⟨(hf5 _).c0, (hfx _).c20, (hfx _).c21⟩) (fun hH => ?_)
        clear hK K
        try simp (config := { failIfUnchanged := false }) only [Act.put, List.setIfInBounds_toArray, List.set_cons_zero, List.set_cons_succ, List.getElem_toArray, List.getElem_cons_zero, List.getElem_cons_succ]
        refine take_call (i := 8) (by decide) (by kernel_rfl) (fun K hK => ?_)
        simp only [List.getElem_toArray, List.getElem_cons_zero, List.getElem_cons_succ]
        go_simp
        refine hK.out _ _ (by first | exact ⟨u5, t0, t1⟩ | exact ⟨u5', t0', t1'⟩ | exact ⟨u5a, t0a, t1a⟩ | exact ⟨u5'', t0'', t1''⟩ | exact ⟨(hf5 _).c0, (hfx _).c20, (hfx _).c21⟩) (fun hH => ?_)
        clear hK K
        try simp (config := { failIfUnchanged := false }) only [Act.put, List.setIfInBounds_toArray, List.set_cons_zero, List.set_cons_succ, List.getElem_toArray, List.getElem_cons_zero, List.getElem_cons_succ]
        refine take_call (i := 9) (by decide) (by kernel_rfl) (fun K hK => ?_)
        refine step_append_flat flat_pr (by rfl) _ _ _ (by rfl) (GS + 2) 28 i0 (.agg #[.int .i64 0, .int .i64 0]) 16 Try.underlying41 hinf hz0 hz1 hz2 rfl v _ _ (by rfl) (World.ownsRow.alloc hown1 _) [(bx, by_)] (by rfl) (pr_one_rep (Blk.new W1 28 #[.int .i64 bx, .int .i64 by_]) HNE.out.1 HNE.out.2) (by rw [HTL.out]; simp; omega) (by rw [HTL.out]; simp; omega) (by have := hSa.size; simp; omega) ?_
        intro v2 W2 hown2 hg2
        have hown3 : OwnP W2 (GS + 2) 28 v2 ((all.map (beginF shapes)).take k ++ [(bx, by_)]) := ownP_snoc hown2
        obtain ⟨A2, c2, rfl⟩ := own_slice hown3
        have hgs2 := Blk.grown hgsA hg2 (fun e => by have := (World.ownsRow.lt hown1 _ e.symm).1; omega)
        have hg52 := Blk.grown hg5A hg2 (fun e => by have := (World.ownsRow.lt hown1 _ e.symm).1; omega)
        have hbx2 := Blk.grown hbxA hg2 (fun e => by have := (World.ownsRow.lt hownr _ e.symm).2; omega)
        have hfx := fun v => hbx2.far (p := ⟨GS, 1, none⟩) (by show wr.heap.size ≠ GS; omega) v
        have hf5 := fun v => hg52.far (p := ⟨GS, 1, none⟩) (by show GS + 1 ≠ GS; omega) v
        have t0'' := hbx2.c20
        have t1'' := hbx2.c21
        have u5'' := hg52.c0
        have u1'' := hgs2.cell 1
        rw [(hfr.out.1 []).c1] at u1''
        have uf'' := hgs2.free 1
        refine hK.out _ _ (by first | exact ⟨u5, t0, t1⟩ | exact ⟨u5', t0', t1'⟩ | exact ⟨u5a, t0a, t1a⟩ | exact ⟨u5'', t0'', t1''⟩ | exact ⟨(hf5 _).c0, (hfx _).c20, (hfx _).c21⟩) (fun hH => ?_)
        clear hK K
        try simp (config := { failIfUnchanged := false }) only [Act.put, List.setIfInBounds_toArray, List.set_cons_zero, List.set_cons_succ, List.getElem_toArray, List.getElem_cons_zero, List.getElem_cons_succ]
        refine take_run (i := 10) (v := ?_) (by decide) (by kernel_rfl) (by kernel_rfl) (by kernel_rfl) (fun _ _ _ _ h => h) hH rfl ?_ ?_
        rotate_left
        · (intro w hSw; (try dsimp only at hSw); (try go_split_ands); simp only [List.getElem_toArray, List.getElem_cons_zero, List.getElem_cons_succ]; go_simp; try with_reducible rfl)
        try simp (config := { failIfUnchanged := false }) only [Act.put, List.setIfInBounds_toArray, List.set_cons_zero, List.set_cons_succ, List.getElem_toArray, List.getElem_cons_zero, List.getElem_cons_succ]
        refine take_run (i := 11) (v := ?_) (by decide) (by kernel_rfl) (by kernel_rfl) (by kernel_rfl) (fun _ _ _ _ h => h) hH rfl ?_ ?_
        rotate_left
        · (intro w hSw; (try dsimp only at hSw); (try go_split_ands); simp only [List.getElem_toArray, List.getElem_cons_zero, List.getElem_cons_succ]; go_simp; try with_reducible rfl)
        try simp (config := { failIfUnchanged := false }) only [Act.put, List.setIfInBounds_toArray, List.set_cons_zero, List.set_cons_succ, List.getElem_toArray, List.getElem_cons_zero, List.getElem_cons_succ]
        refine take_call (i := 12) (by decide) (by kernel_rfl) (fun K hK => ?_)
        simp only [List.getElem_toArray, List.getElem_cons_zero, List.getElem_cons_succ]
        go_simp
        refine hK.out _ _ (by first | exact ⟨u5, t0, t1⟩ | exact ⟨u5', t0', t1'⟩ | exact ⟨u5a, t0a, t1a⟩ | exact ⟨u5'', t0'', t1''⟩ | exact ⟨(hf5 _).c0, (hfx _).c20, (hfx _).c21⟩) (fun hH => ?_)
        clear hK K
        try simp (config := { failIfUnchanged := false }) only [Act.put, List.setIfInBounds_toArray, List.set_cons_zero, List.set_cons_succ, List.getElem_toArray, List.getElem_cons_zero, List.getElem_cons_succ]
        refine wpAnyH_done (by kernel_rfl) ?_ _
      rotate_left 1
      focus
        simp only [List.getElem_toArray, List.getElem_cons_zero, List.getElem_cons_succ]
        go_simp
        go_at_call 29
        refine (begin_at A _ c shapes x y _ (Rep.below hs (bstep hbB hbB.size ((Below.refl _ _).drew))) HMEM.out hS).mono ?_
        rintro e W1 ⟨he, hq⟩
        rw [HM1.out] at he
        subst he
        have hSa : Below wb.heap.size wb W1 := bstep ((Below.refl _ _).drew) (Nat.le_refl _) hq
        have hown1 : OwnP W1 (GS + 2) 28 v ((all.map (beginF shapes)).take k) := own_below (own_below hownB ((Below.refl _ _).drew)) hq
        have u5' := (hSa.cell (p := ⟨GS + 1, 0, none⟩) hg5B.lt).trans u5
        have u1' := (hSa.cell (p := ⟨GS, 1, none⟩) hgsB.lt).trans u1
        have hbxb := hbx.below hSa hbx.lt
        have t0' := hbxb.c20
        have t1' := hbxb.c21
        have hgsA := (hgsB.below hSa hgsB.lt).alloc (.cells #[.int .i64 bx, .int .i64 by_] 28)
        have hg5A := (hg5B.below hSa hg5B.lt).alloc (.cells #[.int .i64 bx, .int .i64 by_] 28)
        have hbxA := hbxb.alloc (.cells #[.int .i64 bx, .int .i64 by_] 28)
        have t0a := hbxA.c20
        have t1a := hbxA.c21
        have u5a := hg5A.c0
        have u1a := hgsA.cell 1
        rw [(hfr.out.1 []).c1] at u1a
        refine hK.out _ _ (by first | exact ⟨u5, t0, t1⟩ | exact ⟨u5', t0', t1'⟩ | exact ⟨u5a, t0a, t1a⟩ | exact ⟨u5'', t0'', t1''⟩ | exact ⟨(hf5 _).c0, (hfx _).c20, (hfx _).c21⟩) (fun hH => ?_)
        clear hK K
        try simp (config := { failIfUnchanged := false }) only [Act.put, List.setIfInBounds_toArray, List.set_cons_zero, List.set_cons_succ, List.getElem_toArray, List.getElem_cons_zero, List.getElem_cons_succ]
        refine take_two (i := 4) (j := 8) (by decide) (by decide) (by kernel_rfl) (fun K hK => ?_) (fun K hK => ?_)
        focus
          simp only [List.getElem_toArray, List.getElem_cons_zero, List.getElem_cons_succ]
          go_simp
          refine hK.out _ _ (by first | exact ⟨u5, t0, t1⟩ | exact ⟨u5', t0', t1'⟩ | exact ⟨u5a, t0a, t1a⟩ | exact ⟨u5'', t0'', t1''⟩ | exact ⟨(hf5 _).c0, (hfx _).c20, (hfx _).c21⟩) (fun hH => ?_)
          clear hK K
          try simp (config := { failIfUnchanged := false }) only [Act.put, List.setIfInBounds_toArray, List.set_cons_zero, List.set_cons_succ, List.getElem_toArray, List.getElem_cons_zero, List.getElem_cons_succ]
          refine take_call (i := 8) (by decide) (by kernel_rfl) (fun K hK => ?_)
          simp only [List.getElem_toArray, List.getElem_cons_zero, List.getElem_cons_succ]
          go_simp
          refine hK.out _ _ (by first | exact ⟨u5, t0, t1⟩ | exact ⟨u5', t0', t1'⟩ | exact ⟨u5a, t0a, t1a⟩ | exact ⟨u5'', t0'', t1''⟩ | exact ⟨(hf5 _).c0, (hfx _).c20, (hfx _).c21⟩) (fun hH => ?_)
          clear hK K
          try simp (config := { failIfUnchanged := false }) only [Act.put, List.setIfInBounds_toArray, List.set_cons_zero, List.set_cons_succ, List.getElem_toArray, List.getElem_cons_zero, List.getElem_cons_succ]
          refine take_call (i := 9) (by decide) (by kernel_rfl) (fun K hK => ?_)
          refine step_append_flat flat_pr (by rfl) _ _ _ (by rfl) (GS + 2) 28 i0 (.agg #[.int .i64 0, .int .i64 0]) 16 Try.underlying41 hinf hz0 hz1 hz2 rfl v _ _ (by rfl) (World.ownsRow.alloc hown1 _) [(bx, by_)] (by rfl) (pr_one_rep (Blk.new W1 28 #[.int .i64 bx, .int .i64 by_]) HNE.out.1 HNE.out.2) (by rw [HTL.out]; simp; omega) (by rw [HTL.out]; simp; omega) (by have := hSa.size; simp; omega) ?_
          intro v2 W2 hown2 hg2
          have hown3 : OwnP W2 (GS + 2) 28 v2 ((all.map (beginF shapes)).take k ++ [(bx, by_)]) := ownP_snoc hown2
          obtain ⟨A2, c2, rfl⟩ := own_slice hown3
          have hgs2 := Blk.grown hgsA hg2 (fun e => by have := (World.ownsRow.lt hown1 _ e.symm).1; omega)
          have hg52 := Blk.grown hg5A hg2 (fun e => by have := (World.ownsRow.lt hown1 _ e.symm).1; omega)
          have hbx2 := Blk.grown hbxA hg2 (fun e => by have := (World.ownsRow.lt hownr _ e.symm).2; omega)
          have hfx := fun v => hbx2.far (p := ⟨GS, 1, none⟩) (by show wr.heap.size ≠ GS; omega) v
          have hf5 := fun v => hg52.far (p := ⟨GS, 1, none⟩) (by show GS + 1 ≠ GS; omega) v
          have t0'' := hbx2.c20
          have t1'' := hbx2.c21
          have u5'' := hg52.c0
          have u1'' := hgs2.cell 1
          rw [(hfr.out.1 []).c1] at u1''
          have uf'' := hgs2.free 1
          refine hK.out _ _ (by first | exact ⟨u5, t0, t1⟩ | exact ⟨u5', t0', t1'⟩ | exact ⟨u5a, t0a, t1a⟩ | exact ⟨u5'', t0'', t1''⟩ | exact ⟨(hf5 _).c0, (hfx _).c20, (hfx _).c21⟩) (fun hH => ?_)
          clear hK K
          try simp (config := { failIfUnchanged := false }) only [Act.put, List.setIfInBounds_toArray, List.set_cons_zero, List.set_cons_succ, List.getElem_toArray, List.getElem_cons_zero, List.getElem_cons_succ]
          refine take_run (i := 10) (v := ?_) (by decide) (by kernel_rfl) (by kernel_rfl) (by kernel_rfl) (fun _ _ _ _ h => h) hH rfl ?_ ?_
          rotate_left
          · (intro w hSw; (try dsimp only at hSw); (try go_split_ands); simp only [List.getElem_toArray, List.getElem_cons_zero, List.getElem_cons_succ]; go_simp; try with_reducible rfl)
          try simp (config := { failIfUnchanged := false }) only [Act.put, List.setIfInBounds_toArray, List.set_cons_zero, List.set_cons_succ, List.getElem_toArray, List.getElem_cons_zero, List.getElem_cons_succ]
          refine take_run (i := 11) (v := ?_) (by decide) (by kernel_rfl) (by kernel_rfl) (by kernel_rfl) (fun _ _ _ _ h => h) hH rfl ?_ ?_
          rotate_left
          · (intro w hSw; (try dsimp only at hSw); (try go_split_ands); simp only [List.getElem_toArray, List.getElem_cons_zero, List.getElem_cons_succ]; go_simp; try with_reducible rfl)
          try simp (config := { failIfUnchanged := false }) only [Act.put, List.setIfInBounds_toArray, List.set_cons_zero, List.set_cons_succ, List.getElem_toArray, List.getElem_cons_zero, List.getElem_cons_succ]
          refine take_call (i := 12) (by decide) (by kernel_rfl) (fun K hK => ?_)
          simp only [List.getElem_toArray, List.getElem_cons_zero, List.getElem_cons_succ]
          go_simp
          refine hK.out _ _ (by first | exact ⟨u5, t0, t1⟩ | exact ⟨u5', t0', t1'⟩ | exact ⟨u5a, t0a, t1a⟩ | exact ⟨u5'', t0'', t1''⟩ | exact ⟨(hf5 _).c0, (hfx _).c20, (hfx _).c21⟩) (fun hH => ?_)
          clear hK K
          try simp (config := { failIfUnchanged := false }) only [Act.put, List.setIfInBounds_toArray, List.set_cons_zero, List.set_cons_succ, List.getElem_toArray, List.getElem_cons_zero, List.getElem_cons_succ]
          refine wpAnyH_done (by kernel_rfl) ?_ _
        rotate_left 1
        focus
          simp only [List.getElem_toArray, List.getElem_cons_zero, List.getElem_cons_succ]
          go_simp
          refine hK.out _ _ (by first | exact ⟨u5, t0, t1⟩ | exact ⟨u5', t0', t1'⟩ | exact ⟨u5a, t0a, t1a⟩ | exact ⟨u5'', t0'', t1''⟩ | exact ⟨(hf5 _).c0, (hfx _).c20, (hfx _).c21⟩) (fun hH => ?_)
          clear hK K
          try simp (config := { failIfUnchanged := false }) only [Act.put, List.setIfInBounds_toArray, List.set_cons_zero, List.set_cons_succ, List.getElem_toArray, List.getElem_cons_zero, List.getElem_cons_succ]
          refine take_call (i := 4) (by decide) (by kernel_rfl) (fun K hK => ?_)
          simp only [List.getElem_toArray, List.getElem_cons_zero, List.getElem_cons_succ]
          go_simp
          refine hK.out _ _ (by first | exact ⟨u5, t0, t1⟩ | exact ⟨u5', t0', t1'⟩ | exact ⟨u5a, t0a, t1a⟩ | exact ⟨u5'', t0'', t1''⟩ | exact ⟨(hf5 _).c0, (hfx _).c20, (hfx _).c21⟩) (fun hH => ?_)
          clear hK K
          try simp (config := { failIfUnchanged := false }) only [Act.put, List.setIfInBounds_toArray, List.set_cons_zero, List.set_cons_succ, List.getElem_toArray, List.getElem_cons_zero, List.getElem_cons_succ]
          refine take_call (i := 9) (by decide) (by kernel_rfl) (fun K hK => ?_)
          refine step_append_flat flat_pr (by rfl) _ _ _ (by rfl) (GS + 2) 28 i0 (.agg #[.int .i64 0, .int .i64 0]) 16 Try.underlying41 hinf hz0 hz1 hz2 rfl v _ _ (by rfl) (World.ownsRow.alloc hown1 _) [(bx, by_)] (by rfl) (pr_one_rep (Blk.new W1 28 #[.int .i64 bx, .int .i64 by_]) HNE.out.1 HNE.out.2) (by rw [HTL.out]; simp; omega) (by rw [HTL.out]; simp; omega) (by have := hSa.size; simp; omega) ?_
          intro v2 W2 hown2 hg2
          have hown3 : OwnP W2 (GS + 2) 28 v2 ((all.map (beginF shapes)).take k ++ [(bx, by_)]) := ownP_snoc hown2
          obtain ⟨A2, c2, rfl⟩ := own_slice hown3
          have hgs2 := Blk.grown hgsA hg2 (fun e => by have := (World.ownsRow.lt hown1 _ e.symm).1; omega)
          have hg52 := Blk.grown hg5A hg2 (fun e => by have := (World.ownsRow.lt hown1 _ e.symm).1; omega)
          have hbx2 := Blk.grown hbxA hg2 (fun e => by have := (World.ownsRow.lt hownr _ e.symm).2; omega)
          have hfx := fun v => hbx2.far (p := ⟨GS, 1, none⟩) (by show wr.heap.size ≠ GS; omega) v
          have hf5 := fun v => hg52.far (p := ⟨GS, 1, none⟩) (by show GS + 1 ≠ GS; omega) v
          have t0'' := hbx2.c20
          have t1'' := hbx2.c21
          have u5'' := hg52.c0
          have u1'' := hgs2.cell 1
          rw [(hfr.out.1 []).c1] at u1''
          have uf'' := hgs2.free 1
          refine hK.out _ _ (by first | exact ⟨u5, t0, t1⟩ | exact ⟨u5', t0', t1'⟩ | exact ⟨u5a, t0a, t1a⟩ | exact ⟨u5'', t0'', t1''⟩ | exact ⟨(hf5 _).c0, (hfx _).c20, (hfx _).c21⟩) (fun hH => ?_)
          clear hK K
          try simp (config := { failIfUnchanged := false }) only [Act.put, List.setIfInBounds_toArray, List.set_cons_zero, List.set_cons_succ, List.getElem_toArray, List.getElem_cons_zero, List.getElem_cons_succ]
          refine take_run (i := 10) (v := ?_) (by decide) (by kernel_rfl) (by kernel_rfl) (by kernel_rfl) (fun _ _ _ _ h => h) hH rfl ?_ ?_
          rotate_left
          · (intro w hSw; (try dsimp only at hSw); (try go_split_ands); simp only [List.getElem_toArray, List.getElem_cons_zero, List.getElem_cons_succ]; go_simp; try with_reducible rfl)
          try simp (config := { failIfUnchanged := false }) only [Act.put, List.setIfInBounds_toArray, List.set_cons_zero, List.set_cons_succ, List.getElem_toArray, List.getElem_cons_zero, List.getElem_cons_succ]
          refine take_run (i := 11) (v := ?_) (by decide) (by kernel_rfl) (by kernel_rfl) (by kernel_rfl) (fun _ _ _ _ h => h) hH rfl ?_ ?_
          rotate_left
          · (intro w hSw; (try dsimp only at hSw); (try go_split_ands); simp only [List.getElem_toArray, List.getElem_cons_zero, List.getElem_cons_succ]; go_simp; try with_reducible rfl)
          try simp (config := { failIfUnchanged := false }) only [Act.put, List.setIfInBounds_toArray, List.set_cons_zero, List.set_cons_succ, List.getElem_toArray, List.getElem_cons_zero, List.getElem_cons_succ]
          refine take_call (i := 12) (by decide) (by kernel_rfl) (fun K hK => ?_)
          simp only [List.getElem_toArray, List.getElem_cons_zero, List.getElem_cons_succ]
          go_simp
          refine hK.out _ _ (by first | exact ⟨u5, t0, t1⟩ | exact ⟨u5', t0', t1'⟩ | exact ⟨u5a, t0a, t1a⟩ | exact ⟨u5'', t0'', t1''⟩ | exact ⟨(hf5 _).c0, (hfx _).c20, (hfx _).c21⟩) (fun hH => ?_)
          clear hK K
          try simp (config := { failIfUnchanged := false }) only [Act.put, List.setIfInBounds_toArray, List.set_cons_zero, List.set_cons_succ, List.getElem_toArray, List.getElem_cons_zero, List.getElem_cons_succ]
          refine wpAnyH_done (by kernel_rfl) ?_ _
      all_goals
        have hGe : Below GS wr W2 := ((bstep (bstep (Below.refl GS wr) (by omega) hwB) (by omega) hSa).alloc (by have := hSa.size; omega) (.cells #[.int .i64 bx, .int .i64 by_] 28)).grown hg2 (by have := hSa.size; simp; omega) (fun j hj => by have := (World.ownsRow.lt hown1 j hj).1; omega)
        have hwe : Below w.heap.size w W2 := ((bstep hbB hbB.size hSa).alloc (by have := hSa.size; have := hbB.size; omega) (.cells #[.int .i64 bx, .int .i64 by_] 28)).grown hg2 (by have := hSa.size; have := hbB.size; simp; omega) (fun j hj => by have := (World.ownsRow.lt hown1 j hj).1; omega)
        have htk : (all.map (beginF shapes)).take (k + 1) = (all.map (beginF shapes)).take k ++ [(bx, by_)] := by
          rw [← HBG.out]; exact take_one (by rw [List.getElem?_map, hx.out]; rfl)
        have hGf := hGe.setCell (p := ⟨GS, 1, none⟩) (Nat.le_refl _)
        have hlen : ((all.map (beginF shapes)).take k ++ [(bx, by_)]).length = k + 1 := by rw [List.length_append, HTL.out]; rfl
        rw [hlen] at hown3
        go_wp2
        go_roundw
        case rel =>
          refine ⟨k + 1, _, _, hlt, by go_num, ⟨fresh_set hfr.out.1 hfr.out.2, fun s l hs hl => ?_⟩, by rw [htk]; exact own_far (p := ⟨GS, 1, none⟩) hown3 (by show GS < GS + 2; omega) _, hgs2.set_ 1 _, hf5 _, Rep.keep _ (fun i (hi : i < GS) => (hGf _).block i hi) hva, by have := hGe.size; simp [World.setCell]; omega, hwe.setCell hGw _⟩
          rw [Array.getElem?_setIfInBounds, if_neg (by omega)]
          exact hfr.out.2 s l hs hl
        case measure => simp [intOf]; omega
    · obtain rfl : k = all.length := by omega
      rw [show (all.map (beginF shapes)).take all.length = startsF shapes by rw [List.take_of_length_le (by simp)]; unfold startsF; rw [HALL.out]] at hown
      have HF : Hid (Fine all (startsF shapes)) := by
        refine ⟨?_, h9, ?_, ?_⟩
        · rw [← HALL.out]; exact contours_nodup shapes
        · unfold startsF; rw [HALL.out, List.length_map]
        · intro p hp
          unfold startsF at hp
          obtain ⟨cc, h1, rfl⟩ := List.mem_map.1 hp
          exact begin_near h1
      have hpn : ∀ x ∈ startsF shapes, inI64 x.1 ∧ inI64 x.2 := fun x hx => by
        obtain ⟨⟨n1, n2⟩, n3, n4⟩ := HF.out.near x hx
        unfold inI64; omega
      have hrp := own_prsD hown hpn
      obtain ⟨B, d, rfl⟩ := own_slice hown
      have hbe : bestF shapes = ((bestRun all (ptAt (startsF shapes)) all.length 0 (0, 0)).map (fun k => all.getD k default), runCost (ptAt (startsF shapes)) (0, 0) (bestRun all (ptAt (startsF shapes)) all.length 0 (0, 0)), 0) := by
        unfold bestF; rw [HALL.out, if_neg (by omega)]
      have HBE := Lib.hid hbe
      clear hbe hpn
      generalize hpts : startsF shapes = pts at *
      have hch : CH GS wr.heap.size A1 B c1 d all pts 0 (0, 0) ((wr.alloc (.cells #[.int .i64 0, .int .i64 0] 28)).alloc (.cells #[.int .i64 0] 3)) := by
        have hw1 := (Below.refl wr.heap.size wr).alloc (Nat.le_refl _) (.cells #[.int .i64 0, .int .i64 0] 28)
        have hw2 := hw1.alloc hw1.size (.cells #[.int .i64 0] 3)
        have b9 := Blk.new (wr.alloc (.cells #[.int .i64 0, .int .i64 0] 28)) 3 #[.int .i64 0]
        simp only [World.size_alloc] at b9
        exact { blk := ⟨cs, hgs.below hw2 hgs.lt, hfr.out.1 pts⟩
                ra := Rep.keep _ (fun i (hi : i < GS) => hw2.block i (by omega)) hva
                rp := Rep.keep _ (fun i (hi : GS + 2 ≤ i ∧ i < wr.heap.size) => hw2.block i (by omega)) hrp
                b5 := hg5.below hw2 hg5.lt
                b8 := (Blk.new wr 28 #[.int .i64 0, .int .i64 0]).alloc _
                b9 := b9
                big := by omega }
      have hbw := (hb.alloc hb.size (.cells #[.int .i64 0, .int .i64 0] 28)).alloc (by have := hb.size; simp; omega) (.cells #[.int .i64 0] 3)
      have k5 := hch.b5.c0
      have s0 : ((wr.alloc (.cells #[.int .i64 0, .int .i64 0] 28)).alloc (.cells #[.int .i64 0] 3)).cell? ⟨GS, 0, none⟩ = some (.slice A1 all.length c1) := by
        obtain ⟨cs', h1, h2⟩ := hch.blk
        rw [h1.cell 0]; exact h2.c0
      go_wp2
      obtain ⟨w3, hw3⟩ : ∃ w3, w3 = (wr.alloc (.cells #[.int .i64 0, .int .i64 0] 28)).alloc (.cells #[.int .i64 0] 3) := ⟨_, rfl⟩
      obtain ⟨g8, hg8⟩ : ∃ g8, g8 = wr.heap.size := ⟨_, rfl⟩
      rw [← hw3, ← hg8] at hch
      rw [← hw3] at hbw
      rw [← hw3, ← hg8]
      have hgw : w.heap.size ≤ g8 := by rw [hg8]; exact hb.size
      clear hw3 hg8 k5 s0 hb hva hrp hown hg5 hgs hfr hGr hva' hb2' g0 g1 hGs
      clear wr w2
      go_loopw [2, 3, 49] (fun o t i W => ∃ (k s : Nat) (a : Pt) (r : List Nat) (tt : Int), k ≤ all.length ∧ i = .int .i64 k ∧ t = .int .i64 tt ∧ Hid (RunAt all (ptAt pts) k s a r tt) ∧ OwnP W (g8 + 2) 24 o (r.map fun k => all.getD k default) ∧ CH GS g8 A1 B c1 d all pts s a W ∧ Below w.heap.size w W) (fun _ _ i _ => all.length - (intOf i).toNat)
      case atStart => exact ⟨0, 0, (0, 0), [], 0, Nat.zero_le _, rfl, rfl, RunAt.new, World.ownsRow_nil _ _ _ _, hch, hbw⟩
      case round =>
        obtain ⟨k, s, ⟨px, py⟩, r, tt, hk, rfl, rfl, hrun, hown, hch, hb⟩ := hrel
        by_cases hlt : k < all.length
        · obtain ⟨hpl, hmay, hnext⟩ := hrun.out.step HF.out.nd HF.out.n9 (fun j hj => HF.out.at_ hj) hlt rfl
          have hki : (k : Int) < (all.length : Int) := by omega
          have HI0 := Lib.hid (hch.start (all.length - k - 1))
          have HK := Lib.hid (keepsB_of (A := A1) (B := B) (c := c1) (d := d) (f := all.length - k - 1) HF.out hch.apart hrun.out.set hrun.out.near (by rw [hrun.out.card]; omega))
          have k5 := hch.b5.c0
          have k9 := hch.b9.c0
          have k5' : ((wr.alloc (.cells #[.int .i64 (-1)] 3)).alloc (.cells #[.int .i64 0] 3)).cell? ⟨GS + 1, 0, none⟩ = _ := (hch.b5.below w0_below hch.b5.lt).c0
          have k9' : ((wr.alloc (.cells #[.int .i64 (-1)] 3)).alloc (.cells #[.int .i64 0] 3)).cell? ⟨g8 + 1, 0, none⟩ = _ := (hch.b9.below w0_below hch.b9.lt).c0
          generalize hp : pickTo all (ptAt pts) (all.length - k - 1) s (px, py) all.length = p at *
          have HP := Lib.hid hp
          clear hp
          go_wp2_with fail
          have hNX := nextB_any _ GS A1 c1 all s _ _ _ _ HK.out (W0 wr) HI0.out HF.out.nd HF.out.n9 hrun.out.set
          refine hNX.mono ?_
          rintro en w4 ⟨rfl, hk4, hI4⟩
          have hch4 := hch.over hk4 hI4
          have b11 := hI4.b11
          rw [HP.out] at b11
          have b11lt := b11.lt
          have hb4 : Below w.heap.size w w4 := below_of_kept (bstep hb hb.size w0_below) hk4 (by have := w0_size (w := wr); have := hb.size; omega) ⟨by omega, by have := hb.size; omega, by have := hb.size; omega⟩
          have hown4 : OwnP w4 (g8 + 2) 24 u2 (r.map fun k => all.getD k default) := own_over hown hk4 (by have := hch.big; omega)
          obtain ⟨b2, off2, qx, qy, rfl, hy, hbD, d0, d1, -⟩ := pairs_at hch4.rp (k := p) (by rw [HF.out.len]; exact hpl)
          have HQ : Hid (ptAt pts p = (qx, qy)) := getD_at hy.out
          have hb2g : b2 < g8 := hbD.2
          obtain ⟨b1, off1, cx, cy, rfl, hc1, hcD, e0, e1, -⟩ := pairs_at hch4.ra (k := p) hpl
          have HC : Hid (all.getD p default = (cx, cy)) := getD_at hc1.out
          rw [HQ.out] at hnext
          have s4 : w4.cell? ⟨GS, 1, none⟩ = some (.slice (some ⟨b2, off2, none⟩) pts.length d) := by
            obtain ⟨cs', h1, h2⟩ := hch4.blk
            rw [h1.cell 1]; exact h2.c1
          have m5 := hch4.b5.c0
          have m8 := hch4.b8.c20
          have m81 := hch4.b8.c21
          have m11 := b11.c0
          have hpp : (p : Int) < (pts.length : Int) := by have := HF.out.len; omega
          have HNP : Hid (Near (px, py)) := hrun.out.near
          have HNQ : Hid (Near (qx, qy)) := by show Near _; rw [← HQ.out]; exact HF.out.at_ hpl
          have hmv := move_bd hrun.out.near (show Near (qx, qy) by rw [← HQ.out]; exact HF.out.at_ hpl)
          have hsum : IntKind.i64.wrap (tt + moveF (px, py) (qx, qy)) = tt + moveF (px, py) (qx, qy) := IntWalk.i64_in _ (by have := hrun.out.pos; have := hrun.out.bd; have := HF.out.n9; omega)
          have HCS : Hid (∀ W, Below w4.heap.size w4 W → Below w4.heap.size w4 W ∧ W.cell? ⟨GS + 1, 0, none⟩ = some (.pointer (some ⟨GS, 0, none⟩)) ∧ W.cell? ⟨GS, 1, none⟩ = some (.slice (some ⟨b2, off2, none⟩) pts.length d) ∧ W.cell? ⟨g8, 0, none⟩ = some (.int .i64 px) ∧ W.cell? ⟨g8, 1, none⟩ = some (.int .i64 py) ∧ W.cell? ⟨wr.heap.size + 1, 0, none⟩ = some (.int .i64 p) ∧ W.cell? ⟨b2, off2 + p * 2, none⟩ = some (.int .i64 qx) ∧ W.cell? ⟨b2, off2 + p * 2 + 1, none⟩ = some (.int .i64 qy)) := fun W h =>
            ⟨h, bget h m5, bget h s4, bget h m8, bget h m81, bget h m11, bget h d0, bget h d1⟩
          have HD1 : Hid (Below w4.heap.size w4 w4.drew) := (Below.refl _ _).drew
          go_wp2
          go_region_held3 (fun W => Below w4.heap.size w4 W ∧ W.cell? ⟨GS + 1, 0, none⟩ = some (.pointer (some ⟨GS, 0, none⟩)) ∧ W.cell? ⟨GS, 1, none⟩ = some (.slice (some ⟨b2, off2, none⟩) pts.length d) ∧ W.cell? ⟨g8, 0, none⟩ = some (.int .i64 px) ∧ W.cell? ⟨g8, 1, none⟩ = some (.int .i64 py) ∧ W.cell? ⟨wr.heap.size + 1, 0, none⟩ = some (.int .i64 p) ∧ W.cell? ⟨b2, off2 + p * 2, none⟩ = some (.int .i64 qx) ∧ W.cell? ⟨b2, off2 + p * 2 + 1, none⟩ = some (.int .i64 qy))
            (first
              | exact HCS.out _ HD1.out
              | exact HCS.out _ hSa)
            (first
              | ((go_at_call 35
                  go_split_ands
                  (with_reducible refine (move_at px py qx qy _ HNP.out HNQ.out).mono ?_)
                  rintro en W1 ⟨he, hq⟩
                  subst he
                  have hSa : Below w4.heap.size w4 W1 := bstep (by assumption) (Below.size (by assumption)) hq)))
          all_goals
            have hch5 := hch4.below hSa
            have n5 := hch5.b5.c0
            have n8 := hch5.b8.c20
            have n81 := hch5.b8.c21
            have n9 := hch5.b9.c0
            have f8 := hch5.b8.free
            have f9 := hch5.b9.free
            have b11' := b11.below hSa b11.lt
            have n11 := b11'.c0
            have s5 := bget hSa s4
            have d5 := bget hSa d0
            have d51 := bget hSa d1
            have e5 := bget hSa e0
            have e51 := bget hSa e1
            have hor := or_at (s := s) (k := p) hrun.out.set (by have := HF.out.n9; omega)
            have hkw : IntKind.i64.wrap ((2 : Int) ^ p) = 2 ^ p := pow_wrap (by have := HF.out.n9; omega)
            have HKS : Hid (∀ W, Kept g8 g8 (g8 + 1) W1 W → W.cell? ⟨GS + 1, 0, none⟩ = some (.pointer (some ⟨GS, 0, none⟩)) ∧ W.cell? ⟨GS, 1, none⟩ = some (.slice (some ⟨b2, off2, none⟩) pts.length d) ∧ W.cell? ⟨wr.heap.size + 1, 0, none⟩ = some (.int .i64 p) ∧ W.cell? ⟨b2, off2 + p * 2, none⟩ = some (.int .i64 qx) ∧ W.cell? ⟨b2, off2 + p * 2 + 1, none⟩ = some (.int .i64 qy)) := fun W hk =>
              ⟨hk.cell n5 ⟨by have := hch.big; show GS + 1 ≠ g8; omega, by have := hch.big; show GS + 1 ≠ g8; omega, by have := hch.big; show GS + 1 ≠ g8 + 1; omega⟩, hk.cell s5 ⟨by have := hch.big; show GS ≠ g8; omega, by have := hch.big; show GS ≠ g8; omega, by have := hch.big; show GS ≠ g8 + 1; omega⟩,
                hk.cell n11 ⟨by have := hch.lt; show wr.heap.size + 1 ≠ g8; omega, by have := hch.lt; show wr.heap.size + 1 ≠ g8; omega, by have := hch.lt; show wr.heap.size + 1 ≠ g8 + 1; omega⟩,
                hk.cell d5 ⟨by show b2 ≠ g8; omega, by show b2 ≠ g8; omega, by show b2 ≠ g8 + 1; omega⟩, hk.cell d51 ⟨by show b2 ≠ g8; omega, by show b2 ≠ g8; omega, by show b2 ≠ g8 + 1; omega⟩⟩
            have HKD : Hid (Kept g8 g8 (g8 + 1) W1 W1.drew) := Kept.of ((Below.refl _ _).drew)
            go_wp2
            refine wp_region_held_drew (S := (fun W => W.cell? ⟨GS + 1, 0, none⟩ = some (.pointer (some ⟨GS, 0, none⟩)) ∧ W.cell? ⟨GS, 1, none⟩ = some (.slice (some ⟨b2, off2, none⟩) pts.length d) ∧ W.cell? ⟨wr.heap.size + 1, 0, none⟩ = some (.int .i64 p) ∧ W.cell? ⟨b2, off2 + p * 2, none⟩ = some (.int .i64 qx) ∧ W.cell? ⟨b2, off2 + p * 2 + 1, none⟩ = some (.int .i64 qy))) (by kernel_rfl) (HKS.out _ HKD.out) (fun hH => ?_)
            refine take_run (i := 0) (v := ?_) (by decide) (by kernel_rfl) (by kernel_rfl) (by kernel_rfl) (fun _ _ _ _ h => h) hH rfl ?_ ?_
            rotate_left
            · (intro w hSw; (try dsimp only at hSw); (try go_split_ands); simp only [List.getElem_toArray, List.getElem_cons_zero]; go_simp; try with_reducible rfl)
            try simp (config := { failIfUnchanged := false }) only [Act.put, List.setIfInBounds_toArray, List.set_cons_zero, List.set_cons_succ, List.getElem_toArray, List.getElem_cons_zero, List.getElem_cons_succ]
            refine take_run (i := 1) (v := ?_) (by decide) (by kernel_rfl) (by kernel_rfl) (by kernel_rfl) (fun _ _ _ _ h => h) hH rfl ?_ ?_
            rotate_left
            · (intro w hSw; (try dsimp only at hSw); (try go_split_ands); simp only [List.getElem_toArray, List.getElem_cons_zero, List.getElem_cons_succ]; go_simp; try with_reducible rfl)
            try simp (config := { failIfUnchanged := false }) only [Act.put, List.setIfInBounds_toArray, List.set_cons_zero, List.set_cons_succ, List.getElem_toArray, List.getElem_cons_zero, List.getElem_cons_succ]
            refine take_run (i := 2) (v := ?_) (by decide) (by kernel_rfl) (by kernel_rfl) (by kernel_rfl) (fun _ _ _ _ h => h) hH rfl ?_ ?_
            rotate_left
            · (intro w hSw; (try dsimp only at hSw); (try go_split_ands); simp only [List.getElem_toArray, List.getElem_cons_zero, List.getElem_cons_succ]; go_simp; try with_reducible rfl)
            try simp (config := { failIfUnchanged := false }) only [Act.put, List.setIfInBounds_toArray, List.set_cons_zero, List.set_cons_succ, List.getElem_toArray, List.getElem_cons_zero, List.getElem_cons_succ]
            refine take_run (i := 3) (v := ?_) (by decide) (by kernel_rfl) (by kernel_rfl) (by kernel_rfl) (fun _ _ _ _ h => h) hH rfl ?_ ?_
            rotate_left
            · (intro w hSw; (try dsimp only at hSw); (try go_split_ands); simp only [List.getElem_toArray, List.getElem_cons_zero, List.getElem_cons_succ]; go_simp; try with_reducible rfl)
            try simp (config := { failIfUnchanged := false }) only [Act.put, List.setIfInBounds_toArray, List.set_cons_zero, List.set_cons_succ, List.getElem_toArray, List.getElem_cons_zero, List.getElem_cons_succ]
            refine take_run (i := 4) (v := ?_) (by decide) (by kernel_rfl) (by kernel_rfl) (by kernel_rfl) (fun _ _ _ _ h => h) hH rfl ?_ ?_
            rotate_left
            · (intro w hSw; (try dsimp only at hSw); (try go_split_ands); simp only [List.getElem_toArray, List.getElem_cons_zero, List.getElem_cons_succ]; go_simp; try with_reducible rfl)
            try simp (config := { failIfUnchanged := false }) only [Act.put, List.setIfInBounds_toArray, List.set_cons_zero, List.set_cons_succ, List.getElem_toArray, List.getElem_cons_zero, List.getElem_cons_succ]
            refine take_run (i := 5) (v := ?_) (by decide) (by kernel_rfl) (by kernel_rfl) (by kernel_rfl) (fun _ _ _ _ h => h) hH rfl ?_ ?_
            rotate_left
            · (intro w hSw; (try dsimp only at hSw); (try go_split_ands); simp only [List.getElem_toArray, List.getElem_cons_zero, List.getElem_cons_succ]; go_simp; try with_reducible rfl)
            try simp (config := { failIfUnchanged := false }) only [Act.put, List.setIfInBounds_toArray, List.set_cons_zero, List.set_cons_succ, List.getElem_toArray, List.getElem_cons_zero, List.getElem_cons_succ]
            refine take_run (i := 6) (v := ?_) (by decide) (by kernel_rfl) (by kernel_rfl) (by kernel_rfl) (fun _ _ _ _ h => h) hH rfl ?_ ?_
            rotate_left
            · (intro w hSw; (try dsimp only at hSw); (try go_split_ands); simp only [List.getElem_toArray, List.getElem_cons_zero, List.getElem_cons_succ]; go_simp; try with_reducible rfl)
            try simp (config := { failIfUnchanged := false }) only [Act.put, List.setIfInBounds_toArray, List.set_cons_zero, List.set_cons_succ, List.getElem_toArray, List.getElem_cons_zero, List.getElem_cons_succ]
            refine take_run (i := 8) (v := ?_) (by decide) (by kernel_rfl) (by kernel_rfl) (by kernel_rfl) (fun _ _ _ _ h => h) hH rfl ?_ ?_
            rotate_left
            · (intro w hSw; (try dsimp only at hSw); (try go_split_ands); simp only [List.getElem_toArray, List.getElem_cons_zero, List.getElem_cons_succ]; go_simp; try with_reducible rfl)
            try simp (config := { failIfUnchanged := false }) only [Act.put, List.setIfInBounds_toArray, List.set_cons_zero, List.set_cons_succ, List.getElem_toArray, List.getElem_cons_zero, List.getElem_cons_succ]
            refine take_run (i := 9) (v := ?_) (by decide) (by kernel_rfl) (by kernel_rfl) (by kernel_rfl) (fun _ _ _ _ h => h) hH rfl ?_ ?_
            rotate_left
            · (intro w hSw; (try dsimp only at hSw); (try go_split_ands); simp only [List.getElem_toArray, List.getElem_cons_zero, List.getElem_cons_succ]; go_simp; try with_reducible rfl)
            try simp (config := { failIfUnchanged := false }) only [Act.put, List.setIfInBounds_toArray, List.set_cons_zero, List.set_cons_succ, List.getElem_toArray, List.getElem_cons_zero, List.getElem_cons_succ]
            refine take_two (i := 7) (j := 11) (by decide) (by decide) (by kernel_rfl) (fun K hK => ?_) (fun K hK => ?_)
            focus
              simp only [List.getElem_toArray, List.getElem_cons_zero, List.getElem_cons_succ]
              go_simp
              refine hK.out _ _ (by first | exact HKS.out _ HKD.out | exact HKS.out _ (Kept.set (Kept.set HKD.out (.inl rfl) _) (.inl rfl) _) | exact HKS.out _ (Kept.set (Kept.set (Kept.set HKD.out (.inl rfl) _) (.inl rfl) _) (.inr (.inr rfl)) _)) (fun hH => ?_)
              clear hK K
              try simp (config := { failIfUnchanged := false }) only [Act.put, List.setIfInBounds_toArray, List.set_cons_zero, List.set_cons_succ, List.getElem_toArray, List.getElem_cons_zero, List.getElem_cons_succ]
              refine take_run (i := 10) (v := ?_) (by decide) (by kernel_rfl) (by kernel_rfl) (by kernel_rfl) (fun _ _ _ _ h => h) hH rfl ?_ ?_
              rotate_left
              · (intro w hSw; (try dsimp only at hSw); (try go_split_ands); simp only [List.getElem_toArray, List.getElem_cons_zero, List.getElem_cons_succ]; go_simp; try with_reducible rfl)
              try simp (config := { failIfUnchanged := false }) only [Act.put, List.setIfInBounds_toArray, List.set_cons_zero, List.set_cons_succ, List.getElem_toArray, List.getElem_cons_zero, List.getElem_cons_succ]
              refine take_call (i := 11) (by decide) (by kernel_rfl) (fun K hK => ?_)
              simp only [List.getElem_toArray, List.getElem_cons_zero, List.getElem_cons_succ]
              go_simp
              refine hK.out _ _ (by first | exact HKS.out _ HKD.out | exact HKS.out _ (Kept.set (Kept.set HKD.out (.inl rfl) _) (.inl rfl) _) | exact HKS.out _ (Kept.set (Kept.set (Kept.set HKD.out (.inl rfl) _) (.inl rfl) _) (.inr (.inr rfl)) _)) (fun hH => ?_)
              clear hK K
              try simp (config := { failIfUnchanged := false }) only [Act.put, List.setIfInBounds_toArray, List.set_cons_zero, List.set_cons_succ, List.getElem_toArray, List.getElem_cons_zero, List.getElem_cons_succ]
              refine take_call (i := 12) (by decide) (by kernel_rfl) (fun K hK => ?_)
              simp only [List.getElem_toArray, List.getElem_cons_zero, List.getElem_cons_succ]
              go_simp
              refine hK.out _ _ (by first | exact HKS.out _ HKD.out | exact HKS.out _ (Kept.set (Kept.set HKD.out (.inl rfl) _) (.inl rfl) _) | exact HKS.out _ (Kept.set (Kept.set (Kept.set HKD.out (.inl rfl) _) (.inl rfl) _) (.inr (.inr rfl)) _)) (fun hH => ?_)
              clear hK K
              try simp (config := { failIfUnchanged := false }) only [Act.put, List.setIfInBounds_toArray, List.set_cons_zero, List.set_cons_succ, List.getElem_toArray, List.getElem_cons_zero, List.getElem_cons_succ]
              refine wpAnyH_done (by kernel_rfl) ?_ _
            rotate_left 1
            focus
              simp only [List.getElem_toArray, List.getElem_cons_zero, List.getElem_cons_succ]
              go_simp
              refine hK.out _ _ (by first | exact HKS.out _ HKD.out | exact HKS.out _ (Kept.set (Kept.set HKD.out (.inl rfl) _) (.inl rfl) _) | exact HKS.out _ (Kept.set (Kept.set (Kept.set HKD.out (.inl rfl) _) (.inl rfl) _) (.inr (.inr rfl)) _)) (fun hH => ?_)
              clear hK K
              try simp (config := { failIfUnchanged := false }) only [Act.put, List.setIfInBounds_toArray, List.set_cons_zero, List.set_cons_succ, List.getElem_toArray, List.getElem_cons_zero, List.getElem_cons_succ]
              refine take_call (i := 7) (by decide) (by kernel_rfl) (fun K hK => ?_)
              simp only [List.getElem_toArray, List.getElem_cons_zero, List.getElem_cons_succ]
              go_simp
              refine hK.out _ _ (by first | exact HKS.out _ HKD.out | exact HKS.out _ (Kept.set (Kept.set HKD.out (.inl rfl) _) (.inl rfl) _) | exact HKS.out _ (Kept.set (Kept.set (Kept.set HKD.out (.inl rfl) _) (.inl rfl) _) (.inr (.inr rfl)) _)) (fun hH => ?_)
              clear hK K
              try simp (config := { failIfUnchanged := false }) only [Act.put, List.setIfInBounds_toArray, List.set_cons_zero, List.set_cons_succ, List.getElem_toArray, List.getElem_cons_zero, List.getElem_cons_succ]
              refine take_run (i := 10) (v := ?_) (by decide) (by kernel_rfl) (by kernel_rfl) (by kernel_rfl) (fun _ _ _ _ h => h) hH rfl ?_ ?_
              rotate_left
              · (intro w hSw; (try dsimp only at hSw); (try go_split_ands); simp only [List.getElem_toArray, List.getElem_cons_zero, List.getElem_cons_succ]; go_simp; try with_reducible rfl)
              try simp (config := { failIfUnchanged := false }) only [Act.put, List.setIfInBounds_toArray, List.set_cons_zero, List.set_cons_succ, List.getElem_toArray, List.getElem_cons_zero, List.getElem_cons_succ]
              refine take_call (i := 12) (by decide) (by kernel_rfl) (fun K hK => ?_)
              simp only [List.getElem_toArray, List.getElem_cons_zero, List.getElem_cons_succ]
              go_simp
              refine hK.out _ _ (by first | exact HKS.out _ HKD.out | exact HKS.out _ (Kept.set (Kept.set HKD.out (.inl rfl) _) (.inl rfl) _) | exact HKS.out _ (Kept.set (Kept.set (Kept.set HKD.out (.inl rfl) _) (.inl rfl) _) (.inr (.inr rfl)) _)) (fun hH => ?_)
              clear hK K
              try simp (config := { failIfUnchanged := false }) only [Act.put, List.setIfInBounds_toArray, List.set_cons_zero, List.set_cons_succ, List.getElem_toArray, List.getElem_cons_zero, List.getElem_cons_succ]
              refine wpAnyH_done (by kernel_rfl) ?_ _
            all_goals
              have hb5 : Below w.heap.size w W1 := bstep hb4 hb4.size hSa
              have h8w : g8 + 1 < W1.heap.size := hch5.lt
              have hown5 := own_below hown4 hSa
              have hch6 : CH GS g8 _ _ c1 d all pts (addS s p) (qx, qy) (W6 W1 g8 qx qy (addS s p)) := hch5.next qx qy (addS s p)
              have hown6 := own_keptL hown5 (w6_kept W1 g8 qx qy (addS s p)) ⟨by omega, by omega, by omega⟩
              have hb6 := below_of_kept hb5 (w6_kept W1 g8 qx qy (addS s p)) hb5.size ⟨by omega, by omega, by omega⟩
              have b116 := (w6_kept W1 g8 qx qy (addS s p)).blk b11' ⟨by have := hch.lt; omega, by have := hch.lt; omega, by have := hch.lt; omega⟩
              have hk6 := w6_kept W1 g8 qx qy (addS s p)
              have hb1l : b1 < GS := hcD
              have e6 := hk6.cell e5 ⟨by have := hch.big; show b1 ≠ g8; omega, by have := hch.big; show b1 ≠ g8; omega, by have := hch.big; show b1 ≠ g8 + 1; omega⟩
              have e61 := hk6.cell e51 ⟨by have := hch.big; show b1 ≠ g8; omega, by have := hch.big; show b1 ≠ g8; omega, by have := hch.big; show b1 ≠ g8 + 1; omega⟩
              obtain ⟨w6, hw6⟩ : ∃ w6, w6 = W6 W1 g8 qx qy (addS s p) := ⟨_, rfl⟩
              rw [← hw6] at hch6 hown6 hb6 b116 e6 e61
              rw [show ((W1.setCell ⟨g8, 0, none⟩ (.int .i64 qx)).setCell ⟨g8, 1, none⟩ (.int .i64 qy)).setCell ⟨g8 + 1, 0, none⟩ (.int .i64 (addS s p)) = w6 from hw6.symm]
              clear hk6 hw6
              have n5 := hch6.b5.c0
              have n11 := b116.c0
              have s6 : w6.cell? ⟨GS, 0, none⟩ = some (.slice (some ⟨b1, off1, none⟩) all.length c1) := by
                obtain ⟨cs', h1, h2⟩ := hch6.blk
                rw [h1.cell 0]; exact h2.c0
              have hpa : (p : Int) < (all.length : Int) := by omega
              have hD0 : Below w6.heap.size w6 w6.drew := (Below.refl _ _).drew
              generalize w6.drew = w5 at hD0 ⊢
              have n5 := bget hD0 n5
              have n11 := bget hD0 n11
              have s6 := bget hD0 s6
              have e6 := bget hD0 e6
              have e61 := bget hD0 e61
              have hown6 := own_below hown6 hD0
              have hch6 := hch6.below hD0
              have hb6 := bstep hb6 hb6.size hD0
              go_wp2
              have hrl : (r.map fun k => all.getD k default).length = k := by rw [List.length_map]; exact hrun.out.len
              have HRL := Lib.hid hrl
              have hD : Below w5.heap.size w5 w5.drew := (Below.refl _ _).drew
              have p5 := bget hD n5
              have p11 := bget hD n11
              have p0 := bget hD s6
              have p6 := bget hD e6
              have p61 := bget hD e61
              have hown7 := own_below hown6 hD
              have hch7 := hch6.below hD
              have hb7 := bstep hb6 hb6.size hD
              have hw7 : g8 + 2 ≤ w5.heap.size := hch6.lt
              have hbig := hch.big
              have hwr := hch.lt
              have hdA := (Below.refl w5.drew.heap.size w5.drew).alloc (Nat.le_refl _) (.cells #[.int .i64 cx, .int .i64 cy] 24)
              have hr8 : ∀ j, u2.ownBlock = some j → g8 + 2 ≤ j := fun j hj => (World.ownsRow.lt hown7 j hj).1
              have hchA := hch7.below hdA
              have hr11 : ∀ j, u2.ownBlock = some j → j < wr.heap.size := fun j hj => (World.ownsRow.lt hown j hj).2
              have hsmall : k ≤ 9 := by omega
              have HCI : Hid (inI64 cx ∧ inI64 cy) := HBD.out _ (List.mem_of_getElem? hc1.out)
              go_region_held3 (fun W => W.cell? ⟨GS + 1, 0, none⟩ = some (.pointer (some ⟨GS, 0, none⟩)) ∧ W.cell? ⟨GS, 0, none⟩ = some (.slice (some ⟨b1, off1, none⟩) all.length c1) ∧ W.cell? ⟨wr.heap.size + 1, 0, none⟩ = some (.int .i64 p) ∧ W.cell? ⟨b1, off1 + p * 2, none⟩ = some (.int .i64 cx) ∧ W.cell? ⟨b1, off1 + p * 2 + 1, none⟩ = some (.int .i64 cy))
                (first
                  | exact ⟨p5, p0, p11, p6, p61⟩
                  | exact ⟨bget hdA p5, bget hdA p0, bget hdA p11, bget hdA p6, bget hdA p61⟩
                  | exact ⟨q5, q0, q11, q6, q61⟩)
                (first
                  | (go_loud (refine step_append_flat flat_pr (by rfl) _ _ _ (by rfl) (g8 + 2) 24 i1 (.agg #[.int .i64 0, .int .i64 0]) 16 Try.underlying32 hinfc ic0 ic1 ic2 rfl _ _ _ (by rfl) (World.ownsRow.alloc hown7 _) [(cx, cy)] (by rfl) (pr_one_rep (Blk.new w5.drew 24 #[.int .i64 cx, .int .i64 cy]) HCI.out.1 HCI.out.2) (by rw [HRL.out]; simp; omega) (by rw [HRL.out]; simp; omega) (by simp; omega) ?_)
                     intro v8 w8 hown8 hg8
                     have q5 := (hchA.grown hg8 hr8).b5.c0
                     have q0 : w8.cell? ⟨GS, 0, none⟩ = some (.slice (some ⟨b1, off1, none⟩) all.length c1) := by
                       obtain ⟨cs', h1, h2⟩ := (hchA.grown hg8 hr8).blk
                       rw [h1.cell 0]; exact h2.c0
                     have q11 := grown_cell hg8 (bget hdA p11) (fun e => by have h : wr.heap.size + 1 < wr.heap.size := hr11 _ e.symm; omega)
                     have q6 := grown_cell hg8 (bget hdA p6) (fun e => by have h : g8 + 2 ≤ b1 := hr8 _ e.symm; omega)
                     have q61 := grown_cell hg8 (bget hdA p61) (fun e => by have h : g8 + 2 ≤ b1 := hr8 _ e.symm; omega)))
              have hch8 := hchA.grown hg8 hr8
              have hb8 := (hb7.alloc hb7.size (.cells #[.int .i64 cx, .int .i64 cy] 24)).grown hg8 (by simp; omega) (fun j hj => by have := hr8 j hj; omega)
              have hmp : (r ++ [p]).map (fun k => all.getD k default) = r.map (fun k => all.getD k default) ++ [(cx, cy)] := by rw [List.map_append, ← HC.out]; rfl
              go_wp2
              go_roundw
              case rel => exact ⟨k + 1, addS s p, (qx, qy), r ++ [p], _, by omega, by go_num, rfl, hnext, by rw [hmp]; exact ownP_snoc hown8, hch8, hb8⟩
              case measure => simp [intOf]; omega
        · obtain rfl : k = all.length := by omega
          obtain ⟨d1, d2⟩ := hrun.out.done
          have HD1 : Hid (bestF shapes = (r.map (fun k => all.getD k default), tt, 0)) := by show _ = _; rw [HBE.out, d2, d1]
          have hin : ∀ x ∈ r.map (fun k => all.getD k default), inI64 x.1 ∧ inI64 x.2 := fun x hx => by
            obtain ⟨j, -, rfl⟩ := List.mem_map.1 hx
            rw [List.getD_eq_getElem?_getD]
            cases e : all[j]? with
            | none => show (-9223372036854775808 ≤ (0 : Int) ∧ (0 : Int) ≤ 9223372036854775807) ∧ (-9223372036854775808 ≤ (0 : Int) ∧ (0 : Int) ≤ 9223372036854775807); decide
            | some y => exact HBD.out _ (List.mem_of_getElem? e)
          have hrep := own_prs hown hin
          clear d1 d2 hin
          go_wp2
          go_ret3
          rw [HD1.out]
          exact ⟨_, rfl, hrep, hb⟩
end Go.Proofs.Ytpefmbjaolcapaa
