/- Chapter 26: Greedy, by walking the program's text. -/
import Derived.Test.YthfnncnmggkfaaaDoorNcOrdM
import Derived.Test.YthfnncnmggkfaaaDoorTorRgM
set_option linter.unusedSimpArgs false
namespace Go.Proofs.YthfnncnmggkfaaaDoor
open Go Go.RowKit

theorem greedyTF_many {shapes : List Shp} (h : 288 < (contoursF shapes).length) : greedyTF shapes = [] := if_pos h
theorem greedyTF_yes {shapes : List Shp} (h : ¬ 288 < (contoursF shapes).length) : greedyTF shapes = greedyT (contoursF shapes) (beginF shapes) (contoursF shapes).length [] (0, 0) := if_neg h
theorem may_in {all out : List Pt} {c : Pt} (h : out.contains c = true) : mayB all out c = false := by unfold mayB; rw [h]; rfl
theorem may_free {all out : List Pt} {c : Pt} {b : Bool} (h : out.contains c = false) (hf : freeC all out c = b) : mayB all out c = b := by unfold mayB; rw [h, hf]; cases b <;> rfl
theorem own_far {w : World} {base size n : Nat} {e : TypeId} {v : Value} {xs : List Value} (h : w.ownsRow base e size v n xs) {p : Addr} (hp : p.block < base) (u : Value) : (w.setCell p u).ownsRow base e size v n xs := by
  refine ⟨h.1, ?_⟩
  rcases h.2 with h0 | ⟨g, cap, cur, rfl, hb', hh, r⟩
  · exact .inl h0
  · exact .inr ⟨g, cap, cur, rfl, hb', (Below.heap_setCell w p u g (by omega)).trans hh, r⟩
theorem begin_at (A : Option Addr) (n c : Nat) (shapes : List Shp) (x y : Int) (w : World) (hs : shpsR.R w (Lt w) shapes [.slice A n c]) (hc : (x, y) ∈ contoursF shapes) (hS : SmallS shapes) :
    Calls Tryd.prog 48 #[.slice A n c, .agg #[.int .i64 x, .int .i64 y]] w (Ret (.agg (prArr (beginF shapes (x, y)))) w) := begin_any A n c shapes (x, y) w hs hc hS
theorem move_at (a b c d : Int) (w : World) (h : Near (a, b)) (h' : Near (c, d)) : Calls Tryd.prog 49 #[.agg #[.int .i64 a, .int .i64 b], .agg #[.int .i64 c, .int .i64 d]] w (Ret (.int .i64 (moveF (a, b) (c, d))) w) := move_any (a, b) (c, d) w h.1 h.2 h'.1 h'.2
def GreedyTPost (xs : List Pt) (w : World) (e : Ending) (w' : World) : Prop := ∃ v, e = .returned v ∧ prR.slice.R w' (Lt w') xs [v] ∧ Below w.heap.size w w'
set_option maxRecDepth 100000 in
set_option maxHeartbeats 4000000 in
theorem greedyT_any (vs : Value) (shapes : List Shp) (w : World) (hs : shpsR.R w (Lt w) shapes [vs]) (hS : SmallS shapes) :
    Calls Tryd.prog 27 #[vs] w (GreedyTPost (greedyTF shapes) w) := by
  obtain ⟨A, c, rfl, hm, -⟩ := slice_inv hs
  have HBD := Lib.hid (ct_bd hS)
  have HND := Lib.hid (contours_nodup shapes)
  have HNN := Lib.hid (fun c h => ct_nonneg (shapes := shapes) (c := c) h)
  have HBN := Lib.hid (fun c h => begin_near (shapes := shapes) (c := c) h)
  have HCL := Lib.hid (contours_len hS)
  by_cases h1 : 288 < (contoursF shapes).length
  · have HT := Lib.hid (greedyTF_many h1)
    go_enter Tryd.func27, Tryd.ntmps27
    go_wp2_with fail
    refine (contours_any A _ c shapes _ hs hS).mono ?_
    rintro e w1 ⟨v1, rfl, hown, hb1⟩
    obtain ⟨A1, c1, rfl⟩ := own_slice hown
    go_wp2
    go_ret
    exact ⟨_, rfl, by rw [HT.out]; exact Rep.slice_nil _ _ _, hb1⟩
  · have HT := Lib.hid (greedyTF_yes h1)
    have HSE : Hid (∀ c ∈ contoursF shapes, c ∈ contoursF shapes) := fun _ h => h
    have hmk := fun u => run_make1 (P := Tryd.prog) Tryd.underlying104 boolT_info rfl (contoursF shapes).length (by omega) (by omega) u
    obtain ⟨i0, hinf, hz0, hz1, hz2⟩ := info_parts ct_info
    go_enter Tryd.func27, Tryd.ntmps27
    go_wp2_with fail
    refine (contours_any A _ c shapes _ hs hS).mono ?_
    rintro e w1 ⟨v1, rfl, hown, hb1⟩
    have hv1 := own_prs hown HBD.out
    obtain ⟨A1, c1, rfl⟩ := own_slice hown
    generalize hall : contoursF shapes = all at *
    have HALL := Lib.hid hall
    clear hall hown
    have g0 := (Blk.new w1 47 #[.int .i64 0, .int .i64 0]).alloc (.cells (Array.replicate all.length (.bool false)) 4)
    have g1 := Blk.new (w1.alloc (.cells #[.int .i64 0, .int .i64 0] 47)) 4 (Array.replicate all.length (.bool false))
    simp only [World.size_alloc] at g1
    have hb2 := (hb1.alloc hb1.size (.cells #[.int .i64 0, .int .i64 0] 47)).alloc (by have := hb1.size; simp; omega) (.cells (Array.replicate all.length (.bool false)) 4)
    have hva := Rep.at_ hv1 (((Below.refl w1.heap.size w1).alloc (Nat.le_refl _) (.cells #[.int .i64 0, .int .i64 0] 47)).alloc (by simp) (.cells (Array.replicate all.length (.bool false)) 4))
    obtain ⟨w2, hw2⟩ : ∃ w2, w2 = (w1.alloc (.cells #[.int .i64 0, .int .i64 0] 47)).alloc (.cells (Array.replicate all.length (.bool false)) 4) := ⟨_, rfl⟩
    go_wp2
    obtain ⟨GA, hGA⟩ : ∃ G, G = w1.heap.size := ⟨_, rfl⟩
    have hva' : prR.slice.R w2 (fun b => b < GA) all [.slice A1 all.length c1] := by rw [hw2, hGA]; exact hva
    have hGs : GA + 1 < w2.heap.size := by rw [hw2, hGA]; simp
    have hGw : w.heap.size ≤ GA := by rw [hGA]; exact hb1.size
    rw [← hw2] at g0 g1 hb2 ⊢
    rw [← hGA] at g0 g1 ⊢
    clear hw2 hGA hv1 hva hb1 hmk
    go_loopw [2, 19] (fun v i wr => ∃ (out : List Pt) (ax ay : Int) (cs : Array Value), i = .int .i64 out.length ∧ Hid (Cut all out) ∧ Hid (DoneIs all out cs) ∧ Hid (Near (ax, ay)) ∧ Hid (greedyT all (beginF shapes) (all.length - out.length) out (ax, ay) = greedyT all (beginF shapes) all.length [] (0, 0)) ∧
        OwnP wr (GA + 2) 57 v out ∧ Blk wr GA 47 #[.int .i64 ax, .int .i64 ay] ∧ Blk wr (GA + 1) 4 cs ∧ prR.slice.R wr (fun b => b < GA) all [.slice A1 all.length c1] ∧ GA + 1 < wr.heap.size ∧ Below w.heap.size w wr) (fun _ i _ => all.length - (intOf i).toNat)
    case atStart => exact ⟨[], 0, 0, _, rfl, Cut.nil _, done_nil all, ⟨⟨by decide, by decide⟩, by decide, by decide⟩, rfl, World.ownsRow_nil _ _ _ _, g0, g1, hva', hGs, hb2⟩
    case round =>
      obtain ⟨out, ax, ay, cs, rfl, hcut, hdn, hnear, hgr, hown, hga, hgd, hva, hGr, hb⟩ := hrel
      have hz := hb.size
      have hol := hcut.out.len
      by_cases hlt : out.length < all.length
      · obtain ⟨jn, cn, hjn, hcn, hmn⟩ := near_some (P := beginF shapes) (a := (ax, ay)) HND.out (fun c h => HNN.out c h) hcut.out hlt
        have HJN := Lib.hid hjn
        have HCN := Lib.hid hcn
        have HMN := Lib.hid hmn
        have hjl := lt_of_get hcn
        clear hjn hcn hmn
        go_wp2
        obtain ⟨wo, hwo⟩ : ∃ wo : World, wo = wr := ⟨_, rfl⟩
        subst hwo
        go_loopw [6, 23] (fun v i wr => ∃ k : Nat, k ≤ all.length ∧ i = .int .i64 k ∧ Hid (NearIs (nearTo all (beginF shapes) out (ax, ay) k) v) ∧ Below wo.heap.size wo wr) (fun _ i _ => all.length - (intOf i).toNat)
        case atStart => exact ⟨0, Nat.zero_le _, rfl, rfl, Below.refl _ _⟩
        case round =>
          obtain ⟨k, hk, rfl, hni, hbr⟩ := hrel
          have hzr := hbr.size
          by_cases hkl : k < all.length
          · have hvr : prR.slice.R wr (fun b => b < GA) all [.slice A1 all.length c1] := Rep.keep _ (fun i (hi : i < GA) => hbr.block i (by omega)) hva
            obtain ⟨bb, off, x, y, rfl, hx, hbD, d0, d1, -⟩ := pairs_at hvr hkl
            have hbbl : bb < GA := hbD
            have hbw := bstep hb hz hbr
            have hgar := hga.below hbr hga.lt
            have hgdr := hgd.below hbr hgd.lt
            have hGr1 : GA + 1 < wr.heap.size := Nat.lt_of_lt_of_le hGr hzr
            have hwB := (Below.refl wr.heap.size wr).alloc (Nat.le_refl _) (.cells #[.int .i64 x, .int .i64 y] 57)
            obtain ⟨wb, hwb⟩ : ∃ wb, wb = wr.alloc (.cells #[.int .i64 x, .int .i64 y] 57) := ⟨_, rfl⟩
            have hbx := Blk.new wr 57 #[.int .i64 x, .int .i64 y]
            have hszB : wb.heap.size = wr.heap.size + 1 := by rw [hwb]; simp
            rw [← hwb] at hwB hbx
            have HWB := Lib.hid hwb
            have HSZ := Lib.hid hszB
            have lwb : wr.heap.size < wb.heap.size := by omega
            clear hwb hszB
            have hgaB := hgar.below hwB hgar.lt
            have hgdB := hgdr.below hwB hgdr.lt
            have lgdB := hgdB.lt
            have lgaB := hgaB.lt
            have lbx := hbx.lt
            have hallB : prR.slice.R wb (Lt wb) all [.slice (some ⟨bb, off, none⟩) all.length c1] := rep_up (G := GA) (Rep.keep _ (fun i (hi : i < GA) => hwB.block i (by omega)) hvr) (by omega)
            have hbrB := bstep hbr hzr hwB
            have hbwB := bstep hbw hbw.size hwB
            have kd := hgdB.cell k
            rw [hdn.out.at_ k _ hx.out] at kd
            have hbn : ¬ bb = wr.heap.size := by omega
            have hki : (k : Int) < (all.length : Int) := by omega
            rcases Bool.eq_false_or_eq_true (out.contains (x, y)) with hc | hc
            · have HN := Lib.hid (near_no (P := beginF shapes) (a := (ax, ay)) hx.out (may_in (all := all) hc))
              rw [hc] at kd
              clear hc
              go_wp2
              rw [← HWB.out]
              go_quiet (fail)
              go_wp2
              go_roundw
              case rel => exact ⟨k + 1, by omega, by go_num, by show NearIs _ _; rw [HN.out]; exact hni.out, below_drewN hbrB _⟩
              case measure => simp [intOf]; omega
            · rw [hc] at kd
              rcases Bool.eq_false_or_eq_true (freeC all out (x, y)) with hfr | hfr
              · have HMY := Lib.hid (may_free hc hfr)
                have HFR := Lib.hid hfr
                clear hc hfr
                cases hnt : nearTo all (beginF shapes) out (ax, ay) k with
                | none =>
                  have hn2 := hni.out
                  rw [hnt] at hn2
                  have hn2 : _ = Value.int .i64 (-1) := hn2
                  subst hn2
                  have HN := Lib.hid (near_first hx.out HMY.out hnt)
                  clear hnt
                  go_wp2
                  rw [← HWB.out]
                  refine wp_region_held_drew (S := fun W => Below wb.heap.size wb W ∧ W.cell? ⟨GA + 1, k, none⟩ = some (.bool false)) (by kernel_rfl) (⟨(Below.refl _ _).drew, kd⟩) (fun hH => ?_)
                  refine take_run (i := 0) (v := ?_) (by decide) (by kernel_rfl) (by kernel_rfl) (by kernel_rfl) (fun _ _ _ _ h => h) hH rfl ?_ ?_
                  rotate_left
                  · (intro w hSw; (try dsimp only at hSw); (try go_split_ands); simp only [List.getElem_toArray, List.getElem_cons_zero]; go_simp; try with_reducible rfl)
                  simp (config := { failIfUnchanged := false }) only [Act.put, List.setIfInBounds_toArray, List.set_cons_zero, List.set_cons_succ, List.getElem_toArray, List.getElem_cons_zero, List.getElem_cons_succ]
                  refine take_run (i := 1) (v := ?_) (by decide) (by kernel_rfl) (by kernel_rfl) (by kernel_rfl) (fun _ _ _ _ h => h) hH rfl ?_ ?_
                  rotate_left
                  · (intro w hSw; (try dsimp only at hSw); (try go_split_ands); simp only [List.getElem_toArray, List.getElem_cons_zero, List.getElem_cons_succ]; go_simp; try with_reducible rfl)
                  simp (config := { failIfUnchanged := false }) only [Act.put, List.setIfInBounds_toArray, List.set_cons_zero, List.set_cons_succ, List.getElem_toArray, List.getElem_cons_zero, List.getElem_cons_succ]
                  refine take_run (i := 2) (v := ?_) (by decide) (by kernel_rfl) (by kernel_rfl) (by kernel_rfl) (fun _ _ _ _ h => h) hH rfl ?_ ?_
                  rotate_left
                  · (intro w hSw; (try dsimp only at hSw); (try go_split_ands); simp only [List.getElem_toArray, List.getElem_cons_zero, List.getElem_cons_succ]; go_simp; try with_reducible rfl)
                  simp (config := { failIfUnchanged := false }) only [Act.put, List.setIfInBounds_toArray, List.set_cons_zero, List.set_cons_succ, List.getElem_toArray, List.getElem_cons_zero, List.getElem_cons_succ]
                  refine take_run (i := 3) (v := ?_) (by decide) (by kernel_rfl) (by kernel_rfl) (by kernel_rfl) (fun _ _ _ _ h => h) hH rfl ?_ ?_
                  rotate_left
                  · (intro w hSw; (try dsimp only at hSw); (try go_split_ands); simp only [List.getElem_toArray, List.getElem_cons_zero, List.getElem_cons_succ]; go_simp; try with_reducible rfl)
                  simp (config := { failIfUnchanged := false }) only [Act.put, List.setIfInBounds_toArray, List.set_cons_zero, List.set_cons_succ, List.getElem_toArray, List.getElem_cons_zero, List.getElem_cons_succ]
                  refine take_run (i := 4) (v := ?_) (by decide) (by kernel_rfl) (by kernel_rfl) (by kernel_rfl) (fun _ _ _ _ h => h) hH rfl ?_ ?_
                  rotate_left
                  · (intro w hSw; (try dsimp only at hSw); (try go_split_ands); simp only [List.getElem_toArray, List.getElem_cons_zero, List.getElem_cons_succ]; go_simp; try with_reducible rfl)
                  simp (config := { failIfUnchanged := false }) only [Act.put, List.setIfInBounds_toArray, List.set_cons_zero, List.set_cons_succ, List.getElem_toArray, List.getElem_cons_zero, List.getElem_cons_succ]
                  refine take_run (i := 5) (v := ?_) (by decide) (by kernel_rfl) (by kernel_rfl) (by kernel_rfl) (fun _ _ _ _ h => h) hH rfl ?_ ?_
                  rotate_left
                  · (intro w hSw; (try dsimp only at hSw); (try go_split_ands); simp only [List.getElem_toArray, List.getElem_cons_zero, List.getElem_cons_succ]; go_simp; try with_reducible rfl)
                  simp (config := { failIfUnchanged := false }) only [Act.put, List.setIfInBounds_toArray, List.set_cons_zero, List.set_cons_succ, List.getElem_toArray, List.getElem_cons_zero, List.getElem_cons_succ]
                  refine take_run (i := 6) (v := ?_) (by decide) (by kernel_rfl) (by kernel_rfl) (by kernel_rfl) (fun _ _ _ _ h => h) hH rfl ?_ ?_
                  rotate_left
                  · (intro w hSw; (try dsimp only at hSw); (try go_split_ands); simp only [List.getElem_toArray, List.getElem_cons_zero, List.getElem_cons_succ]; go_simp; try with_reducible rfl)
                  simp (config := { failIfUnchanged := false }) only [Act.put, List.setIfInBounds_toArray, List.set_cons_zero, List.set_cons_succ, List.getElem_toArray, List.getElem_cons_zero, List.getElem_cons_succ]
                  refine take_run (i := 7) (v := ?_) (by decide) (by kernel_rfl) (by kernel_rfl) (by kernel_rfl) (fun _ _ _ _ h => h) hH rfl ?_ ?_
                  rotate_left
                  · (intro w hSw; (try dsimp only at hSw); (try go_split_ands); simp only [List.getElem_toArray, List.getElem_cons_zero, List.getElem_cons_succ]; go_simp; try with_reducible rfl)
                  simp (config := { failIfUnchanged := false }) only [Act.put, List.setIfInBounds_toArray, List.set_cons_zero, List.set_cons_succ, List.getElem_toArray, List.getElem_cons_zero, List.getElem_cons_succ]
                  refine take_run (i := 8) (v := ?_) (by decide) (by kernel_rfl) (by kernel_rfl) (by kernel_rfl) (fun _ _ _ _ h => h) hH rfl ?_ ?_
                  rotate_left
                  · (intro w hSw; (try dsimp only at hSw); (try go_split_ands); simp only [List.getElem_toArray, List.getElem_cons_zero, List.getElem_cons_succ]; go_simp; try with_reducible rfl)
                  simp (config := { failIfUnchanged := false }) only [Act.put, List.setIfInBounds_toArray, List.set_cons_zero, List.set_cons_succ, List.getElem_toArray, List.getElem_cons_zero, List.getElem_cons_succ]
                  refine take_call (i := 9) (by decide) (by kernel_rfl) (fun K hK => ?_)
                  simp only [List.getElem_toArray, List.getElem_cons_zero, List.getElem_cons_succ]
                  go_simp
                  refine (freeT_any _ all out (GA + 1) cs k x y _ (Rep.below hallB ((Below.refl _ _).drew)) (hgdB.drewN 1) hdn.out hx.out).mono ?_
                  rintro e wf ⟨he, hbf⟩
                  rw [HFR.out] at he
                  subst he
                  have hSf : Below wb.heap.size wb wf := bstep ((Below.refl _ _).drew) (Nat.le_refl _) hbf
                  have hS : Below wb.heap.size wb wf ∧ wf.cell? ⟨GA + 1, k, none⟩ = some (.bool false) := ⟨hSf, (hSf.cell (p := ⟨GA + 1, k, none⟩) lgdB).trans kd⟩
                  refine hK.out _ _ hS (fun hH => ?_)
                  clear hK K hS
                  try simp (config := { failIfUnchanged := false }) only [Act.put, List.setIfInBounds_toArray, List.set_cons_zero, List.set_cons_succ, List.getElem_toArray, List.getElem_cons_zero, List.getElem_cons_succ]
                  refine take_run (i := 10) (v := ?_) (by decide) (by kernel_rfl) (by kernel_rfl) (by kernel_rfl) (fun _ _ _ _ h => h) hH rfl ?_ ?_
                  rotate_left
                  · (intro w hSw; (try dsimp only at hSw); (try go_split_ands); simp only [List.getElem_toArray, List.getElem_cons_zero, List.getElem_cons_succ]; go_simp; try with_reducible rfl)
                  simp (config := { failIfUnchanged := false }) only [Act.put, List.setIfInBounds_toArray, List.set_cons_zero, List.set_cons_succ, List.getElem_toArray, List.getElem_cons_zero, List.getElem_cons_succ]
                  refine take_run (i := 11) (v := ?_) (by decide) (by kernel_rfl) (by kernel_rfl) (by kernel_rfl) (fun _ _ _ _ h => h) hH rfl ?_ ?_
                  rotate_left
                  · (intro w hSw; (try dsimp only at hSw); (try go_split_ands); simp only [List.getElem_toArray, List.getElem_cons_zero, List.getElem_cons_succ]; go_simp; try with_reducible rfl)
                  simp (config := { failIfUnchanged := false }) only [Act.put, List.setIfInBounds_toArray, List.set_cons_zero, List.set_cons_succ, List.getElem_toArray, List.getElem_cons_zero, List.getElem_cons_succ]
                  refine take_run (i := 12) (v := ?_) (by decide) (by kernel_rfl) (by kernel_rfl) (by kernel_rfl) (fun _ _ _ _ h => h) hH rfl ?_ ?_
                  rotate_left
                  · (intro w hSw; (try dsimp only at hSw); (try go_split_ands); simp only [List.getElem_toArray, List.getElem_cons_zero, List.getElem_cons_succ]; go_simp; try with_reducible rfl)
                  simp (config := { failIfUnchanged := false }) only [Act.put, List.setIfInBounds_toArray, List.set_cons_zero, List.set_cons_succ, List.getElem_toArray, List.getElem_cons_zero, List.getElem_cons_succ]
                  refine take_run (i := 13) (v := ?_) (by decide) (by kernel_rfl) (by kernel_rfl) (by kernel_rfl) (fun _ _ _ _ h => h) hH rfl ?_ ?_
                  rotate_left
                  · (intro w hSw; (try dsimp only at hSw); (try go_split_ands); simp only [List.getElem_toArray, List.getElem_cons_zero, List.getElem_cons_succ]; go_simp; try with_reducible rfl)
                  simp (config := { failIfUnchanged := false }) only [Act.put, List.setIfInBounds_toArray, List.set_cons_zero, List.set_cons_succ, List.getElem_toArray, List.getElem_cons_zero, List.getElem_cons_succ]
                  refine take_run (i := 14) (v := ?_) (by decide) (by kernel_rfl) (by kernel_rfl) (by kernel_rfl) (fun _ _ _ _ h => h) hH rfl ?_ ?_
                  rotate_left
                  · (intro w hSw; (try dsimp only at hSw); (try go_split_ands); simp only [List.getElem_toArray, List.getElem_cons_zero, List.getElem_cons_succ]; go_simp; try with_reducible rfl)
                  simp (config := { failIfUnchanged := false }) only [Act.put, List.setIfInBounds_toArray, List.set_cons_zero, List.set_cons_succ, List.getElem_toArray, List.getElem_cons_zero, List.getElem_cons_succ]
                  refine take_skip (i := 15) (by decide) (by kernel_rfl) (by kernel_rfl) (by kernel_rfl) (fun _ _ _ _ h => h) hH rfl ?_
                  simp (config := { failIfUnchanged := false }) only [Act.put, List.setIfInBounds_toArray, List.set_cons_zero, List.set_cons_succ, List.getElem_toArray, List.getElem_cons_zero, List.getElem_cons_succ]
                  refine take_skip (i := 16) (by decide) (by kernel_rfl) (by kernel_rfl) (by kernel_rfl) (fun _ _ _ _ h => h) hH rfl ?_
                  simp (config := { failIfUnchanged := false }) only [Act.put, List.setIfInBounds_toArray, List.set_cons_zero, List.set_cons_succ, List.getElem_toArray, List.getElem_cons_zero, List.getElem_cons_succ]
                  refine take_skip (i := 17) (by decide) (by kernel_rfl) (by kernel_rfl) (by kernel_rfl) (fun _ _ _ _ h => h) hH rfl ?_
                  simp (config := { failIfUnchanged := false }) only [Act.put, List.setIfInBounds_toArray, List.set_cons_zero, List.set_cons_succ, List.getElem_toArray, List.getElem_cons_zero, List.getElem_cons_succ]
                  refine take_skip (i := 18) (by decide) (by kernel_rfl) (by kernel_rfl) (by kernel_rfl) (fun _ _ _ _ h => h) hH rfl ?_
                  simp (config := { failIfUnchanged := false }) only [Act.put, List.setIfInBounds_toArray, List.set_cons_zero, List.set_cons_succ, List.getElem_toArray, List.getElem_cons_zero, List.getElem_cons_succ]
                  refine take_skip (i := 19) (by decide) (by kernel_rfl) (by kernel_rfl) (by kernel_rfl) (fun _ _ _ _ h => h) hH rfl ?_
                  simp (config := { failIfUnchanged := false }) only [Act.put, List.setIfInBounds_toArray, List.set_cons_zero, List.set_cons_succ, List.getElem_toArray, List.getElem_cons_zero, List.getElem_cons_succ]
                  refine take_skip (i := 20) (by decide) (by kernel_rfl) (by kernel_rfl) (by kernel_rfl) (fun _ _ _ _ h => h) hH rfl ?_
                  simp (config := { failIfUnchanged := false }) only [Act.put, List.setIfInBounds_toArray, List.set_cons_zero, List.set_cons_succ, List.getElem_toArray, List.getElem_cons_zero, List.getElem_cons_succ]
                  refine take_skip (i := 21) (by decide) (by kernel_rfl) (by kernel_rfl) (by kernel_rfl) (fun _ _ _ _ h => h) hH rfl ?_
                  simp (config := { failIfUnchanged := false }) only [Act.put, List.setIfInBounds_toArray, List.set_cons_zero, List.set_cons_succ, List.getElem_toArray, List.getElem_cons_zero, List.getElem_cons_succ]
                  refine take_skip (i := 22) (by decide) (by kernel_rfl) (by kernel_rfl) (by kernel_rfl) (fun _ _ _ _ h => h) hH rfl ?_
                  simp (config := { failIfUnchanged := false }) only [Act.put, List.setIfInBounds_toArray, List.set_cons_zero, List.set_cons_succ, List.getElem_toArray, List.getElem_cons_zero, List.getElem_cons_succ]
                  refine take_skip (i := 23) (by decide) (by kernel_rfl) (by kernel_rfl) (by kernel_rfl) (fun _ _ _ _ h => h) hH rfl ?_
                  simp (config := { failIfUnchanged := false }) only [Act.put, List.setIfInBounds_toArray, List.set_cons_zero, List.set_cons_succ, List.getElem_toArray, List.getElem_cons_zero, List.getElem_cons_succ]
                  refine take_skip (i := 24) (by decide) (by kernel_rfl) (by kernel_rfl) (by kernel_rfl) (fun _ _ _ _ h => h) hH rfl ?_
                  simp (config := { failIfUnchanged := false }) only [Act.put, List.setIfInBounds_toArray, List.set_cons_zero, List.set_cons_succ, List.getElem_toArray, List.getElem_cons_zero, List.getElem_cons_succ]
                  refine take_skip (i := 25) (by decide) (by kernel_rfl) (by kernel_rfl) (by kernel_rfl) (fun _ _ _ _ h => h) hH rfl ?_
                  simp (config := { failIfUnchanged := false }) only [Act.put, List.setIfInBounds_toArray, List.set_cons_zero, List.set_cons_succ, List.getElem_toArray, List.getElem_cons_zero, List.getElem_cons_succ]
                  refine take_skip (i := 26) (by decide) (by kernel_rfl) (by kernel_rfl) (by kernel_rfl) (fun _ _ _ _ h => h) hH rfl ?_
                  simp (config := { failIfUnchanged := false }) only [Act.put, List.setIfInBounds_toArray, List.set_cons_zero, List.set_cons_succ, List.getElem_toArray, List.getElem_cons_zero, List.getElem_cons_succ]
                  refine take_skip (i := 27) (by decide) (by kernel_rfl) (by kernel_rfl) (by kernel_rfl) (fun _ _ _ _ h => h) hH rfl ?_
                  simp (config := { failIfUnchanged := false }) only [Act.put, List.setIfInBounds_toArray, List.set_cons_zero, List.set_cons_succ, List.getElem_toArray, List.getElem_cons_zero, List.getElem_cons_succ]
                  refine take_skip (i := 28) (by decide) (by kernel_rfl) (by kernel_rfl) (by kernel_rfl) (fun _ _ _ _ h => h) hH rfl ?_
                  simp (config := { failIfUnchanged := false }) only [Act.put, List.setIfInBounds_toArray, List.set_cons_zero, List.set_cons_succ, List.getElem_toArray, List.getElem_cons_zero, List.getElem_cons_succ]
                  refine take_run (i := 29) (v := ?_) (by decide) (by kernel_rfl) (by kernel_rfl) (by kernel_rfl) (fun _ _ _ _ h => h) hH rfl ?_ ?_
                  rotate_left
                  · (intro w hSw; (try dsimp only at hSw); (try go_split_ands); simp only [List.getElem_toArray, List.getElem_cons_zero, List.getElem_cons_succ]; go_simp; try with_reducible rfl)
                  simp (config := { failIfUnchanged := false }) only [Act.put, List.setIfInBounds_toArray, List.set_cons_zero, List.set_cons_succ, List.getElem_toArray, List.getElem_cons_zero, List.getElem_cons_succ]
                  refine take_run (i := 30) (v := ?_) (by decide) (by kernel_rfl) (by kernel_rfl) (by kernel_rfl) (fun _ _ _ _ h => h) hH rfl ?_ ?_
                  rotate_left
                  · (intro w hSw; (try dsimp only at hSw); (try go_split_ands); simp only [List.getElem_toArray, List.getElem_cons_zero, List.getElem_cons_succ]; go_simp; try with_reducible rfl)
                  simp (config := { failIfUnchanged := false }) only [Act.put, List.setIfInBounds_toArray, List.set_cons_zero, List.set_cons_succ, List.getElem_toArray, List.getElem_cons_zero, List.getElem_cons_succ]
                  refine wpAnyH_done (by kernel_rfl) ?_ _
                  go_wp2
                  go_roundw
                  case rel => exact ⟨k + 1, by omega, by go_num, by show NearIs _ _; rw [HN.out]; rfl, bstep hbrB hbrB.size hSf⟩
                  case measure => simp [intOf]; omega
                | some j =>
                  have hn2 := hni.out
                  rw [hnt] at hn2
                  have hn2 : _ = Value.int .i64 (j : Int) := hn2
                  subst hn2
                  obtain ⟨hjk, ⟨xj, yj⟩, hcj, -⟩ := near_lt (Nat.le_of_lt hkl) hnt
                  have hjl2 : j < all.length := lt_of_get hcj
                  obtain ⟨bb', off', x2, y2, e, hx2, -, dj0, dj1, -⟩ := pairs_at hvr hjl2
                  injection e with e
                  injection e with e5 e6 _
                  subst e5 e6
                  have hxe := hx2.out.symm.trans hcj
                  injection hxe with hxe
                  injection hxe with e1 e2
                  subst e1 e2
                  have hmc : (x, y) ∈ contoursF shapes := by rw [HALL.out]; exact List.mem_of_getElem? hx.out
                  have hmj : (x2, y2) ∈ contoursF shapes := by rw [HALL.out]; exact List.mem_of_getElem? hcj
                  have HMC := Lib.hid hmc
                  have HMJ := Lib.hid hmj
                  obtain ⟨bx, by_, hbg⟩ : ∃ bx by_, beginF shapes (x, y) = (bx, by_) := ⟨_, _, rfl⟩
                  obtain ⟨bx2, by2, hbg2⟩ : ∃ bx by_, beginF shapes (x2, y2) = (bx, by_) := ⟨_, _, rfl⟩
                  have HM1 : Hid (prArr (beginF shapes (x, y)) = #[.int .i64 bx, .int .i64 by_]) := by show prArr _ = _; rw [hbg]; rfl
                  have HM2 : Hid (prArr (beginF shapes (x2, y2)) = #[.int .i64 bx2, .int .i64 by2]) := by show prArr _ = _; rw [hbg2]; rfl
                  have HNE1 : Hid (Near (bx, by_)) := by show Near _; rw [← hbg]; exact begin_near hmc
                  have HNE2 : Hid (Near (bx2, by2)) := by show Near _; rw [← hbg2]; exact begin_near hmj
                  obtain ⟨m1, hm1⟩ : ∃ m1, moveF (ax, ay) (bx, by_) = m1 := ⟨_, rfl⟩
                  obtain ⟨m2, hm2⟩ : ∃ m2, moveF (ax, ay) (bx2, by2) = m2 := ⟨_, rfl⟩
                  have HMV1 := Lib.hid hm1
                  have HMV2 := Lib.hid hm2
                  have ga0 := hgaB.c20
                  have ga1 := hgaB.c21
                  have bx0 := hbx.c20
                  have bx1 := hbx.c21
                  have hbr2 : bb < wr.heap.size := by omega
                  have dd0 := ((bcell hwB).1 bb (off + j * 2) hbr2).trans dj0
                  have dd1 := ((bcell hwB).1 bb (off + j * 2 + 1) hbr2).trans dj1
                  have lbb : bb < wb.heap.size := by omega
                  have hjn2 : ¬ (j : Int) < 0 := by omega
                  have hjn3 : (j : Int) < (all.length : Int) := by omega
                  have hjn4 : (0 : Int) ≤ (j : Int) := by omega
                  have hkn4 : (0 : Int) ≤ (k : Int) := by omega
                  by_cases hlt3 : m1 < m2
                  all_goals
                    first
                      | have HN : Hid (nearTo all (beginF shapes) out (ax, ay) (k + 1) = some k) := near_less hx.out HMY.out hnt hcj (by rw [hbg, hbg2, hm1, hm2]; exact hlt3)
                      | have HN : Hid (nearTo all (beginF shapes) out (ax, ay) (k + 1) = some j) := near_keep hx.out HMY.out hnt hcj (by rw [hbg, hbg2, hm1, hm2]; omega)
                    clear hnt hcj hmc hmj hbg hbg2 hm1 hm2 dj0 dj1
                    go_wp2
                    rw [← HWB.out]
                    go_region_held3 (fun W => Below wb.heap.size wb W ∧ W.cell? ⟨GA + 1, k, none⟩ = some (.bool false) ∧ W.cell? ⟨GA, 0, none⟩ = some (.int .i64 ax) ∧ W.cell? ⟨GA, 1, none⟩ = some (.int .i64 ay) ∧ W.cell? ⟨wr.heap.size, 0, none⟩ = some (.int .i64 x) ∧ W.cell? ⟨wr.heap.size, 1, none⟩ = some (.int .i64 y) ∧ W.cell? ⟨bb, off + j * 2, none⟩ = some (.int .i64 x2) ∧ W.cell? ⟨bb, off + j * 2 + 1, none⟩ = some (.int .i64 y2))
                      (first
                        | exact ⟨(Below.refl _ _).drew, kd, ga0, ga1, bx0, bx1, dd0, dd1⟩
                        | exact ⟨hSa, (hSa.cell (p := ⟨GA + 1, k, none⟩) lgdB).trans kd, (hSa.cell (p := ⟨GA, 0, none⟩) lgaB).trans ga0, (hSa.cell (p := ⟨GA, 1, none⟩) lgaB).trans ga1, (hSa.cell (p := ⟨wr.heap.size, 0, none⟩) lbx).trans bx0, (hSa.cell (p := ⟨wr.heap.size, 1, none⟩) lbx).trans bx1, (hSa.cell (p := ⟨bb, off + j * 2, none⟩) lbb).trans dd0, (hSa.cell (p := ⟨bb, off + j * 2 + 1, none⟩) lbb).trans dd1⟩)
                      (first
                        | (go_at_call 51
                           refine (freeT_any _ all out (GA + 1) cs k x y _ (Rep.below hallB ((Below.refl _ _).drew)) (hgdB.drewN 1) hdn.out hx.out).mono ?_
                           rintro e W1 ⟨he, hq⟩
                           rw [HFR.out] at he
                           subst he
                           have hSa : Below wb.heap.size wb W1 := bstep ((Below.refl _ _).drew) (Nat.le_refl _) hq)
                        | (go_at_call 48
                           go_split_ands
                           (with_reducible refine (begin_at A _ c shapes x y _ (Rep.below hs (bstep hbwB hbwB.size (by assumption))) HMC.out hS).mono ?_)
                           rintro e W1 ⟨he, hq⟩
                           rw [HM1.out] at he
                           subst he
                           have hSa := bstep (B := wb.heap.size) (a := wb) (by assumption) (Below.size (by assumption)) hq)
                        | (go_at_call 48
                           go_split_ands
                           (with_reducible refine (begin_at A _ c shapes x2 y2 _ (Rep.below hs (bstep hbwB hbwB.size (by assumption))) HMJ.out hS).mono ?_)
                           rintro e W1 ⟨he, hq⟩
                           rw [HM2.out] at he
                           subst he
                           have hSa := bstep (B := wb.heap.size) (a := wb) (by assumption) (Below.size (by assumption)) hq)
                        | (go_at_call 49
                           go_split_ands
                           (with_reducible refine (move_at ax ay bx by_ _ hnear.out HNE1.out).mono ?_)
                           rintro e W1 ⟨he, hq⟩
                           rw [HMV1.out] at he
                           subst he
                           have hSa := bstep (B := wb.heap.size) (a := wb) (by assumption) (Below.size (by assumption)) hq)
                        | (go_at_call 49
                           go_split_ands
                           (with_reducible refine (move_at ax ay bx2 by2 _ hnear.out HNE2.out).mono ?_)
                           rintro e W1 ⟨he, hq⟩
                           rw [HMV2.out] at he
                           subst he
                           have hSa := bstep (B := wb.heap.size) (a := wb) (by assumption) (Below.size (by assumption)) hq))
                    all_goals
                      go_split_ands
                      go_wp2
                      go_roundw
                      case rel => exact ⟨k + 1, by omega, by go_num, by show NearIs _ _; rw [HN.out]; rfl, bstep hbrB hbrB.size (by assumption)⟩
                      case measure => simp [intOf]; omega
              · have HN := Lib.hid (near_no (P := beginF shapes) (a := (ax, ay)) hx.out (may_free hc hfr))
                have HFR := Lib.hid hfr
                clear hc hfr
                go_wp2
                rw [← HWB.out]
                refine wp_region_held_drew (S := fun W => Below wb.heap.size wb W ∧ W.cell? ⟨GA + 1, k, none⟩ = some (.bool false)) (by kernel_rfl) (⟨(Below.refl _ _).drew, kd⟩) (fun hH => ?_)
                refine take_run (i := 0) (v := ?_) (by decide) (by kernel_rfl) (by kernel_rfl) (by kernel_rfl) (fun _ _ _ _ h => h) hH rfl ?_ ?_
                rotate_left
                · (intro w hSw; (try dsimp only at hSw); (try go_split_ands); simp only [List.getElem_toArray, List.getElem_cons_zero]; go_simp; try with_reducible rfl)
                simp (config := { failIfUnchanged := false }) only [Act.put, List.setIfInBounds_toArray, List.set_cons_zero, List.set_cons_succ, List.getElem_toArray, List.getElem_cons_zero, List.getElem_cons_succ]
                refine take_run (i := 1) (v := ?_) (by decide) (by kernel_rfl) (by kernel_rfl) (by kernel_rfl) (fun _ _ _ _ h => h) hH rfl ?_ ?_
                rotate_left
                · (intro w hSw; (try dsimp only at hSw); (try go_split_ands); simp only [List.getElem_toArray, List.getElem_cons_zero, List.getElem_cons_succ]; go_simp; try with_reducible rfl)
                simp (config := { failIfUnchanged := false }) only [Act.put, List.setIfInBounds_toArray, List.set_cons_zero, List.set_cons_succ, List.getElem_toArray, List.getElem_cons_zero, List.getElem_cons_succ]
                refine take_run (i := 2) (v := ?_) (by decide) (by kernel_rfl) (by kernel_rfl) (by kernel_rfl) (fun _ _ _ _ h => h) hH rfl ?_ ?_
                rotate_left
                · (intro w hSw; (try dsimp only at hSw); (try go_split_ands); simp only [List.getElem_toArray, List.getElem_cons_zero, List.getElem_cons_succ]; go_simp; try with_reducible rfl)
                simp (config := { failIfUnchanged := false }) only [Act.put, List.setIfInBounds_toArray, List.set_cons_zero, List.set_cons_succ, List.getElem_toArray, List.getElem_cons_zero, List.getElem_cons_succ]
                refine take_run (i := 3) (v := ?_) (by decide) (by kernel_rfl) (by kernel_rfl) (by kernel_rfl) (fun _ _ _ _ h => h) hH rfl ?_ ?_
                rotate_left
                · (intro w hSw; (try dsimp only at hSw); (try go_split_ands); simp only [List.getElem_toArray, List.getElem_cons_zero, List.getElem_cons_succ]; go_simp; try with_reducible rfl)
                simp (config := { failIfUnchanged := false }) only [Act.put, List.setIfInBounds_toArray, List.set_cons_zero, List.set_cons_succ, List.getElem_toArray, List.getElem_cons_zero, List.getElem_cons_succ]
                refine take_run (i := 4) (v := ?_) (by decide) (by kernel_rfl) (by kernel_rfl) (by kernel_rfl) (fun _ _ _ _ h => h) hH rfl ?_ ?_
                rotate_left
                · (intro w hSw; (try dsimp only at hSw); (try go_split_ands); simp only [List.getElem_toArray, List.getElem_cons_zero, List.getElem_cons_succ]; go_simp; try with_reducible rfl)
                simp (config := { failIfUnchanged := false }) only [Act.put, List.setIfInBounds_toArray, List.set_cons_zero, List.set_cons_succ, List.getElem_toArray, List.getElem_cons_zero, List.getElem_cons_succ]
                refine take_run (i := 5) (v := ?_) (by decide) (by kernel_rfl) (by kernel_rfl) (by kernel_rfl) (fun _ _ _ _ h => h) hH rfl ?_ ?_
                rotate_left
                · (intro w hSw; (try dsimp only at hSw); (try go_split_ands); simp only [List.getElem_toArray, List.getElem_cons_zero, List.getElem_cons_succ]; go_simp; try with_reducible rfl)
                simp (config := { failIfUnchanged := false }) only [Act.put, List.setIfInBounds_toArray, List.set_cons_zero, List.set_cons_succ, List.getElem_toArray, List.getElem_cons_zero, List.getElem_cons_succ]
                refine take_run (i := 6) (v := ?_) (by decide) (by kernel_rfl) (by kernel_rfl) (by kernel_rfl) (fun _ _ _ _ h => h) hH rfl ?_ ?_
                rotate_left
                · (intro w hSw; (try dsimp only at hSw); (try go_split_ands); simp only [List.getElem_toArray, List.getElem_cons_zero, List.getElem_cons_succ]; go_simp; try with_reducible rfl)
                simp (config := { failIfUnchanged := false }) only [Act.put, List.setIfInBounds_toArray, List.set_cons_zero, List.set_cons_succ, List.getElem_toArray, List.getElem_cons_zero, List.getElem_cons_succ]
                refine take_run (i := 7) (v := ?_) (by decide) (by kernel_rfl) (by kernel_rfl) (by kernel_rfl) (fun _ _ _ _ h => h) hH rfl ?_ ?_
                rotate_left
                · (intro w hSw; (try dsimp only at hSw); (try go_split_ands); simp only [List.getElem_toArray, List.getElem_cons_zero, List.getElem_cons_succ]; go_simp; try with_reducible rfl)
                simp (config := { failIfUnchanged := false }) only [Act.put, List.setIfInBounds_toArray, List.set_cons_zero, List.set_cons_succ, List.getElem_toArray, List.getElem_cons_zero, List.getElem_cons_succ]
                refine take_run (i := 8) (v := ?_) (by decide) (by kernel_rfl) (by kernel_rfl) (by kernel_rfl) (fun _ _ _ _ h => h) hH rfl ?_ ?_
                rotate_left
                · (intro w hSw; (try dsimp only at hSw); (try go_split_ands); simp only [List.getElem_toArray, List.getElem_cons_zero, List.getElem_cons_succ]; go_simp; try with_reducible rfl)
                simp (config := { failIfUnchanged := false }) only [Act.put, List.setIfInBounds_toArray, List.set_cons_zero, List.set_cons_succ, List.getElem_toArray, List.getElem_cons_zero, List.getElem_cons_succ]
                refine take_call (i := 9) (by decide) (by kernel_rfl) (fun K hK => ?_)
                simp only [List.getElem_toArray, List.getElem_cons_zero, List.getElem_cons_succ]
                go_simp
                refine (freeT_any _ all out (GA + 1) cs k x y _ (Rep.below hallB ((Below.refl _ _).drew)) (hgdB.drewN 1) hdn.out hx.out).mono ?_
                rintro e wf ⟨he, hbf⟩
                rw [HFR.out] at he
                subst he
                have hSf : Below wb.heap.size wb wf := bstep ((Below.refl _ _).drew) (Nat.le_refl _) hbf
                have hS : Below wb.heap.size wb wf ∧ wf.cell? ⟨GA + 1, k, none⟩ = some (.bool false) := ⟨hSf, (hSf.cell (p := ⟨GA + 1, k, none⟩) lgdB).trans kd⟩
                refine hK.out _ _ hS (fun hH => ?_)
                clear hK K hS
                try simp (config := { failIfUnchanged := false }) only [Act.put, List.setIfInBounds_toArray, List.set_cons_zero, List.set_cons_succ, List.getElem_toArray, List.getElem_cons_zero, List.getElem_cons_succ]
                refine take_run (i := 10) (v := ?_) (by decide) (by kernel_rfl) (by kernel_rfl) (by kernel_rfl) (fun _ _ _ _ h => h) hH rfl ?_ ?_
                rotate_left
                · (intro w hSw; (try dsimp only at hSw); (try go_split_ands); simp only [List.getElem_toArray, List.getElem_cons_zero, List.getElem_cons_succ]; go_simp; try with_reducible rfl)
                simp (config := { failIfUnchanged := false }) only [Act.put, List.setIfInBounds_toArray, List.set_cons_zero, List.set_cons_succ, List.getElem_toArray, List.getElem_cons_zero, List.getElem_cons_succ]
                refine take_run (i := 11) (v := ?_) (by decide) (by kernel_rfl) (by kernel_rfl) (by kernel_rfl) (fun _ _ _ _ h => h) hH rfl ?_ ?_
                rotate_left
                · (intro w hSw; (try dsimp only at hSw); (try go_split_ands); simp only [List.getElem_toArray, List.getElem_cons_zero, List.getElem_cons_succ]; go_simp; try with_reducible rfl)
                simp (config := { failIfUnchanged := false }) only [Act.put, List.setIfInBounds_toArray, List.set_cons_zero, List.set_cons_succ, List.getElem_toArray, List.getElem_cons_zero, List.getElem_cons_succ]
                refine take_skip (i := 12) (by decide) (by kernel_rfl) (by kernel_rfl) (by kernel_rfl) (fun _ _ _ _ h => h) hH rfl ?_
                simp (config := { failIfUnchanged := false }) only [Act.put, List.setIfInBounds_toArray, List.set_cons_zero, List.set_cons_succ, List.getElem_toArray, List.getElem_cons_zero, List.getElem_cons_succ]
                refine take_skip (i := 13) (by decide) (by kernel_rfl) (by kernel_rfl) (by kernel_rfl) (fun _ _ _ _ h => h) hH rfl ?_
                simp (config := { failIfUnchanged := false }) only [Act.put, List.setIfInBounds_toArray, List.set_cons_zero, List.set_cons_succ, List.getElem_toArray, List.getElem_cons_zero, List.getElem_cons_succ]
                refine take_skip (i := 14) (by decide) (by kernel_rfl) (by kernel_rfl) (by kernel_rfl) (fun _ _ _ _ h => h) hH rfl ?_
                simp (config := { failIfUnchanged := false }) only [Act.put, List.setIfInBounds_toArray, List.set_cons_zero, List.set_cons_succ, List.getElem_toArray, List.getElem_cons_zero, List.getElem_cons_succ]
                refine take_skip (i := 15) (by decide) (by kernel_rfl) (by kernel_rfl) (by kernel_rfl) (fun _ _ _ _ h => h) hH rfl ?_
                simp (config := { failIfUnchanged := false }) only [Act.put, List.setIfInBounds_toArray, List.set_cons_zero, List.set_cons_succ, List.getElem_toArray, List.getElem_cons_zero, List.getElem_cons_succ]
                refine take_skip (i := 16) (by decide) (by kernel_rfl) (by kernel_rfl) (by kernel_rfl) (fun _ _ _ _ h => h) hH rfl ?_
                simp (config := { failIfUnchanged := false }) only [Act.put, List.setIfInBounds_toArray, List.set_cons_zero, List.set_cons_succ, List.getElem_toArray, List.getElem_cons_zero, List.getElem_cons_succ]
                refine take_skip (i := 17) (by decide) (by kernel_rfl) (by kernel_rfl) (by kernel_rfl) (fun _ _ _ _ h => h) hH rfl ?_
                simp (config := { failIfUnchanged := false }) only [Act.put, List.setIfInBounds_toArray, List.set_cons_zero, List.set_cons_succ, List.getElem_toArray, List.getElem_cons_zero, List.getElem_cons_succ]
                refine take_skip (i := 18) (by decide) (by kernel_rfl) (by kernel_rfl) (by kernel_rfl) (fun _ _ _ _ h => h) hH rfl ?_
                simp (config := { failIfUnchanged := false }) only [Act.put, List.setIfInBounds_toArray, List.set_cons_zero, List.set_cons_succ, List.getElem_toArray, List.getElem_cons_zero, List.getElem_cons_succ]
                refine take_skip (i := 19) (by decide) (by kernel_rfl) (by kernel_rfl) (by kernel_rfl) (fun _ _ _ _ h => h) hH rfl ?_
                simp (config := { failIfUnchanged := false }) only [Act.put, List.setIfInBounds_toArray, List.set_cons_zero, List.set_cons_succ, List.getElem_toArray, List.getElem_cons_zero, List.getElem_cons_succ]
                refine take_skip (i := 20) (by decide) (by kernel_rfl) (by kernel_rfl) (by kernel_rfl) (fun _ _ _ _ h => h) hH rfl ?_
                simp (config := { failIfUnchanged := false }) only [Act.put, List.setIfInBounds_toArray, List.set_cons_zero, List.set_cons_succ, List.getElem_toArray, List.getElem_cons_zero, List.getElem_cons_succ]
                refine take_skip (i := 21) (by decide) (by kernel_rfl) (by kernel_rfl) (by kernel_rfl) (fun _ _ _ _ h => h) hH rfl ?_
                simp (config := { failIfUnchanged := false }) only [Act.put, List.setIfInBounds_toArray, List.set_cons_zero, List.set_cons_succ, List.getElem_toArray, List.getElem_cons_zero, List.getElem_cons_succ]
                refine take_skip (i := 22) (by decide) (by kernel_rfl) (by kernel_rfl) (by kernel_rfl) (fun _ _ _ _ h => h) hH rfl ?_
                simp (config := { failIfUnchanged := false }) only [Act.put, List.setIfInBounds_toArray, List.set_cons_zero, List.set_cons_succ, List.getElem_toArray, List.getElem_cons_zero, List.getElem_cons_succ]
                refine take_skip (i := 23) (by decide) (by kernel_rfl) (by kernel_rfl) (by kernel_rfl) (fun _ _ _ _ h => h) hH rfl ?_
                simp (config := { failIfUnchanged := false }) only [Act.put, List.setIfInBounds_toArray, List.set_cons_zero, List.set_cons_succ, List.getElem_toArray, List.getElem_cons_zero, List.getElem_cons_succ]
                refine take_skip (i := 24) (by decide) (by kernel_rfl) (by kernel_rfl) (by kernel_rfl) (fun _ _ _ _ h => h) hH rfl ?_
                simp (config := { failIfUnchanged := false }) only [Act.put, List.setIfInBounds_toArray, List.set_cons_zero, List.set_cons_succ, List.getElem_toArray, List.getElem_cons_zero, List.getElem_cons_succ]
                refine take_skip (i := 25) (by decide) (by kernel_rfl) (by kernel_rfl) (by kernel_rfl) (fun _ _ _ _ h => h) hH rfl ?_
                simp (config := { failIfUnchanged := false }) only [Act.put, List.setIfInBounds_toArray, List.set_cons_zero, List.set_cons_succ, List.getElem_toArray, List.getElem_cons_zero, List.getElem_cons_succ]
                refine take_skip (i := 26) (by decide) (by kernel_rfl) (by kernel_rfl) (by kernel_rfl) (fun _ _ _ _ h => h) hH rfl ?_
                simp (config := { failIfUnchanged := false }) only [Act.put, List.setIfInBounds_toArray, List.set_cons_zero, List.set_cons_succ, List.getElem_toArray, List.getElem_cons_zero, List.getElem_cons_succ]
                refine take_skip (i := 27) (by decide) (by kernel_rfl) (by kernel_rfl) (by kernel_rfl) (fun _ _ _ _ h => h) hH rfl ?_
                simp (config := { failIfUnchanged := false }) only [Act.put, List.setIfInBounds_toArray, List.set_cons_zero, List.set_cons_succ, List.getElem_toArray, List.getElem_cons_zero, List.getElem_cons_succ]
                refine take_skip (i := 28) (by decide) (by kernel_rfl) (by kernel_rfl) (by kernel_rfl) (fun _ _ _ _ h => h) hH rfl ?_
                simp (config := { failIfUnchanged := false }) only [Act.put, List.setIfInBounds_toArray, List.set_cons_zero, List.set_cons_succ, List.getElem_toArray, List.getElem_cons_zero, List.getElem_cons_succ]
                refine take_skip (i := 29) (by decide) (by kernel_rfl) (by kernel_rfl) (by kernel_rfl) (fun _ _ _ _ h => h) hH rfl ?_
                simp (config := { failIfUnchanged := false }) only [Act.put, List.setIfInBounds_toArray, List.set_cons_zero, List.set_cons_succ, List.getElem_toArray, List.getElem_cons_zero, List.getElem_cons_succ]
                refine take_run (i := 30) (v := ?_) (by decide) (by kernel_rfl) (by kernel_rfl) (by kernel_rfl) (fun _ _ _ _ h => h) hH rfl ?_ ?_
                rotate_left
                · (intro w hSw; (try dsimp only at hSw); (try go_split_ands); simp only [List.getElem_toArray, List.getElem_cons_zero, List.getElem_cons_succ]; go_simp; try with_reducible rfl)
                simp (config := { failIfUnchanged := false }) only [Act.put, List.setIfInBounds_toArray, List.set_cons_zero, List.set_cons_succ, List.getElem_toArray, List.getElem_cons_zero, List.getElem_cons_succ]
                refine wpAnyH_done (by kernel_rfl) ?_ _
                go_wp2
                go_roundw
                case rel => exact ⟨k + 1, by omega, by go_num, by show NearIs _ _; rw [HN.out]; exact hni.out, bstep hbrB hbrB.size hSf⟩
                case measure => simp [intOf]; omega
          · obtain rfl : k = all.length := by omega
            have hn2 := hni.out
            rw [HJN.out] at hn2
            have hn2 : _ = Value.int .i64 (jn : Int) := hn2
            subst hn2
            obtain ⟨cx, cy⟩ := cn
            have hga1 := hga.below hbr hga.lt
            have hgd1 := hgd.below hbr hgd.lt
            have hva1 : prR.slice.R wr (fun b => b < GA) all [.slice A1 all.length c1] := Rep.keep _ (fun i (hi : i < GA) => hbr.block i (by omega)) hva
            have hb1 := bstep hb hz hbr
            have hown1 : OwnP wr (GA + 2) 57 _ _ := own_below hown hbr
            obtain ⟨bb, off, x', y', rfl, hx', hbD, d0, d1, -⟩ := pairs_at hva1 hjl
            have hxe := hx'.out.symm.trans HCN.out
            injection hxe with hxe
            injection hxe with e1 e2
            subst e1 e2
            have hbbl : bb < GA := hbD
            have hGr1 : GA + 1 < wr.heap.size := Nat.lt_of_lt_of_le hGr hzr
            have hmem : (x', y') ∈ all := List.mem_of_getElem? HCN.out
            have HMEM := Lib.hid hmem
            obtain ⟨bx, by_, hbg⟩ : ∃ bx by_, beginF shapes (x', y') = (bx, by_) := ⟨_, _, rfl⟩
            have HM1 : Hid (prArr (beginF shapes (x', y')) = #[.int .i64 bx, .int .i64 by_]) := by show prArr _ = _; rw [hbg]; rfl
            have HB1 := Lib.hid hbg
            have HNE : Hid (Near (bx, by_)) := by show Near _; rw [← hbg]; exact HBN.out _ hmem
            have HGN := Lib.hid (greedyT_next hlt HJN.out HCN.out)
            have HDN := Lib.hid (done_snoc hdn.out HND.out HCN.out)
            have HCU := Lib.hid (hcut.out.snoc hmem (may_out HMN.out))
            have q0 := hgd1.cell jn
            rw [hdn.out.at_ jn _ HCN.out] at q0
            have f0 := hgd1.free jn
            have hjp : ¬ (jn : Int) < 0 := by omega
            have hjp2 : (jn : Int) < (all.length : Int) := by omega
            have hbd1 : ¬ bb = GA + 1 := by omega
            clear hmem hbg
            go_wp2_with fail
            have hgd2 := hgd1.set_ jn (.bool true)
            have hga2 := hga1.far (p := ⟨GA + 1, jn, none⟩) (by show GA ≠ GA + 1; omega) (.bool true)
            have hb2' := hb1.setCell (p := ⟨GA + 1, jn, none⟩) (by show w.heap.size ≤ GA + 1; omega) (.bool true)
            have hown2 : OwnP (wr.setCell ⟨GA + 1, jn, none⟩ (.bool true)) (GA + 2) 57 _ _ := own_far hown1 (by show GA + 1 < GA + 2; omega) (.bool true)
            have hva2 : prR.slice.R (wr.setCell ⟨GA + 1, jn, none⟩ (.bool true)) (fun b => b < GA) all [.slice (some ⟨bb, off, none⟩) all.length c1] := Rep.keep _ (fun i (hi : i < GA) => Below.heap_setCell wr ⟨GA + 1, jn, none⟩ (.bool true) i (by show i ≠ GA + 1; omega)) hva1
            refine (begin_any A _ c shapes (x', y') _ (Rep.below hs hb2') (by rw [HALL.out]; exact HMEM.out) hS).mono ?_
            rintro e w4 ⟨he, hb4⟩
            rw [HM1.out] at he
            subst he
            have hga3 := hga2.below hb4 hga2.lt
            have hgd3 := hgd2.below hb4 hgd2.lt
            have hb3' := bstep hb2' hb2'.size hb4
            have hown3 : OwnP w4 (GA + 2) 57 _ _ := own_below hown2 hb4
            have hz4 := hb4.size
            have hzs : (wr.setCell ⟨GA + 1, jn, none⟩ (.bool true)).heap.size = wr.heap.size := by simp [World.setCell]
            have hGr4 : GA + 1 < w4.heap.size := by omega
            have hva3 : prR.slice.R w4 (fun b => b < GA) all [.slice (some ⟨bb, off, none⟩) all.length c1] := Rep.keep _ (fun i (hi : i < GA) => hb4.block i (by omega)) hva2
            obtain ⟨bb', off', x'', y'', e, hx'', -, d0', d1', -⟩ := pairs_at hva3 hjl
            injection e with e
            injection e with e5 e6 _
            subst e5 e6
            have hxe := hx''.out.symm.trans HCN.out
            injection hxe with hxe
            injection hxe with e1 e2
            subst e1 e2
            have y0 := hga3.c20
            have y1 := hga3.c21
            have ff0 := hga3.free 0
            have ff1 := hga3.free 1
            have hbn : ¬ bb = GA := by omega
            have hga4 := (hga3.set_ 0 (.int .i64 bx)).set_ 1 (.int .i64 by_)
            have hgd4 := (hgd3.far (p := ⟨GA, 0, none⟩) (by show GA + 1 ≠ GA; omega) (.int .i64 bx)).far (p := ⟨GA, 1, none⟩) (by show GA + 1 ≠ GA; omega) (.int .i64 by_)
            have hb5' := (hb3'.setCell (p := ⟨GA, 0, none⟩) hGw (.int .i64 bx)).setCell (p := ⟨GA, 1, none⟩) hGw (.int .i64 by_)
            have hown4 : OwnP ((w4.setCell ⟨GA, 0, none⟩ (.int .i64 bx)).setCell ⟨GA, 1, none⟩ (.int .i64 by_)) (GA + 2) 57 _ _ := own_far (own_far hown3 (by show GA < GA + 2; omega) (.int .i64 bx)) (by show GA < GA + 2; omega) (.int .i64 by_)
            have hva4 : prR.slice.R ((w4.setCell ⟨GA, 0, none⟩ (.int .i64 bx)).setCell ⟨GA, 1, none⟩ (.int .i64 by_)) (fun b => b < GA) all [.slice (some ⟨bb, off, none⟩) all.length c1] :=
              Rep.keep _ (fun i (hi : i < GA) => (Below.heap_setCell _ ⟨GA, 1, none⟩ (.int .i64 by_) i (by show i ≠ GA; omega)).trans (Below.heap_setCell w4 ⟨GA, 0, none⟩ (.int .i64 bx) i (by show i ≠ GA; omega))) hva3
            have hzs4 : ((w4.setCell ⟨GA, 0, none⟩ (.int .i64 bx)).setCell ⟨GA, 1, none⟩ (.int .i64 by_)).heap.size = w4.heap.size := by simp [World.setCell]
            go_wp2_with (at_builtin; refine wpList_append_own _ rfl _ _ 23 rfl (GA + 2) 57 i0 (.agg #[.int .i64 0, .int .i64 0]) 2 16 Tryd.underlying23 hinf hz0 hz1 hz2 rfl (by decide) _ _ _ rfl (World.ownsRow.alloc hown4 _) ⟨((w4.setCell ⟨GA, 0, none⟩ (.int .i64 bx)).setCell ⟨GA, 1, none⟩ (.int .i64 by_)).heap.size, 0, none⟩ 1 1 [.int .i64 x'', .int .i64 y''] (by rw [hzs4]; rfl) rfl (new_pr _ _ _ _) (pr_one _ _) (by unfold maxLen; omega) (by omega) (by simp [World.setCell]; omega) ?_; intro v5 w5 hown5 hg5 _)
            have hb6 := (hb5'.alloc hb5'.size (.cells #[.int .i64 x'', .int .i64 y''] 57)).grown hg5 (by have := hb5'.size; simp [World.setCell]; omega) (fun j hj => by have := (World.ownsRow.lt hown4 j hj).1; omega)
            have hga6 := Blk.grown (hga4.alloc (.cells #[.int .i64 x'', .int .i64 y''] 57)) hg5 (fun e => by have := (World.ownsRow.lt hown4 _ e.symm).1; omega)
            have hgd6 := Blk.grown (hgd4.alloc (.cells #[.int .i64 x'', .int .i64 y''] 57)) hg5 (fun e => by have := (World.ownsRow.lt hown4 _ e.symm).1; omega)
            have hva6 : prR.slice.R w5 (fun b => b < GA) all [.slice (some ⟨bb, off, none⟩) all.length c1] :=
              Rep.keep _ (fun i (hi : i < GA) => (hg5.block i (by simp [World.setCell]; omega) (fun e => by have := (World.ownsRow.lt hown4 _ e.symm).1; omega)).trans (Below.heap_alloc _ _ i (by simp [World.setCell]; omega))) hva4
            go_roundw
            case rel =>
              exact ⟨out ++ [(x'', y'')], bx, by_, _, by rw [List.length_append]; go_num, HCU.out, HDN.out, HNE.out, by show _ = _; rw [← hgr.out, HGN.out, HB1.out], ownP_snoc hown5, hga6, hgd6, hva6, by have := hg5.size; simp [World.setCell] at this; omega, hb6⟩
            case measure => simp [intOf]; omega
      · have hle : out.length = all.length := by omega
        have HR : Hid (greedyT all (beginF shapes) all.length [] (0, 0) = out) := by
          show _ = out
          rw [← hgr.out, hle, Nat.sub_self, greedyT]
        have hrb : prR.slice.R wr (Lt wr) out [_] := own_prs hown (fun x hx => HBD.out x (hcut.out.sub x hx))
        clear hle
        go_wp2
        go_ret
        exact ⟨_, rfl, by rw [HT.out, HR.out]; exact hrb, hb⟩
end Go.Proofs.YthfnncnmggkfaaaDoor
