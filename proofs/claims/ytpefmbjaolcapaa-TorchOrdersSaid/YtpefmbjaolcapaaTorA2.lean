/- Chapter 26: Greedy, by walking the reference's text. -/
import Derived.Test.YtpefmbjaolcapaaTorA1
import Derived.Test.YtpefmbjaolcapaaTorSort
set_option linter.unusedSimpArgs false
namespace Go.Proofs.Ytpefmbjaolcapaa
open Go Go.RowKit

set_option maxRecDepth 100000 in
set_option maxHeartbeats 8000000 in
theorem refGreedyT_any (vs : Value) (shapes : List Shp) (w : World) (hs : shpsR.R w (Lt w) shapes [vs]) (hS : SmallS shapes) :
    Calls Try.prog 25 #[vs] w (GreedyTPost (greedyTF shapes) w) := by
  obtain ⟨A, c, rfl, hm, -⟩ := slice_inv hs
  have HBD := Lib.hid (ct_bd hS)
  have HND := Lib.hid (contours_nodup shapes)
  have HNN := Lib.hid (fun c h => ct_nonneg (shapes := shapes) (c := c) h)
  have HBN := Lib.hid (fun c h => begin_near (shapes := shapes) (c := c) h)
  have HCL := Lib.hid (contours_len hS)
  by_cases h1 : 288 < (contoursF shapes).length
  · have HT := Lib.hid (greedyTF_many h1)
    go_enter Try.func25, Try.ntmps25
    go_wp2_with fail
    refine (refContours_any A _ c shapes _ hs hS).mono ?_
    rintro e w1 ⟨v1, rfl, hown, hb1⟩
    obtain ⟨A1, c1, rfl⟩ := own_slice hown
    go_wp2
    go_ret
    exact ⟨_, rfl, by rw [HT.out]; exact Rep.slice_nil _ _ _, hb1⟩
  · have HT := Lib.hid (greedyTF_yes h1)
    obtain ⟨i0, hinf, hz0, hz1, hz2⟩ := info_parts ct_info
    go_enter Try.func25, Try.ntmps25
    go_wp2_with fail
    refine (refContours_any A _ c shapes _ hs hS).mono ?_
    rintro e w1 ⟨v1, rfl, hown, hb1⟩
    have hv1 := own_prs hown HBD.out
    obtain ⟨A1, c1, rfl⟩ := own_slice hown
    have hmem0 : ∀ x ∈ contoursF shapes, x ∈ contoursF shapes := fun _ h => h
    have hstart := starts_any A _ c (.slice A1 (contoursF shapes).length c1) shapes (contoursF shapes) w1 (Rep.below hs hb1) hv1 hmem0 hS HCL.out
    clear hown hmem0
    go_wp2_with fail
    refine hstart.mono ?_
    rintro e w2 ⟨v2, rfl, hown2, hq⟩
    have hpb : ∀ p ∈ (contoursF shapes).map (beginF shapes), inI64 p.1 ∧ inI64 p.2 := by
      intro p hp
      obtain ⟨c, hc, rfl⟩ := List.mem_map.1 hp
      obtain ⟨⟨a1, a2⟩, a3, a4⟩ := HBN.out c hc
      unfold inI64; omega
    have hv2 := own_prs hown2 hpb
    have hva2 := Rep.below hv1 hq
    have hb2 := bstep hb1 hb1.size hq
    obtain ⟨A2, c2, hA2⟩ := own_slice hown2
    rw [List.length_map] at hA2
    subst hA2
    have HPT : Hid (∀ k x, (contoursF shapes)[k]? = some x → ((contoursF shapes).map (beginF shapes))[k]? = some (beginF shapes x)) := fun k x h => by rw [List.getElem?_map, h]; rfl
    generalize hpts : (contoursF shapes).map (beginF shapes) = pts at *
    have hplen : pts.length = (contoursF shapes).length := by rw [← hpts, List.length_map]
    generalize hall : contoursF shapes = all at *
    have HALL := Lib.hid hall
    have HPL := Lib.hid hplen
    clear hall hown2 hpts hplen hstart hv1 hq hpb hb1
    have g0 := Blk.new w2 28 #[.int .i64 0, .int .i64 0]
    have hb3 := hb2.alloc hb2.size (.cells #[.int .i64 0, .int .i64 0] 28)
    have hva3 := Rep.at_ hva2 ((Below.refl w2.heap.size w2).alloc (Nat.le_refl _) (.cells #[.int .i64 0, .int .i64 0] 28))
    have hvp3 := Rep.at_ hv2 ((Below.refl w2.heap.size w2).alloc (Nat.le_refl _) (.cells #[.int .i64 0, .int .i64 0] 28))
    obtain ⟨w3, hw3⟩ : ∃ w3, w3 = w2.alloc (.cells #[.int .i64 0, .int .i64 0] 28) := ⟨_, rfl⟩
    go_wp2
    obtain ⟨GA, hGA⟩ : ∃ G, G = w2.heap.size := ⟨_, rfl⟩
    have hva' : prR.slice.R w3 (fun b => b < GA) all [.slice A1 all.length c1] := by rw [hw3, hGA]; exact hva3
    have hvp' : prR.slice.R w3 (fun b => b < GA) pts [.slice A2 all.length c2] := by rw [hw3, hGA]; exact hvp3
    have hGs : GA < w3.heap.size := by rw [hw3, hGA]; simp
    have hGw : w.heap.size ≤ GA := by rw [hGA]; exact hb2.size
    rw [← hw3] at g0 hb3 ⊢
    rw [← hGA] at g0 ⊢
    clear hw3 hGA hv2 hva2 hb2 hva3 hvp3
    go_loopw [5] (fun v wr => ∃ (out : List Pt) (ax ay : Int), Hid (Cut all out) ∧ Hid (Near (ax, ay)) ∧ Hid (greedyT all (beginF shapes) (all.length - out.length) out (ax, ay) = greedyT all (beginF shapes) all.length [] (0, 0)) ∧
        OwnP wr (GA + 1) 24 v out ∧ Blk wr GA 28 #[.int .i64 ax, .int .i64 ay] ∧ prR.slice.R wr (fun b => b < GA) all [.slice A1 all.length c1] ∧ prR.slice.R wr (fun b => b < GA) pts [.slice A2 all.length c2] ∧ GA < wr.heap.size ∧ Below w.heap.size w wr) (fun v _ => all.length - sliceLen v)
    case atStart => exact ⟨[], 0, 0, Cut.nil _, ⟨⟨by decide, by decide⟩, by decide, by decide⟩, rfl, World.ownsRow_nil _ _ _ _, g0, hva', hvp', hGs, hb3⟩
    case round =>
      obtain ⟨out, ax, ay, hcut, hnear, hgr, hown, hga, hva, hvp, hGr, hb⟩ := hrel
      have hz := hb.size
      have hol := hcut.out.len
      obtain ⟨A5, c5, hA5⟩ := own_slice hown
      subst hA5
      have hrb : prR.slice.R wr (Lt wr) out [.slice A5 out.length c5] := own_prs hown (fun x hx => HBD.out x (hcut.out.sub x hx))
      by_cases hlt : out.length < all.length
      · obtain ⟨jn, cn, hjn, hcn, hmn⟩ := near_some (P := beginF shapes) (a := (ax, ay)) HND.out (fun c h => HNN.out c h) hcut.out hlt
        have HJN := Lib.hid hjn
        have HCN := Lib.hid hcn
        have HMN := Lib.hid hmn
        have hjl := lt_of_get hcn
        have hlti : (out.length : Int) < (all.length : Int) := by omega
        clear hjn hcn hmn
        go_wp2
        obtain ⟨wo, hwo⟩ : ∃ wo : World, wo = wr := ⟨_, rfl⟩
        subst hwo
        go_loopw [7, 8] (fun v i wr => ∃ k : Nat, k ≤ all.length ∧ i = .int .i64 k ∧ Hid (NearIs (nearTo all (beginF shapes) out (ax, ay) k) v) ∧ Below wo.heap.size wo wr) (fun _ i _ => all.length - (intOf i).toNat)
        case atStart => exact ⟨0, Nat.zero_le _, rfl, rfl, Below.refl _ _⟩
        case round =>
          obtain ⟨k, hk, rfl, hni, hbr⟩ := hrel
          have hzr := hbr.size
          have hra : prR.slice.R wr (Lt wr) all [.slice A1 all.length c1] := rep_up (G := GA) (Rep.keep _ (fun i (hi : i < GA) => hbr.block i (by omega)) hva) (by omega)
          have hrr : prR.slice.R wr (Lt wr) out [.slice A5 out.length c5] := Rep.below hrb hbr
          have hrp : prR.slice.R wr (Lt wr) pts [.slice A2 all.length c2] := rep_up (G := GA) (Rep.keep _ (fun i (hi : i < GA) => hbr.block i (by omega)) hvp) (by omega)
          by_cases hkl : k < all.length
          · obtain ⟨bb, off, x, y, rfl, hx, hbD, d0, d1, -⟩ := pairs_at hra hkl
            have hki : (k : Int) < (all.length : Int) := by omega
            have hmem : (x, y) ∈ all := List.mem_of_getElem? hx.out
            have hyn : 0 ≤ y := HNN.out _ hmem
            have HS1 : Hid (∀ W, Below wr.heap.size wr W → Below wr.heap.size wr W ∧ W.cell? ⟨bb, off + k * 2, none⟩ = some (.int .i64 x) ∧ W.cell? ⟨bb, off + k * 2 + 1, none⟩ = some (.int .i64 y)) := fun W h => ⟨h, bget h d0, bget h d1⟩
            obtain ⟨ix, hix⟩ : ∃ r, idxC out (x, y) = r := ⟨_, rfl⟩
            have hixc := idxC_contains out (x, y)
            rw [hix] at hixc
            have HIX := Lib.hid hix
            clear hix
            rcases Bool.eq_false_or_eq_true (out.contains (x, y)) with hc | hc
            · have HN := Lib.hid (near_no (P := beginF shapes) (a := (ax, ay)) hx.out (may_in (all := all) hc))
              have hix0 : ¬ ix < 0 := by rw [hc] at hixc; simp at hixc; omega
              have hixd : decide (ix < 0) = false := decide_eq_false hix0
              clear hc hixc hmem
              go_wp2
              refine wp_region_held_drew (S := fun W => Below wr.heap.size wr W ∧ W.cell? ⟨bb, off + k * 2, none⟩ = some (.int .i64 x) ∧ W.cell? ⟨bb, off + k * 2 + 1, none⟩ = some (.int .i64 y)) (by kernel_rfl) (HS1.out _ (Below.drew (Below.refl _ _))) (fun hH => ?_)
              refine take_run (i := 0) (v := ?_) (by decide) (by kernel_rfl) (by kernel_rfl) (by kernel_rfl) (fun _ _ _ _ h => h) hH rfl ?_ ?_
              rotate_left
              · (intro w hSw; (try dsimp only at hSw); (try go_split_ands); simp only [List.getElem_toArray, List.getElem_cons_zero]; go_simp; try with_reducible rfl)
              simp (config := { failIfUnchanged := false }) only [Act.put, List.setIfInBounds_toArray, List.set_cons_zero, List.set_cons_succ, List.getElem_toArray, List.getElem_cons_zero, List.getElem_cons_succ]
              refine take_run (i := 1) (v := ?_) (by decide) (by kernel_rfl) (by kernel_rfl) (by kernel_rfl) (fun _ _ _ _ h => h) hH rfl ?_ ?_
              rotate_left
              · (intro w hSw; (try dsimp only at hSw); (try go_split_ands); simp only [List.getElem_toArray, List.getElem_cons_zero, List.getElem_cons_succ]; go_simp; try with_reducible rfl)
              simp (config := { failIfUnchanged := false }) only [Act.put, List.setIfInBounds_toArray, List.set_cons_zero, List.set_cons_succ, List.getElem_toArray, List.getElem_cons_zero, List.getElem_cons_succ]
              refine take_run (i := 2) (v := ?_) (by decide) (by kernel_rfl) (by kernel_rfl) (by kernel_rfl) (fun _ _ _ _ h => h) hH rfl ?_ ?_
              rotate_left
              · (intro w hSw; (try dsimp only at hSw); (try go_split_ands); simp only [List.getElem_toArray, List.getElem_cons_zero, List.getElem_cons_succ]; go_simp; try with_reducible rfl)
              simp (config := { failIfUnchanged := false }) only [Act.put, List.setIfInBounds_toArray, List.set_cons_zero, List.set_cons_succ, List.getElem_toArray, List.getElem_cons_zero, List.getElem_cons_succ]
              refine take_run (i := 3) (v := ?_) (by decide) (by kernel_rfl) (by kernel_rfl) (by kernel_rfl) (fun _ _ _ _ h => h) hH rfl ?_ ?_
              rotate_left
              · (intro w hSw; (try dsimp only at hSw); (try go_split_ands); simp only [List.getElem_toArray, List.getElem_cons_zero, List.getElem_cons_succ]; go_simp; try with_reducible rfl)
              simp (config := { failIfUnchanged := false }) only [Act.put, List.setIfInBounds_toArray, List.set_cons_zero, List.set_cons_succ, List.getElem_toArray, List.getElem_cons_zero, List.getElem_cons_succ]
              refine take_run (i := 4) (v := ?_) (by decide) (by kernel_rfl) (by kernel_rfl) (by kernel_rfl) (fun _ _ _ _ h => h) hH rfl ?_ ?_
              rotate_left
              · (intro w hSw; (try dsimp only at hSw); (try go_split_ands); simp only [List.getElem_toArray, List.getElem_cons_zero, List.getElem_cons_succ]; go_simp; try with_reducible rfl)
              simp (config := { failIfUnchanged := false }) only [Act.put, List.setIfInBounds_toArray, List.set_cons_zero, List.set_cons_succ, List.getElem_toArray, List.getElem_cons_zero, List.getElem_cons_succ]
              refine take_call (i := 5) (by decide) (by kernel_rfl) (fun K hK => ?_)
              simp only [List.getElem_toArray, List.getElem_cons_zero, List.getElem_cons_succ]
              go_simp
              refine (find_any _ out x y _ (Rep.below hrr (Below.drew (Below.refl _ _)))).mono ?_
              rintro e w1 ⟨he, hq⟩
              rw [HIX.out] at he
              subst he
              have hSf : Below wr.heap.size wr w1 := bstep (Below.drew (Below.refl _ _)) (Nat.le_refl _) hq
              have hS := HS1.out _ hSf
              refine hK.out _ _ hS (fun hH => ?_)
              clear hK K hS
              try simp (config := { failIfUnchanged := false }) only [Act.put, List.setIfInBounds_toArray, List.set_cons_zero, List.set_cons_succ, List.getElem_toArray, List.getElem_cons_zero, List.getElem_cons_succ]
              refine take_run (i := 6) (v := ?_) (by decide) (by kernel_rfl) (by kernel_rfl) (by kernel_rfl) (fun _ _ _ _ h => h) hH rfl ?_ ?_
              rotate_left
              · (intro w hSw; (try dsimp only at hSw); (try go_split_ands); simp only [List.getElem_toArray, List.getElem_cons_zero, List.getElem_cons_succ]; go_simp; try with_reducible rfl)
              simp (config := { failIfUnchanged := false }) only [Act.put, List.setIfInBounds_toArray, List.set_cons_zero, List.set_cons_succ, List.getElem_toArray, List.getElem_cons_zero, List.getElem_cons_succ]
              refine take_run (i := 7) (v := ?_) (by decide) (by kernel_rfl) (by kernel_rfl) (by kernel_rfl) (fun _ _ _ _ h => h) hH rfl ?_ ?_
              rotate_left
              · (intro w hSw; (try dsimp only at hSw); (try go_split_ands); simp only [List.getElem_toArray, List.getElem_cons_zero, List.getElem_cons_succ]; go_simp; try with_reducible rfl)
              simp (config := { failIfUnchanged := false }) only [Act.put, List.setIfInBounds_toArray, List.set_cons_zero, List.set_cons_succ, List.getElem_toArray, List.getElem_cons_zero, List.getElem_cons_succ]
              refine take_skip (i := 8) (by decide) (by kernel_rfl) (by kernel_rfl) (by kernel_rfl) (fun _ _ _ _ h => h) hH rfl ?_
              simp (config := { failIfUnchanged := false }) only [Act.put, List.setIfInBounds_toArray, List.set_cons_zero, List.set_cons_succ, List.getElem_toArray, List.getElem_cons_zero, List.getElem_cons_succ]
              refine take_skip (i := 9) (by decide) (by kernel_rfl) (by kernel_rfl) (by kernel_rfl) (fun _ _ _ _ h => h) hH rfl ?_
              simp (config := { failIfUnchanged := false }) only [Act.put, List.setIfInBounds_toArray, List.set_cons_zero, List.set_cons_succ, List.getElem_toArray, List.getElem_cons_zero, List.getElem_cons_succ]
              refine take_skip (i := 10) (by decide) (by kernel_rfl) (by kernel_rfl) (by kernel_rfl) (fun _ _ _ _ h => h) hH rfl ?_
              simp (config := { failIfUnchanged := false }) only [Act.put, List.setIfInBounds_toArray, List.set_cons_zero, List.set_cons_succ, List.getElem_toArray, List.getElem_cons_zero, List.getElem_cons_succ]
              refine take_skip (i := 11) (by decide) (by kernel_rfl) (by kernel_rfl) (by kernel_rfl) (fun _ _ _ _ h => h) hH rfl ?_
              simp (config := { failIfUnchanged := false }) only [Act.put, List.setIfInBounds_toArray, List.set_cons_zero, List.set_cons_succ, List.getElem_toArray, List.getElem_cons_zero, List.getElem_cons_succ]
              refine take_skip (i := 12) (by decide) (by kernel_rfl) (by kernel_rfl) (by kernel_rfl) (fun _ _ _ _ h => h) hH rfl ?_
              simp (config := { failIfUnchanged := false }) only [Act.put, List.setIfInBounds_toArray, List.set_cons_zero, List.set_cons_succ, List.getElem_toArray, List.getElem_cons_zero, List.getElem_cons_succ]
              refine take_skip (i := 13) (by decide) (by kernel_rfl) (by kernel_rfl) (by kernel_rfl) (fun _ _ _ _ h => h) hH rfl ?_
              simp (config := { failIfUnchanged := false }) only [Act.put, List.setIfInBounds_toArray, List.set_cons_zero, List.set_cons_succ, List.getElem_toArray, List.getElem_cons_zero, List.getElem_cons_succ]
              refine take_skip (i := 14) (by decide) (by kernel_rfl) (by kernel_rfl) (by kernel_rfl) (fun _ _ _ _ h => h) hH rfl ?_
              simp (config := { failIfUnchanged := false }) only [Act.put, List.setIfInBounds_toArray, List.set_cons_zero, List.set_cons_succ, List.getElem_toArray, List.getElem_cons_zero, List.getElem_cons_succ]
              refine take_run (i := 15) (v := ?_) (by decide) (by kernel_rfl) (by kernel_rfl) (by kernel_rfl) (fun _ _ _ _ h => h) hH rfl ?_ ?_
              rotate_left
              · (intro w hSw; (try dsimp only at hSw); (try go_split_ands); simp only [List.getElem_toArray, List.getElem_cons_zero, List.getElem_cons_succ]; go_simp; try with_reducible rfl)
              simp (config := { failIfUnchanged := false }) only [Act.put, List.setIfInBounds_toArray, List.set_cons_zero, List.set_cons_succ, List.getElem_toArray, List.getElem_cons_zero, List.getElem_cons_succ]
              refine take_run (i := 16) (v := ?_) (by decide) (by kernel_rfl) (by kernel_rfl) (by kernel_rfl) (fun _ _ _ _ h => h) hH rfl ?_ ?_
              rotate_left
              · (intro w hSw; (try dsimp only at hSw); (try go_split_ands); simp only [List.getElem_toArray, List.getElem_cons_zero, List.getElem_cons_succ]; go_simp; try with_reducible rfl)
              simp (config := { failIfUnchanged := false }) only [Act.put, List.setIfInBounds_toArray, List.set_cons_zero, List.set_cons_succ, List.getElem_toArray, List.getElem_cons_zero, List.getElem_cons_succ]
              refine take_skip (i := 17) (by decide) (by kernel_rfl) (by kernel_rfl) (by kernel_rfl) (fun _ _ _ _ h => h) hH rfl ?_
              simp (config := { failIfUnchanged := false }) only [Act.put, List.setIfInBounds_toArray, List.set_cons_zero, List.set_cons_succ, List.getElem_toArray, List.getElem_cons_zero, List.getElem_cons_succ]
              refine take_skip (i := 18) (by decide) (by kernel_rfl) (by kernel_rfl) (by kernel_rfl) (fun _ _ _ _ h => h) hH rfl ?_
              simp (config := { failIfUnchanged := false }) only [Act.put, List.setIfInBounds_toArray, List.set_cons_zero, List.set_cons_succ, List.getElem_toArray, List.getElem_cons_zero, List.getElem_cons_succ]
              refine take_skip (i := 19) (by decide) (by kernel_rfl) (by kernel_rfl) (by kernel_rfl) (fun _ _ _ _ h => h) hH rfl ?_
              simp (config := { failIfUnchanged := false }) only [Act.put, List.setIfInBounds_toArray, List.set_cons_zero, List.set_cons_succ, List.getElem_toArray, List.getElem_cons_zero, List.getElem_cons_succ]
              refine take_skip (i := 20) (by decide) (by kernel_rfl) (by kernel_rfl) (by kernel_rfl) (fun _ _ _ _ h => h) hH rfl ?_
              simp (config := { failIfUnchanged := false }) only [Act.put, List.setIfInBounds_toArray, List.set_cons_zero, List.set_cons_succ, List.getElem_toArray, List.getElem_cons_zero, List.getElem_cons_succ]
              refine take_skip (i := 21) (by decide) (by kernel_rfl) (by kernel_rfl) (by kernel_rfl) (fun _ _ _ _ h => h) hH rfl ?_
              simp (config := { failIfUnchanged := false }) only [Act.put, List.setIfInBounds_toArray, List.set_cons_zero, List.set_cons_succ, List.getElem_toArray, List.getElem_cons_zero, List.getElem_cons_succ]
              refine take_skip (i := 22) (by decide) (by kernel_rfl) (by kernel_rfl) (by kernel_rfl) (fun _ _ _ _ h => h) hH rfl ?_
              simp (config := { failIfUnchanged := false }) only [Act.put, List.setIfInBounds_toArray, List.set_cons_zero, List.set_cons_succ, List.getElem_toArray, List.getElem_cons_zero, List.getElem_cons_succ]
              refine take_skip (i := 23) (by decide) (by kernel_rfl) (by kernel_rfl) (by kernel_rfl) (fun _ _ _ _ h => h) hH rfl ?_
              simp (config := { failIfUnchanged := false }) only [Act.put, List.setIfInBounds_toArray, List.set_cons_zero, List.set_cons_succ, List.getElem_toArray, List.getElem_cons_zero, List.getElem_cons_succ]
              refine take_skip (i := 24) (by decide) (by kernel_rfl) (by kernel_rfl) (by kernel_rfl) (fun _ _ _ _ h => h) hH rfl ?_
              simp (config := { failIfUnchanged := false }) only [Act.put, List.setIfInBounds_toArray, List.set_cons_zero, List.set_cons_succ, List.getElem_toArray, List.getElem_cons_zero, List.getElem_cons_succ]
              refine take_skip (i := 25) (by decide) (by kernel_rfl) (by kernel_rfl) (by kernel_rfl) (fun _ _ _ _ h => h) hH rfl ?_
              simp (config := { failIfUnchanged := false }) only [Act.put, List.setIfInBounds_toArray, List.set_cons_zero, List.set_cons_succ, List.getElem_toArray, List.getElem_cons_zero, List.getElem_cons_succ]
              refine take_skip (i := 26) (by decide) (by kernel_rfl) (by kernel_rfl) (by kernel_rfl) (fun _ _ _ _ h => h) hH rfl ?_
              simp (config := { failIfUnchanged := false }) only [Act.put, List.setIfInBounds_toArray, List.set_cons_zero, List.set_cons_succ, List.getElem_toArray, List.getElem_cons_zero, List.getElem_cons_succ]
              refine take_skip (i := 27) (by decide) (by kernel_rfl) (by kernel_rfl) (by kernel_rfl) (fun _ _ _ _ h => h) hH rfl ?_
              simp (config := { failIfUnchanged := false }) only [Act.put, List.setIfInBounds_toArray, List.set_cons_zero, List.set_cons_succ, List.getElem_toArray, List.getElem_cons_zero, List.getElem_cons_succ]
              refine take_skip (i := 28) (by decide) (by kernel_rfl) (by kernel_rfl) (by kernel_rfl) (fun _ _ _ _ h => h) hH rfl ?_
              simp (config := { failIfUnchanged := false }) only [Act.put, List.setIfInBounds_toArray, List.set_cons_zero, List.set_cons_succ, List.getElem_toArray, List.getElem_cons_zero, List.getElem_cons_succ]
              refine take_skip (i := 29) (by decide) (by kernel_rfl) (by kernel_rfl) (by kernel_rfl) (fun _ _ _ _ h => h) hH rfl ?_
              simp (config := { failIfUnchanged := false }) only [Act.put, List.setIfInBounds_toArray, List.set_cons_zero, List.set_cons_succ, List.getElem_toArray, List.getElem_cons_zero, List.getElem_cons_succ]
              refine take_skip (i := 30) (by decide) (by kernel_rfl) (by kernel_rfl) (by kernel_rfl) (fun _ _ _ _ h => h) hH rfl ?_
              simp (config := { failIfUnchanged := false }) only [Act.put, List.setIfInBounds_toArray, List.set_cons_zero, List.set_cons_succ, List.getElem_toArray, List.getElem_cons_zero, List.getElem_cons_succ]
              refine take_skip (i := 31) (by decide) (by kernel_rfl) (by kernel_rfl) (by kernel_rfl) (fun _ _ _ _ h => h) hH rfl ?_
              simp (config := { failIfUnchanged := false }) only [Act.put, List.setIfInBounds_toArray, List.set_cons_zero, List.set_cons_succ, List.getElem_toArray, List.getElem_cons_zero, List.getElem_cons_succ]
              refine take_skip (i := 32) (by decide) (by kernel_rfl) (by kernel_rfl) (by kernel_rfl) (fun _ _ _ _ h => h) hH rfl ?_
              simp (config := { failIfUnchanged := false }) only [Act.put, List.setIfInBounds_toArray, List.set_cons_zero, List.set_cons_succ, List.getElem_toArray, List.getElem_cons_zero, List.getElem_cons_succ]
              refine take_skip (i := 33) (by decide) (by kernel_rfl) (by kernel_rfl) (by kernel_rfl) (fun _ _ _ _ h => h) hH rfl ?_
              simp (config := { failIfUnchanged := false }) only [Act.put, List.setIfInBounds_toArray, List.set_cons_zero, List.set_cons_succ, List.getElem_toArray, List.getElem_cons_zero, List.getElem_cons_succ]
              refine take_run (i := 34) (v := ?_) (by decide) (by kernel_rfl) (by kernel_rfl) (by kernel_rfl) (fun _ _ _ _ h => h) hH rfl ?_ ?_
              rotate_left
              · (intro w hSw; (try dsimp only at hSw); (try go_split_ands); simp only [List.getElem_toArray, List.getElem_cons_zero, List.getElem_cons_succ]; go_simp; try with_reducible rfl)
              simp (config := { failIfUnchanged := false }) only [Act.put, List.setIfInBounds_toArray, List.set_cons_zero, List.set_cons_succ, List.getElem_toArray, List.getElem_cons_zero, List.getElem_cons_succ]
              refine wpAnyH_done (by kernel_rfl) ?_ _
              go_wp2
              go_roundw
              case rel => exact ⟨k + 1, by omega, by go_num, by show NearIs _ _; rw [HN.out]; exact hni.out, bstep hbr hzr hSf⟩
              case measure => simp [intOf]; omega
            · have hix0 : ix < 0 := by rw [hc] at hixc; simp at hixc; omega
              have hixd : decide (ix < 0) = true := decide_eq_true hix0
              rcases Bool.eq_false_or_eq_true (freeC all out (x, y)) with hfr | hfr
              · have HMY := Lib.hid (may_free hc hfr)
                have HFR := Lib.hid hfr
                clear hc hfr hixc
                cases hnt : nearTo all (beginF shapes) out (ax, ay) k with
                | none =>
                  have hn2 := hni.out
                  rw [hnt] at hn2
                  have hn2 : _ = Value.int .i64 (-1) := hn2
                  subst hn2
                  have HN := Lib.hid (near_first (P := beginF shapes) (a := (ax, ay)) hx.out HMY.out hnt)
                  clear hnt hmem
                  go_wp2
                  refine wp_region_held_drew (S := fun W => Below wr.heap.size wr W ∧ W.cell? ⟨bb, off + k * 2, none⟩ = some (.int .i64 x) ∧ W.cell? ⟨bb, off + k * 2 + 1, none⟩ = some (.int .i64 y)) (by kernel_rfl) (HS1.out _ (Below.drew (Below.refl _ _))) (fun hH => ?_)
                  refine take_run (i := 0) (v := ?_) (by decide) (by kernel_rfl) (by kernel_rfl) (by kernel_rfl) (fun _ _ _ _ h => h) hH rfl ?_ ?_
                  rotate_left
                  · (intro w hSw; (try dsimp only at hSw); (try go_split_ands); simp only [List.getElem_toArray, List.getElem_cons_zero]; go_simp; try with_reducible rfl)
                  simp (config := { failIfUnchanged := false }) only [Act.put, List.setIfInBounds_toArray, List.set_cons_zero, List.set_cons_succ, List.getElem_toArray, List.getElem_cons_zero, List.getElem_cons_succ]
                  refine take_run (i := 1) (v := ?_) (by decide) (by kernel_rfl) (by kernel_rfl) (by kernel_rfl) (fun _ _ _ _ h => h) hH rfl ?_ ?_
                  rotate_left
                  · (intro w hSw; (try dsimp only at hSw); (try go_split_ands); simp only [List.getElem_toArray, List.getElem_cons_zero, List.getElem_cons_succ]; go_simp; try with_reducible rfl)
                  simp (config := { failIfUnchanged := false }) only [Act.put, List.setIfInBounds_toArray, List.set_cons_zero, List.set_cons_succ, List.getElem_toArray, List.getElem_cons_zero, List.getElem_cons_succ]
                  refine take_run (i := 2) (v := ?_) (by decide) (by kernel_rfl) (by kernel_rfl) (by kernel_rfl) (fun _ _ _ _ h => h) hH rfl ?_ ?_
                  rotate_left
                  · (intro w hSw; (try dsimp only at hSw); (try go_split_ands); simp only [List.getElem_toArray, List.getElem_cons_zero, List.getElem_cons_succ]; go_simp; try with_reducible rfl)
                  simp (config := { failIfUnchanged := false }) only [Act.put, List.setIfInBounds_toArray, List.set_cons_zero, List.set_cons_succ, List.getElem_toArray, List.getElem_cons_zero, List.getElem_cons_succ]
                  refine take_run (i := 3) (v := ?_) (by decide) (by kernel_rfl) (by kernel_rfl) (by kernel_rfl) (fun _ _ _ _ h => h) hH rfl ?_ ?_
                  rotate_left
                  · (intro w hSw; (try dsimp only at hSw); (try go_split_ands); simp only [List.getElem_toArray, List.getElem_cons_zero, List.getElem_cons_succ]; go_simp; try with_reducible rfl)
                  simp (config := { failIfUnchanged := false }) only [Act.put, List.setIfInBounds_toArray, List.set_cons_zero, List.set_cons_succ, List.getElem_toArray, List.getElem_cons_zero, List.getElem_cons_succ]
                  refine take_run (i := 4) (v := ?_) (by decide) (by kernel_rfl) (by kernel_rfl) (by kernel_rfl) (fun _ _ _ _ h => h) hH rfl ?_ ?_
                  rotate_left
                  · (intro w hSw; (try dsimp only at hSw); (try go_split_ands); simp only [List.getElem_toArray, List.getElem_cons_zero, List.getElem_cons_succ]; go_simp; try with_reducible rfl)
                  simp (config := { failIfUnchanged := false }) only [Act.put, List.setIfInBounds_toArray, List.set_cons_zero, List.set_cons_succ, List.getElem_toArray, List.getElem_cons_zero, List.getElem_cons_succ]
                  refine take_call (i := 5) (by decide) (by kernel_rfl) (fun K hK => ?_)
                  simp only [List.getElem_toArray, List.getElem_cons_zero, List.getElem_cons_succ]
                  go_simp
                  refine (find_any _ out x y _ (Rep.below hrr (Below.drew (Below.refl _ _)))).mono ?_
                  rintro e w1 ⟨he, hq⟩
                  rw [HIX.out] at he
                  subst he
                  have hSf : Below wr.heap.size wr w1 := bstep (Below.drew (Below.refl _ _)) (Nat.le_refl _) hq
                  have hS := HS1.out _ hSf
                  refine hK.out _ _ hS (fun hH => ?_)
                  clear hK K hS
                  try simp (config := { failIfUnchanged := false }) only [Act.put, List.setIfInBounds_toArray, List.set_cons_zero, List.set_cons_succ, List.getElem_toArray, List.getElem_cons_zero, List.getElem_cons_succ]
                  refine take_run (i := 6) (v := ?_) (by decide) (by kernel_rfl) (by kernel_rfl) (by kernel_rfl) (fun _ _ _ _ h => h) hH rfl ?_ ?_
                  rotate_left
                  · (intro w hSw; (try dsimp only at hSw); (try go_split_ands); simp only [List.getElem_toArray, List.getElem_cons_zero, List.getElem_cons_succ]; go_simp; try with_reducible rfl)
                  simp (config := { failIfUnchanged := false }) only [Act.put, List.setIfInBounds_toArray, List.set_cons_zero, List.set_cons_succ, List.getElem_toArray, List.getElem_cons_zero, List.getElem_cons_succ]
                  refine take_run (i := 7) (v := ?_) (by decide) (by kernel_rfl) (by kernel_rfl) (by kernel_rfl) (fun _ _ _ _ h => h) hH rfl ?_ ?_
                  rotate_left
                  · (intro w hSw; (try dsimp only at hSw); (try go_split_ands); simp only [List.getElem_toArray, List.getElem_cons_zero, List.getElem_cons_succ]; go_simp; try with_reducible rfl)
                  simp (config := { failIfUnchanged := false }) only [Act.put, List.setIfInBounds_toArray, List.set_cons_zero, List.set_cons_succ, List.getElem_toArray, List.getElem_cons_zero, List.getElem_cons_succ]
                  refine take_run (i := 8) (v := ?_) (by decide) (by kernel_rfl) (by kernel_rfl) (by kernel_rfl) (fun _ _ _ _ h => h) hH rfl ?_ ?_
                  rotate_left
                  · (intro w hSw; (try dsimp only at hSw); (try go_split_ands); simp only [List.getElem_toArray, List.getElem_cons_zero, List.getElem_cons_succ]; go_simp; try with_reducible rfl)
                  simp (config := { failIfUnchanged := false }) only [Act.put, List.setIfInBounds_toArray, List.set_cons_zero, List.set_cons_succ, List.getElem_toArray, List.getElem_cons_zero, List.getElem_cons_succ]
                  refine take_run (i := 9) (v := ?_) (by decide) (by kernel_rfl) (by kernel_rfl) (by kernel_rfl) (fun _ _ _ _ h => h) hH rfl ?_ ?_
                  rotate_left
                  · (intro w hSw; (try dsimp only at hSw); (try go_split_ands); simp only [List.getElem_toArray, List.getElem_cons_zero, List.getElem_cons_succ]; go_simp; try with_reducible rfl)
                  simp (config := { failIfUnchanged := false }) only [Act.put, List.setIfInBounds_toArray, List.set_cons_zero, List.set_cons_succ, List.getElem_toArray, List.getElem_cons_zero, List.getElem_cons_succ]
                  refine take_run (i := 10) (v := ?_) (by decide) (by kernel_rfl) (by kernel_rfl) (by kernel_rfl) (fun _ _ _ _ h => h) hH rfl ?_ ?_
                  rotate_left
                  · (intro w hSw; (try dsimp only at hSw); (try go_split_ands); simp only [List.getElem_toArray, List.getElem_cons_zero, List.getElem_cons_succ]; go_simp; try with_reducible rfl)
                  simp (config := { failIfUnchanged := false }) only [Act.put, List.setIfInBounds_toArray, List.set_cons_zero, List.set_cons_succ, List.getElem_toArray, List.getElem_cons_zero, List.getElem_cons_succ]
                  refine take_run (i := 11) (v := ?_) (by decide) (by kernel_rfl) (by kernel_rfl) (by kernel_rfl) (fun _ _ _ _ h => h) hH rfl ?_ ?_
                  rotate_left
                  · (intro w hSw; (try dsimp only at hSw); (try go_split_ands); simp only [List.getElem_toArray, List.getElem_cons_zero, List.getElem_cons_succ]; go_simp; try with_reducible rfl)
                  simp (config := { failIfUnchanged := false }) only [Act.put, List.setIfInBounds_toArray, List.set_cons_zero, List.set_cons_succ, List.getElem_toArray, List.getElem_cons_zero, List.getElem_cons_succ]
                  refine take_run (i := 12) (v := ?_) (by decide) (by kernel_rfl) (by kernel_rfl) (by kernel_rfl) (fun _ _ _ _ h => h) hH rfl ?_ ?_
                  rotate_left
                  · (intro w hSw; (try dsimp only at hSw); (try go_split_ands); simp only [List.getElem_toArray, List.getElem_cons_zero, List.getElem_cons_succ]; go_simp; try with_reducible rfl)
                  simp (config := { failIfUnchanged := false }) only [Act.put, List.setIfInBounds_toArray, List.set_cons_zero, List.set_cons_succ, List.getElem_toArray, List.getElem_cons_zero, List.getElem_cons_succ]
                  refine take_run (i := 13) (v := ?_) (by decide) (by kernel_rfl) (by kernel_rfl) (by kernel_rfl) (fun _ _ _ _ h => h) hH rfl ?_ ?_
                  rotate_left
                  · (intro w hSw; (try dsimp only at hSw); (try go_split_ands); simp only [List.getElem_toArray, List.getElem_cons_zero, List.getElem_cons_succ]; go_simp; try with_reducible rfl)
                  simp (config := { failIfUnchanged := false }) only [Act.put, List.setIfInBounds_toArray, List.set_cons_zero, List.set_cons_succ, List.getElem_toArray, List.getElem_cons_zero, List.getElem_cons_succ]
                  refine take_call (i := 14) (by decide) (by kernel_rfl) (fun K hK => ?_)
                  simp only [List.getElem_toArray, List.getElem_cons_zero, List.getElem_cons_succ]
                  go_simp
                  refine (refFreeT_any _ _ all out x y _ (Rep.below hra hSf) (Rep.below hrr hSf) hyn).mono ?_
                  rintro e w2 ⟨he, hq2⟩
                  rw [HFR.out] at he
                  subst he
                  have hSg : Below wr.heap.size wr w2 := bstep hSf hSf.size hq2
                  have hS := HS1.out _ hSg
                  refine hK.out _ _ hS (fun hH => ?_)
                  clear hK K hS
                  try simp (config := { failIfUnchanged := false }) only [Act.put, List.setIfInBounds_toArray, List.set_cons_zero, List.set_cons_succ, List.getElem_toArray, List.getElem_cons_zero, List.getElem_cons_succ]
                  refine take_run (i := 15) (v := ?_) (by decide) (by kernel_rfl) (by kernel_rfl) (by kernel_rfl) (fun _ _ _ _ h => h) hH rfl ?_ ?_
                  rotate_left
                  · (intro w hSw; (try dsimp only at hSw); (try go_split_ands); simp only [List.getElem_toArray, List.getElem_cons_zero, List.getElem_cons_succ]; go_simp; try with_reducible rfl)
                  simp (config := { failIfUnchanged := false }) only [Act.put, List.setIfInBounds_toArray, List.set_cons_zero, List.set_cons_succ, List.getElem_toArray, List.getElem_cons_zero, List.getElem_cons_succ]
                  refine take_run (i := 16) (v := ?_) (by decide) (by kernel_rfl) (by kernel_rfl) (by kernel_rfl) (fun _ _ _ _ h => h) hH rfl ?_ ?_
                  rotate_left
                  · (intro w hSw; (try dsimp only at hSw); (try go_split_ands); simp only [List.getElem_toArray, List.getElem_cons_zero, List.getElem_cons_succ]; go_simp; try with_reducible rfl)
                  simp (config := { failIfUnchanged := false }) only [Act.put, List.setIfInBounds_toArray, List.set_cons_zero, List.set_cons_succ, List.getElem_toArray, List.getElem_cons_zero, List.getElem_cons_succ]
                  refine take_run (i := 17) (v := ?_) (by decide) (by kernel_rfl) (by kernel_rfl) (by kernel_rfl) (fun _ _ _ _ h => h) hH rfl ?_ ?_
                  rotate_left
                  · (intro w hSw; (try dsimp only at hSw); (try go_split_ands); simp only [List.getElem_toArray, List.getElem_cons_zero, List.getElem_cons_succ]; go_simp; try with_reducible rfl)
                  simp (config := { failIfUnchanged := false }) only [Act.put, List.setIfInBounds_toArray, List.set_cons_zero, List.set_cons_succ, List.getElem_toArray, List.getElem_cons_zero, List.getElem_cons_succ]
                  refine take_run (i := 18) (v := ?_) (by decide) (by kernel_rfl) (by kernel_rfl) (by kernel_rfl) (fun _ _ _ _ h => h) hH rfl ?_ ?_
                  rotate_left
                  · (intro w hSw; (try dsimp only at hSw); (try go_split_ands); simp only [List.getElem_toArray, List.getElem_cons_zero, List.getElem_cons_succ]; go_simp; try with_reducible rfl)
                  simp (config := { failIfUnchanged := false }) only [Act.put, List.setIfInBounds_toArray, List.set_cons_zero, List.set_cons_succ, List.getElem_toArray, List.getElem_cons_zero, List.getElem_cons_succ]
                  refine take_run (i := 19) (v := ?_) (by decide) (by kernel_rfl) (by kernel_rfl) (by kernel_rfl) (fun _ _ _ _ h => h) hH rfl ?_ ?_
                  rotate_left
                  · (intro w hSw; (try dsimp only at hSw); (try go_split_ands); simp only [List.getElem_toArray, List.getElem_cons_zero, List.getElem_cons_succ]; go_simp; try with_reducible rfl)
                  simp (config := { failIfUnchanged := false }) only [Act.put, List.setIfInBounds_toArray, List.set_cons_zero, List.set_cons_succ, List.getElem_toArray, List.getElem_cons_zero, List.getElem_cons_succ]
                  refine take_skip (i := 20) (by decide) (by kernel_rfl) (by kernel_rfl) (by kernel_rfl) (fun _ _ _ _ h => h) hH rfl ?_
                  simp (config := { failIfUnchanged := false }) only [Act.put, List.setIfInBounds_toArray, List.set_cons_zero, List.set_cons_succ, List.getElem_toArray, List.getElem_cons_zero, List.getElem_cons_succ]
                  refine take_skip (i := 21) (by decide) (by kernel_rfl) (by kernel_rfl) (by kernel_rfl) (fun _ _ _ _ h => h) hH rfl ?_
                  simp (config := { failIfUnchanged := false }) only [Act.put, List.setIfInBounds_toArray, List.set_cons_zero, List.set_cons_succ, List.getElem_toArray, List.getElem_cons_zero, List.getElem_cons_succ]
                  refine take_skip (i := 22) (by decide) (by kernel_rfl) (by kernel_rfl) (by kernel_rfl) (fun _ _ _ _ h => h) hH rfl ?_
                  simp (config := { failIfUnchanged := false }) only [Act.put, List.setIfInBounds_toArray, List.set_cons_zero, List.set_cons_succ, List.getElem_toArray, List.getElem_cons_zero, List.getElem_cons_succ]
                  refine take_skip (i := 23) (by decide) (by kernel_rfl) (by kernel_rfl) (by kernel_rfl) (fun _ _ _ _ h => h) hH rfl ?_
                  simp (config := { failIfUnchanged := false }) only [Act.put, List.setIfInBounds_toArray, List.set_cons_zero, List.set_cons_succ, List.getElem_toArray, List.getElem_cons_zero, List.getElem_cons_succ]
                  refine take_skip (i := 24) (by decide) (by kernel_rfl) (by kernel_rfl) (by kernel_rfl) (fun _ _ _ _ h => h) hH rfl ?_
                  simp (config := { failIfUnchanged := false }) only [Act.put, List.setIfInBounds_toArray, List.set_cons_zero, List.set_cons_succ, List.getElem_toArray, List.getElem_cons_zero, List.getElem_cons_succ]
                  refine take_skip (i := 25) (by decide) (by kernel_rfl) (by kernel_rfl) (by kernel_rfl) (fun _ _ _ _ h => h) hH rfl ?_
                  simp (config := { failIfUnchanged := false }) only [Act.put, List.setIfInBounds_toArray, List.set_cons_zero, List.set_cons_succ, List.getElem_toArray, List.getElem_cons_zero, List.getElem_cons_succ]
                  refine take_skip (i := 26) (by decide) (by kernel_rfl) (by kernel_rfl) (by kernel_rfl) (fun _ _ _ _ h => h) hH rfl ?_
                  simp (config := { failIfUnchanged := false }) only [Act.put, List.setIfInBounds_toArray, List.set_cons_zero, List.set_cons_succ, List.getElem_toArray, List.getElem_cons_zero, List.getElem_cons_succ]
                  refine take_skip (i := 27) (by decide) (by kernel_rfl) (by kernel_rfl) (by kernel_rfl) (fun _ _ _ _ h => h) hH rfl ?_
                  simp (config := { failIfUnchanged := false }) only [Act.put, List.setIfInBounds_toArray, List.set_cons_zero, List.set_cons_succ, List.getElem_toArray, List.getElem_cons_zero, List.getElem_cons_succ]
                  refine take_skip (i := 28) (by decide) (by kernel_rfl) (by kernel_rfl) (by kernel_rfl) (fun _ _ _ _ h => h) hH rfl ?_
                  simp (config := { failIfUnchanged := false }) only [Act.put, List.setIfInBounds_toArray, List.set_cons_zero, List.set_cons_succ, List.getElem_toArray, List.getElem_cons_zero, List.getElem_cons_succ]
                  refine take_skip (i := 29) (by decide) (by kernel_rfl) (by kernel_rfl) (by kernel_rfl) (fun _ _ _ _ h => h) hH rfl ?_
                  simp (config := { failIfUnchanged := false }) only [Act.put, List.setIfInBounds_toArray, List.set_cons_zero, List.set_cons_succ, List.getElem_toArray, List.getElem_cons_zero, List.getElem_cons_succ]
                  refine take_skip (i := 30) (by decide) (by kernel_rfl) (by kernel_rfl) (by kernel_rfl) (fun _ _ _ _ h => h) hH rfl ?_
                  simp (config := { failIfUnchanged := false }) only [Act.put, List.setIfInBounds_toArray, List.set_cons_zero, List.set_cons_succ, List.getElem_toArray, List.getElem_cons_zero, List.getElem_cons_succ]
                  refine take_skip (i := 31) (by decide) (by kernel_rfl) (by kernel_rfl) (by kernel_rfl) (fun _ _ _ _ h => h) hH rfl ?_
                  simp (config := { failIfUnchanged := false }) only [Act.put, List.setIfInBounds_toArray, List.set_cons_zero, List.set_cons_succ, List.getElem_toArray, List.getElem_cons_zero, List.getElem_cons_succ]
                  refine take_skip (i := 32) (by decide) (by kernel_rfl) (by kernel_rfl) (by kernel_rfl) (fun _ _ _ _ h => h) hH rfl ?_
                  simp (config := { failIfUnchanged := false }) only [Act.put, List.setIfInBounds_toArray, List.set_cons_zero, List.set_cons_succ, List.getElem_toArray, List.getElem_cons_zero, List.getElem_cons_succ]
                  refine take_run (i := 33) (v := ?_) (by decide) (by kernel_rfl) (by kernel_rfl) (by kernel_rfl) (fun _ _ _ _ h => h) hH rfl ?_ ?_
                  rotate_left
                  · (intro w hSw; (try dsimp only at hSw); (try go_split_ands); simp only [List.getElem_toArray, List.getElem_cons_zero, List.getElem_cons_succ]; go_simp; try with_reducible rfl)
                  simp (config := { failIfUnchanged := false }) only [Act.put, List.setIfInBounds_toArray, List.set_cons_zero, List.set_cons_succ, List.getElem_toArray, List.getElem_cons_zero, List.getElem_cons_succ]
                  refine take_run (i := 34) (v := ?_) (by decide) (by kernel_rfl) (by kernel_rfl) (by kernel_rfl) (fun _ _ _ _ h => h) hH rfl ?_ ?_
                  rotate_left
                  · (intro w hSw; (try dsimp only at hSw); (try go_split_ands); simp only [List.getElem_toArray, List.getElem_cons_zero, List.getElem_cons_succ]; go_simp; try with_reducible rfl)
                  simp (config := { failIfUnchanged := false }) only [Act.put, List.setIfInBounds_toArray, List.set_cons_zero, List.set_cons_succ, List.getElem_toArray, List.getElem_cons_zero, List.getElem_cons_succ]
                  refine wpAnyH_done (by kernel_rfl) ?_ _
                  go_wp2
                  go_roundw
                  case rel => exact ⟨k + 1, by omega, by go_num, by show NearIs _ _; rw [HN.out]; rfl, bstep hbr hzr hSg⟩
                  case measure => simp [intOf]; omega
                | some j =>
                  have hn2 := hni.out
                  rw [hnt] at hn2
                  have hn2 : _ = Value.int .i64 (j : Int) := hn2
                  subst hn2
                  obtain ⟨hjk, cj, hcj, hmj⟩ := near_lt (Nat.le_of_lt hkl) hnt
                  have hj0 : ¬ (j : Int) < 0 := by omega
                  have hj0d : decide ((j : Int) < 0) = false := decide_eq_false hj0
                  have hji : (j : Int) < (all.length : Int) := by omega
                  obtain ⟨bp, offp, bx, by_, rfl, hpk, hbpD, t0, t1, -⟩ := pairs_at hrp (show k < pts.length by rw [HPL.out]; exact hkl)
                  obtain ⟨bx2, by2, hpj, t2, t3⟩ := pairs_more hrp (show j < pts.length by rw [HPL.out]; omega)
                  have hb1 : beginF shapes (x, y) = (bx, by_) := by
                    have h := (HPT.out k _ hx.out).symm.trans hpk.out
                    injection h
                  have hb2 : beginF shapes cj = (bx2, by2) := by
                    have h := (HPT.out j _ hcj).symm.trans hpj.out
                    injection h
                  have NE1 : Near (bx, by_) := by rw [← hb1]; exact HBN.out _ hmem
                  have NE2 : Near (bx2, by2) := by rw [← hb2]; exact HBN.out _ (List.mem_of_getElem? hcj)
                  obtain ⟨m1, hm1⟩ : ∃ r, moveF (ax, ay) (bx, by_) = r := ⟨_, rfl⟩
                  obtain ⟨m2, hm2⟩ : ∃ r, moveF (ax, ay) (bx2, by2) = r := ⟨_, rfl⟩
                  have HMV1 : Hid (∀ W, Below wr.heap.size wr W → Calls Try.prog 27 #[.agg #[.int .i64 ax, .int .i64 ay], .agg #[.int .i64 bx, .int .i64 by_]] W (Ret (.int .i64 m1) W)) := fun W _ => by
                    have h := refMove_any (ax, ay) (bx, by_) W hnear.out.1 hnear.out.2 NE1.1 NE1.2
                    rw [hm1] at h
                    exact h
                  have HMV2 : Hid (∀ W, Below wr.heap.size wr W → Calls Try.prog 27 #[.agg #[.int .i64 ax, .int .i64 ay], .agg #[.int .i64 bx2, .int .i64 by2]] W (Ret (.int .i64 m2) W)) := fun W _ => by
                    have h := refMove_any (ax, ay) (bx2, by2) W hnear.out.1 hnear.out.2 NE2.1 NE2.2
                    rw [hm2] at h
                    exact h
                  have HFI : Hid (∀ W, Below wr.heap.size wr W → Calls Try.prog 30 #[.slice A5 out.length c5, .agg #[.int .i64 x, .int .i64 y]] W (Ret (.int .i64 ix) W)) := fun W h => by
                    rw [← HIX.out]; exact find_any _ out x y W (Rep.below hrr h)
                  have HFF : Hid (∀ W, Below wr.heap.size wr W → Calls Try.prog 38 #[.slice (some ⟨bb, off, none⟩) all.length c1, .slice A5 out.length c5, .agg #[.int .i64 x, .int .i64 y]] W (Ret (.bool true) W)) := fun W h => by
                    rw [← HFR.out]; exact refFreeT_any _ _ all out x y W (Rep.below hra h) (Rep.below hrr h) hyn
                  have hgar := hga.below hbr hga.lt
                  have y0 := hgar.c20
                  have y1 := hgar.c21
                  have HS4 : Hid (∀ W, Below wr.heap.size wr W → Below wr.heap.size wr W ∧ W.cell? ⟨bb, off + k * 2, none⟩ = some (.int .i64 x) ∧ W.cell? ⟨bb, off + k * 2 + 1, none⟩ = some (.int .i64 y) ∧ W.cell? ⟨GA, 0, none⟩ = some (.int .i64 ax) ∧ W.cell? ⟨GA, 1, none⟩ = some (.int .i64 ay) ∧ W.cell? ⟨bp, offp + k * 2, none⟩ = some (.int .i64 bx) ∧ W.cell? ⟨bp, offp + k * 2 + 1, none⟩ = some (.int .i64 by_) ∧ W.cell? ⟨bp, offp + j * 2, none⟩ = some (.int .i64 bx2) ∧ W.cell? ⟨bp, offp + j * 2 + 1, none⟩ = some (.int .i64 by2)) := fun W h => ⟨h, bget h d0, bget h d1, bget h y0, bget h y1, bget h t0, bget h t1, bget h t2, bget h t3⟩
                  by_cases hml : m1 < m2
                  · have hmd : decide (m1 < m2) = true := decide_eq_true hml
                    have HN := Lib.hid (near_less (P := beginF shapes) (a := (ax, ay)) hx.out HMY.out hnt hcj (by rw [hb1, hb2, hm1, hm2]; exact hml))
                    clear hnt hmem hcj hmj hb1 hb2 hm1 hm2 NE1 NE2 hgar HFR HIX
                    go_wp2
                    go_region_held3 (fun W => Below wr.heap.size wr W ∧ W.cell? ⟨bb, off + k * 2, none⟩ = some (.int .i64 x) ∧ W.cell? ⟨bb, off + k * 2 + 1, none⟩ = some (.int .i64 y) ∧ W.cell? ⟨GA, 0, none⟩ = some (.int .i64 ax) ∧ W.cell? ⟨GA, 1, none⟩ = some (.int .i64 ay) ∧ W.cell? ⟨bp, offp + k * 2, none⟩ = some (.int .i64 bx) ∧ W.cell? ⟨bp, offp + k * 2 + 1, none⟩ = some (.int .i64 by_) ∧ W.cell? ⟨bp, offp + j * 2, none⟩ = some (.int .i64 bx2) ∧ W.cell? ⟨bp, offp + j * 2 + 1, none⟩ = some (.int .i64 by2))
                      (first
                      | exact HS4.out _ (Below.drew (Below.refl _ _))
                      | exact HS4.out _ hSa)
                      (first
                      | (go_at_call 30
                         (with_reducible refine (HFI.out _ (Below.drew (Below.refl _ _))).mono ?_)
                         rintro e W1 ⟨rfl, hq⟩
                         have hSa := bstep (Below.drew (Below.refl wr.heap.size wr)) (Nat.le_refl _) hq)
                      | (go_at_call 38
                         (with_reducible refine (HFF.out _ hSa).mono ?_)
                         rintro e W1 ⟨rfl, hq⟩
                         have hSa := bstep hSa hSa.size hq)
                      | (go_at_call 27
                         (with_reducible refine (HMV1.out _ hSa).mono ?_)
                         rintro e W1 ⟨rfl, hq⟩
                         have hSa := bstep hSa hSa.size hq)
                      | (go_at_call 27
                         (with_reducible refine (HMV2.out _ hSa).mono ?_)
                         rintro e W1 ⟨rfl, hq⟩
                         have hSa := bstep hSa hSa.size hq))
                    all_goals
                      go_wp2
                      go_roundw
                      case rel => exact ⟨k + 1, by omega, by go_num, by show NearIs _ _; rw [HN.out]; rfl, bstep hbr hzr hSa⟩
                      case measure => simp [intOf]; omega
                  · have hmd : decide (m1 < m2) = false := decide_eq_false hml
                    have HN := Lib.hid (near_keep (P := beginF shapes) (a := (ax, ay)) hx.out HMY.out hnt hcj (by rw [hb1, hb2, hm1, hm2]; exact hml))
                    clear hnt hmem hcj hmj hb1 hb2 hm1 hm2 NE1 NE2 hgar HFR HIX
                    go_wp2
                    go_region_held3 (fun W => Below wr.heap.size wr W ∧ W.cell? ⟨bb, off + k * 2, none⟩ = some (.int .i64 x) ∧ W.cell? ⟨bb, off + k * 2 + 1, none⟩ = some (.int .i64 y) ∧ W.cell? ⟨GA, 0, none⟩ = some (.int .i64 ax) ∧ W.cell? ⟨GA, 1, none⟩ = some (.int .i64 ay) ∧ W.cell? ⟨bp, offp + k * 2, none⟩ = some (.int .i64 bx) ∧ W.cell? ⟨bp, offp + k * 2 + 1, none⟩ = some (.int .i64 by_) ∧ W.cell? ⟨bp, offp + j * 2, none⟩ = some (.int .i64 bx2) ∧ W.cell? ⟨bp, offp + j * 2 + 1, none⟩ = some (.int .i64 by2))
                      (first
                      | exact HS4.out _ (Below.drew (Below.refl _ _))
                      | exact HS4.out _ hSa)
                      (first
                      | (go_at_call 30
                         (with_reducible refine (HFI.out _ (Below.drew (Below.refl _ _))).mono ?_)
                         rintro e W1 ⟨rfl, hq⟩
                         have hSa := bstep (Below.drew (Below.refl wr.heap.size wr)) (Nat.le_refl _) hq)
                      | (go_at_call 38
                         (with_reducible refine (HFF.out _ hSa).mono ?_)
                         rintro e W1 ⟨rfl, hq⟩
                         have hSa := bstep hSa hSa.size hq)
                      | (go_at_call 27
                         (with_reducible refine (HMV1.out _ hSa).mono ?_)
                         rintro e W1 ⟨rfl, hq⟩
                         have hSa := bstep hSa hSa.size hq)
                      | (go_at_call 27
                         (with_reducible refine (HMV2.out _ hSa).mono ?_)
                         rintro e W1 ⟨rfl, hq⟩
                         have hSa := bstep hSa hSa.size hq))
                    all_goals
                      go_wp2
                      go_roundw
                      case rel => exact ⟨k + 1, by omega, by go_num, by show NearIs _ _; rw [HN.out]; rfl, bstep hbr hzr hSa⟩
                      case measure => simp [intOf]; omega
              · have HN := Lib.hid (near_no (P := beginF shapes) (a := (ax, ay)) hx.out (may_free hc hfr))
                have HFR := Lib.hid hfr
                clear hc hfr hixc hmem
                go_wp2
                refine wp_region_held_drew (S := fun W => Below wr.heap.size wr W ∧ W.cell? ⟨bb, off + k * 2, none⟩ = some (.int .i64 x) ∧ W.cell? ⟨bb, off + k * 2 + 1, none⟩ = some (.int .i64 y)) (by kernel_rfl) (HS1.out _ (Below.drew (Below.refl _ _))) (fun hH => ?_)
                refine take_run (i := 0) (v := ?_) (by decide) (by kernel_rfl) (by kernel_rfl) (by kernel_rfl) (fun _ _ _ _ h => h) hH rfl ?_ ?_
                rotate_left
                · (intro w hSw; (try dsimp only at hSw); (try go_split_ands); simp only [List.getElem_toArray, List.getElem_cons_zero]; go_simp; try with_reducible rfl)
                simp (config := { failIfUnchanged := false }) only [Act.put, List.setIfInBounds_toArray, List.set_cons_zero, List.set_cons_succ, List.getElem_toArray, List.getElem_cons_zero, List.getElem_cons_succ]
                refine take_run (i := 1) (v := ?_) (by decide) (by kernel_rfl) (by kernel_rfl) (by kernel_rfl) (fun _ _ _ _ h => h) hH rfl ?_ ?_
                rotate_left
                · (intro w hSw; (try dsimp only at hSw); (try go_split_ands); simp only [List.getElem_toArray, List.getElem_cons_zero, List.getElem_cons_succ]; go_simp; try with_reducible rfl)
                simp (config := { failIfUnchanged := false }) only [Act.put, List.setIfInBounds_toArray, List.set_cons_zero, List.set_cons_succ, List.getElem_toArray, List.getElem_cons_zero, List.getElem_cons_succ]
                refine take_run (i := 2) (v := ?_) (by decide) (by kernel_rfl) (by kernel_rfl) (by kernel_rfl) (fun _ _ _ _ h => h) hH rfl ?_ ?_
                rotate_left
                · (intro w hSw; (try dsimp only at hSw); (try go_split_ands); simp only [List.getElem_toArray, List.getElem_cons_zero, List.getElem_cons_succ]; go_simp; try with_reducible rfl)
                simp (config := { failIfUnchanged := false }) only [Act.put, List.setIfInBounds_toArray, List.set_cons_zero, List.set_cons_succ, List.getElem_toArray, List.getElem_cons_zero, List.getElem_cons_succ]
                refine take_run (i := 3) (v := ?_) (by decide) (by kernel_rfl) (by kernel_rfl) (by kernel_rfl) (fun _ _ _ _ h => h) hH rfl ?_ ?_
                rotate_left
                · (intro w hSw; (try dsimp only at hSw); (try go_split_ands); simp only [List.getElem_toArray, List.getElem_cons_zero, List.getElem_cons_succ]; go_simp; try with_reducible rfl)
                simp (config := { failIfUnchanged := false }) only [Act.put, List.setIfInBounds_toArray, List.set_cons_zero, List.set_cons_succ, List.getElem_toArray, List.getElem_cons_zero, List.getElem_cons_succ]
                refine take_run (i := 4) (v := ?_) (by decide) (by kernel_rfl) (by kernel_rfl) (by kernel_rfl) (fun _ _ _ _ h => h) hH rfl ?_ ?_
                rotate_left
                · (intro w hSw; (try dsimp only at hSw); (try go_split_ands); simp only [List.getElem_toArray, List.getElem_cons_zero, List.getElem_cons_succ]; go_simp; try with_reducible rfl)
                simp (config := { failIfUnchanged := false }) only [Act.put, List.setIfInBounds_toArray, List.set_cons_zero, List.set_cons_succ, List.getElem_toArray, List.getElem_cons_zero, List.getElem_cons_succ]
                refine take_call (i := 5) (by decide) (by kernel_rfl) (fun K hK => ?_)
                simp only [List.getElem_toArray, List.getElem_cons_zero, List.getElem_cons_succ]
                go_simp
                refine (find_any _ out x y _ (Rep.below hrr (Below.drew (Below.refl _ _)))).mono ?_
                rintro e w1 ⟨he, hq⟩
                rw [HIX.out] at he
                subst he
                have hSf : Below wr.heap.size wr w1 := bstep (Below.drew (Below.refl _ _)) (Nat.le_refl _) hq
                have hS := HS1.out _ hSf
                refine hK.out _ _ hS (fun hH => ?_)
                clear hK K hS
                try simp (config := { failIfUnchanged := false }) only [Act.put, List.setIfInBounds_toArray, List.set_cons_zero, List.set_cons_succ, List.getElem_toArray, List.getElem_cons_zero, List.getElem_cons_succ]
                refine take_run (i := 6) (v := ?_) (by decide) (by kernel_rfl) (by kernel_rfl) (by kernel_rfl) (fun _ _ _ _ h => h) hH rfl ?_ ?_
                rotate_left
                · (intro w hSw; (try dsimp only at hSw); (try go_split_ands); simp only [List.getElem_toArray, List.getElem_cons_zero, List.getElem_cons_succ]; go_simp; try with_reducible rfl)
                simp (config := { failIfUnchanged := false }) only [Act.put, List.setIfInBounds_toArray, List.set_cons_zero, List.set_cons_succ, List.getElem_toArray, List.getElem_cons_zero, List.getElem_cons_succ]
                refine take_run (i := 7) (v := ?_) (by decide) (by kernel_rfl) (by kernel_rfl) (by kernel_rfl) (fun _ _ _ _ h => h) hH rfl ?_ ?_
                rotate_left
                · (intro w hSw; (try dsimp only at hSw); (try go_split_ands); simp only [List.getElem_toArray, List.getElem_cons_zero, List.getElem_cons_succ]; go_simp; try with_reducible rfl)
                simp (config := { failIfUnchanged := false }) only [Act.put, List.setIfInBounds_toArray, List.set_cons_zero, List.set_cons_succ, List.getElem_toArray, List.getElem_cons_zero, List.getElem_cons_succ]
                refine take_run (i := 8) (v := ?_) (by decide) (by kernel_rfl) (by kernel_rfl) (by kernel_rfl) (fun _ _ _ _ h => h) hH rfl ?_ ?_
                rotate_left
                · (intro w hSw; (try dsimp only at hSw); (try go_split_ands); simp only [List.getElem_toArray, List.getElem_cons_zero, List.getElem_cons_succ]; go_simp; try with_reducible rfl)
                simp (config := { failIfUnchanged := false }) only [Act.put, List.setIfInBounds_toArray, List.set_cons_zero, List.set_cons_succ, List.getElem_toArray, List.getElem_cons_zero, List.getElem_cons_succ]
                refine take_run (i := 9) (v := ?_) (by decide) (by kernel_rfl) (by kernel_rfl) (by kernel_rfl) (fun _ _ _ _ h => h) hH rfl ?_ ?_
                rotate_left
                · (intro w hSw; (try dsimp only at hSw); (try go_split_ands); simp only [List.getElem_toArray, List.getElem_cons_zero, List.getElem_cons_succ]; go_simp; try with_reducible rfl)
                simp (config := { failIfUnchanged := false }) only [Act.put, List.setIfInBounds_toArray, List.set_cons_zero, List.set_cons_succ, List.getElem_toArray, List.getElem_cons_zero, List.getElem_cons_succ]
                refine take_run (i := 10) (v := ?_) (by decide) (by kernel_rfl) (by kernel_rfl) (by kernel_rfl) (fun _ _ _ _ h => h) hH rfl ?_ ?_
                rotate_left
                · (intro w hSw; (try dsimp only at hSw); (try go_split_ands); simp only [List.getElem_toArray, List.getElem_cons_zero, List.getElem_cons_succ]; go_simp; try with_reducible rfl)
                simp (config := { failIfUnchanged := false }) only [Act.put, List.setIfInBounds_toArray, List.set_cons_zero, List.set_cons_succ, List.getElem_toArray, List.getElem_cons_zero, List.getElem_cons_succ]
                refine take_run (i := 11) (v := ?_) (by decide) (by kernel_rfl) (by kernel_rfl) (by kernel_rfl) (fun _ _ _ _ h => h) hH rfl ?_ ?_
                rotate_left
                · (intro w hSw; (try dsimp only at hSw); (try go_split_ands); simp only [List.getElem_toArray, List.getElem_cons_zero, List.getElem_cons_succ]; go_simp; try with_reducible rfl)
                simp (config := { failIfUnchanged := false }) only [Act.put, List.setIfInBounds_toArray, List.set_cons_zero, List.set_cons_succ, List.getElem_toArray, List.getElem_cons_zero, List.getElem_cons_succ]
                refine take_run (i := 12) (v := ?_) (by decide) (by kernel_rfl) (by kernel_rfl) (by kernel_rfl) (fun _ _ _ _ h => h) hH rfl ?_ ?_
                rotate_left
                · (intro w hSw; (try dsimp only at hSw); (try go_split_ands); simp only [List.getElem_toArray, List.getElem_cons_zero, List.getElem_cons_succ]; go_simp; try with_reducible rfl)
                simp (config := { failIfUnchanged := false }) only [Act.put, List.setIfInBounds_toArray, List.set_cons_zero, List.set_cons_succ, List.getElem_toArray, List.getElem_cons_zero, List.getElem_cons_succ]
                refine take_run (i := 13) (v := ?_) (by decide) (by kernel_rfl) (by kernel_rfl) (by kernel_rfl) (fun _ _ _ _ h => h) hH rfl ?_ ?_
                rotate_left
                · (intro w hSw; (try dsimp only at hSw); (try go_split_ands); simp only [List.getElem_toArray, List.getElem_cons_zero, List.getElem_cons_succ]; go_simp; try with_reducible rfl)
                simp (config := { failIfUnchanged := false }) only [Act.put, List.setIfInBounds_toArray, List.set_cons_zero, List.set_cons_succ, List.getElem_toArray, List.getElem_cons_zero, List.getElem_cons_succ]
                refine take_call (i := 14) (by decide) (by kernel_rfl) (fun K hK => ?_)
                simp only [List.getElem_toArray, List.getElem_cons_zero, List.getElem_cons_succ]
                go_simp
                refine (refFreeT_any _ _ all out x y _ (Rep.below hra hSf) (Rep.below hrr hSf) hyn).mono ?_
                rintro e w2 ⟨he, hq2⟩
                rw [HFR.out] at he
                subst he
                have hSg : Below wr.heap.size wr w2 := bstep hSf hSf.size hq2
                have hS := HS1.out _ hSg
                refine hK.out _ _ hS (fun hH => ?_)
                clear hK K hS
                try simp (config := { failIfUnchanged := false }) only [Act.put, List.setIfInBounds_toArray, List.set_cons_zero, List.set_cons_succ, List.getElem_toArray, List.getElem_cons_zero, List.getElem_cons_succ]
                refine take_run (i := 15) (v := ?_) (by decide) (by kernel_rfl) (by kernel_rfl) (by kernel_rfl) (fun _ _ _ _ h => h) hH rfl ?_ ?_
                rotate_left
                · (intro w hSw; (try dsimp only at hSw); (try go_split_ands); simp only [List.getElem_toArray, List.getElem_cons_zero, List.getElem_cons_succ]; go_simp; try with_reducible rfl)
                simp (config := { failIfUnchanged := false }) only [Act.put, List.setIfInBounds_toArray, List.set_cons_zero, List.set_cons_succ, List.getElem_toArray, List.getElem_cons_zero, List.getElem_cons_succ]
                refine take_run (i := 16) (v := ?_) (by decide) (by kernel_rfl) (by kernel_rfl) (by kernel_rfl) (fun _ _ _ _ h => h) hH rfl ?_ ?_
                rotate_left
                · (intro w hSw; (try dsimp only at hSw); (try go_split_ands); simp only [List.getElem_toArray, List.getElem_cons_zero, List.getElem_cons_succ]; go_simp; try with_reducible rfl)
                simp (config := { failIfUnchanged := false }) only [Act.put, List.setIfInBounds_toArray, List.set_cons_zero, List.set_cons_succ, List.getElem_toArray, List.getElem_cons_zero, List.getElem_cons_succ]
                refine take_skip (i := 17) (by decide) (by kernel_rfl) (by kernel_rfl) (by kernel_rfl) (fun _ _ _ _ h => h) hH rfl ?_
                simp (config := { failIfUnchanged := false }) only [Act.put, List.setIfInBounds_toArray, List.set_cons_zero, List.set_cons_succ, List.getElem_toArray, List.getElem_cons_zero, List.getElem_cons_succ]
                refine take_skip (i := 18) (by decide) (by kernel_rfl) (by kernel_rfl) (by kernel_rfl) (fun _ _ _ _ h => h) hH rfl ?_
                simp (config := { failIfUnchanged := false }) only [Act.put, List.setIfInBounds_toArray, List.set_cons_zero, List.set_cons_succ, List.getElem_toArray, List.getElem_cons_zero, List.getElem_cons_succ]
                refine take_skip (i := 19) (by decide) (by kernel_rfl) (by kernel_rfl) (by kernel_rfl) (fun _ _ _ _ h => h) hH rfl ?_
                simp (config := { failIfUnchanged := false }) only [Act.put, List.setIfInBounds_toArray, List.set_cons_zero, List.set_cons_succ, List.getElem_toArray, List.getElem_cons_zero, List.getElem_cons_succ]
                refine take_skip (i := 20) (by decide) (by kernel_rfl) (by kernel_rfl) (by kernel_rfl) (fun _ _ _ _ h => h) hH rfl ?_
                simp (config := { failIfUnchanged := false }) only [Act.put, List.setIfInBounds_toArray, List.set_cons_zero, List.set_cons_succ, List.getElem_toArray, List.getElem_cons_zero, List.getElem_cons_succ]
                refine take_skip (i := 21) (by decide) (by kernel_rfl) (by kernel_rfl) (by kernel_rfl) (fun _ _ _ _ h => h) hH rfl ?_
                simp (config := { failIfUnchanged := false }) only [Act.put, List.setIfInBounds_toArray, List.set_cons_zero, List.set_cons_succ, List.getElem_toArray, List.getElem_cons_zero, List.getElem_cons_succ]
                refine take_skip (i := 22) (by decide) (by kernel_rfl) (by kernel_rfl) (by kernel_rfl) (fun _ _ _ _ h => h) hH rfl ?_
                simp (config := { failIfUnchanged := false }) only [Act.put, List.setIfInBounds_toArray, List.set_cons_zero, List.set_cons_succ, List.getElem_toArray, List.getElem_cons_zero, List.getElem_cons_succ]
                refine take_skip (i := 23) (by decide) (by kernel_rfl) (by kernel_rfl) (by kernel_rfl) (fun _ _ _ _ h => h) hH rfl ?_
                simp (config := { failIfUnchanged := false }) only [Act.put, List.setIfInBounds_toArray, List.set_cons_zero, List.set_cons_succ, List.getElem_toArray, List.getElem_cons_zero, List.getElem_cons_succ]
                refine take_skip (i := 24) (by decide) (by kernel_rfl) (by kernel_rfl) (by kernel_rfl) (fun _ _ _ _ h => h) hH rfl ?_
                simp (config := { failIfUnchanged := false }) only [Act.put, List.setIfInBounds_toArray, List.set_cons_zero, List.set_cons_succ, List.getElem_toArray, List.getElem_cons_zero, List.getElem_cons_succ]
                refine take_skip (i := 25) (by decide) (by kernel_rfl) (by kernel_rfl) (by kernel_rfl) (fun _ _ _ _ h => h) hH rfl ?_
                simp (config := { failIfUnchanged := false }) only [Act.put, List.setIfInBounds_toArray, List.set_cons_zero, List.set_cons_succ, List.getElem_toArray, List.getElem_cons_zero, List.getElem_cons_succ]
                refine take_skip (i := 26) (by decide) (by kernel_rfl) (by kernel_rfl) (by kernel_rfl) (fun _ _ _ _ h => h) hH rfl ?_
                simp (config := { failIfUnchanged := false }) only [Act.put, List.setIfInBounds_toArray, List.set_cons_zero, List.set_cons_succ, List.getElem_toArray, List.getElem_cons_zero, List.getElem_cons_succ]
                refine take_skip (i := 27) (by decide) (by kernel_rfl) (by kernel_rfl) (by kernel_rfl) (fun _ _ _ _ h => h) hH rfl ?_
                simp (config := { failIfUnchanged := false }) only [Act.put, List.setIfInBounds_toArray, List.set_cons_zero, List.set_cons_succ, List.getElem_toArray, List.getElem_cons_zero, List.getElem_cons_succ]
                refine take_skip (i := 28) (by decide) (by kernel_rfl) (by kernel_rfl) (by kernel_rfl) (fun _ _ _ _ h => h) hH rfl ?_
                simp (config := { failIfUnchanged := false }) only [Act.put, List.setIfInBounds_toArray, List.set_cons_zero, List.set_cons_succ, List.getElem_toArray, List.getElem_cons_zero, List.getElem_cons_succ]
                refine take_skip (i := 29) (by decide) (by kernel_rfl) (by kernel_rfl) (by kernel_rfl) (fun _ _ _ _ h => h) hH rfl ?_
                simp (config := { failIfUnchanged := false }) only [Act.put, List.setIfInBounds_toArray, List.set_cons_zero, List.set_cons_succ, List.getElem_toArray, List.getElem_cons_zero, List.getElem_cons_succ]
                refine take_skip (i := 30) (by decide) (by kernel_rfl) (by kernel_rfl) (by kernel_rfl) (fun _ _ _ _ h => h) hH rfl ?_
                simp (config := { failIfUnchanged := false }) only [Act.put, List.setIfInBounds_toArray, List.set_cons_zero, List.set_cons_succ, List.getElem_toArray, List.getElem_cons_zero, List.getElem_cons_succ]
                refine take_skip (i := 31) (by decide) (by kernel_rfl) (by kernel_rfl) (by kernel_rfl) (fun _ _ _ _ h => h) hH rfl ?_
                simp (config := { failIfUnchanged := false }) only [Act.put, List.setIfInBounds_toArray, List.set_cons_zero, List.set_cons_succ, List.getElem_toArray, List.getElem_cons_zero, List.getElem_cons_succ]
                refine take_skip (i := 32) (by decide) (by kernel_rfl) (by kernel_rfl) (by kernel_rfl) (fun _ _ _ _ h => h) hH rfl ?_
                simp (config := { failIfUnchanged := false }) only [Act.put, List.setIfInBounds_toArray, List.set_cons_zero, List.set_cons_succ, List.getElem_toArray, List.getElem_cons_zero, List.getElem_cons_succ]
                refine take_skip (i := 33) (by decide) (by kernel_rfl) (by kernel_rfl) (by kernel_rfl) (fun _ _ _ _ h => h) hH rfl ?_
                simp (config := { failIfUnchanged := false }) only [Act.put, List.setIfInBounds_toArray, List.set_cons_zero, List.set_cons_succ, List.getElem_toArray, List.getElem_cons_zero, List.getElem_cons_succ]
                refine take_run (i := 34) (v := ?_) (by decide) (by kernel_rfl) (by kernel_rfl) (by kernel_rfl) (fun _ _ _ _ h => h) hH rfl ?_ ?_
                rotate_left
                · (intro w hSw; (try dsimp only at hSw); (try go_split_ands); simp only [List.getElem_toArray, List.getElem_cons_zero, List.getElem_cons_succ]; go_simp; try with_reducible rfl)
                simp (config := { failIfUnchanged := false }) only [Act.put, List.setIfInBounds_toArray, List.set_cons_zero, List.set_cons_succ, List.getElem_toArray, List.getElem_cons_zero, List.getElem_cons_succ]
                refine wpAnyH_done (by kernel_rfl) ?_ _
                go_wp2
                go_roundw
                case rel => exact ⟨k + 1, by omega, by go_num, by show NearIs _ _; rw [HN.out]; exact hni.out, bstep hbr hzr hSg⟩
                case measure => simp [intOf]; omega
          · obtain rfl : k = all.length := by omega
            have hn2 := hni.out
            rw [HJN.out] at hn2
            have hn2 : _ = Value.int .i64 (jn : Int) := hn2
            subst hn2
            obtain ⟨cx, cy⟩ := cn
            have hga1 := hga.below hbr hga.lt
            have hva1 : prR.slice.R wr (fun b => b < GA) all [.slice A1 all.length c1] := Rep.keep _ (fun i (hi : i < GA) => hbr.block i (by omega)) hva
            have hvp1 : prR.slice.R wr (fun b => b < GA) pts [.slice A2 all.length c2] := Rep.keep _ (fun i (hi : i < GA) => hbr.block i (by omega)) hvp
            have hb1 := bstep hb hz hbr
            have hown1 : OwnP wr (GA + 1) 24 _ _ := own_below hown hbr
            obtain ⟨bb, off, x', y', rfl, hx', hbD, d0, d1, -⟩ := pairs_at hva1 hjl
            have hxe := hx'.out.symm.trans HCN.out
            injection hxe with hxe
            injection hxe with e1 e2
            subst e1 e2
            have hbbl : bb < GA := hbD
            obtain ⟨bp, offp, bx, by_, rfl, hpk, hbpD, t0, t1, -⟩ := pairs_at hvp1 (show jn < pts.length by rw [HPL.out]; exact hjl)
            have hbpl : bp < GA := hbpD
            have hbg : beginF shapes (x', y') = (bx, by_) := by
              have h := (HPT.out jn _ HCN.out).symm.trans hpk.out
              injection h
            have hmem : (x', y') ∈ all := List.mem_of_getElem? HCN.out
            have HB1 := Lib.hid hbg
            have HNE : Hid (Near (bx, by_)) := by show Near _; rw [← hbg]; exact HBN.out _ hmem
            have HGN := Lib.hid (greedyT_next hlt HJN.out HCN.out)
            have HCU := Lib.hid (hcut.out.snoc hmem (may_out HMN.out))
            have hGr1 : GA < wr.heap.size := Nat.lt_of_lt_of_le hGr hzr
            have hjp2 : (jn : Int) < (all.length : Int) := by omega
            have hbd1 : ¬ bp = GA := by omega
            have hl288 : all.length ≤ 1001000 := HCL.out
            clear hmem hbg hrb hrr hra hrp
            go_wp2_with (at_builtin; refine wpList_append_own _ rfl _ _ 32 rfl (GA + 1) 24 i0 (.agg #[.int .i64 0, .int .i64 0]) 2 16 Try.underlying32 hinf hz0 hz1 hz2 rfl (by decide) _ _ _ rfl (World.ownsRow.alloc hown1 _) ⟨wr.heap.size, 0, none⟩ 1 1 [.int .i64 x', .int .i64 y'] (by rfl) rfl (new_pr _ _ _ _) (pr_one _ _) (by unfold maxLen; omega) (by omega) (by simp; omega) ?_; intro v5 w5 hown5 hg5 _; have hbq : Below (GA + 1) wr w5 := ((Below.refl _ _).alloc (by omega) _).grown hg5 (by simp; omega) (fun j hj => (World.ownsRow.lt hown1 j hj).1); have hga5 := hga1.below hbq (Nat.lt_succ_self _); have y0 := hga5.c20; have y1 := hga5.c21; have ff0 := hga5.free 0; have ff1 := hga5.free 1; have s0 := (hbq.cell (p := ⟨bp, offp + jn * 2, none⟩) (by show bp < GA + 1; omega)).trans t0; have s1 := (hbq.cell (p := ⟨bp, offp + jn * 2 + 1, none⟩) (by show bp < GA + 1; omega)).trans t1; obtain ⟨A5', c5', hA5'⟩ := own_slice hown5; subst hA5')
            have hbqw : Below w.heap.size w w5 := hb1.trans (hbq.mono (by omega))
            have hva5 : prR.slice.R w5 (fun b => b < GA) all [.slice (some ⟨bb, off, none⟩) all.length c1] := Rep.keep _ (fun i (hi : i < GA) => hbq.block i (by omega)) hva1
            have hvp5 : prR.slice.R w5 (fun b => b < GA) pts [.slice (some ⟨bp, offp, none⟩) all.length c2] := Rep.keep _ (fun i (hi : i < GA) => hbq.block i (by omega)) hvp1
            have hkeep : ∀ i, i < GA → ((w5.setCell ⟨GA, 0, none⟩ (.int .i64 bx)).setCell ⟨GA, 1, none⟩ (.int .i64 by_)).heap[i]? = w5.heap[i]? := fun i hi => (Below.heap_setCell _ ⟨GA, 1, none⟩ (.int .i64 by_) i (by show i ≠ GA; omega)).trans (Below.heap_setCell w5 ⟨GA, 0, none⟩ (.int .i64 bx) i (by show i ≠ GA; omega))
            have hva6 := Rep.keep _ (fun i (hi : i < GA) => hkeep i hi) hva5
            have hvp6 := Rep.keep _ (fun i (hi : i < GA) => hkeep i hi) hvp5
            have hb6 := (hbqw.setCell (p := ⟨GA, 0, none⟩) hGw (.int .i64 bx)).setCell (p := ⟨GA, 1, none⟩) hGw (.int .i64 by_)
            have hga6 := (hga5.set_ 0 (.int .i64 bx)).set_ 1 (.int .i64 by_)
            have hown6 : OwnP ((w5.setCell ⟨GA, 0, none⟩ (.int .i64 bx)).setCell ⟨GA, 1, none⟩ (.int .i64 by_)) (GA + 1) 24 _ _ := own_far (own_far (ownP_snoc hown5) (by show GA < GA + 1; omega) (.int .i64 bx)) (by show GA < GA + 1; omega) (.int .i64 by_)
            have hsz6 : GA < ((w5.setCell ⟨GA, 0, none⟩ (.int .i64 bx)).setCell ⟨GA, 1, none⟩ (.int .i64 by_)).heap.size := by have := hga5.lt; simp [World.setCell]; omega
            go_roundw
            case rel => exact ⟨out ++ [(x', y')], bx, by_, HCU.out, HNE.out, by show _ = _; rw [← hgr.out, HGN.out, HB1.out], hown6, hga6, hva6, hvp6, hsz6, hb6⟩
            case measure => simp [sliceLen]; omega
      · have hle : out.length = all.length := by omega
        have HR : Hid (greedyT all (beginF shapes) all.length [] (0, 0) = out) := by
          show _ = out
          rw [← hgr.out, hle, Nat.sub_self, greedyT]
        have hlti : ¬ (out.length : Int) < (all.length : Int) := by omega
        clear hle
        go_wp2
        go_ret
        exact ⟨_, rfl, by rw [HT.out, HR.out]; exact hrb, hb⟩
end Go.Proofs.Ytpefmbjaolcapaa
