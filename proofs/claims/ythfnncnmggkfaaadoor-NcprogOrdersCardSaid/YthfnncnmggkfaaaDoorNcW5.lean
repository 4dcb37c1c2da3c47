/- Chapter 27: a step that puts the torch out, by walking the program's text. -/
import Derived.Test.YthfnncnmggkfaaaDoorLexPlainM
set_option linter.unusedSimpArgs false
set_option linter.unusedVariables false
namespace Go.Proofs.YthfnncnmggkfaaaDoor
open Go Go.RowKit

attribute [local simp] as_move as_pierce as_cut as_off as_move_pierce as_move_cut as_move_off as_pierce_move as_pierce_cut as_pierce_off as_cut_move as_cut_pierce as_cut_off as_off_move as_off_pierce as_off_cut
theorem off_one {m : Mc} (h : m.ring.length = 0 + 1) : offRings m = m.rings := by unfold offRings closedB; rw [h]; rfl
theorem off_ne {m : Mc} {n : Nat} {p q : Pt} (h : m.ring.length = n + 1) (hp : m.ring[n]? = some p) (hq : m.ring[0]? = some q) (hne : p ≠ q) : offRings m = m.rings := by
  unfold offRings closedB
  rw [h, Nat.add_sub_cancel, getD_at hp, getD_at hq, if_neg]
  simp [hne]
theorem off_eq {m : Mc} {n : Nat} {p : Pt} (h : m.ring.length = n + 1) (hn : 0 < n) (hp : m.ring[n]? = some p) (hq : m.ring[0]? = some p) : offRings m = m.rings ++ [m.ring.take n] := by
  unfold offRings closedB
  rw [h, Nat.add_sub_cancel, getD_at hp, getD_at hq, if_pos]
  simp; omega
set_option maxRecDepth 100000 in
set_option maxHeartbeats 2000000 in
theorem nc_off_one (gm k n : Nat) (m : Mc) (x y : Int) (w : World) (h : MAt gm m w) (hl : m.lit = true) (hfit : Fit m k) (hk : k ≤ 20000) (hn : m.ring.length = n + 1) (hn0 : n = 0) : Calls Tryd.prog 42 #[.pointer (some ⟨gm, 0, none⟩), .iface 73 (.agg #[])] w (DoPost gm (doF m (4, (x, y))) w) := by
  have HDO := Lib.hid (do_off (p := (x, y)) hl)
  obtain ⟨rv, rsv, base, h1, h2, h3, h4, h5⟩ := h.ex
  rw [hl] at h1
  have hO := h5 hl
  obtain ⟨gr, cap, hrv, hgr, hgrl⟩ := nc_own_form hO (by omega)
  rw [hn] at hrv
  subst hrv
  have HL := Lib.hid hl
  have HH := Lib.hid (show RingsAt (gm + 1) base rsv m.rings w from h4)
  have hgl := h1.lt
  have hrl := hfit.rl
  obtain ⟨px, py, hpn⟩ : ∃ a b, m.ring[n]? = some (a, b) := ⟨_, _, List.getElem?_eq_getElem (by omega)⟩
  obtain ⟨qx, qy, hp0⟩ : ∃ a b, m.ring[0]? = some (a, b) := ⟨_, _, List.getElem?_eq_getElem (by omega)⟩
  obtain ⟨w1, hw1⟩ : ∃ W, W = w.alloc (.cells #[] 73) := ⟨_, rfl⟩
  have g1 := h1.alloc (.cells #[] 73)
  have hs1 : w1.heap.size = w.heap.size + 1 := by rw [hw1]; simp
  have hb0 := (Below.refl w.heap.size w).alloc (Nat.le_refl _) (.cells #[] 73)
  rw [← hw1] at g1 hb0
  have hO1 := own_below hO hb0
  have hO1' : OwnP w1 base 47 (.slice (some ⟨gr, 0, none⟩) m.ring.length cap) m.ring := by rw [hn]; exact hO1
  have c5 : w1.cell? ⟨gm, 5, none⟩ = some (.bool true) := g1.cell 5
  have c6 : w1.cell? ⟨gm, 6, none⟩ = some (.slice (some ⟨gr, 0, none⟩) (n + 1) cap) := g1.cell 6
  have c7 : w1.cell? ⟨gm, 7, none⟩ = some rsv := g1.cell 7
  have f5 := g1.free 5
  have f7 := g1.free 7
  obtain ⟨d0, d1⟩ := nc_own_at hO1' hpn
  obtain ⟨d2, d3⟩ := nc_own_at hO1' hp0
  rw [Nat.zero_mul] at d2 d3
  have d3 : w1.cell? ⟨gr, 1, none⟩ = some (.int .i64 qy) := d3
  have hgrm : ¬ gr = gm := by omega
  have hgrm' : ¬ gm = gr := by omega
  have HFIT := Lib.hid hfit
  have HN := Lib.hid hn
  have HPN := Lib.hid hpn
  have HP0 := Lib.hid hp0
  have HW1 := Lib.hid hw1
  have HS1 := Lib.hid hs1
  have HOO := Lib.hid hO1'
  have hn9 : n ≤ 20000 := by omega
  have hgl1 : gm < w1.heap.size := by omega
  have HOF := Lib.hid (off_one (by rw [hn, hn0]))
  subst hn0
  clear h1 h4 h5 hl hfit hn hpn hp0 hw1 hs1 hO hO1 hO1' hrl
  have q1 := nc_pt_eql
  have q2 := nc_pt_eqg
  go_enter Tryd.func42, Tryd.ntmps42
  go_upto_region 31 with fail
  rw [← HW1.out]
  go_wp2
  go_quiet (fail)
  go_wp2
  go_ret
  rw [HDO.out]
  refine ⟨rfl, ⟨⟨.slice (some ⟨gr, 0, none⟩) (0 + 1) cap, rsv, base, ?_, h2, ?_, ?_, fun hh => by cases hh⟩⟩, ?_⟩
  · exact (g1.set_ 5 (.bool false)).drewN _
  · have := HS1.out
    simp [World.setCell]
    omega
  · show RingsAt _ _ _ (offRings m) _
    rw [HOF.out]
    exact HH.out.keep (fun i hi hib => (Below.heap_setCell w1 ⟨gm, 5, none⟩ _ i (by show i ≠ gm; omega)).trans (hb0.block i (by omega)))
  · exact below_drewN ((hb0.mono (Nat.le_of_lt hgl)).setCell (p := ⟨gm, 5, none⟩) (Nat.le_refl _) _) _
set_option maxRecDepth 100000 in
set_option maxHeartbeats 2000000 in
theorem nc_off_ne (gm k n : Nat) (m : Mc) (x y : Int) (w : World) (h : MAt gm m w) (hl : m.lit = true) (hfit : Fit m k) (hk : k ≤ 20000) (hn : m.ring.length = n + 1) (hn0 : 0 < n) (hne : ∀ p q, m.ring[n]? = some p → m.ring[0]? = some q → p ≠ q) : Calls Tryd.prog 42 #[.pointer (some ⟨gm, 0, none⟩), .iface 73 (.agg #[])] w (DoPost gm (doF m (4, (x, y))) w) := by
  have HDO := Lib.hid (do_off (p := (x, y)) hl)
  obtain ⟨rv, rsv, base, h1, h2, h3, h4, h5⟩ := h.ex
  rw [hl] at h1
  have hO := h5 hl
  obtain ⟨gr, cap, hrv, hgr, hgrl⟩ := nc_own_form hO (by omega)
  rw [hn] at hrv
  subst hrv
  have HL := Lib.hid hl
  have HH := Lib.hid (show RingsAt (gm + 1) base rsv m.rings w from h4)
  have hgl := h1.lt
  have hrl := hfit.rl
  obtain ⟨px, py, hpn⟩ : ∃ a b, m.ring[n]? = some (a, b) := ⟨_, _, List.getElem?_eq_getElem (by omega)⟩
  obtain ⟨qx, qy, hp0⟩ : ∃ a b, m.ring[0]? = some (a, b) := ⟨_, _, List.getElem?_eq_getElem (by omega)⟩
  obtain ⟨w1, hw1⟩ : ∃ W, W = w.alloc (.cells #[] 73) := ⟨_, rfl⟩
  have g1 := h1.alloc (.cells #[] 73)
  have hs1 : w1.heap.size = w.heap.size + 1 := by rw [hw1]; simp
  have hb0 := (Below.refl w.heap.size w).alloc (Nat.le_refl _) (.cells #[] 73)
  rw [← hw1] at g1 hb0
  have hO1 := own_below hO hb0
  have hO1' : OwnP w1 base 47 (.slice (some ⟨gr, 0, none⟩) m.ring.length cap) m.ring := by rw [hn]; exact hO1
  have c5 : w1.cell? ⟨gm, 5, none⟩ = some (.bool true) := g1.cell 5
  have c6 : w1.cell? ⟨gm, 6, none⟩ = some (.slice (some ⟨gr, 0, none⟩) (n + 1) cap) := g1.cell 6
  have c7 : w1.cell? ⟨gm, 7, none⟩ = some rsv := g1.cell 7
  have f5 := g1.free 5
  have f7 := g1.free 7
  obtain ⟨d0, d1⟩ := nc_own_at hO1' hpn
  obtain ⟨d2, d3⟩ := nc_own_at hO1' hp0
  rw [Nat.zero_mul] at d2 d3
  have d3 : w1.cell? ⟨gr, 1, none⟩ = some (.int .i64 qy) := d3
  have hgrm : ¬ gr = gm := by omega
  have hgrm' : ¬ gm = gr := by omega
  have HFIT := Lib.hid hfit
  have HN := Lib.hid hn
  have HPN := Lib.hid hpn
  have HP0 := Lib.hid hp0
  have HW1 := Lib.hid hw1
  have HS1 := Lib.hid hs1
  have HOO := Lib.hid hO1'
  have hn9 : n ≤ 20000 := by omega
  have hgl1 : gm < w1.heap.size := by omega
  have hne' := hne _ _ hpn hp0
  have HOF := Lib.hid (off_ne hn hpn hp0 hne')
  have hq : (px == qx && py == qy) = false := by
    cases hh : (px == qx && py == qy) with
    | false => rfl
    | true =>
      rw [Bool.and_eq_true, beq_iff_eq, beq_iff_eq] at hh
      exact absurd (by rw [hh.1, hh.2]) hne'
  have hni : (0 : Int) < (n : Int) := by omega
  have hnd : decide ((0 : Int) < (n : Int)) = true := decide_eq_true hni
  have hnd2 : decide (0 < n) = true := decide_eq_true hn0
  have hnl : (n : Int) < (n : Int) + 1 := by omega
  clear hne hne'
  clear h1 h4 h5 hl hfit hn hpn hp0 hw1 hs1 hO hO1 hO1' hrl
  have q1 := nc_pt_eql
  have q2 := nc_pt_eqg
  go_enter Tryd.func42, Tryd.ntmps42
  go_upto_region 31 with fail
  rw [← HW1.out]
  go_wp2
  go_quiet (fail)
  go_wp2
  go_ret
  rw [HDO.out]
  refine ⟨rfl, ⟨⟨.slice (some ⟨gr, 0, none⟩) (n + 1) cap, rsv, base, ?_, h2, ?_, ?_, fun hh => by cases hh⟩⟩, ?_⟩
  · exact (g1.set_ 5 (.bool false)).drewN _
  · have := HS1.out
    simp [World.setCell]
    omega
  · show RingsAt _ _ _ (offRings m) _
    rw [HOF.out]
    exact HH.out.keep (fun i hi hib => (Below.heap_setCell w1 ⟨gm, 5, none⟩ _ i (by show i ≠ gm; omega)).trans (hb0.block i (by omega)))
  · exact below_drewN ((hb0.mono (Nat.le_of_lt hgl)).setCell (p := ⟨gm, 5, none⟩) (Nat.le_refl _) _) _
set_option maxRecDepth 100000 in
set_option maxHeartbeats 2000000 in
theorem nc_off_eq (gm k n : Nat) (m : Mc) (x y : Int) (w : World) (h : MAt gm m w) (hl : m.lit = true) (hfit : Fit m k) (hk : k ≤ 20000) (hn : m.ring.length = n + 1) (hn0 : 0 < n) (he : ∀ p q, m.ring[n]? = some p → m.ring[0]? = some q → p = q) : Calls Tryd.prog 42 #[.pointer (some ⟨gm, 0, none⟩), .iface 73 (.agg #[])] w (DoPost gm (doF m (4, (x, y))) w) := by
  have HDO := Lib.hid (do_off (p := (x, y)) hl)
  obtain ⟨rv, rsv, base, h1, h2, h3, h4, h5⟩ := h.ex
  rw [hl] at h1
  have hO := h5 hl
  obtain ⟨gr, cap, hrv, hgr, hgrl⟩ := nc_own_form hO (by omega)
  rw [hn] at hrv
  subst hrv
  have HL := Lib.hid hl
  have HH := Lib.hid (show RingsAt (gm + 1) base rsv m.rings w from h4)
  have hgl := h1.lt
  have hrl := hfit.rl
  obtain ⟨px, py, hpn⟩ : ∃ a b, m.ring[n]? = some (a, b) := ⟨_, _, List.getElem?_eq_getElem (by omega)⟩
  obtain ⟨qx, qy, hp0⟩ : ∃ a b, m.ring[0]? = some (a, b) := ⟨_, _, List.getElem?_eq_getElem (by omega)⟩
  obtain ⟨w1, hw1⟩ : ∃ W, W = w.alloc (.cells #[] 73) := ⟨_, rfl⟩
  have g1 := h1.alloc (.cells #[] 73)
  have hs1 : w1.heap.size = w.heap.size + 1 := by rw [hw1]; simp
  have hb0 := (Below.refl w.heap.size w).alloc (Nat.le_refl _) (.cells #[] 73)
  rw [← hw1] at g1 hb0
  have hO1 := own_below hO hb0
  have hO1' : OwnP w1 base 47 (.slice (some ⟨gr, 0, none⟩) m.ring.length cap) m.ring := by rw [hn]; exact hO1
  have c5 : w1.cell? ⟨gm, 5, none⟩ = some (.bool true) := g1.cell 5
  have c6 : w1.cell? ⟨gm, 6, none⟩ = some (.slice (some ⟨gr, 0, none⟩) (n + 1) cap) := g1.cell 6
  have c7 : w1.cell? ⟨gm, 7, none⟩ = some rsv := g1.cell 7
  have f5 := g1.free 5
  have f7 := g1.free 7
  obtain ⟨d0, d1⟩ := nc_own_at hO1' hpn
  obtain ⟨d2, d3⟩ := nc_own_at hO1' hp0
  rw [Nat.zero_mul] at d2 d3
  have d3 : w1.cell? ⟨gr, 1, none⟩ = some (.int .i64 qy) := d3
  have hgrm : ¬ gr = gm := by omega
  have hgrm' : ¬ gm = gr := by omega
  have HFIT := Lib.hid hfit
  have HN := Lib.hid hn
  have HPN := Lib.hid hpn
  have HP0 := Lib.hid hp0
  have HW1 := Lib.hid hw1
  have HS1 := Lib.hid hs1
  have HOO := Lib.hid hO1'
  have hn9 : n ≤ 20000 := by omega
  have hgl1 : gm < w1.heap.size := by omega
  have he' := he _ _ hpn hp0
  injection he' with he1 he2
  subst he1 he2
  have HOF := Lib.hid (off_eq hn hn0 hpn hp0)
  have hni : (0 : Int) < (n : Int) := by omega
  have hnd : decide ((0 : Int) < (n : Int)) = true := decide_eq_true hni
  have hnd2 : decide (0 < n) = true := decide_eq_true hn0
  have hnl : (n : Int) < (n : Int) + 1 := by omega
  have hcap : n + 1 ≤ cap := by
    rcases hO1.2 with ⟨h0, _⟩ | ⟨g', cap', cur, h0, _, _, hnc, _⟩
    · cases h0
    · injection h0 with _ _ h3
      omega
  have hcapI : (n : Int) ≤ (cap : Int) := by omega
  have HRB : Hid (∀ p ∈ m.ring, inI64 p.1 ∧ inI64 p.2) := fun p hp => by
    obtain ⟨⟨a, b⟩, c, d⟩ := hfit.rn p hp
    unfold inI64
    omega
  have hrsl := hfit.rsl
  clear he
  obtain ⟨i1, hinf, hz0, hz1, hz2⟩ := info_parts nc_pts_info
  clear h1 h4 h5 hl hfit hn hpn hp0 hw1 hs1 hO hO1 hO1' hrl
  have q1 := nc_pt_eql
  have q2 := nc_pt_eqg
  go_enter Tryd.func42, Tryd.ntmps42
  go_upto_region 31 with fail
  rw [← HW1.out]
  go_wp2
  go_quiet (fail)
  generalize hw2 : World.drewN (w1.setCell ⟨gm, 5, none⟩ (.bool false)) _ = w2
  have g2 : Blk w2 gm 97 #[.int .i64 m.tr, .int .i64 m.bu, .int .i64 m.pi, .int .i64 m.at_.1, .int .i64 m.at_.2, .bool false, .slice (some ⟨gr, 0, none⟩) (n + 1) cap, rsv] := by rw [← hw2]; exact (g1.set_ 5 (.bool false)).drewN _
  have hk2 : ∀ i, i ≠ gm → w2.heap[i]? = w1.heap[i]? := fun i hi => by rw [← hw2]; exact Below.heap_setCell w1 ⟨gm, 5, none⟩ _ i hi
  have hs2 : w2.heap.size = w1.heap.size := by rw [← hw2]; simp [World.setCell, World.drewN]
  have hbg2 : Below gm w w2 := by rw [← hw2]; exact below_drewN ((hb0.mono (Nat.le_of_lt hgl)).setCell (p := ⟨gm, 5, none⟩) (Nat.le_refl _) _) _
  have HO2 : Hid (OwnP w2 base 47 (.slice (some ⟨gr, 0, none⟩) m.ring.length cap) m.ring) := own_keep HOO.out (fun g hg => hk2 g (by have := (World.ownsRow.lt HOO.out g hg).1; omega))
  have hH2 : RingsAt (gm + 1) base rsv m.rings w2 := HH.out.keep (fun i hi hib => (hk2 i (by omega)).trans (hb0.block i (by omega)))
  have hsw := HS1.out
  obtain ⟨vs, hv1, hv2, hv3⟩ := hH2.ex
  have HV := Lib.hid hv1
  have HV3 := Lib.hid hv3
  have HLT := Lib.hid hH2.lt
  have hvl : vs.length ≤ 20000 := by omega
  have HVL := Lib.hid hv2
  have HB2 : Hid (gm + 1 ≤ w2.heap.size) := by show _ ≤ _; omega
  have HSZ : Hid (base ≤ w2.heap.size) := by show _ ≤ _; omega
  have c6' : w2.cell? ⟨gm, 6, none⟩ = some (.slice (some ⟨gr, 0, none⟩) (n + 1) cap) := g2.cell 6
  have c7' : w2.cell? ⟨gm, 7, none⟩ = some rsv := g2.cell 7
  have c7a : (w2.alloc (.cells #[.slice (some ⟨gr, 0, none⟩) n n] 54)).cell? ⟨gm, 7, none⟩ = some rsv := (g2.alloc (.cells #[.slice (some ⟨gr, 0, none⟩) n n] 54)).cell 7
  have HT1 : Hid (w2.drew.cell? ⟨gm, 6, none⟩ = some (.slice (some ⟨gr, 0, none⟩) (n + 1) cap)) := c6'
  have HT2 : Hid ((w2.alloc (.cells #[.slice (some ⟨gr, 0, none⟩) n n] 54)).drew.cell? ⟨gm, 6, none⟩ = some (.slice (some ⟨gr, 0, none⟩) (n + 1) cap)) := (g2.alloc (.cells #[.slice (some ⟨gr, 0, none⟩) n n] 54)).cell 6
  have HT2b : Hid ((w2.drew.alloc (.cells #[.slice (some ⟨gr, 0, none⟩) n n] 54)).cell? ⟨gm, 6, none⟩ = some (.slice (some ⟨gr, 0, none⟩) (n + 1) cap)) := ((g2.drewN 1).alloc (.cells #[.slice (some ⟨gr, 0, none⟩) n n] 54)).cell 6
  clear hw2 hv1 hv2 hv3 hH2 hs2 hsw c5 c6 c7 f5 f7 d0 d1 d2 d3 g1 q1 q2 hrsl
  go_wp2
  refine wp_region_held_drew (S := fun W => W.cell? ⟨gm, 6, none⟩ = some (.slice (some ⟨gr, 0, none⟩) (n + 1) cap)) (by kernel_rfl) (HT1.out) (fun hH => ?_)
  refine take_run (i := 0) (v := ?_) (by decide) (by kernel_rfl) (by kernel_rfl) (by kernel_rfl) (fun _ _ _ _ h => h) hH rfl ?_ ?_
  rotate_left
  · (intro w hSw; (try dsimp only at hSw); (try go_split_ands); simp only [List.getElem_toArray, List.getElem_cons_zero]; go_simp; try with_reducible rfl)
  try simp (config := { failIfUnchanged := false }) only [Act.put, List.setIfInBounds_toArray, List.set_cons_zero, List.set_cons_succ, List.getElem_toArray, List.getElem_cons_zero, List.getElem_cons_succ]
  refine take_run (i := 1) (v := ?_) (by decide) (by kernel_rfl) (by kernel_rfl) (by kernel_rfl) (fun _ _ _ _ h => h) hH rfl ?_ ?_
  rotate_left
  · (intro w hSw; (try dsimp only at hSw); (try go_split_ands); simp only [List.getElem_toArray, List.getElem_cons_zero, List.getElem_cons_succ]; go_simp; try with_reducible rfl)
  try simp (config := { failIfUnchanged := false }) only [Act.put, List.setIfInBounds_toArray, List.set_cons_zero, List.set_cons_succ, List.getElem_toArray, List.getElem_cons_zero, List.getElem_cons_succ]
  refine take_run (i := 2) (v := ?_) (by decide) (by kernel_rfl) (by kernel_rfl) (by kernel_rfl) (fun _ _ _ _ h => h) hH rfl ?_ ?_
  rotate_left
  · (intro w hSw; (try dsimp only at hSw); (try go_split_ands); simp only [List.getElem_toArray, List.getElem_cons_zero, List.getElem_cons_succ]; go_simp; try with_reducible rfl)
  try simp (config := { failIfUnchanged := false }) only [Act.put, List.setIfInBounds_toArray, List.set_cons_zero, List.set_cons_succ, List.getElem_toArray, List.getElem_cons_zero, List.getElem_cons_succ]
  refine take_run (i := 3) (v := ?_) (by decide) (by kernel_rfl) (by kernel_rfl) (by kernel_rfl) (fun _ _ _ _ h => h) hH rfl ?_ ?_
  rotate_left
  · (intro w hSw; (try dsimp only at hSw); (try go_split_ands); simp only [List.getElem_toArray, List.getElem_cons_zero, List.getElem_cons_succ]; go_simp; try with_reducible rfl)
  try simp (config := { failIfUnchanged := false }) only [Act.put, List.setIfInBounds_toArray, List.set_cons_zero, List.set_cons_succ, List.getElem_toArray, List.getElem_cons_zero, List.getElem_cons_succ]
  refine take_run (i := 5) (v := ?_) (by decide) (by kernel_rfl) (by kernel_rfl) (by kernel_rfl) (fun _ _ _ _ h => h) hH rfl ?_ ?_
  rotate_left
  · (intro w hSw; (try dsimp only at hSw); (try go_split_ands); simp only [List.getElem_toArray, List.getElem_cons_zero, List.getElem_cons_succ]; go_simp; try with_reducible rfl)
  try simp (config := { failIfUnchanged := false }) only [Act.put, List.setIfInBounds_toArray, List.set_cons_zero, List.set_cons_succ, List.getElem_toArray, List.getElem_cons_zero, List.getElem_cons_succ]
  refine take_run (i := 6) (v := ?_) (by decide) (by kernel_rfl) (by kernel_rfl) (by kernel_rfl) (fun _ _ _ _ h => h) hH rfl ?_ ?_
  rotate_left
  · (intro w hSw; (try dsimp only at hSw); (try go_split_ands); simp only [List.getElem_toArray, List.getElem_cons_zero, List.getElem_cons_succ]; go_simp; try with_reducible rfl)
  try simp (config := { failIfUnchanged := false }) only [Act.put, List.setIfInBounds_toArray, List.set_cons_zero, List.set_cons_succ, List.getElem_toArray, List.getElem_cons_zero, List.getElem_cons_succ]
  refine take_run (i := 7) (v := ?_) (by decide) (by kernel_rfl) (by kernel_rfl) (by kernel_rfl) (fun _ _ _ _ h => h) hH rfl ?_ ?_
  rotate_left
  · (intro w hSw; (try dsimp only at hSw); (try go_split_ands); simp only [List.getElem_toArray, List.getElem_cons_zero, List.getElem_cons_succ]; go_simp; try with_reducible rfl)
  try simp (config := { failIfUnchanged := false }) only [Act.put, List.setIfInBounds_toArray, List.set_cons_zero, List.set_cons_succ, List.getElem_toArray, List.getElem_cons_zero, List.getElem_cons_succ]
  refine take_run (i := 8) (v := ?_) (by decide) (by kernel_rfl) (by kernel_rfl) (by kernel_rfl) (fun _ _ _ _ h => h) hH rfl ?_ ?_
  rotate_left
  · (intro w hSw; (try dsimp only at hSw); (try go_split_ands); simp only [List.getElem_toArray, List.getElem_cons_zero, List.getElem_cons_succ]; go_simp; try with_reducible rfl)
  try simp (config := { failIfUnchanged := false }) only [Act.put, List.setIfInBounds_toArray, List.set_cons_zero, List.set_cons_succ, List.getElem_toArray, List.getElem_cons_zero, List.getElem_cons_succ]
  refine take_run (i := 9) (v := ?_) (by decide) (by kernel_rfl) (by kernel_rfl) (by kernel_rfl) (fun _ _ _ _ h => h) hH rfl ?_ ?_
  rotate_left
  · (intro w hSw; (try dsimp only at hSw); (try go_split_ands); simp only [List.getElem_toArray, List.getElem_cons_zero, List.getElem_cons_succ]; go_simp; try with_reducible rfl)
  try simp (config := { failIfUnchanged := false }) only [Act.put, List.setIfInBounds_toArray, List.set_cons_zero, List.set_cons_succ, List.getElem_toArray, List.getElem_cons_zero, List.getElem_cons_succ]
  refine take_run (i := 10) (v := ?_) (by decide) (by kernel_rfl) (by kernel_rfl) (by kernel_rfl) (fun _ _ _ _ h => h) hH rfl ?_ ?_
  rotate_left
  · (intro w hSw; (try dsimp only at hSw); (try go_split_ands); simp only [List.getElem_toArray, List.getElem_cons_zero, List.getElem_cons_succ]; go_simp; try with_reducible rfl)
  try simp (config := { failIfUnchanged := false }) only [Act.put, List.setIfInBounds_toArray, List.set_cons_zero, List.set_cons_succ, List.getElem_toArray, List.getElem_cons_zero, List.getElem_cons_succ]
  refine take_run (i := 11) (v := ?_) (by decide) (by kernel_rfl) (by kernel_rfl) (by kernel_rfl) (fun _ _ _ _ h => h) hH rfl ?_ ?_
  rotate_left
  · (intro w hSw; (try dsimp only at hSw); (try go_split_ands); simp only [List.getElem_toArray, List.getElem_cons_zero, List.getElem_cons_succ]; go_simp; try with_reducible rfl)
  try simp (config := { failIfUnchanged := false }) only [Act.put, List.setIfInBounds_toArray, List.set_cons_zero, List.set_cons_succ, List.getElem_toArray, List.getElem_cons_zero, List.getElem_cons_succ]
  refine take_two (i := 4) (j := 12) (by decide) (by decide) (by kernel_rfl) (fun K hK => ?_) (fun K hK => ?_)
  focus
    simp only [List.getElem_toArray, List.getElem_cons_zero, List.getElem_cons_succ]
    go_simp
    refine hK.out _ _ (by first | exact HT1.out | exact HT2.out | exact HT2b.out | exact s6 | exact hT4 _) (fun hH => ?_)
    clear hK K
    try simp (config := { failIfUnchanged := false }) only [Act.put, List.setIfInBounds_toArray, List.set_cons_zero, List.set_cons_succ, List.getElem_toArray, List.getElem_cons_zero, List.getElem_cons_succ]
    refine take_call (i := 12) (by decide) (by kernel_rfl) (fun K hK => ?_)
    simp only [List.getElem_toArray, List.getElem_cons_zero, List.getElem_cons_succ]
    go_simp
    refine hK.out _ _ (by first | exact HT1.out | exact HT2.out | exact HT2b.out | exact s6 | exact hT4 _) (fun hH => ?_)
    clear hK K
    try simp (config := { failIfUnchanged := false }) only [Act.put, List.setIfInBounds_toArray, List.set_cons_zero, List.set_cons_succ, List.getElem_toArray, List.getElem_cons_zero, List.getElem_cons_succ]
    refine take_call (i := 13) (by decide) (by kernel_rfl) (fun K hK => ?_)
    refine step_append_cells (by rfl) _ _ _ (by rfl) (gm + 1) 54 i1 (.slice none 0 0) 1 24 Tryd.underlying39 hinf hz0 hz1 hz2 rfl (by decide) rsv vs.length vs (by rfl) (World.ownsRow.alloc (own_below HV.out (Below.drew (Below.refl _ _))) _) ⟨w2.heap.size, 0, none⟩ 1 1 [.slice (some ⟨gr, 0, none⟩) n n] (by rfl) rfl (new1_cells w2.drew _ _) (fun u hu => by rw [List.mem_singleton.1 hu]; rfl) (by unfold maxLen; omega) (by omega) (by have := HB2.out; simp; omega) ?_
    intro v3 W3 hown3 hg3
    obtain ⟨A3, c3, rfl⟩ := own_slice hown3
    have g3 := Blk.grown ((g2.drewN 1).alloc _) hg3 (fun e => by have := (World.ownsRow.lt HV.out _ e.symm).1; omega)
    have s6 : W3.cell? ⟨gm, 6, none⟩ = some (.slice (some ⟨gr, 0, none⟩) (n + 1) cap) := g3.cell 6
    have s7 : W3.cell? ⟨gm, 7, none⟩ = some rsv := g3.cell 7
    have sf7 := g3.free 7
    have hT4 := fun v => cell_far (p := ⟨gm, 7, none⟩) (u := v) s6 (.inr (by show 6 ≠ 7; decide))
    refine hK.out _ _ (by first | exact HT1.out | exact HT2.out | exact HT2b.out | exact s6 | exact hT4 _) (fun hH => ?_)
    clear hK K
    try simp (config := { failIfUnchanged := false }) only [Act.put, List.setIfInBounds_toArray, List.set_cons_zero, List.set_cons_succ, List.getElem_toArray, List.getElem_cons_zero, List.getElem_cons_succ]
    refine take_run (i := 14) (v := ?_) (by decide) (by kernel_rfl) (by kernel_rfl) (by kernel_rfl) (fun _ _ _ _ h => h) hH rfl ?_ ?_
    rotate_left
    · (intro w hSw; (try dsimp only at hSw); (try go_split_ands); simp only [List.getElem_toArray, List.getElem_cons_zero, List.getElem_cons_succ]; go_simp; try with_reducible rfl)
    try simp (config := { failIfUnchanged := false }) only [Act.put, List.setIfInBounds_toArray, List.set_cons_zero, List.set_cons_succ, List.getElem_toArray, List.getElem_cons_zero, List.getElem_cons_succ]
    refine take_run (i := 15) (v := ?_) (by decide) (by kernel_rfl) (by kernel_rfl) (by kernel_rfl) (fun _ _ _ _ h => h) hH rfl ?_ ?_
    rotate_left
    · (intro w hSw; (try dsimp only at hSw); (try go_split_ands); simp only [List.getElem_toArray, List.getElem_cons_zero, List.getElem_cons_succ]; go_simp; try with_reducible rfl)
    try simp (config := { failIfUnchanged := false }) only [Act.put, List.setIfInBounds_toArray, List.set_cons_zero, List.set_cons_succ, List.getElem_toArray, List.getElem_cons_zero, List.getElem_cons_succ]
    refine take_call (i := 16) (by decide) (by kernel_rfl) (fun K hK => ?_)
    simp only [List.getElem_toArray, List.getElem_cons_zero, List.getElem_cons_succ]
    go_simp
    refine hK.out _ _ (by first | exact HT1.out | exact HT2.out | exact HT2b.out | exact s6 | exact hT4 _) (fun hH => ?_)
    clear hK K
    try simp (config := { failIfUnchanged := false }) only [Act.put, List.setIfInBounds_toArray, List.set_cons_zero, List.set_cons_succ, List.getElem_toArray, List.getElem_cons_zero, List.getElem_cons_succ]
    refine wpAnyH_done (by kernel_rfl) ?_ _
  rotate_left 1
  focus
    simp only [List.getElem_toArray, List.getElem_cons_zero, List.getElem_cons_succ]
    go_simp
    refine hK.out _ _ (by first | exact HT1.out | exact HT2.out | exact HT2b.out | exact s6 | exact hT4 _) (fun hH => ?_)
    clear hK K
    try simp (config := { failIfUnchanged := false }) only [Act.put, List.setIfInBounds_toArray, List.set_cons_zero, List.set_cons_succ, List.getElem_toArray, List.getElem_cons_zero, List.getElem_cons_succ]
    refine take_call (i := 4) (by decide) (by kernel_rfl) (fun K hK => ?_)
    simp only [List.getElem_toArray, List.getElem_cons_zero, List.getElem_cons_succ]
    go_simp
    refine hK.out _ _ (by first | exact HT1.out | exact HT2.out | exact HT2b.out | exact s6 | exact hT4 _) (fun hH => ?_)
    clear hK K
    try simp (config := { failIfUnchanged := false }) only [Act.put, List.setIfInBounds_toArray, List.set_cons_zero, List.set_cons_succ, List.getElem_toArray, List.getElem_cons_zero, List.getElem_cons_succ]
    refine take_call (i := 13) (by decide) (by kernel_rfl) (fun K hK => ?_)
    refine step_append_cells (by rfl) _ _ _ (by rfl) (gm + 1) 54 i1 (.slice none 0 0) 1 24 Tryd.underlying39 hinf hz0 hz1 hz2 rfl (by decide) rsv vs.length vs (by rfl) (World.ownsRow.alloc (own_below HV.out (Below.drew (Below.refl _ _))) _) ⟨w2.heap.size, 0, none⟩ 1 1 [.slice (some ⟨gr, 0, none⟩) n n] (by rfl) rfl (new1_cells w2.drew _ _) (fun u hu => by rw [List.mem_singleton.1 hu]; rfl) (by unfold maxLen; omega) (by omega) (by have := HB2.out; simp; omega) ?_
    intro v3 W3 hown3 hg3
    obtain ⟨A3, c3, rfl⟩ := own_slice hown3
    have g3 := Blk.grown ((g2.drewN 1).alloc _) hg3 (fun e => by have := (World.ownsRow.lt HV.out _ e.symm).1; omega)
    have s6 : W3.cell? ⟨gm, 6, none⟩ = some (.slice (some ⟨gr, 0, none⟩) (n + 1) cap) := g3.cell 6
    have s7 : W3.cell? ⟨gm, 7, none⟩ = some rsv := g3.cell 7
    have sf7 := g3.free 7
    have hT4 := fun v => cell_far (p := ⟨gm, 7, none⟩) (u := v) s6 (.inr (by show 6 ≠ 7; decide))
    refine hK.out _ _ (by first | exact HT1.out | exact HT2.out | exact HT2b.out | exact s6 | exact hT4 _) (fun hH => ?_)
    clear hK K
    try simp (config := { failIfUnchanged := false }) only [Act.put, List.setIfInBounds_toArray, List.set_cons_zero, List.set_cons_succ, List.getElem_toArray, List.getElem_cons_zero, List.getElem_cons_succ]
    refine take_run (i := 14) (v := ?_) (by decide) (by kernel_rfl) (by kernel_rfl) (by kernel_rfl) (fun _ _ _ _ h => h) hH rfl ?_ ?_
    rotate_left
    · (intro w hSw; (try dsimp only at hSw); (try go_split_ands); simp only [List.getElem_toArray, List.getElem_cons_zero, List.getElem_cons_succ]; go_simp; try with_reducible rfl)
    try simp (config := { failIfUnchanged := false }) only [Act.put, List.setIfInBounds_toArray, List.set_cons_zero, List.set_cons_succ, List.getElem_toArray, List.getElem_cons_zero, List.getElem_cons_succ]
    refine take_run (i := 15) (v := ?_) (by decide) (by kernel_rfl) (by kernel_rfl) (by kernel_rfl) (fun _ _ _ _ h => h) hH rfl ?_ ?_
    rotate_left
    · (intro w hSw; (try dsimp only at hSw); (try go_split_ands); simp only [List.getElem_toArray, List.getElem_cons_zero, List.getElem_cons_succ]; go_simp; try with_reducible rfl)
    try simp (config := { failIfUnchanged := false }) only [Act.put, List.setIfInBounds_toArray, List.set_cons_zero, List.set_cons_succ, List.getElem_toArray, List.getElem_cons_zero, List.getElem_cons_succ]
    refine take_call (i := 16) (by decide) (by kernel_rfl) (fun K hK => ?_)
    simp only [List.getElem_toArray, List.getElem_cons_zero, List.getElem_cons_succ]
    go_simp
    refine hK.out _ _ (by first | exact HT1.out | exact HT2.out | exact HT2b.out | exact s6 | exact hT4 _) (fun hH => ?_)
    clear hK K
    try simp (config := { failIfUnchanged := false }) only [Act.put, List.setIfInBounds_toArray, List.set_cons_zero, List.set_cons_succ, List.getElem_toArray, List.getElem_cons_zero, List.getElem_cons_succ]
    refine wpAnyH_done (by kernel_rfl) ?_ _
  all_goals
    go_wp2
    go_ret
    rw [HDO.out]
    have hWs : w2.heap.size + 1 ≤ W3.heap.size := by have := hg3.size; simpa using this
    have hkW : ∀ i, i < w2.heap.size → some i ≠ rsv.ownBlock → i ≠ gm → (W3.setCell ⟨gm, 7, none⟩ (.slice A3 (vs.length + 1) c3)).heap[i]? = w2.heap[i]? := fun i hi hne hig =>
      (Below.heap_setCell W3 ⟨gm, 7, none⟩ _ i hig).trans ((hg3.block i (by simp; omega) hne).trans (Below.heap_alloc _ _ i hi))
    have hgrs := (World.ownsRow.lt HO2.out gr rfl).2
    have hgrne : some gr ≠ rsv.ownBlock := fun e => by have := HLT.out gr e.symm; omega
    refine ⟨rfl, ⟨⟨.slice (some ⟨gr, 0, none⟩) (n + 1) cap, .slice A3 (vs.length + 1) c3, W3.heap.size, ?_, ?_, ?_, ?_, fun hh => by cases hh⟩⟩, ?_⟩
    · exact g3.set_ 7 _
    · have := g3.lt; omega
    · simp [World.setCell]
    · show RingsAt _ _ _ (offRings m) _
      rw [HOF.out]
      have hS := HSZ.out
      refine RingsAt.snoc HV.out HVL.out HV3.out (own_keep hown3 (fun g hg => Below.heap_setCell W3 ⟨gm, 7, none⟩ _ g (by show g ≠ gm; have := (World.ownsRow.lt hown3 g hg).1; omega))) (fun i hi hib hp => hkW i (by omega) (row_ne HV.out hp) (by omega)) (by omega) (fun g hg => (World.ownsRow.lt hown3 g hg).2) ?_
      refine Rep.mono _ (D := fun b => b = gr) (fun b hb => ?_) (Rep.keep _ (fun i hi => ?_) (own_cut (n := n) HO2.out HRB.out (by rw [HN.out]; omega)))
      · subst hb
        refine ⟨by omega, by omega, ?_⟩
        obtain ⟨cs, hc⟩ := own_isPt HO2.out
        exact ⟨cs, (hkW _ hgrs hgrne hgrm).trans hc⟩
      · subst hi
        exact hkW _ hgrs hgrne hgrm
    · refine Below.setCell (p := ⟨gm, 7, none⟩) ?_ (Nat.le_refl _) _
      exact hbg2.trans (((Below.drew (Below.refl gm w2)).alloc (by have := HB2.out; simp; omega) _).grown hg3 (by have := HB2.out; simp; omega) (fun j hj => by have := (World.ownsRow.lt HV.out j hj).1; omega))
end Go.Proofs.YthfnncnmggkfaaaDoor
