/- Chapter 27: a contour's corners from its start on, by walking the reference's text. -/
import Derived.Test.YthfnncnmggkfaaaDoorNcW7M
import Derived.Test.YthfnncnmggkfaaaDoorNcMkM
import Derived.Test.YthfnncnmggkfaaaDoorTorW4M
import Derived.Test.YthfnncnmggkfaaaDoorTorRgM
set_option linter.unusedSimpArgs false
namespace Go.Proofs.YthfnncnmggkfaaaDoor
open Go Go.RowKit

/-- a contour's corners from its start on. -/
def rotF (p : List Pt) : List Pt := p.drop (idxC p (minPt p)).toNat ++ p.take (idxC p (minPt p)).toNat
theorem own_empty0 (w : World) (B : Nat) (e : TypeId) (hB : B ≤ w.heap.size) : OwnP (w.alloc (.cells #[] e)) B e (.slice (some ⟨w.heap.size, 0, none⟩) 0 0) [] :=
  ⟨rfl, .inr ⟨w.heap.size, 0, #[], rfl, hB, Blk.new w e #[], Nat.le_refl _, Nat.zero_le _, rfl, rfl⟩⟩
theorem min_new {p : List Pt} {k : Nat} {q m : Pt} (hk : k ≤ p.length) (hm : minTo p k = m) (hl : lowB q m = true) : q ∉ p.take k := by
  intro h
  obtain ⟨j, hj, e⟩ := List.getElem_of_mem h
  have hjk : j < k := by rw [List.length_take] at hj; omega
  have hq : p[j]? = some q := by
    rw [List.getElem_take] at e
    rw [List.getElem?_eq_getElem (by omega), e]
  have := min_low k hk j q hjk hq
  rw [hm] at this
  exact this ((low_iff q m).1 hl)
theorem nc_pt_infoR : (Tryd.prog.info? 47).map (fun i => (i.zero, i.size, i.bytes)) = some (some (.agg #[.int .i64 0, .int .i64 0]), 2, 16) := by kernel_rfl
def RotPost (r : List Pt) (w : World) (e : Ending) (w' : World) : Prop := ∃ v, e = .returned v ∧ OwnP w' w.heap.size 47 v r ∧ Below w.heap.size w w'
set_option maxRecDepth 100000 in
set_option maxHeartbeats 4000000 in
theorem refRing_any (A : Option Addr) (n c : Nat) (shapes : List Shp) (x y : Int) (w : World) (hs : shpsR.R w (Lt w) shapes [.slice A n c]) (hc : (x, y) ∈ contoursF shapes) (hS : SmallS shapes) (hlen : (ringC shapes (x, y)).length ≤ 1000) :
    Calls Tryd.prog 26 #[.slice A n c, .agg #[.int .i64 x, .int .i64 y]] w (RotPost (rotF (ringC shapes (x, y))) w) := by
  obtain ⟨rfl, hm⟩ := slice_len hs
  obtain ⟨i, k, hi, hk, hok, hxy⟩ := mem_contours.1 hc
  injection hxy with h1 h2
  subst h1 h2
  have hsl := hS.len
  obtain ⟨b, off, s, O, no, co, H, nh, ch, rfl, hx, hbD, c0, c1, hno, hnh, hO, hH, hnom, hnhm⟩ := shape_at hs hi
  have hno' := hno.out
  have hnh' := hnh.out
  subst hno' hnh'
  rw [getD_at hx.out] at hk hok
  rw [ringC_nat hx.out] at hlen ⊢
  have hbl : b < w.heap.size := hbD
  have hb0 : ¬ b = w.heap.size := by omega
  have hil : (i : Int) < (shapes.length : Int) := by omega
  have hw0 : Below w.heap.size w (w.alloc (.cells #[.int .i64 (i : Int), .int .i64 (k : Int)] 57)) := (Below.refl _ _).alloc (Nat.le_refl _) _
  have e0 := (hw0.cell (p := ⟨b, off + i * 2, none⟩) hbl).trans c0
  have e1 := (hw0.cell (p := ⟨b, off + i * 2 + 1, none⟩) hbl).trans c1
  have hpos := okRing_pos hok
  obtain ⟨i0, hinf, hz0, hz1, hz2⟩ := info_parts nc_pt_infoR
  clear hc hi hx
  by_cases h0 : k = 0
  · subst h0
    have HPR0 : ptsR.R w (Lt w) s.1 [.slice O s.1.length co] := hO
    have hpos : 0 < s.1.length := hpos
    have hlen : s.1.length ≤ 1000 := hlen
    show Calls _ _ _ w (RotPost (rotF s.1) w)
    obtain ⟨p, hp⟩ : ∃ r, s.1 = r := ⟨_, rfl⟩
    rw [hp] at HPR0 hpos hlen c0 ⊢
    clear hp hok hO e0 e1
    obtain ⟨bq, oq, sx, sy, rfl, hs0, hbqD, -, -, -⟩ := pairs_at HPR0 hpos
    have HPR := Lib.hid HPR0
    have hbql : bq < w.heap.size := hbqD
    clear HPR0
    go_enter Tryd.func26, Tryd.ntmps26
    go_wp2
    have hw1 := hw0
    go_loopw [6, 7] (fun a v wr => ∃ (m j : Nat) (lx ly : Int), m ≤ p.length ∧ v = .int .i64 m ∧ a = .int .i64 j ∧ Hid (minTo p m = (lx, ly)) ∧ Hid (p[j]? = some (lx, ly)) ∧ Hid ((lx, ly) ∉ p.take j) ∧ j < p.length ∧ Below w.heap.size w wr) (fun _ v _ => p.length - (intOf v).toNat)
    case atStart => exact ⟨0, 0, sx, sy, Nat.zero_le _, rfl, rfl, by show minTo p 0 = _; rw [minTo, getD_at hs0.out], hs0.out, by show (sx, sy) ∉ p.take 0; simp, hpos, hw1⟩
    case round =>
      obtain ⟨m, f, lx, ly, hm', rfl, rfl, hmin, hfg, hnf, hfl, hb⟩ := hrel
      obtain ⟨lx', ly', hl', z0, z1⟩ := pairs_more (Rep.at_ HPR.out hb) hfl
      have hle := hl'.out.symm.trans hfg.out
      injection hle with hle
      injection hle with hle1 hle2
      rw [hle1] at z0
      rw [hle2] at z1
      clear hl' hle1 hle2
      have hfI : (f : Int) < (p.length : Int) := by omega
      by_cases hlt : m < p.length
      · obtain ⟨ux, uy, hx, d0, d1⟩ := pairs_more (Rep.at_ HPR.out hb) hlt
        have hmi : (m : Int) < (p.length : Int) := by omega
        rcases lowB_cases ux uy lx ly with ⟨hl, h1⟩ | ⟨hl, h1, h2, h3⟩ | ⟨hl, h1, h2, h3⟩ | ⟨hl, h1, h2⟩
        all_goals
          have HMS := Lib.hid (minp_step hx.out hmin.out hl)
          try have HNW := Lib.hid (min_new (Nat.le_of_lt hlt) hmin.out hl)
          clear hl
          first | (have bb1 : decide (uy < ly) = true := decide_eq_true h1) | (have bb1 : decide (uy < ly) = false := decide_eq_false h1)
          try first | (have bb2 : (uy == ly) = true := ieq_t h2) | (have bb2 : (uy == ly) = false := ieq_f h2)
          try first | (have bb3 : decide (ux < lx) = true := decide_eq_true h3) | (have bb3 : decide (ux < lx) = false := decide_eq_false h3)
          try clear h2
          go_wp2
          go_quiet (fail)
          go_wp2
          go_roundw
          case rel =>
            first
              | exact ⟨m + 1, m, ux, uy, by omega, by go_num, rfl, HMS.out, hx.out, HNW.out, hlt, below_drewN hb _⟩
              | exact ⟨m + 1, f, lx, ly, by omega, by go_num, rfl, HMS.out, hfg.out, hnf.out, hfl, below_drewN hb _⟩
          case measure => simp [intOf]; omega
      · have hml : m = p.length := by omega
        have HRO : Hid (rotF p = p.drop f ++ p.take f) := by
          show _ = _
          have h1 : minPt p = (lx, ly) := by unfold minPt; rw [← hml]; exact hmin.out
          unfold rotF
          rw [h1, idxC_hit hfg.out hnf.out, Int.toNat_natCast]
        have HB0 : Hid (w.heap.size ≤ wr.drew.heap.size) := hb.size
        have HB1 : Hid (Below w.heap.size w (wr.drew.alloc (.cells #[] 47))) := hb.drew.alloc hb.size _
        have hmi : ¬ (m : Int) < (p.length : Int) := by omega
        have hcp : p.length ≤ co := by
          obtain ⟨A', c', e, h1, _⟩ := HPR.out
          injection e with e _
          injection e with _ _ e3
          omega
        have hfle : f ≤ p.length := Nat.le_of_lt hfl
        have hfco : f ≤ co := by omega
        have hfne : ¬ co = f := by omega
        clear hml z0 z1
        go_wp2
        refine wp_region_held_drew (S := fun _ => True) (by kernel_rfl) (trivial) (fun hH => ?_)
        refine take_run (i := 1) (v := ?_) (by decide) (by kernel_rfl) (by kernel_rfl) (by kernel_rfl) (fun _ _ _ _ h => h) hH rfl ?_ ?_
        rotate_left
        · (intro w hSw; (try dsimp only at hSw); (try go_split_ands); simp only [List.getElem_toArray, List.getElem_cons_zero, List.getElem_cons_succ]; go_simp; try with_reducible rfl)
        try simp (config := { failIfUnchanged := false }) only [Act.put, List.setIfInBounds_toArray, List.set_cons_zero, List.set_cons_succ, List.getElem_toArray, List.getElem_cons_zero, List.getElem_cons_succ]
        refine take_run (i := 2) (v := ?_) (by decide) (by kernel_rfl) (by kernel_rfl) (by kernel_rfl) (fun _ _ _ _ h => h) hH rfl ?_ ?_
        rotate_left
        · (intro w hSw; (try dsimp only at hSw); (try go_split_ands); simp only [List.getElem_toArray, List.getElem_cons_zero, List.getElem_cons_succ]; go_simp; try with_reducible rfl)
        try simp (config := { failIfUnchanged := false }) only [Act.put, List.setIfInBounds_toArray, List.set_cons_zero, List.set_cons_succ, List.getElem_toArray, List.getElem_cons_zero, List.getElem_cons_succ]
        refine take_run (i := 3) (v := ?_) (by decide) (by kernel_rfl) (by kernel_rfl) (by kernel_rfl) (fun _ _ _ _ h => h) hH rfl ?_ ?_
        rotate_left
        · (intro w hSw; (try dsimp only at hSw); (try go_split_ands); simp only [List.getElem_toArray, List.getElem_cons_zero, List.getElem_cons_succ]; go_simp; try with_reducible rfl)
        try simp (config := { failIfUnchanged := false }) only [Act.put, List.setIfInBounds_toArray, List.set_cons_zero, List.set_cons_succ, List.getElem_toArray, List.getElem_cons_zero, List.getElem_cons_succ]
        refine take_run (i := 5) (v := ?_) (by decide) (by kernel_rfl) (by kernel_rfl) (by kernel_rfl) (fun _ _ _ _ h => h) hH rfl ?_ ?_
        rotate_left
        · (intro w hSw; (try dsimp only at hSw); (try go_split_ands); simp only [List.getElem_toArray, List.getElem_cons_zero, List.getElem_cons_succ]; go_simp; try with_reducible rfl)
        try simp (config := { failIfUnchanged := false }) only [Act.put, List.setIfInBounds_toArray, List.set_cons_zero, List.set_cons_succ, List.getElem_toArray, List.getElem_cons_zero, List.getElem_cons_succ]
        refine take_run (i := 6) (v := ?_) (by decide) (by kernel_rfl) (by kernel_rfl) (by kernel_rfl) (fun _ _ _ _ h => h) hH rfl ?_ ?_
        rotate_left
        · (intro w hSw; (try dsimp only at hSw); (try go_split_ands); simp only [List.getElem_toArray, List.getElem_cons_zero, List.getElem_cons_succ]; go_simp; try with_reducible rfl)
        try simp (config := { failIfUnchanged := false }) only [Act.put, List.setIfInBounds_toArray, List.set_cons_zero, List.set_cons_succ, List.getElem_toArray, List.getElem_cons_zero, List.getElem_cons_succ]
        refine take_run (i := 7) (v := ?_) (by decide) (by kernel_rfl) (by kernel_rfl) (by kernel_rfl) (fun _ _ _ _ h => h) hH rfl ?_ ?_
        rotate_left
        · (intro w hSw; (try dsimp only at hSw); (try go_split_ands); simp only [List.getElem_toArray, List.getElem_cons_zero, List.getElem_cons_succ]; go_simp; try with_reducible rfl)
        try simp (config := { failIfUnchanged := false }) only [Act.put, List.setIfInBounds_toArray, List.set_cons_zero, List.set_cons_succ, List.getElem_toArray, List.getElem_cons_zero, List.getElem_cons_succ]
        refine take_call (i := 0) (by decide) (by kernel_rfl) (fun K hK => ?_)
        simp only [List.getElem_toArray, List.getElem_cons_zero, List.getElem_cons_succ]
        go_simp
        refine hK.out _ _ (by exact trivial) (fun hH => ?_)
        clear hK K
        try simp (config := { failIfUnchanged := false }) only [Act.put, List.setIfInBounds_toArray, List.set_cons_zero, List.set_cons_succ, List.getElem_toArray, List.getElem_cons_zero, List.getElem_cons_succ]
        refine take_call (i := 4) (by decide) (by kernel_rfl) (fun K hK => ?_)
        refine step_append_flat flat_pr (by rfl) _ _ _ (by rfl) w.heap.size 47 i0 (.agg #[.int .i64 0, .int .i64 0]) 16 Tryd.underlying54 hinf hz0 hz1 hz2 rfl _ 0 [] (by rfl) (own_empty0 _ _ _ HB0.out) (p.drop f) (by rfl) (Rep.slice_drop (Rep.below HPR.out HB1.out) (Nat.le_of_lt hfl)) (by rw [List.length_drop]; omega) (by rw [List.length_drop]; omega) (by have := HB0.out; simp at this ⊢; omega) ?_
        intro v2 w2 hown2 hg2
        have hown2 : OwnP w2 w.heap.size 47 v2 (p.drop f) := by have h := hown2; rw [Nat.zero_add, List.nil_append] at h; exact h
        have hb2 : Below w.heap.size w w2 := HB1.out.grown hg2 HB1.out.size (fun j hj => (World.ownsRow.lt (own_empty0 wr.drew w.heap.size 47 HB0.out) j hj).1)
        refine hK.out _ _ (by exact trivial) (fun hH => ?_)
        clear hK K
        try simp (config := { failIfUnchanged := false }) only [Act.put, List.setIfInBounds_toArray, List.set_cons_zero, List.set_cons_succ, List.getElem_toArray, List.getElem_cons_zero, List.getElem_cons_succ]
        refine take_call (i := 8) (by decide) (by kernel_rfl) (fun K hK => ?_)
        refine step_append_flat flat_pr (by rfl) _ _ _ (by rfl) w.heap.size 47 i0 (.agg #[.int .i64 0, .int .i64 0]) 16 Tryd.underlying54 hinf hz0 hz1 hz2 rfl _ _ _ (by rfl) hown2 (p.take f) (by rfl) (Rep.slice_take (Rep.below HPR.out hb2) (Nat.le_of_lt hfl)) (by rw [List.length_drop, List.length_take]; omega) (by rw [List.length_drop, List.length_take]; omega) hb2.size ?_
        intro v3 w3 hown3 hg3
        have hb3 := hb2.grown hg3 hb2.size (fun j hj => (World.ownsRow.lt hown2 j hj).1)
        refine hK.out _ _ (by exact trivial) (fun hH => ?_)
        clear hK K
        try simp (config := { failIfUnchanged := false }) only [Act.put, List.setIfInBounds_toArray, List.set_cons_zero, List.set_cons_succ, List.getElem_toArray, List.getElem_cons_zero, List.getElem_cons_succ]
        refine take_call (i := 9) (by decide) (by kernel_rfl) (fun K hK => ?_)
        simp only [List.getElem_toArray, List.getElem_cons_zero, List.getElem_cons_succ]
        go_simp
        refine hK.out _ _ (by exact trivial) (fun hH => ?_)
        clear hK K
        try simp (config := { failIfUnchanged := false }) only [Act.put, List.setIfInBounds_toArray, List.set_cons_zero, List.set_cons_succ, List.getElem_toArray, List.getElem_cons_zero, List.getElem_cons_succ]
        refine wpAnyH_done (by kernel_rfl) ?_ _
        go_wp2
        go_ret
        refine ⟨_, rfl, ?_, hb3⟩
        rw [HRO.out]
        unfold OwnP
        rw [List.length_append, List.flatMap_append]
        exact hown3
  · obtain ⟨j, rfl⟩ : ∃ j, k = j + 1 := ⟨k - 1, by omega⟩
    have hj : j < s.2.length := by omega
    have hgz : (0 : Int) < ((j + 1 : Nat) : Int) := by omega
    obtain ⟨b2, off2, p, O', no', co', rfl, hp, hD', hc2, hno2, hr, hm2⟩ := hole_at hH hj
    have hb2l : b2 < w.heap.size := hD'
    have HR : ringOf s (j + 1) = p := by
      unfold ringOf
      rw [if_neg (by omega), Nat.add_sub_cancel, getD_of' hp.out]
    rw [HR] at hpos hlen ⊢
    have e2 := (hw0.cell (p := ⟨b2, off2 + j, none⟩) hb2l).trans hc2
    have hjI : (j : Int) < (s.2.length : Int) := by omega
    have hk1 : ((j + 1 : Nat) : Int) - 1 = (j : Int) := by omega
    have hb20 : ¬ b2 = w.heap.size := by omega
    have hno3 := hno2.out
    subst hno3
    obtain ⟨bq, oq, sx, sy, rfl, hs0, hbqD, -, -, -⟩ := pairs_at hr hpos
    have HPR := Lib.hid hr
    have hbql : bq < w.heap.size := hbqD
    clear hp HR hr hok e0 e1 e2
    go_enter Tryd.func26, Tryd.ntmps26
    go_wp2
    go_quiet (fail)
    go_wp2
    go_loopw [6, 7] (fun a v wr => ∃ (m j : Nat) (lx ly : Int), m ≤ p.length ∧ v = .int .i64 m ∧ a = .int .i64 j ∧ Hid (minTo p m = (lx, ly)) ∧ Hid (p[j]? = some (lx, ly)) ∧ Hid ((lx, ly) ∉ p.take j) ∧ j < p.length ∧ Below w.heap.size w wr) (fun _ v _ => p.length - (intOf v).toNat)
    case atStart => exact ⟨0, 0, sx, sy, Nat.zero_le _, rfl, rfl, by show minTo p 0 = _; rw [minTo, getD_at hs0.out], hs0.out, by show (sx, sy) ∉ p.take 0; simp, hpos, below_drewN hw0 _⟩
    case round =>
      obtain ⟨m, f, lx, ly, hm', rfl, rfl, hmin, hfg, hnf, hfl, hb⟩ := hrel
      obtain ⟨lx', ly', hl', z0, z1⟩ := pairs_more (Rep.at_ HPR.out hb) hfl
      have hle := hl'.out.symm.trans hfg.out
      injection hle with hle
      injection hle with hle1 hle2
      rw [hle1] at z0
      rw [hle2] at z1
      clear hl' hle1 hle2
      have hfI : (f : Int) < (p.length : Int) := by omega
      by_cases hlt : m < p.length
      · obtain ⟨ux, uy, hx, d0, d1⟩ := pairs_more (Rep.at_ HPR.out hb) hlt
        have hmi : (m : Int) < (p.length : Int) := by omega
        rcases lowB_cases ux uy lx ly with ⟨hl, h1⟩ | ⟨hl, h1, h2, h3⟩ | ⟨hl, h1, h2, h3⟩ | ⟨hl, h1, h2⟩
        all_goals
          have HMS := Lib.hid (minp_step hx.out hmin.out hl)
          try have HNW := Lib.hid (min_new (Nat.le_of_lt hlt) hmin.out hl)
          clear hl
          first | (have bb1 : decide (uy < ly) = true := decide_eq_true h1) | (have bb1 : decide (uy < ly) = false := decide_eq_false h1)
          try first | (have bb2 : (uy == ly) = true := ieq_t h2) | (have bb2 : (uy == ly) = false := ieq_f h2)
          try first | (have bb3 : decide (ux < lx) = true := decide_eq_true h3) | (have bb3 : decide (ux < lx) = false := decide_eq_false h3)
          try clear h2
          go_wp2
          go_quiet (fail)
          go_wp2
          go_roundw
          case rel =>
            first
              | exact ⟨m + 1, m, ux, uy, by omega, by go_num, rfl, HMS.out, hx.out, HNW.out, hlt, below_drewN hb _⟩
              | exact ⟨m + 1, f, lx, ly, by omega, by go_num, rfl, HMS.out, hfg.out, hnf.out, hfl, below_drewN hb _⟩
          case measure => simp [intOf]; omega
      · have hml : m = p.length := by omega
        have HRO : Hid (rotF p = p.drop f ++ p.take f) := by
          show _ = _
          have h1 : minPt p = (lx, ly) := by unfold minPt; rw [← hml]; exact hmin.out
          unfold rotF
          rw [h1, idxC_hit hfg.out hnf.out, Int.toNat_natCast]
        have HB0 : Hid (w.heap.size ≤ wr.drew.heap.size) := hb.size
        have HB1 : Hid (Below w.heap.size w (wr.drew.alloc (.cells #[] 47))) := hb.drew.alloc hb.size _
        have hmi : ¬ (m : Int) < (p.length : Int) := by omega
        have hcp : p.length ≤ co' := by
          obtain ⟨A', c', e, h1, _⟩ := HPR.out
          injection e with e _
          injection e with _ _ e3
          omega
        have hfle : f ≤ p.length := Nat.le_of_lt hfl
        have hfco : f ≤ co' := by omega
        have hfne : ¬ co' = f := by omega
        clear hml z0 z1
        go_wp2
        refine wp_region_held_drew (S := fun _ => True) (by kernel_rfl) (trivial) (fun hH => ?_)
        refine take_run (i := 1) (v := ?_) (by decide) (by kernel_rfl) (by kernel_rfl) (by kernel_rfl) (fun _ _ _ _ h => h) hH rfl ?_ ?_
        rotate_left
        · (intro w hSw; (try dsimp only at hSw); (try go_split_ands); simp only [List.getElem_toArray, List.getElem_cons_zero, List.getElem_cons_succ]; go_simp; try with_reducible rfl)
        try simp (config := { failIfUnchanged := false }) only [Act.put, List.setIfInBounds_toArray, List.set_cons_zero, List.set_cons_succ, List.getElem_toArray, List.getElem_cons_zero, List.getElem_cons_succ]
        refine take_run (i := 2) (v := ?_) (by decide) (by kernel_rfl) (by kernel_rfl) (by kernel_rfl) (fun _ _ _ _ h => h) hH rfl ?_ ?_
        rotate_left
        · (intro w hSw; (try dsimp only at hSw); (try go_split_ands); simp only [List.getElem_toArray, List.getElem_cons_zero, List.getElem_cons_succ]; go_simp; try with_reducible rfl)
        try simp (config := { failIfUnchanged := false }) only [Act.put, List.setIfInBounds_toArray, List.set_cons_zero, List.set_cons_succ, List.getElem_toArray, List.getElem_cons_zero, List.getElem_cons_succ]
        refine take_run (i := 3) (v := ?_) (by decide) (by kernel_rfl) (by kernel_rfl) (by kernel_rfl) (fun _ _ _ _ h => h) hH rfl ?_ ?_
        rotate_left
        · (intro w hSw; (try dsimp only at hSw); (try go_split_ands); simp only [List.getElem_toArray, List.getElem_cons_zero, List.getElem_cons_succ]; go_simp; try with_reducible rfl)
        try simp (config := { failIfUnchanged := false }) only [Act.put, List.setIfInBounds_toArray, List.set_cons_zero, List.set_cons_succ, List.getElem_toArray, List.getElem_cons_zero, List.getElem_cons_succ]
        refine take_run (i := 5) (v := ?_) (by decide) (by kernel_rfl) (by kernel_rfl) (by kernel_rfl) (fun _ _ _ _ h => h) hH rfl ?_ ?_
        rotate_left
        · (intro w hSw; (try dsimp only at hSw); (try go_split_ands); simp only [List.getElem_toArray, List.getElem_cons_zero, List.getElem_cons_succ]; go_simp; try with_reducible rfl)
        try simp (config := { failIfUnchanged := false }) only [Act.put, List.setIfInBounds_toArray, List.set_cons_zero, List.set_cons_succ, List.getElem_toArray, List.getElem_cons_zero, List.getElem_cons_succ]
        refine take_run (i := 6) (v := ?_) (by decide) (by kernel_rfl) (by kernel_rfl) (by kernel_rfl) (fun _ _ _ _ h => h) hH rfl ?_ ?_
        rotate_left
        · (intro w hSw; (try dsimp only at hSw); (try go_split_ands); simp only [List.getElem_toArray, List.getElem_cons_zero, List.getElem_cons_succ]; go_simp; try with_reducible rfl)
        try simp (config := { failIfUnchanged := false }) only [Act.put, List.setIfInBounds_toArray, List.set_cons_zero, List.set_cons_succ, List.getElem_toArray, List.getElem_cons_zero, List.getElem_cons_succ]
        refine take_run (i := 7) (v := ?_) (by decide) (by kernel_rfl) (by kernel_rfl) (by kernel_rfl) (fun _ _ _ _ h => h) hH rfl ?_ ?_
        rotate_left
        · (intro w hSw; (try dsimp only at hSw); (try go_split_ands); simp only [List.getElem_toArray, List.getElem_cons_zero, List.getElem_cons_succ]; go_simp; try with_reducible rfl)
        try simp (config := { failIfUnchanged := false }) only [Act.put, List.setIfInBounds_toArray, List.set_cons_zero, List.set_cons_succ, List.getElem_toArray, List.getElem_cons_zero, List.getElem_cons_succ]
        refine take_call (i := 0) (by decide) (by kernel_rfl) (fun K hK => ?_)
        simp only [List.getElem_toArray, List.getElem_cons_zero, List.getElem_cons_succ]
        go_simp
        refine hK.out _ _ (by exact trivial) (fun hH => ?_)
        clear hK K
        try simp (config := { failIfUnchanged := false }) only [Act.put, List.setIfInBounds_toArray, List.set_cons_zero, List.set_cons_succ, List.getElem_toArray, List.getElem_cons_zero, List.getElem_cons_succ]
        refine take_call (i := 4) (by decide) (by kernel_rfl) (fun K hK => ?_)
        refine step_append_flat flat_pr (by rfl) _ _ _ (by rfl) w.heap.size 47 i0 (.agg #[.int .i64 0, .int .i64 0]) 16 Tryd.underlying54 hinf hz0 hz1 hz2 rfl _ 0 [] (by rfl) (own_empty0 _ _ _ HB0.out) (p.drop f) (by rfl) (Rep.slice_drop (Rep.below HPR.out HB1.out) (Nat.le_of_lt hfl)) (by rw [List.length_drop]; omega) (by rw [List.length_drop]; omega) (by have := HB0.out; simp at this ⊢; omega) ?_
        intro v2 w2 hown2 hg2
        have hown2 : OwnP w2 w.heap.size 47 v2 (p.drop f) := by have h := hown2; rw [Nat.zero_add, List.nil_append] at h; exact h
        have hb2 : Below w.heap.size w w2 := HB1.out.grown hg2 HB1.out.size (fun j hj => (World.ownsRow.lt (own_empty0 wr.drew w.heap.size 47 HB0.out) j hj).1)
        refine hK.out _ _ (by exact trivial) (fun hH => ?_)
        clear hK K
        try simp (config := { failIfUnchanged := false }) only [Act.put, List.setIfInBounds_toArray, List.set_cons_zero, List.set_cons_succ, List.getElem_toArray, List.getElem_cons_zero, List.getElem_cons_succ]
        refine take_call (i := 8) (by decide) (by kernel_rfl) (fun K hK => ?_)
        refine step_append_flat flat_pr (by rfl) _ _ _ (by rfl) w.heap.size 47 i0 (.agg #[.int .i64 0, .int .i64 0]) 16 Tryd.underlying54 hinf hz0 hz1 hz2 rfl _ _ _ (by rfl) hown2 (p.take f) (by rfl) (Rep.slice_take (Rep.below HPR.out hb2) (Nat.le_of_lt hfl)) (by rw [List.length_drop, List.length_take]; omega) (by rw [List.length_drop, List.length_take]; omega) hb2.size ?_
        intro v3 w3 hown3 hg3
        have hb3 := hb2.grown hg3 hb2.size (fun j hj => (World.ownsRow.lt hown2 j hj).1)
        refine hK.out _ _ (by exact trivial) (fun hH => ?_)
        clear hK K
        try simp (config := { failIfUnchanged := false }) only [Act.put, List.setIfInBounds_toArray, List.set_cons_zero, List.set_cons_succ, List.getElem_toArray, List.getElem_cons_zero, List.getElem_cons_succ]
        refine take_call (i := 9) (by decide) (by kernel_rfl) (fun K hK => ?_)
        simp only [List.getElem_toArray, List.getElem_cons_zero, List.getElem_cons_succ]
        go_simp
        refine hK.out _ _ (by exact trivial) (fun hH => ?_)
        clear hK K
        try simp (config := { failIfUnchanged := false }) only [Act.put, List.setIfInBounds_toArray, List.set_cons_zero, List.set_cons_succ, List.getElem_toArray, List.getElem_cons_zero, List.getElem_cons_succ]
        refine wpAnyH_done (by kernel_rfl) ?_ _
        go_wp2
        go_ret
        refine ⟨_, rfl, ?_, hb3⟩
        rw [HRO.out]
        unfold OwnP
        rw [List.length_append, List.flatMap_append]
        exact hown3
end Go.Proofs.YthfnncnmggkfaaaDoor
