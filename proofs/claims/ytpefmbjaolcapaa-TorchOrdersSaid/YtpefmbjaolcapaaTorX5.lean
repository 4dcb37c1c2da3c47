/- Chapter 26: Start, by walking the reference's text. -/
import Derived.Test.YtpefmbjaolcapaaTorX4
import Derived.IntWalk
namespace Go.Proofs.Ytpefmbjaolcapaa
open Go Go.RowKit

theorem lowB_cases (x y lx ly : Int) : (lowB (x, y) (lx, ly) = true ∧ y < ly) ∨ (lowB (x, y) (lx, ly) = true ∧ ¬ y < ly ∧ y = ly ∧ x < lx) ∨ (lowB (x, y) (lx, ly) = false ∧ ¬ y < ly ∧ y = ly ∧ ¬ x < lx) ∨ (lowB (x, y) (lx, ly) = false ∧ ¬ y < ly ∧ y ≠ ly) := by
  unfold lowB
  simp only [bne_iff_ne, ne_eq]
  by_cases h : y = ly
  · by_cases h2 : x < lx
    · exact .inr (.inl ⟨by simp [h, h2], by omega, h, h2⟩)
    · exact .inr (.inr (.inl ⟨by simp [h, h2], by omega, h, h2⟩))
  · by_cases h2 : y < ly
    · exact .inl ⟨by simp [h, h2], h2⟩
    · exact .inr (.inr (.inr ⟨by simp [h, h2], h2, h⟩))
theorem min_step {p : List Pt} {k : Nat} {q m : Pt} {b : Bool} (h : p[k]? = some q) (hm : minTo p k = m) (hl : lowB q m = b) : minTo p (k + 1) = if b then q else m := by
  rw [minTo, getD_at h, hm, hl]
set_option maxRecDepth 100000 in
set_option maxHeartbeats 2000000 in
theorem refStart_any (A : Option Addr) (n c : Nat) (shapes : List Shp) (x y : Int) (w : World) (hs : shpsR.R w (Lt w) shapes [.slice A n c]) (hS : SmallS shapes) :
    Calls Try.prog 13 #[.slice A n c, .agg #[.int .i64 x, .int .i64 y]] w (StartPost (startF shapes (x, y)) w) := by
  obtain ⟨rfl, hm⟩ := slice_len hs
  have hw0 : Below w.heap.size w ((w.alloc (.cells #[.int .i64 x, .int .i64 y] 24)).alloc (.cells #[.int .i64 0, .int .i64 0] 28)) := ((Below.refl _ _).alloc (Nat.le_refl _) _).alloc (by simp) _
  have d0 := (Blk.new w 24 #[.int .i64 x, .int .i64 y]).alloc (.cells #[.int .i64 0, .int .i64 0] 28)
  have d1 := Blk.new (w.alloc (.cells #[.int .i64 x, .int .i64 y] 24)) 28 #[.int .i64 0, .int .i64 0]
  simp only [World.size_alloc] at d1
  obtain ⟨w0, hw0e⟩ : ∃ w0, w0 = (w.alloc (.cells #[.int .i64 x, .int .i64 y] 24)).alloc (.cells #[.int .i64 0, .int .i64 0] 28) := ⟨_, rfl⟩
  rw [← hw0e] at hw0 d0 d1
  have HW := Lib.hid hw0e
  clear hw0e
  have l0 := d0.lt
  have l1 := d1.lt
  have x0 := d0.c20
  have x1 := d0.c21
  have HBD := Lib.hid (ct_bd hS)
  rcases Bool.eq_false_or_eq_true ((contoursF shapes).contains (x, y)) with hc | hc
  all_goals
    first
      | (have hn1 := idx_pos_of hc; have HST := Lib.hid (start_yes hc))
      | (have hn1 := idx_neg_of hc; have HST := Lib.hid (start_no hc))
    have HC := Lib.hid hc
    generalize hix : idxC (contoursF shapes) (x, y) = ix at *
    have HIX := Lib.hid hix
    clear hc hix
    go_enter Try.func13, Try.ntmps13
    go_wp2
    rw [← HW.out]
    go_region_held3 (fun W => Below w0.heap.size w0 W ∧ W.cell? ⟨w.heap.size, 0, none⟩ = some (.int .i64 x) ∧ W.cell? ⟨w.heap.size, 1, none⟩ = some (.int .i64 y))
      (first
        | exact ⟨(Below.refl _ _).drew, x0, x1⟩
        | exact ⟨hSb, (hSb.cell (p := ⟨w.heap.size, 0, none⟩) l0).trans x0, (hSb.cell (p := ⟨w.heap.size, 1, none⟩) l0).trans x1⟩
        | exact ⟨hSa, (hSa.cell (p := ⟨w.heap.size, 0, none⟩) l0).trans x0, (hSa.cell (p := ⟨w.heap.size, 1, none⟩) l0).trans x1⟩)
      (first
        | (go_at_call 16
           refine (refContours_any A _ c shapes _ (Rep.below hs hw0.drew) hS).mono ?_
           rintro e w2 ⟨v2, rfl, hown2, hb2⟩
           have hSa : Below w0.heap.size w0 w2 := bstep ((Below.refl _ _).drew) (Nat.le_refl _) hb2
           have hv2 := own_prs hown2 HBD.out)
        | (go_at_call 30
           refine (find_any _ _ x y _ hv2).mono ?_
           rintro e w3 ⟨he, hb3⟩
           rw [HIX.out] at he
           subst he
           have hSb : Below w0.heap.size w0 w3 := bstep hSa hSa.size hb3))
    have e0 := d0.below hSb l0
    have e1 := d1.below hSb l1
    have hw3 := bstep hw0 hw0.size hSb
    clear x0 x1 hSa hSb hown2 hb2 hb3 hv2 d0 d1
    have y0 := e1.c20
    have y1 := e1.c21
    have f0 := e1.free 0
    have f1 := e1.free 1
    have z0 := e0.c20
    have z1 := e0.c21
  · have hmem : (x, y) ∈ contoursF shapes := by simpa using HC.out
    obtain ⟨i, k, hi, hk, hok, hxy⟩ := mem_contours.1 hmem
    injection hxy with hx hy
    subst hx hy
    obtain ⟨b, off, s, O, no, co, H, nh, ch, rfl, hsx, hbD, c0', c1', hno, hnh, hO, hH, hnom, hnhm⟩ := shape_at hs hi
    have hbl : b < w.heap.size := hbD
    have hno' := hno.out
    have hnh' := hnh.out
    subst hno' hnh'
    rw [getD_at hsx.out] at hk hok
    have HBG : Hid (beginF shapes ((i : Int), (k : Int)) = minPt (ringOf s k)) := by show beginF _ _ = _; unfold beginF; rw [ringC_nat hsx.out]
    have c0 := ((bcell hw3).1 b (off + i * 2) hbl).trans c0'
    have c1 := ((bcell hw3).1 b (off + i * 2 + 1) hbl).trans c1'
    have hil : (i : Int) < (shapes.length : Int) := by omega
    clear c0' c1' hmem hi
    have hp : ∃ P np cp, (if k = 0 then (P = O ∧ np = s.1.length ∧ cp = co) else ∃ b2 off2, H = some ⟨b2, off2, none⟩ ∧ w3.cell? ⟨b2, off2 + (k - 1), none⟩ = some (.slice P np cp) ∧ b2 < w.heap.size) ∧ ptsR.R w (Lt w) (ringOf s k) [.slice P np cp] := by
      by_cases hk0 : k = 0
      · subst hk0; exact ⟨O, _, co, by rw [if_pos rfl]; exact ⟨rfl, rfl, rfl⟩, hO⟩
      · obtain ⟨b2, off2, p, P, np, cp, rfl, hpx, hbD2, hcc, -, hP, -⟩ := hole_at hH (k := k - 1) (by omega)
        refine ⟨P, np, cp, by rw [if_neg hk0]; exact ⟨b2, off2, rfl, ((bcell hw3).1 b2 _ hbD2).trans hcc, hbD2⟩, ?_⟩
        have : ringOf s k = p := by unfold ringOf; rw [if_neg hk0, getD_of' hpx.out]
        rw [this]; exact hP
    obtain ⟨P, np, cp, hpc, hPr⟩ := hp
    obtain ⟨rfl, hnp⟩ := slice_len hPr
    generalize hpp : ringOf s k = p at *
    have HPP := Lib.hid hpp
    clear hpp
    have hpos := okRing_pos hok
    have HNR : Hid (∀ q ∈ p, Near q) := fun q hq => near_mem hok hq
    clear hok
    obtain ⟨b3, off3, px, py, rfl, hp0, hbD3, q0, q1, -⟩ := pairs_at hPr hpos
    have hb3l : b3 < w.heap.size := hbD3
    rw [Nat.zero_mul, Nat.add_zero] at q0 q1
    have hlenp : p.length ≤ 9223372036854775807 := hnp
    have r0 := (hw3.cell (p := ⟨b3, off3, none⟩) hb3l).trans q0
    have r1 := (hw3.cell (p := ⟨b3, off3 + 1, none⟩) hb3l).trans q1
    by_cases hk0 : k = 0
    · subst hk0
      rw [if_pos rfl] at hpc
      obtain ⟨rfl, hpl, rfl⟩ := hpc
      rw [← hpl] at c0
      clear hpl
      obtain ⟨wd, hwd⟩ : ∃ wd : World, wd = w3 := ⟨_, rfl⟩
      have hwD : Below w.heap.size w wd := by rw [hwd]; exact hw3
      have E1 : Blk wd (w.heap.size + 1) 28 #[.int .i64 0, .int .i64 0] := by rw [hwd]; exact e1
      rw [← hwd] at r0 r1 c0 c1 z0 z1 y0 y1 f0 f1 ⊢
      clear hwd hw3 e0 e1
      go_wp2
      have g0 := Blk.new wd 28 #[.int .i64 px, .int .i64 py]
      have E2 := E1.alloc (.cells #[.int .i64 px, .int .i64 py] 28)
      have hb0 := hwD.alloc hwD.size (.cells #[.int .i64 px, .int .i64 py] 28)
      have hGw : w.heap.size + 1 < wd.heap.size := E1.lt
      clear r0 r1 c0 c1 z0 z1 y0 y1 f0 f1 E1
      go_loopw [8] (fun j wr => ∃ (m : Nat) (lx ly : Int), m ≤ p.length ∧ j = .int .i64 m ∧ Hid (minTo p m = (lx, ly)) ∧ Blk wr wd.heap.size 28 #[.int .i64 lx, .int .i64 ly] ∧ Blk wr (w.heap.size + 1) 28 #[.int .i64 0, .int .i64 0] ∧ Below w.heap.size w wr) (fun j _ => p.length - (intOf j).toNat)
      case atStart => exact ⟨0, px, py, Nat.zero_le _, rfl, by show minTo p 0 = _; rw [minTo, getD_at hp0.out], g0, E2, hb0⟩
      case round =>
        obtain ⟨m, lx, ly, hm', rfl, hmin, hblk, hres, hb⟩ := hrel
        have hz := hb.size
        have k0 := hblk.c20
        have k1 := hblk.c21
        have ff0 := hblk.free 0
        have ff1 := hblk.free 1
        by_cases hlt : m < p.length
        · obtain ⟨b4, off4, ux, uy, e, hx, hbD4, d0, d1, -⟩ := pairs_at (Rep.at_ hPr hb) hlt
          injection e with e
          injection e with e5 e6 _
          subst e5 e6
          have hnG : ¬ b3 = wd.heap.size := by omega
          have hmi : (m : Int) < (p.length : Int) := by omega
          rcases lowB_cases ux uy lx ly with ⟨hl, h1⟩ | ⟨hl, h1, h2, h3⟩ | ⟨hl, h1, h2, h3⟩ | ⟨hl, h1, h2⟩
          all_goals
            have HMS := Lib.hid (min_step hx.out hmin.out hl)
            clear hl
            first | (have bb1 : decide (uy < ly) = true := decide_eq_true h1) | (have bb1 : decide (uy < ly) = false := decide_eq_false h1)
            try first | (have bb2 : (uy == ly) = true := ieq_t h2) | (have bb2 : (uy == ly) = false := ieq_f h2)
            try first | (have bb3 : decide (ux < lx) = true := decide_eq_true h3) | (have bb3 : decide (ux < lx) = false := decide_eq_false h3)
            try clear h2
            go_wp2
            go_quiet (fail)
            go_wp2
            go_roundw
            case rel =>
              first
                | exact ⟨m + 1, lx, ly, by omega, by go_num, HMS.out, hblk.drewN _, hres.drewN _, below_drewN hb _⟩
                | exact ⟨m + 1, ux, uy, by omega, by go_num, HMS.out, ((Blk.drewN hblk _).set_ 0 (.int .i64 ux)).set_ 1 (.int .i64 uy), ((Blk.drewN hres _).far (p := ⟨wd.heap.size, 0, none⟩) (by show w.heap.size + 1 ≠ wd.heap.size; omega) _).far (p := ⟨wd.heap.size, 1, none⟩) (by show w.heap.size + 1 ≠ wd.heap.size; omega) _, ((below_drewN hb _).setCell (p := ⟨wd.heap.size, 0, none⟩) (by show w.heap.size ≤ wd.heap.size; omega) _).setCell (p := ⟨wd.heap.size, 1, none⟩) (by show w.heap.size ≤ wd.heap.size; omega) _⟩
            case measure => simp [intOf]; omega
        · obtain rfl : m = p.length := by omega
          have y0 := hres.c20
          have y1 := hres.c21
          have f0 := hres.free 0
          have f1 := hres.free 1
          go_wp2
          have hz2 : Blk ((wr.setCell ⟨w.heap.size + 1, 0, none⟩ (.int .i64 lx)).setCell ⟨w.heap.size + 1, 1, none⟩ (.int .i64 ly)) (w.heap.size + 1) 28 #[.int .i64 lx, .int .i64 ly] := (hres.set_ 0 (.int .i64 lx)).set_ 1 (.int .i64 ly)
          have hb5 := (hb.setCell (p := ⟨w.heap.size + 1, 0, none⟩) (Nat.le_succ _) (.int .i64 lx)).setCell (p := ⟨w.heap.size + 1, 1, none⟩) (Nat.le_succ _) (.int .i64 ly)
          have hfin : beginF shapes _ = (lx, ly) := HBG.out.trans hmin.out
          exact bodyPost_ret (results_rt (p := 4) (u := 5) (ty := 28) (vu := .bool true) rfl _ _ (w.heap.size + 1) 28 #[.int .i64 lx, .int .i64 ly] (0, 0) _ rfl rfl hz2 Try.underlying28 rfl pt_size) rfl (StartPost.of (by rw [HST.out, hfin]) hb5)
    · rw [if_neg hk0] at hpc
      obtain ⟨b2, off2, rfl, hcc, hb2l⟩ := hpc
      obtain ⟨j, rfl⟩ : ∃ j, k = j + 1 := ⟨k - 1, by omega⟩
      rw [Nat.add_sub_cancel] at hcc
      have hj0 : (0 : Int) ≤ (j : Int) := by omega
      have hj1 : (j : Int) < (s.2.length : Int) := by omega
      have hjw : IntKind.i64.wrap (j : Int) = (j : Int) := IntWalk.i64_in _ (by omega)
      have hjw2 : IntKind.i64.wrap ((j : Int) + 1 - 1) = (j : Int) := by rw [show (j : Int) + 1 - 1 = j from by omega]; exact hjw
      have hjn : j < s.2.length := by omega
      have hccl := hb2l
      go_wp2
      go_quiet (fail)
      generalize hwd : World.drewN _ _ = wd
      have hwD : Below w.heap.size w wd := by rw [← hwd]; exact below_drewN hw3 _
      have E1 : Blk wd (w.heap.size + 1) 28 #[.int .i64 0, .int .i64 0] := by rw [← hwd]; exact e1
      have r0' : wd.cell? ⟨b3, off3, none⟩ = some (.int .i64 px) := by rw [← hwd]; exact r0
      have r1' : wd.cell? ⟨b3, off3 + 1, none⟩ = some (.int .i64 py) := by rw [← hwd]; exact r1
      clear hwd r0 r1
      have r0 := r0'
      have r1 := r1'
      go_wp2
      have g0 := Blk.new wd 28 #[.int .i64 px, .int .i64 py]
      have E2 := E1.alloc (.cells #[.int .i64 px, .int .i64 py] 28)
      have hb0 := hwD.alloc hwD.size (.cells #[.int .i64 px, .int .i64 py] 28)
      have hGw : w.heap.size + 1 < wd.heap.size := E1.lt
      clear r0 r1 c0 c1 z0 z1 y0 y1 f0 f1 E1
      go_loopw [8] (fun j wr => ∃ (m : Nat) (lx ly : Int), m ≤ p.length ∧ j = .int .i64 m ∧ Hid (minTo p m = (lx, ly)) ∧ Blk wr wd.heap.size 28 #[.int .i64 lx, .int .i64 ly] ∧ Blk wr (w.heap.size + 1) 28 #[.int .i64 0, .int .i64 0] ∧ Below w.heap.size w wr) (fun j _ => p.length - (intOf j).toNat)
      case atStart => exact ⟨0, px, py, Nat.zero_le _, rfl, by show minTo p 0 = _; rw [minTo, getD_at hp0.out], g0, E2, hb0⟩
      case round =>
        obtain ⟨m, lx, ly, hm', rfl, hmin, hblk, hres, hb⟩ := hrel
        have hz := hb.size
        have k0 := hblk.c20
        have k1 := hblk.c21
        have ff0 := hblk.free 0
        have ff1 := hblk.free 1
        by_cases hlt : m < p.length
        · obtain ⟨b4, off4, ux, uy, e, hx, hbD4, d0, d1, -⟩ := pairs_at (Rep.at_ hPr hb) hlt
          injection e with e
          injection e with e5 e6 _
          subst e5 e6
          have hnG : ¬ b3 = wd.heap.size := by omega
          have hmi : (m : Int) < (p.length : Int) := by omega
          rcases lowB_cases ux uy lx ly with ⟨hl, h1⟩ | ⟨hl, h1, h2, h3⟩ | ⟨hl, h1, h2, h3⟩ | ⟨hl, h1, h2⟩
          all_goals
            have HMS := Lib.hid (min_step hx.out hmin.out hl)
            clear hl
            first | (have bb1 : decide (uy < ly) = true := decide_eq_true h1) | (have bb1 : decide (uy < ly) = false := decide_eq_false h1)
            try first | (have bb2 : (uy == ly) = true := ieq_t h2) | (have bb2 : (uy == ly) = false := ieq_f h2)
            try first | (have bb3 : decide (ux < lx) = true := decide_eq_true h3) | (have bb3 : decide (ux < lx) = false := decide_eq_false h3)
            try clear h2
            go_wp2
            go_quiet (fail)
            go_wp2
            go_roundw
            case rel =>
              first
                | exact ⟨m + 1, lx, ly, by omega, by go_num, HMS.out, hblk.drewN _, hres.drewN _, below_drewN hb _⟩
                | exact ⟨m + 1, ux, uy, by omega, by go_num, HMS.out, ((Blk.drewN hblk _).set_ 0 (.int .i64 ux)).set_ 1 (.int .i64 uy), ((Blk.drewN hres _).far (p := ⟨wd.heap.size, 0, none⟩) (by show w.heap.size + 1 ≠ wd.heap.size; omega) _).far (p := ⟨wd.heap.size, 1, none⟩) (by show w.heap.size + 1 ≠ wd.heap.size; omega) _, ((below_drewN hb _).setCell (p := ⟨wd.heap.size, 0, none⟩) (by show w.heap.size ≤ wd.heap.size; omega) _).setCell (p := ⟨wd.heap.size, 1, none⟩) (by show w.heap.size ≤ wd.heap.size; omega) _⟩
            case measure => simp [intOf]; omega
        · obtain rfl : m = p.length := by omega
          have y0 := hres.c20
          have y1 := hres.c21
          have f0 := hres.free 0
          have f1 := hres.free 1
          go_wp2
          have hz2 : Blk ((wr.setCell ⟨w.heap.size + 1, 0, none⟩ (.int .i64 lx)).setCell ⟨w.heap.size + 1, 1, none⟩ (.int .i64 ly)) (w.heap.size + 1) 28 #[.int .i64 lx, .int .i64 ly] := (hres.set_ 0 (.int .i64 lx)).set_ 1 (.int .i64 ly)
          have hb5 := (hb.setCell (p := ⟨w.heap.size + 1, 0, none⟩) (Nat.le_succ _) (.int .i64 lx)).setCell (p := ⟨w.heap.size + 1, 1, none⟩) (Nat.le_succ _) (.int .i64 ly)
          have hfin : beginF shapes _ = (lx, ly) := HBG.out.trans hmin.out
          exact bodyPost_ret (results_rt (p := 4) (u := 5) (ty := 28) (vu := .bool true) rfl _ _ (w.heap.size + 1) 28 #[.int .i64 lx, .int .i64 ly] (0, 0) _ rfl rfl hz2 Try.underlying28 rfl pt_size) rfl (StartPost.of (by rw [HST.out, hfin]) hb5)
  · go_wp2
    have hz : Blk ((w3.setCell ⟨w.heap.size + 1, 0, none⟩ (.int .i64 0)).setCell ⟨w.heap.size + 1, 1, none⟩ (.int .i64 0)) (w.heap.size + 1) 28 #[.int .i64 0, .int .i64 0] := (e1.set_ 0 (.int .i64 0)).set_ 1 (.int .i64 0)
    have hb5 := (hw3.setCell (p := ⟨w.heap.size + 1, 0, none⟩) (Nat.le_succ _) (.int .i64 0)).setCell (p := ⟨w.heap.size + 1, 1, none⟩) (Nat.le_succ _) (.int .i64 0)
    exact bodyPost_ret (results_rt (p := 4) (u := 5) (ty := 28) (vu := .bool false) rfl _ _ (w.heap.size + 1) 28 #[.int .i64 0, .int .i64 0] (0, 0) _ rfl rfl hz Try.underlying28 rfl pt_size) rfl (StartPost.of HST.out hb5)
end Go.Proofs.Ytpefmbjaolcapaa
