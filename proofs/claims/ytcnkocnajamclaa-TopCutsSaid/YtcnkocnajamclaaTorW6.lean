/- Chapter 26: begin, by walking the program's text. -/
import Derived.Test.YtcnkocnajamclaaTorW5
namespace Go.Proofs.Ytcnkocnajamclaa
open Go Go.RowKit

theorem ringC_nat {shapes : List Shp} {i k : Nat} {s : Shp} (h : shapes[i]? = some s) : ringC shapes ((i : Int), (k : Int)) = ringOf s k := by
  unfold ringC; simp only [Int.toNat_natCast]; rw [getD_at h]
set_option maxRecDepth 100000 in
set_option maxHeartbeats 800000 in
theorem begin_any (A : Option Addr) (n c : Nat) (shapes : List Shp) (ct : Pt) (w : World) (hs : shpsR.R w (Lt w) shapes [.slice A n c]) (hc : ct ∈ contoursF shapes) (hS : SmallS shapes) :
    Calls Try.prog 36 #[.slice A n c, .agg (prArr ct)] w (Ret (.agg (prArr (beginF shapes ct))) w) := by
  obtain ⟨rfl, hm⟩ := slice_len hs
  obtain ⟨i, k, hi, hk, hok, rfl⟩ := mem_contours.1 hc
  have hsl := hS.len
  obtain ⟨b, off, s, O, no, co, H, nh, ch, rfl, hx, hbD, c0, c1, hno, hnh, hO, hH, hnom, hnhm⟩ := shape_at hs hi
  have hno' := hno.out
  have hnh' := hnh.out
  subst hno' hnh'
  rw [getD_at hx.out] at hk hok
  have HOK := Lib.hid hok
  have HB : Hid (beginF shapes ((i : Int), (k : Int)) = minPt (ringOf s k)) := by show beginF _ _ = _; unfold beginF; rw [ringC_nat hx.out]
  have hbl : b < w.heap.size := hbD
  have hb0 : ¬ b = w.heap.size := by omega
  have hb1 : ¬ b = w.heap.size + 1 := by omega
  have hil : i < shapes.length := hi
  have hkl : k ≤ s.2.length := by omega
  have hw0 : Below w.heap.size w ((w.alloc (.cells #[.int .i64 (i : Int), .int .i64 (k : Int)] 78)).alloc (.cells #[.int .i64 0, .int .i64 0] 74)) := ((Below.refl _ _).alloc (Nat.le_refl _) _).alloc (by simp) _
  have d0 := (Blk.new w 78 #[.int .i64 (i : Int), .int .i64 (k : Int)]).alloc (.cells #[.int .i64 0, .int .i64 0] 74)
  have d1 := Blk.new (w.alloc (.cells #[.int .i64 (i : Int), .int .i64 (k : Int)] 78)) 74 #[.int .i64 0, .int .i64 0]
  simp only [World.size_alloc] at d1
  clear hok hk hc hi
  obtain ⟨w0, hw0e⟩ : ∃ w0, w0 = (w.alloc (.cells #[.int .i64 (i : Int), .int .i64 (k : Int)] 78)).alloc (.cells #[.int .i64 0, .int .i64 0] 74) := ⟨_, rfl⟩
  rw [← hw0e] at hw0 d0 d1
  have HW := Lib.hid hw0e
  have HZ : Hid (w0.heap.size = w.heap.size + 2) := by show w0.heap.size = _; rw [hw0e]; simp
  clear hw0e
  have e0 := (hw0.cell (p := ⟨b, off + i * 2, none⟩) hbl).trans c0
  have e1 := (hw0.cell (p := ⟨b, off + i * 2 + 1, none⟩) hbl).trans c1
  have x0 := d0.c20
  have x1 := d0.c21
  have l0 := d0.lt
  have l1 := d1.lt
  rw [show prArr ((i : Int), (k : Int)) = #[.int .i64 (i : Int), .int .i64 (k : Int)] from rfl]
  obtain ⟨mx, my, hmm⟩ : ∃ mx my, minPt (ringOf s k) = (mx, my) := ⟨_, _, rfl⟩
  have HM : Hid (prArr (minPt (ringOf s k)) = #[.int .i64 mx, .int .i64 my]) := by show prArr _ = _; rw [hmm]; rfl
  have HB2 : Hid (prArr (beginF shapes ((i : Int), (k : Int))) = #[.int .i64 mx, .int .i64 my]) := by show prArr _ = _; rw [HB.out, HM.out]
  clear hmm
  go_enter Try.func36, Try.ntmps36
  go_wp2
  rw [← HW.out]
  go_region_held3 (fun W => Below w.heap.size w W ∧ W.cell? ⟨b, off + i * 2, none⟩ = some (.slice O s.1.length co) ∧ W.cell? ⟨b, off + i * 2 + 1, none⟩ = some (.slice H s.2.length ch) ∧ W.cell? ⟨w.heap.size, 0, none⟩ = some (.int .i64 (i : Int)) ∧ W.cell? ⟨w.heap.size, 1, none⟩ = some (.int .i64 (k : Int)))
    (first
      | exact ⟨hw0.drew, e0, e1, x0, x1⟩
      | exact hS3
      | exact ⟨(hbw3.setCell (p := ⟨w.heap.size + 1, 0, none⟩) (Nat.le_succ _) (.int .i64 mx)).setCell (p := ⟨w.heap.size + 1, 1, none⟩) (Nat.le_succ _) (.int .i64 my), z0, z1, z2, z3⟩
      | exact hS2)
    (first
      | (go_at_call 71
         refine (minPt_any P _ cp (ringOf s k) _ (Rep.mono _ (fun q (hq : q < w.heap.size) => (Nat.lt_of_lt_of_le hq hbw2.size : q < w2.heap.size)) (Rep.keep _ (fun q hq => hb2.block q (Nat.lt_of_lt_of_le hq hw0.drew.size)) hP)) HOK.out).mono ?_
         rintro e w3 ⟨he, hb3⟩
         rw [HM.out] at he
         subst he
         have hbw3 := bstep hbw2 hbw2.size hb3
         have d0'' := d0'.below hb3 d0'.lt
         have d1'' := d1'.below hb3 d1'.lt
         have y0 := d1''.c20
         have y1 := d1''.c21
         have f0 := d1''.free 0
         have f1 := d1''.free 1
         have z2 := (((d0''.far (p := ⟨w.heap.size + 1, 0, none⟩) (by show w.heap.size ≠ w.heap.size + 1; omega) (.int .i64 mx)).far (p := ⟨w.heap.size + 1, 1, none⟩) (by show w.heap.size ≠ w.heap.size + 1; omega) (.int .i64 my))).c20
         have z3 := (((d0''.far (p := ⟨w.heap.size + 1, 0, none⟩) (by show w.heap.size ≠ w.heap.size + 1; omega) (.int .i64 mx)).far (p := ⟨w.heap.size + 1, 1, none⟩) (by show w.heap.size ≠ w.heap.size + 1; omega) (.int .i64 my))).c21
         have hb5 := (hbw3.setCell (p := ⟨w.heap.size + 1, 0, none⟩) (Nat.le_succ _) (.int .i64 mx)).setCell (p := ⟨w.heap.size + 1, 1, none⟩) (Nat.le_succ _) (.int .i64 my)
         have z0 := (hb5.cell (p := ⟨b, off + i * 2, none⟩) hbl).trans c0
         have z1 := (hb5.cell (p := ⟨b, off + i * 2 + 1, none⟩) hbl).trans c1
         have hS3 : Below w.heap.size w w3 ∧ w3.cell? ⟨b, off + i * 2, none⟩ = some (.slice O s.1.length co) ∧ w3.cell? ⟨b, off + i * 2 + 1, none⟩ = some (.slice H s.2.length ch) ∧ w3.cell? ⟨w.heap.size, 0, none⟩ = some (.int .i64 (i : Int)) ∧ w3.cell? ⟨w.heap.size, 1, none⟩ = some (.int .i64 (k : Int)) :=
           ⟨hbw3, (hbw3.cell (p := ⟨b, off + i * 2, none⟩) hbl).trans c0, (hbw3.cell (p := ⟨b, off + i * 2 + 1, none⟩) hbl).trans c1, d0''.c20, d0''.c21⟩)
      | (go_at_call 68
         refine (ring_any O H s.1.length co s.2.length ch k s (Lt w) _ (Rep.at_ hO hw0.drew) (Rep.at_ hH hw0.drew) (fun q hq => Nat.lt_of_lt_of_le hq hw0.drew.size) hkl).mono ?_
         rintro e w2 ⟨P, np, cp, rfl, hnp, hP, hb2⟩
         subst hnp
         have hbw2 := bstep hw0.drew hw0.drew.size hb2
         have d0' := Blk.below (w := w0.drew) d0 hb2 l0
         have d1' := Blk.below (w := w0.drew) d1 hb2 l1
         have hS2 : Below w.heap.size w w2 ∧ w2.cell? ⟨b, off + i * 2, none⟩ = some (.slice O s.1.length co) ∧ w2.cell? ⟨b, off + i * 2 + 1, none⟩ = some (.slice H s.2.length ch) ∧ w2.cell? ⟨w.heap.size, 0, none⟩ = some (.int .i64 (i : Int)) ∧ w2.cell? ⟨w.heap.size, 1, none⟩ = some (.int .i64 (k : Int)) :=
           ⟨hbw2, (hbw2.cell (p := ⟨b, off + i * 2, none⟩) hbl).trans c0, (hbw2.cell (p := ⟨b, off + i * 2 + 1, none⟩) hbl).trans c1, d0'.c20, d0'.c21⟩))
  go_wp2
  have hz2 : Blk ((w3.setCell ⟨w.heap.size + 1, 0, none⟩ (.int .i64 mx)).setCell ⟨w.heap.size + 1, 1, none⟩ (.int .i64 my)) (w.heap.size + 1) 74 #[.int .i64 mx, .int .i64 my] := (d1''.set_ 0 (.int .i64 mx)).set_ 1 (.int .i64 my)
  exact bodyPost_ret (v := .agg #[.int .i64 mx, .int .i64 my]) (results_cell_row (ty := 74) rfl _ _ (w.heap.size + 1) 74 #[.int .i64 mx, .int .i64 my] (0, 0) _ rfl hz2 Try.underlying74 rfl pt_size) rfl ⟨by rw [HB2.out], hb5⟩
end Go.Proofs.Ytcnkocnajamclaa
