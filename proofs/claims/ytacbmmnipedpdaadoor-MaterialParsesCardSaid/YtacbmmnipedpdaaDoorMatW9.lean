/- Chapter 15: Grade, Section and Rolled of material, by walking their text. -/
import Derived.Test.YtacbmmnipedpdaaDoorMatW8
namespace Go.Proofs.YtacbmmnipedpdaaDoor
open Go Go.RowKit

theorem four_set {w : World} {g : Nat} {t : TypeId} {a b c d a' b' c' d' : Value} (h : Blk w g t #[a, b, c, d]) : Blk ((((w.setCell ⟨g, 0, none⟩ a').setCell ⟨g, 1, none⟩ b').setCell ⟨g, 2, none⟩ c').setCell ⟨g, 3, none⟩ d') g t #[a', b', c', d'] := by
  have := (((h.set_ 0 a').set_ 1 b').set_ 2 c').set_ 3 d'
  simpa using this
theorem four_below {B : Nat} {a w : World} {g : Nat} {a' b' c' d' : Value} (h : Below B a w) (hg : B ≤ g) : Below B a ((((w.setCell ⟨g, 0, none⟩ a').setCell ⟨g, 1, none⟩ b').setCell ⟨g, 2, none⟩ c').setCell ⟨g, 3, none⟩ d') :=
  (((h.setCell (p := ⟨g, 0, none⟩) hg _).setCell (p := ⟨g, 1, none⟩) hg _).setCell (p := ⟨g, 2, none⟩) hg _).setCell (p := ⟨g, 3, none⟩) hg _
theorem results_rt {P : Program} {fn : Func} {p u : Tmp} {ty : TypeId} (h : fn.results = #[.cell p ty, .tmp u]) (tmps : Array Value) (w : World) (g : Nat) (t : TypeId) (cs : Array Value) (fr : Nat × Nat) (d : TypeDesc) {vu : Value}
    (hp : tmps.getD p undef = .pointer (some ⟨g, 0, none⟩)) (hu : tmps.getD u undef = vu) (hg : w.heap[g]? = some (.cells cs t fr))
    (hd : P.underlying ty = some d) (ha : (match d with | .struct _ | .array _ _ => true | _ => false) = true) (hi : (P.info? ty).map (·.size) = some cs.size) :
    (results fn tmps).run P w = .ok (.tuple #[.agg cs, vu]) w := by
  rw [results_cell_tmp h, hp]
  simp [asAddr, run_loadVar_row w g t ty cs fr d hg hd ha hi, Result.andThen, hu]
theorem gr_size : (Tryd.prog.info? 32).map (·.size) = some 4 := by kernel_rfl
theorem sc_size : (Tryd.prog.info? 36).map (·.size) = some 4 := by kernel_rfl
def GradePost (g : Gr) (b : Bool) (w : World) (e : Ending) (w' : World) : Prop := ∃ a, e = .returned (.tuple #[.agg a, .bool b]) ∧ grR.R w' (Lt w') g a.toList ∧ Below w.heap.size w w'
theorem gr_zero : (Tryd.prog.info? 32).map (fun i => (i.zero, i.size, i.bytes)) = some (some (.agg #[.string ⟨#[]⟩, .int .i64 0, .int .i64 0, .slice none 0 0]), 4, 56) := gr_info
set_option maxRecDepth 100000 in
set_option maxHeartbeats 4000000 in
theorem matGradeOf_any (A B : Option Addr) (n c k d : Nat) (m : Mat) (nm : List UInt8) (w : World) (hg : grR.slice.R w (Lt w) m.1 [.slice A n c]) (hts : ∀ g ∈ m.1, g.2.2.2.length ≤ 1000) :
    Calls Tryd.prog 15 #[.agg #[.slice A n c, .slice B k d], .string (bA nm)] w (GradePost (grF m nm).1 (grF m nm).2 w) := by
  obtain ⟨hn, hnm⟩ := slice_ln hg
  obtain ⟨q, hq⟩ : ∃ q, q = grF m nm := ⟨_, rfl⟩
  rw [← hq]
  have HQ := Lib.hid hq
  clear hq
  have hmf : ∀ (fn : Fn) (first cap : Array Value) (w : World), (Instr.makeFunc fn first cap).run Tryd.prog w = .ok (.func fn first cap) w := fun _ _ _ _ => rfl
  obtain ⟨W, hW⟩ : ∃ W, W = ((w.alloc (.cells #[.slice A n c, .slice B k d] 25)).alloc (.cells #[.string (bA nm)] 9)).alloc (.cells #[.string ⟨#[]⟩, .int .i64 0, .int .i64 0, .slice none 0 0] 32) := ⟨_, rfl⟩
  have hbW : Below w.heap.size w W := by
    rw [hW]; exact ((((Below.refl w.heap.size w).alloc (Nat.le_refl _) _).alloc (by simp) _).alloc (by simp; omega) _)
  have b0 : Blk W w.heap.size 25 #[.slice A n c, .slice B k d] := by rw [hW]; exact ((Blk.new w _ _).alloc _).alloc _
  have b1 : Blk W (w.heap.size + 1) 9 #[.string (bA nm)] := by
    have := (Blk.new (w.alloc (.cells #[.slice A n c, .slice B k d] 25)) 9 #[.string (bA nm)]).alloc (.cells #[.string ⟨#[]⟩, .int .i64 0, .int .i64 0, .slice none 0 0] 32)
    rw [hW]; simpa using this
  have b2 : Blk W (w.heap.size + 1 + 1) 32 #[.string ⟨#[]⟩, .int .i64 0, .int .i64 0, .slice none 0 0] := by
    have := Blk.new ((w.alloc (.cells #[.slice A n c, .slice B k d] 25)).alloc (.cells #[.string (bA nm)] 9)) 32 #[.string ⟨#[]⟩, .int .i64 0, .int .i64 0, .slice none 0 0]
    rw [hW]; simpa using this
  have hsz : W.heap.size = w.heap.size + 3 := by rw [hW]; simp
  have CF := Lib.hid (findGrade_any A n c (w.heap.size + 1) m.1 nm W (Rep.below hg hbW) b1)
  have HW := Lib.hid hW
  have HG := Lib.hid hg
  have HB := Lib.hid (And.intro b0 (And.intro b1 b2))
  have HSZ := Lib.hid hsz
  have c0 : (((w.alloc (.cells #[.slice A n c, .slice B k d] 25)).alloc (.cells #[.string (bA nm)] 9)).alloc (.cells #[.string ⟨#[]⟩, .int .i64 0, .int .i64 0, .slice none 0 0] 32)).cell? ⟨w.heap.size, 0, none⟩ = some (.slice A n c) := by rw [← hW]; exact b0.c20
  have HN := Lib.hid hn
  clear hW hg b0 b1 b2 hn hsz
  go_enter Tryd.func15, Tryd.ntmps15
  go_wp2_with fail
  rw [← HW.out]
  refine CF.out.mono ?_
  rintro e w1 ⟨i, rfl, hi, hb1⟩
  obtain ⟨b0, b1, b2⟩ := HB.out
  have hsz := HSZ.out
  have hbw := bstep hbW hbW.size hb1
  have b0 := b0.below hb1 (by omega)
  have b2 := b2.below hb1 (by omega)
  have hz1 := hb1.size
  have hzl : w.heap.size + 1 + 1 < w1.heap.size := by omega
  have c0 : w1.cell? ⟨w.heap.size, 0, none⟩ = some (.slice A n c) := b0.c20
  have d0 : w1.cell? ⟨w.heap.size + 1 + 1, 0, none⟩ = some (.string ⟨#[]⟩) := b2.cell 0
  have d1 : w1.cell? ⟨w.heap.size + 1 + 1, 1, none⟩ = some (.int .i64 0) := b2.cell 1
  have d2 : w1.cell? ⟨w.heap.size + 1 + 1, 2, none⟩ = some (.int .i64 0) := b2.cell 2
  have d3 : w1.cell? ⟨w.heap.size + 1 + 1, 3, none⟩ = some (.slice none 0 0) := b2.cell 3
  have f0 := b2.free 0
  have f1 := b2.free 1
  have f2 := b2.free 2
  have f3 := b2.free 3
  have HB2 := Lib.hid b2
  clear CF HW HB HSZ b0 b1 b2 hb1 hz1 hsz hbW
  rcases hi.out with ⟨rfl, hf⟩ | ⟨j, g, rfl, hj, hgj, hf⟩
  · have e1 : q = (([], 0, 0, []), false) := by rw [HQ.out]; unfold grF; rw [hf]
    subst e1
    clear hi hf HQ
    go_wp2
    exact bodyPost_ret (results_rt (p := 4) (u := 5) (ty := 32) (vu := .bool false) rfl _ _ (w.heap.size + 1 + 1) 32 #[.string ⟨#[]⟩, .int .i64 0, .int .i64 0, .slice none 0 0] (0, 0) _ rfl rfl (four_set HB2.out) Tryd.underlying32 rfl gr_size) rfl ⟨_, rfl, gr_mk (nm := []) (Rep.slice_nil _ _ _) (by decide) (d := 0) (y := 0) (by unfold inI64; decide) (by unfold inI64; decide), four_below hbw (by omega)⟩
  · have e1 : q = (g, true) := by rw [HQ.out]; unfold grF; rw [hf]
    subst e1
    clear hi hf HQ
    have hgl := hts g (List.mem_of_getElem? hgj)
    obtain ⟨b, off, nx, d', y, ts, G, ng, cg, rfl, hx, hK, -, hG, hnx, hi1, hi2, -⟩ := gr_all HG.out (k := j) hj
    have := hx.out.symm.trans hgj
    injection this with this
    subst this
    obtain ⟨k0, k1, k2, k3⟩ := hK.out _ hbw
    have hj0 : ¬ (j : Int) < 0 := by omega
    have hjn : (j : Int) < (n : Int) := by have := HN.out; omega
    have hb2 := four_below (g := w.heap.size + 1 + 1) (a' := .string (bA nx)) (b' := .int .i64 d') (c' := .int .i64 y) (d' := .slice G ng cg) hbw (by omega)
    have bk2 := four_set (a' := .string (bA nx)) (b' := .int .i64 d') (c' := .int .i64 y) (d' := .slice G ng cg) HB2.out
    have HB2b := Lib.hid hb2
    have HBK := Lib.hid bk2
    clear hb2 bk2 hgj hts
    go_wp2_with fail
    obtain ⟨w2, hw2⟩ : ∃ x, x = (((w1.setCell ⟨w.heap.size + 1 + 1, 0, none⟩ (.string (bA nx))).setCell ⟨w.heap.size + 1 + 1, 1, none⟩ (.int .i64 d')).setCell ⟨w.heap.size + 1 + 1, 2, none⟩ (.int .i64 y)).setCell ⟨w.heap.size + 1 + 1, 3, none⟩ (.slice G ng cg) := ⟨_, rfl⟩
    rw [← hw2] at HB2b HBK ⊢
    clear hw2 d0 d1 d2 d3 f0 f1 f2 f3 HB2 k0 k1 k2 k3 c0
    refine (cloneInts_any G ng cg ts w2 (hG.out _ HB2b.out) hgl).mono ?_
    rintro e w3 ⟨v, rfl, hv, hb3⟩
    obtain ⟨V, cv, rfl, -, -⟩ := slice_inv hv
    have hb23 := HB2b.out
    have hb4 := bstep hb23 hb23.size hb3
    have hl2 := HBK.out.lt
    have bk3 := HBK.out.below hb3 hl2
    have d0 : w3.cell? ⟨w.heap.size + 1 + 1, 0, none⟩ = some (.string (bA nx)) := bk3.cell 0
    have d1 : w3.cell? ⟨w.heap.size + 1 + 1, 1, none⟩ = some (.int .i64 d') := bk3.cell 1
    have d2 : w3.cell? ⟨w.heap.size + 1 + 1, 2, none⟩ = some (.int .i64 y) := bk3.cell 2
    have d3 : w3.cell? ⟨w.heap.size + 1 + 1, 3, none⟩ = some (.slice G ng cg) := bk3.cell 3
    have f0 := bk3.free 0
    have f1 := bk3.free 1
    have f2 := bk3.free 2
    have f3 := bk3.free 3
    have HV := Lib.hid hv
    have hb3x := hb3
    clear hv hb3 hb23 bk3 hl2
    go_wp2
    have bk4 := HBK.out.below hb3x (HBK.out.lt)
    have bk5 := four_set (a' := .string (bA nx)) (b' := .int .i64 d') (c' := .int .i64 y) (d' := .slice V ts.length cv) (bk4.set_ 3 (.slice V ts.length cv))
    have hl2 := HBK.out.lt
    have hgl2 : w.heap.size + 1 + 1 < w3.heap.size := bk4.lt
    refine bodyPost_ret (results_rt (p := 4) (u := 5) (ty := 32) (vu := .bool true) rfl _ _ (w.heap.size + 1 + 1) 32 #[.string (bA nx), .int .i64 d', .int .i64 y, .slice V ts.length cv] (0, 0) _ rfl rfl bk5 Tryd.underlying32 rfl gr_size) rfl ⟨_, rfl, gr_mk ?_ hnx hi1 hi2, four_below (Below.setCell hb4 (p := ⟨w.heap.size + 1 + 1, 3, none⟩) (by show w.heap.size ≤ w.heap.size + 1 + 1; omega) _) (by omega)⟩
    refine Rep.mono _ (D := fun b => w2.heap.size ≤ b ∧ b < w3.heap.size) (fun b hb => ?_) (Rep.keep _ (fun b hb => ?_) HV.out)
    · have := (four_below (a' := .string (bA nx)) (b' := .int .i64 d') (c' := .int .i64 y) (d' := .slice V ts.length cv) ((Below.refl (w.heap.size + 1 + 1) w3).setCell (p := ⟨w.heap.size + 1 + 1, 3, none⟩) (Nat.le_refl _) (.slice V ts.length cv)) (Nat.le_refl _)).size
      exact Nat.lt_of_lt_of_le hb.2 this
    · have hne : b ≠ w.heap.size + 1 + 1 := by have := hb.1; omega
      rw [Below.heap_setCell _ _ _ _ hne, Below.heap_setCell _ _ _ _ hne, Below.heap_setCell _ _ _ _ hne, Below.heap_setCell _ _ _ _ hne, Below.heap_setCell _ _ _ _ hne]
end Go.Proofs.YtacbmmnipedpdaaDoor
