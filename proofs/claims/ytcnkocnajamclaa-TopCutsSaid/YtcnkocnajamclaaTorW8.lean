/- Chapter 26: Start, by walking the program's text. -/
import Derived.Test.YtcnkocnajamclaaTorW7
import Derived.Laws.ResultCell
namespace Go.Proofs.Ytcnkocnajamclaa
open Go Go.RowKit

theorem results_rt {P : Program} {fn : Func} {p u : Tmp} {ty : TypeId} (h : fn.results = #[.cell p ty, .tmp u]) (tmps : Array Value) (w : World) (g : Nat) (t : TypeId) (cs : Array Value) (fr : Nat × Nat) (d : TypeDesc) {vu : Value}
    (hp : tmps.getD p undef = .pointer (some ⟨g, 0, none⟩)) (hu : tmps.getD u undef = vu) (hg : w.heap[g]? = some (.cells cs t fr))
    (hd : P.underlying ty = some d) (ha : (match d with | .struct _ | .array _ _ => true | _ => false) = true) (hi : (P.info? ty).map (·.size) = some cs.size) :
    (results fn tmps).run P w = .ok (.tuple #[.agg cs, vu]) w := by
  rw [results_cell_tmp h, hp]
  simp [asAddr, run_loadVar_row w g t ty cs fr d hg hd ha hi, Result.andThen, hu]
def startF (shapes : List Shp) (c : Pt) : Pt × Bool := if (contoursF shapes).contains c then (beginF shapes c, true) else ((0, 0), false)
theorem start_yes {shapes : List Shp} {c : Pt} (h : (contoursF shapes).contains c = true) : startF shapes c = (beginF shapes c, true) := if_pos h
theorem start_no {shapes : List Shp} {c : Pt} (h : (contoursF shapes).contains c = false) : startF shapes c = ((0, 0), false) := if_neg (by rw [h]; decide)
def StartPost (r : Pt × Bool) (w : World) (e : Ending) (w' : World) : Prop := e = .returned (.tuple #[.agg (prArr r.1), .bool r.2]) ∧ Below w.heap.size w w'
theorem StartPost.of {r : Pt × Bool} {x y : Int} {b : Bool} {w w' : World} (h : r = ((x, y), b)) (hb : Below w.heap.size w w') : StartPost r w (.returned (.tuple #[.agg #[.int .i64 x, .int .i64 y], .bool b])) w' := ⟨by rw [h]; rfl, hb⟩
set_option maxRecDepth 100000 in
set_option maxHeartbeats 800000 in
theorem start_any (A : Option Addr) (n c : Nat) (shapes : List Shp) (x y : Int) (w : World) (hs : shpsR.R w (Lt w) shapes [.slice A n c]) (hS : SmallS shapes) :
    Calls Try.prog 37 #[.slice A n c, .agg #[.int .i64 x, .int .i64 y]] w (StartPost (startF shapes (x, y)) w) := by
  have hw0 : Below w.heap.size w ((w.alloc (.cells #[.int .i64 x, .int .i64 y] 78)).alloc (.cells #[.int .i64 0, .int .i64 0] 74)) := ((Below.refl _ _).alloc (Nat.le_refl _) _).alloc (by simp) _
  have d0 := (Blk.new w 78 #[.int .i64 x, .int .i64 y]).alloc (.cells #[.int .i64 0, .int .i64 0] 74)
  have d1 := Blk.new (w.alloc (.cells #[.int .i64 x, .int .i64 y] 78)) 74 #[.int .i64 0, .int .i64 0]
  simp only [World.size_alloc] at d1
  obtain ⟨w0, hw0e⟩ : ∃ w0, w0 = (w.alloc (.cells #[.int .i64 x, .int .i64 y] 78)).alloc (.cells #[.int .i64 0, .int .i64 0] 74) := ⟨_, rfl⟩
  rw [← hw0e] at hw0 d0 d1
  have HW := Lib.hid hw0e
  clear hw0e
  have l0 := d0.lt
  have l1 := d1.lt
  have x0 := d0.c20
  have x1 := d0.c21
  have HBD := Lib.hid (ct_bd hS)
  rcases Bool.eq_false_or_eq_true ((contoursF shapes).contains (x, y)) with hc | hc
  all_goals
    first
      | have HST := Lib.hid (start_yes hc)
      | have HST := Lib.hid (start_no hc)
    have HC := Lib.hid hc
    clear hc
    go_enter Try.func37, Try.ntmps37
    go_wp2
    rw [← HW.out]
    go_region_held3 (fun W => Below w0.heap.size w0 W ∧ W.cell? ⟨w.heap.size, 0, none⟩ = some (.int .i64 x) ∧ W.cell? ⟨w.heap.size, 1, none⟩ = some (.int .i64 y))
      (first
        | exact ⟨(Below.refl _ _).drew, x0, x1⟩
        | exact ⟨hSb, (hSb.cell (p := ⟨w.heap.size, 0, none⟩) l0).trans x0, (hSb.cell (p := ⟨w.heap.size, 1, none⟩) l0).trans x1⟩
        | exact ⟨hSa, (hSa.cell (p := ⟨w.heap.size, 0, none⟩) l0).trans x0, (hSa.cell (p := ⟨w.heap.size, 1, none⟩) l0).trans x1⟩)
      (first
        | (go_at_call 33
           refine (contours_any A n c shapes _ (Rep.below hs hw0.drew) hS).mono ?_
           rintro e w2 ⟨v2, rfl, hown2, hb2⟩
           have hSa : Below w0.heap.size w0 w2 := bstep ((Below.refl _ _).drew) (Nat.le_refl _) hb2
           have hv2 := own_prs hown2 HBD.out)
        | (go_at_call 73
           refine (containsC_any _ _ x y _ hv2).mono ?_
           rintro e w3 ⟨he, hb3⟩
           rw [HC.out] at he
           subst he
           have hSb : Below w0.heap.size w0 w3 := bstep hSa hSa.size hb3))
    have e0 := d0.below hSb l0
    have e1 := d1.below hSb l1
    have hw3 := bstep hw0 hw0.size hSb
    clear x0 x1 hSa hSb hown2 hb2 hb3 hv2 d0 d1
    have y0 := e1.c20
    have y1 := e1.c21
    have f0 := e1.free 0
    have f1 := e1.free 1
    have z0 := e0.c20
    have z1 := e0.c21
  · have hmem : (x, y) ∈ contoursF shapes := by simpa using HC.out
    obtain ⟨mx, my, hmm⟩ : ∃ mx my, beginF shapes (x, y) = (mx, my) := ⟨_, _, rfl⟩
    have HM : Hid (prArr (beginF shapes (x, y)) = #[.int .i64 mx, .int .i64 my]) := by show prArr _ = _; rw [hmm]; rfl
    have HM2 := Lib.hid hmm
    clear hmm
    go_wp2_with fail
    refine (begin_any A n c shapes (x, y) _ (Rep.below hs hw3) hmem hS).mono ?_
    rintro e w4 ⟨he, hb4⟩
    rw [HM.out] at he
    subst he
    have e2 := e1.below hb4 e1.lt
    have hw4 := bstep hw3 hw3.size hb4
    clear y0 y1 f0 f1 z0 z1
    have y0 := e2.c20
    have y1 := e2.c21
    have f0 := e2.free 0
    have f1 := e2.free 1
    go_wp2
    have hz : Blk ((w4.setCell ⟨w.heap.size + 1, 0, none⟩ (.int .i64 mx)).setCell ⟨w.heap.size + 1, 1, none⟩ (.int .i64 my)) (w.heap.size + 1) 74 #[.int .i64 mx, .int .i64 my] := (e2.set_ 0 (.int .i64 mx)).set_ 1 (.int .i64 my)
    have hb5 := (hw4.setCell (p := ⟨w.heap.size + 1, 0, none⟩) (Nat.le_succ _) (.int .i64 mx)).setCell (p := ⟨w.heap.size + 1, 1, none⟩) (Nat.le_succ _) (.int .i64 my)
    exact bodyPost_ret (results_rt (p := 4) (u := 5) (ty := 74) (vu := .bool true) rfl _ _ (w.heap.size + 1) 74 #[.int .i64 mx, .int .i64 my] (0, 0) _ rfl rfl hz Try.underlying74 rfl pt_size) rfl (StartPost.of (by rw [HST.out, HM2.out]) hb5)
  · go_wp2
    have hz : Blk ((w3.setCell ⟨w.heap.size + 1, 0, none⟩ (.int .i64 0)).setCell ⟨w.heap.size + 1, 1, none⟩ (.int .i64 0)) (w.heap.size + 1) 74 #[.int .i64 0, .int .i64 0] := (e1.set_ 0 (.int .i64 0)).set_ 1 (.int .i64 0)
    have hb5 := (hw3.setCell (p := ⟨w.heap.size + 1, 0, none⟩) (Nat.le_succ _) (.int .i64 0)).setCell (p := ⟨w.heap.size + 1, 1, none⟩) (Nat.le_succ _) (.int .i64 0)
    exact bodyPost_ret (results_rt (p := 4) (u := 5) (ty := 74) (vu := .bool false) rfl _ _ (w.heap.size + 1) 74 #[.int .i64 0, .int .i64 0] (0, 0) _ rfl rfl hz Try.underlying74 rfl pt_size) rfl (StartPost.of HST.out hb5)
end Go.Proofs.Ytcnkocnajamclaa
