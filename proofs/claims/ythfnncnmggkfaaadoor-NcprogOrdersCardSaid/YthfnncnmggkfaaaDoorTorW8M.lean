/- Chapter 26: begin, by walking the program's text. -/
/- Chapter 26: find, Index and Contains of contours, by walking their text. -/
/- Chapter 26: Start, by walking the program's text. -/
import Derived.Test.YthfnncnmggkfaaaDoorTorW5M
import Derived.Laws.StructEq
import Derived.Laws.ResultCell
namespace Go.Proofs.YthfnncnmggkfaaaDoor
open Go Go.RowKit

theorem ringC_nat {shapes : List Shp} {i k : Nat} {s : Shp} (h : shapes[i]? = some s) : ringC shapes ((i : Int), (k : Int)) = ringOf s k := by
  unfold ringC; simp only [Int.toNat_natCast]; rw [getD_at h]
set_option maxRecDepth 100000 in
set_option maxHeartbeats 800000 in
theorem begin_any (A : Option Addr) (n c : Nat) (shapes : List Shp) (ct : Pt) (w : World) (hs : shpsR.R w (Lt w) shapes [.slice A n c]) (hc : ct ∈ contoursF shapes) (hS : SmallS shapes) :
    Calls Tryd.prog 48 #[.slice A n c, .agg (prArr ct)] w (Ret (.agg (prArr (beginF shapes ct))) w) := by
  obtain ⟨rfl, hm⟩ := slice_len hs
  obtain ⟨i, k, hi, hk, hok, rfl⟩ := mem_contours.1 hc
  have hsl := hS.len
  obtain ⟨b, off, s, O, no, co, H, nh, ch, rfl, hx, hbD, c0, c1, hno, hnh, hO, hH, hnom, hnhm⟩ := shape_at hs hi
  have hno' := hno.out
  have hnh' := hnh.out
  subst hno' hnh'
  rw [getD_at hx.out] at hk hok
  have HOK := Lib.hid hok
  have HB : Hid (beginF shapes ((i : Int), (k : Int)) = minPt (ringOf s k)) := by show beginF _ _ = _; unfold beginF; rw [ringC_nat hx.out]
  have hbl : b < w.heap.size := hbD
  have hb0 : ¬ b = w.heap.size := by omega
  have hb1 : ¬ b = w.heap.size + 1 := by omega
  have hil : i < shapes.length := hi
  have hkl : k ≤ s.2.length := by omega
  have hw0 : Below w.heap.size w ((w.alloc (.cells #[.int .i64 (i : Int), .int .i64 (k : Int)] 57)).alloc (.cells #[.int .i64 0, .int .i64 0] 47)) := ((Below.refl _ _).alloc (Nat.le_refl _) _).alloc (by simp) _
  have d0 := (Blk.new w 57 #[.int .i64 (i : Int), .int .i64 (k : Int)]).alloc (.cells #[.int .i64 0, .int .i64 0] 47)
  have d1 := Blk.new (w.alloc (.cells #[.int .i64 (i : Int), .int .i64 (k : Int)] 57)) 47 #[.int .i64 0, .int .i64 0]
  simp only [World.size_alloc] at d1
  clear hok hk hc hi
  obtain ⟨w0, hw0e⟩ : ∃ w0, w0 = (w.alloc (.cells #[.int .i64 (i : Int), .int .i64 (k : Int)] 57)).alloc (.cells #[.int .i64 0, .int .i64 0] 47) := ⟨_, rfl⟩
  rw [← hw0e] at hw0 d0 d1
  have HW := Lib.hid hw0e
  have HZ : Hid (w0.heap.size = w.heap.size + 2) := by show w0.heap.size = _; rw [hw0e]; simp
  clear hw0e
  have e0 := (hw0.cell (p := ⟨b, off + i * 2, none⟩) hbl).trans c0
  have e1 := (hw0.cell (p := ⟨b, off + i * 2 + 1, none⟩) hbl).trans c1
  have x0 := d0.c20
  have x1 := d0.c21
  have l0 := d0.lt
  have l1 := d1.lt
  rw [show prArr ((i : Int), (k : Int)) = #[.int .i64 (i : Int), .int .i64 (k : Int)] from rfl]
  obtain ⟨mx, my, hmm⟩ : ∃ mx my, minPt (ringOf s k) = (mx, my) := ⟨_, _, rfl⟩
  have HM : Hid (prArr (minPt (ringOf s k)) = #[.int .i64 mx, .int .i64 my]) := by show prArr _ = _; rw [hmm]; rfl
  have HB2 : Hid (prArr (beginF shapes ((i : Int), (k : Int))) = #[.int .i64 mx, .int .i64 my]) := by show prArr _ = _; rw [HB.out, HM.out]
  clear hmm
  go_enter Tryd.func48, Tryd.ntmps48
  go_wp2
  rw [← HW.out]
  go_region_held3 (fun W => Below w.heap.size w W ∧ W.cell? ⟨b, off + i * 2, none⟩ = some (.slice O s.1.length co) ∧ W.cell? ⟨b, off + i * 2 + 1, none⟩ = some (.slice H s.2.length ch) ∧ W.cell? ⟨w.heap.size, 0, none⟩ = some (.int .i64 (i : Int)) ∧ W.cell? ⟨w.heap.size, 1, none⟩ = some (.int .i64 (k : Int)))
    (first
      | exact ⟨hw0.drew, e0, e1, x0, x1⟩
      | exact hS3
      | exact ⟨(hbw3.setCell (p := ⟨w.heap.size + 1, 0, none⟩) (Nat.le_succ _) (.int .i64 mx)).setCell (p := ⟨w.heap.size + 1, 1, none⟩) (Nat.le_succ _) (.int .i64 my), z0, z1, z2, z3⟩
      | exact hS2)
    (first
      | (go_at_call 66
         refine (minPt_any P _ cp (ringOf s k) _ (Rep.mono _ (fun q (hq : q < w.heap.size) => (Nat.lt_of_lt_of_le hq hbw2.size : q < w2.heap.size)) (Rep.keep _ (fun q hq => hb2.block q (Nat.lt_of_lt_of_le hq hw0.drew.size)) hP)) HOK.out).mono ?_
         rintro e w3 ⟨he, hb3⟩
         rw [HM.out] at he
         subst he
         have hbw3 := bstep hbw2 hbw2.size hb3
         have d0'' := d0'.below hb3 d0'.lt
         have d1'' := d1'.below hb3 d1'.lt
         have y0 := d1''.c20
         have y1 := d1''.c21
         have f0 := d1''.free 0
         have f1 := d1''.free 1
         have z2 := (((d0''.far (p := ⟨w.heap.size + 1, 0, none⟩) (by show w.heap.size ≠ w.heap.size + 1; omega) (.int .i64 mx)).far (p := ⟨w.heap.size + 1, 1, none⟩) (by show w.heap.size ≠ w.heap.size + 1; omega) (.int .i64 my))).c20
         have z3 := (((d0''.far (p := ⟨w.heap.size + 1, 0, none⟩) (by show w.heap.size ≠ w.heap.size + 1; omega) (.int .i64 mx)).far (p := ⟨w.heap.size + 1, 1, none⟩) (by show w.heap.size ≠ w.heap.size + 1; omega) (.int .i64 my))).c21
         have hb5 := (hbw3.setCell (p := ⟨w.heap.size + 1, 0, none⟩) (Nat.le_succ _) (.int .i64 mx)).setCell (p := ⟨w.heap.size + 1, 1, none⟩) (Nat.le_succ _) (.int .i64 my)
         have z0 := (hb5.cell (p := ⟨b, off + i * 2, none⟩) hbl).trans c0
         have z1 := (hb5.cell (p := ⟨b, off + i * 2 + 1, none⟩) hbl).trans c1
         have hS3 : Below w.heap.size w w3 ∧ w3.cell? ⟨b, off + i * 2, none⟩ = some (.slice O s.1.length co) ∧ w3.cell? ⟨b, off + i * 2 + 1, none⟩ = some (.slice H s.2.length ch) ∧ w3.cell? ⟨w.heap.size, 0, none⟩ = some (.int .i64 (i : Int)) ∧ w3.cell? ⟨w.heap.size, 1, none⟩ = some (.int .i64 (k : Int)) :=
           ⟨hbw3, (hbw3.cell (p := ⟨b, off + i * 2, none⟩) hbl).trans c0, (hbw3.cell (p := ⟨b, off + i * 2 + 1, none⟩) hbl).trans c1, d0''.c20, d0''.c21⟩)
      | (go_at_call 67
         refine (ring_any O H s.1.length co s.2.length ch k s (Lt w) _ (Rep.at_ hO hw0.drew) (Rep.at_ hH hw0.drew) (fun q hq => Nat.lt_of_lt_of_le hq hw0.drew.size) hkl).mono ?_
         rintro e w2 ⟨P, np, cp, rfl, hnp, hP, hb2⟩
         subst hnp
         have hbw2 := bstep hw0.drew hw0.drew.size hb2
         have d0' := Blk.below (w := w0.drew) d0 hb2 l0
         have d1' := Blk.below (w := w0.drew) d1 hb2 l1
         have hS2 : Below w.heap.size w w2 ∧ w2.cell? ⟨b, off + i * 2, none⟩ = some (.slice O s.1.length co) ∧ w2.cell? ⟨b, off + i * 2 + 1, none⟩ = some (.slice H s.2.length ch) ∧ w2.cell? ⟨w.heap.size, 0, none⟩ = some (.int .i64 (i : Int)) ∧ w2.cell? ⟨w.heap.size, 1, none⟩ = some (.int .i64 (k : Int)) :=
           ⟨hbw2, (hbw2.cell (p := ⟨b, off + i * 2, none⟩) hbl).trans c0, (hbw2.cell (p := ⟨b, off + i * 2 + 1, none⟩) hbl).trans c1, d0'.c20, d0'.c21⟩))
  go_wp2
  have hz2 : Blk ((w3.setCell ⟨w.heap.size + 1, 0, none⟩ (.int .i64 mx)).setCell ⟨w.heap.size + 1, 1, none⟩ (.int .i64 my)) (w.heap.size + 1) 47 #[.int .i64 mx, .int .i64 my] := (d1''.set_ 0 (.int .i64 mx)).set_ 1 (.int .i64 my)
  exact bodyPost_ret (v := .agg #[.int .i64 mx, .int .i64 my]) (results_cell_row (ty := 47) rfl _ _ (w.heap.size + 1) 47 #[.int .i64 mx, .int .i64 my] (0, 0) _ rfl hz2 Tryd.underlying47 rfl pt_size) rfl ⟨by rw [HB2.out], hb5⟩
end Go.Proofs.YthfnncnmggkfaaaDoor

namespace Go.Proofs.YthfnncnmggkfaaaDoor
open Go Go.RowKit

def idxC : List Pt → Pt → Int
  | [], _ => -1
  | a :: l, c => if a = c then 0 else if idxC l c < 0 then -1 else idxC l c + 1
theorem idxC_range : ∀ (l : List Pt) (c : Pt), -1 ≤ idxC l c ∧ idxC l c < l.length
  | [], c => by simp [idxC]
  | a :: l, c => by
    have := idxC_range l c
    rw [idxC]; simp only [List.length_cons]
    split
    · omega
    · split <;> omega
theorem idxC_miss : ∀ {l : List Pt} {c : Pt}, c ∉ l → idxC l c = -1
  | [], _, _ => rfl
  | a :: l, c, h => by
    have h1 : a ≠ c := fun e => h (by simp [e])
    have h2 := idxC_miss (l := l) (c := c) (fun hm => h (by simp [hm]))
    rw [idxC, if_neg h1, h2, if_pos (by omega)]
theorem idxC_hit : ∀ {l : List Pt} {c : Pt} {k : Nat}, l[k]? = some c → c ∉ l.take k → idxC l c = k
  | [], _, k, h, _ => by simp at h
  | a :: l, c, 0, h, _ => by simp at h; subst h; rw [idxC, if_pos rfl]; rfl
  | a :: l, c, k + 1, h, hn => by
    rw [List.take_succ_cons, List.mem_cons] at hn
    have h1 : a ≠ c := fun e => hn (.inl e.symm)
    have h2 := idxC_hit (l := l) (c := c) (k := k) (by simpa using h) (fun hm => hn (.inr hm))
    rw [idxC, if_neg h1, h2, if_neg (by omega)]; omega
theorem first_at {α : Type} [DecidableEq α] {x : α} : ∀ {xs : List α}, x ∈ xs → ∃ k, xs[k]? = some x ∧ x ∉ xs.take k
  | [], h => by cases h
  | y :: ys, h => by
    by_cases e : y = x
    · exact ⟨0, by rw [e]; rfl, by simp⟩
    · have h' : x ∈ ys := by
        rcases List.mem_cons.1 h with h | h
        · exact absurd h.symm e
        · exact h
      obtain ⟨k, h1, h2⟩ := first_at h'
      refine ⟨k + 1, by simpa using h1, ?_⟩
      rw [List.take_succ_cons, List.mem_cons]
      rintro (h3 | h3)
      · exact e h3.symm
      · exact h2 h3
theorem idxC_mem {l : List Pt} {c : Pt} (h : c ∈ l) : ∃ k : Nat, idxC l c = k ∧ l[k]? = some c ∧ c ∉ l.take k := by
  obtain ⟨k, h1, h2⟩ := first_at h
  exact ⟨k, idxC_hit h1 h2, h1, h2⟩
theorem idxC_contains (l : List Pt) (c : Pt) : decide (0 ≤ idxC l c) = l.contains c := by
  by_cases h : c ∈ l
  · obtain ⟨k, hk, _⟩ := idxC_mem h
    rw [hk]; simp [h]
  · rw [idxC_miss h]; simp [h]
theorem idxC_neg (l : List Pt) (c : Pt) : decide (idxC l c < 0) = !l.contains c := by
  rw [← idxC_contains, Bool.eq_iff_iff]; simp
theorem pr_ne {a b c d : Int} (h : (a, b) ≠ (c, d)) : (a == c && b == d) = false := by
  by_cases h1 : a = c
  · by_cases h2 : b = d
    · exact absurd (by rw [h1, h2]) h
    · simp [h2]
  · simp [h1]
theorem notin_one {l : List Pt} {k : Nat} {x c : Pt} (h : c ∉ l.take k) (hx : l[k]? = some x) (hne : x ≠ c) : c ∉ l.take (k + 1) := by
  rw [take_one hx]
  intro hm
  rcases List.mem_append.1 hm with hm | hm
  · exact h hm
  · simp at hm; exact hne hm.symm
theorem ct_under : Tryd.prog.underlying 57 = some (.struct (Tryd.prog.fieldsOf 57)) := by kernel_rfl
theorem ct_held : Tryd.prog.stoodInHeld 57 = false := by kernel_rfl
theorem ct_guard : Tryd.prog.eqGuardType Tryd.prog.depth 57 = false := by kernel_rfl
theorem ct_eql (x y x' y' : Int) (w : World) : (binOp .eql 57 (.agg #[.int .i64 x, .int .i64 y]) (.agg #[.int .i64 x', .int .i64 y'])).run Tryd.prog w = .ok (.bool (x == x' && y == y')) w := by
  have u3 := Tryd.underlying3
  have a3 := Tryd.isAgg3
  have z3 := Tryd.sizeOf3
  rw [run_eql_struct, show (10000 : Nat) = 9999 + 1 from rfl, run_equalIn_agg w 9999 57 _ _ ct_under ct_held]
  simp only [Program.fieldsOf, Tryd.underlying57]
  go_simp
  by_cases h1 : x = x' <;> by_cases h2 : y = y' <;> simp [h1, h2]
theorem ct_eqg (op : BinOp) (p q : Operand) (xs ys : Array Value) (w : World) : (eqGuard op 57 p q (.agg xs) (.agg ys)).run Tryd.prog w = .ok () w := run_eqGuard_agg w op _ p q xs ys ct_guard
set_option maxHeartbeats 800000 in
theorem indexC_any (v : Value) (l : List Pt) (x y : Int) (w : World) (hl : prR.slice.R w (Lt w) l [v]) :
    Calls Tryd.prog 52 #[v, .agg #[.int .i64 x, .int .i64 y]] w (Ret (.int .i64 (idxC l (x, y))) w) := by
  obtain ⟨A, c, rfl, hm, -⟩ := slice_inv hl
  have hw0 : Below w.heap.size w (w.alloc (.cells #[.int .i64 x, .int .i64 y] 57)) := (Below.refl _ _).alloc (Nat.le_refl _) _
  have b0 := Blk.new w 57 #[.int .i64 x, .int .i64 y]
  have q1 := ct_eql
  have q2 := ct_eqg
  go_enter Tryd.func52, Tryd.ntmps52
  go_wp2
  go_loopw [8] (fun i wr => ∃ k : Nat, k ≤ l.length ∧ i = .int .i64 k ∧ Hid ((x, y) ∉ l.take k) ∧ Blk wr w.heap.size 57 #[.int .i64 x, .int .i64 y] ∧ Below w.heap.size w wr) (fun i _ => l.length - (intOf i).toNat)
  case atStart => exact ⟨0, Nat.zero_le _, rfl, by show (x, y) ∉ l.take 0; simp, b0, hw0⟩
  case round =>
    obtain ⟨k, hk, rfl, hno, hblk, hb⟩ := hrel
    have k0 := hblk.c20
    have k1 := hblk.c21
    by_cases hlt : k < l.length
    · obtain ⟨b, off, p, q, rfl, hx, -, c0, c1, -⟩ := pairs_at (Rep.at_ hl hb) hlt
      by_cases he : (p, q) = (x, y)
      · injection he with e1 e2
        subst e1 e2
        have HE := Lib.hid (idxC_hit hx.out hno.out)
        have e3 : (p == p && q == q) = true := by simp
        go_wp2
        go_quiet (fail)
        go_wp2
        go_ret
        exact ⟨ret_int HE.out.symm, below_drewN hb _⟩
      · have HE := Lib.hid (notin_one hno.out hx.out he)
        have e3 := pr_ne (fun e => he e.symm)
        clear he
        go_wp2
        go_quiet (fail)
        go_wp2
        go_roundw
        case rel => exact ⟨k + 1, by omega, by go_num, HE.out, hblk, below_drewN hb _⟩
        case measure => simp [intOf]; omega
    · go_wp2
      go_ret
      have h := hno.out
      rw [List.take_of_length_le (by omega)] at h
      exact ⟨ret_int (idxC_miss h).symm, hb⟩

set_option maxHeartbeats 400000 in
theorem containsC_any (v : Value) (l : List Pt) (x y : Int) (w : World) (hl : prR.slice.R w (Lt w) l [v]) :
    Calls Tryd.prog 53 #[v, .agg #[.int .i64 x, .int .i64 y]] w (Ret (.bool (l.contains (x, y))) w) := by
  have hw0 : Below w.heap.size w (w.alloc (.cells #[.int .i64 x, .int .i64 y] 57)) := (Below.refl _ _).alloc (Nat.le_refl _) _
  go_enter Tryd.func53, Tryd.ntmps53
  go_wp2_with fail
  refine (indexC_any v l x y _ (Rep.below hl hw0)).mono ?_
  rintro e w1 ⟨rfl, hb⟩
  go_wp2
  go_ret
  exact ⟨ret_bool (idxC_contains l (x, y)), bstep hw0 hw0.size hb⟩
end Go.Proofs.YthfnncnmggkfaaaDoor

namespace Go.Proofs.YthfnncnmggkfaaaDoor
open Go Go.RowKit

theorem results_rt {P : Program} {fn : Func} {p u : Tmp} {ty : TypeId} (h : fn.results = #[.cell p ty, .tmp u]) (tmps : Array Value) (w : World) (g : Nat) (t : TypeId) (cs : Array Value) (fr : Nat × Nat) (d : TypeDesc) {vu : Value}
    (hp : tmps.getD p undef = .pointer (some ⟨g, 0, none⟩)) (hu : tmps.getD u undef = vu) (hg : w.heap[g]? = some (.cells cs t fr))
    (hd : P.underlying ty = some d) (ha : (match d with | .struct _ | .array _ _ => true | _ => false) = true) (hi : (P.info? ty).map (·.size) = some cs.size) :
    (results fn tmps).run P w = .ok (.tuple #[.agg cs, vu]) w := by
  rw [results_cell_tmp h, hp]
  simp [asAddr, run_loadVar_row w g t ty cs fr d hg hd ha hi, Result.andThen, hu]
def startF (shapes : List Shp) (c : Pt) : Pt × Bool := if (contoursF shapes).contains c then (beginF shapes c, true) else ((0, 0), false)
theorem start_yes {shapes : List Shp} {c : Pt} (h : (contoursF shapes).contains c = true) : startF shapes c = (beginF shapes c, true) := if_pos h
theorem start_no {shapes : List Shp} {c : Pt} (h : (contoursF shapes).contains c = false) : startF shapes c = ((0, 0), false) := if_neg (by rw [h]; decide)
def StartPost (r : Pt × Bool) (w : World) (e : Ending) (w' : World) : Prop := e = .returned (.tuple #[.agg (prArr r.1), .bool r.2]) ∧ Below w.heap.size w w'
theorem StartPost.of {r : Pt × Bool} {x y : Int} {b : Bool} {w w' : World} (h : r = ((x, y), b)) (hb : Below w.heap.size w w') : StartPost r w (.returned (.tuple #[.agg #[.int .i64 x, .int .i64 y], .bool b])) w' := ⟨by rw [h]; rfl, hb⟩
set_option maxRecDepth 100000 in
set_option maxHeartbeats 800000 in
theorem start_any (A : Option Addr) (n c : Nat) (shapes : List Shp) (x y : Int) (w : World) (hs : shpsR.R w (Lt w) shapes [.slice A n c]) (hS : SmallS shapes) :
    Calls Tryd.prog 29 #[.slice A n c, .agg #[.int .i64 x, .int .i64 y]] w (StartPost (startF shapes (x, y)) w) := by
  have hw0 : Below w.heap.size w ((w.alloc (.cells #[.int .i64 x, .int .i64 y] 57)).alloc (.cells #[.int .i64 0, .int .i64 0] 47)) := ((Below.refl _ _).alloc (Nat.le_refl _) _).alloc (by simp) _
  have d0 := (Blk.new w 57 #[.int .i64 x, .int .i64 y]).alloc (.cells #[.int .i64 0, .int .i64 0] 47)
  have d1 := Blk.new (w.alloc (.cells #[.int .i64 x, .int .i64 y] 57)) 47 #[.int .i64 0, .int .i64 0]
  simp only [World.size_alloc] at d1
  obtain ⟨w0, hw0e⟩ : ∃ w0, w0 = (w.alloc (.cells #[.int .i64 x, .int .i64 y] 57)).alloc (.cells #[.int .i64 0, .int .i64 0] 47) := ⟨_, rfl⟩
  rw [← hw0e] at hw0 d0 d1
  have HW := Lib.hid hw0e
  clear hw0e
  have l0 := d0.lt
  have l1 := d1.lt
  have x0 := d0.c20
  have x1 := d0.c21
  have HBD := Lib.hid (ct_bd hS)
  rcases Bool.eq_false_or_eq_true ((contoursF shapes).contains (x, y)) with hc | hc
  all_goals
    first
      | have HST := Lib.hid (start_yes hc)
      | have HST := Lib.hid (start_no hc)
    have HC := Lib.hid hc
    clear hc
    go_enter Tryd.func29, Tryd.ntmps29
    go_wp2
    rw [← HW.out]
    go_region_held3 (fun W => Below w0.heap.size w0 W ∧ W.cell? ⟨w.heap.size, 0, none⟩ = some (.int .i64 x) ∧ W.cell? ⟨w.heap.size, 1, none⟩ = some (.int .i64 y))
      (first
        | exact ⟨(Below.refl _ _).drew, x0, x1⟩
        | exact ⟨hSb, (hSb.cell (p := ⟨w.heap.size, 0, none⟩) l0).trans x0, (hSb.cell (p := ⟨w.heap.size, 1, none⟩) l0).trans x1⟩
        | exact ⟨hSa, (hSa.cell (p := ⟨w.heap.size, 0, none⟩) l0).trans x0, (hSa.cell (p := ⟨w.heap.size, 1, none⟩) l0).trans x1⟩)
      (first
        | (go_at_call 50
           refine (contours_any A n c shapes _ (Rep.below hs hw0.drew) hS).mono ?_
           rintro e w2 ⟨v2, rfl, hown2, hb2⟩
           have hSa : Below w0.heap.size w0 w2 := bstep ((Below.refl _ _).drew) (Nat.le_refl _) hb2
           have hv2 := own_prs hown2 HBD.out)
        | (go_at_call 53
           refine (containsC_any _ _ x y _ hv2).mono ?_
           rintro e w3 ⟨he, hb3⟩
           rw [HC.out] at he
           subst he
           have hSb : Below w0.heap.size w0 w3 := bstep hSa hSa.size hb3))
    have e0 := d0.below hSb l0
    have e1 := d1.below hSb l1
    have hw3 := bstep hw0 hw0.size hSb
    clear x0 x1 hSa hSb hown2 hb2 hb3 hv2 d0 d1
    have y0 := e1.c20
    have y1 := e1.c21
    have f0 := e1.free 0
    have f1 := e1.free 1
    have z0 := e0.c20
    have z1 := e0.c21
  · have hmem : (x, y) ∈ contoursF shapes := by simpa using HC.out
    obtain ⟨mx, my, hmm⟩ : ∃ mx my, beginF shapes (x, y) = (mx, my) := ⟨_, _, rfl⟩
    have HM : Hid (prArr (beginF shapes (x, y)) = #[.int .i64 mx, .int .i64 my]) := by show prArr _ = _; rw [hmm]; rfl
    have HM2 := Lib.hid hmm
    clear hmm
    go_wp2_with fail
    refine (begin_any A n c shapes (x, y) _ (Rep.below hs hw3) hmem hS).mono ?_
    rintro e w4 ⟨he, hb4⟩
    rw [HM.out] at he
    subst he
    have e2 := e1.below hb4 e1.lt
    have hw4 := bstep hw3 hw3.size hb4
    clear y0 y1 f0 f1 z0 z1
    have y0 := e2.c20
    have y1 := e2.c21
    have f0 := e2.free 0
    have f1 := e2.free 1
    go_wp2
    have hz : Blk ((w4.setCell ⟨w.heap.size + 1, 0, none⟩ (.int .i64 mx)).setCell ⟨w.heap.size + 1, 1, none⟩ (.int .i64 my)) (w.heap.size + 1) 47 #[.int .i64 mx, .int .i64 my] := (e2.set_ 0 (.int .i64 mx)).set_ 1 (.int .i64 my)
    have hb5 := (hw4.setCell (p := ⟨w.heap.size + 1, 0, none⟩) (Nat.le_succ _) (.int .i64 mx)).setCell (p := ⟨w.heap.size + 1, 1, none⟩) (Nat.le_succ _) (.int .i64 my)
    exact bodyPost_ret (results_rt (p := 4) (u := 5) (ty := 47) (vu := .bool true) rfl _ _ (w.heap.size + 1) 47 #[.int .i64 mx, .int .i64 my] (0, 0) _ rfl rfl hz Tryd.underlying47 rfl pt_size) rfl (StartPost.of (by rw [HST.out, HM2.out]) hb5)
  · go_wp2
    have hz : Blk ((w3.setCell ⟨w.heap.size + 1, 0, none⟩ (.int .i64 0)).setCell ⟨w.heap.size + 1, 1, none⟩ (.int .i64 0)) (w.heap.size + 1) 47 #[.int .i64 0, .int .i64 0] := (e1.set_ 0 (.int .i64 0)).set_ 1 (.int .i64 0)
    have hb5 := (hw3.setCell (p := ⟨w.heap.size + 1, 0, none⟩) (Nat.le_succ _) (.int .i64 0)).setCell (p := ⟨w.heap.size + 1, 1, none⟩) (Nat.le_succ _) (.int .i64 0)
    exact bodyPost_ret (results_rt (p := 4) (u := 5) (ty := 47) (vu := .bool false) rfl _ _ (w.heap.size + 1) 47 #[.int .i64 0, .int .i64 0] (0, 0) _ rfl rfl hz Tryd.underlying47 rfl pt_size) rfl (StartPost.of HST.out hb5)
end Go.Proofs.YthfnncnmggkfaaaDoor
