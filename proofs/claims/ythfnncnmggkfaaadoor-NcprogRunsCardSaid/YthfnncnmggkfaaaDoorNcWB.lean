/- Chapter 27: Run, by walking the reference's text. -/
import Derived.Test.YthfnncnmggkfaaaDoorNcOpM
import Derived.Test.YthfnncnmggkfaaaDoorNcW3
import Derived.Test.YthfnncnmggkfaaaDoorTorR1
import Derived.Deep.DeepCutAuto
set_option linter.unusedSimpArgs false
set_option linter.unusedVariables false
namespace Go.Proofs.YthfnncnmggkfaaaDoor
open Go Go.RowKit

structure RM (G : Nat) (m : Mc) (rv rsv : Value) (w : World) : Prop where
  g2 : Blk w G 42 #[.int .i64 0, .int .i64 0, .int .i64 0]
  g5 : Blk w (G + 1) 42 #[.int .i64 0, .int .i64 0, .int .i64 0]
  g6 : Blk w (G + 2) 42 #[.int .i64 m.tr, .int .i64 m.bu, .int .i64 m.pi]
  g9 : Blk w (G + 3) 47 #[.int .i64 m.at_.1, .int .i64 m.at_.2]
  ex : ∃ base, G + 3 < base ∧ base ≤ w.heap.size ∧ RingsAt (G + 4) base rsv m.rings w ∧ (m.lit = true → OwnP w base 47 rv m.ring)
theorem RM.below {G : Nat} {m : Mc} {rv rsv : Value} {w w' : World} (h : RM G m rv rsv w) (hb : Below w.heap.size w w') : RM G m rv rsv w' := by
  obtain ⟨base, h1, h2, h3, h4⟩ := h.ex
  exact ⟨h.g2.below hb h.g2.lt, h.g5.below hb h.g5.lt, h.g6.below hb h.g6.lt, h.g9.below hb h.g9.lt, base, h1, Nat.le_trans h2 hb.size, h3.keep (fun i _ hi => hb.block i (by omega)), fun hl => own_below (h4 hl) hb⟩
theorem rw_set {G bx : Nat} {m : Mc} {x y : Int} {W : World} (h : W.cell? ⟨G + 3, 0, none⟩ = some (.int .i64 m.at_.1) ∧ W.cell? ⟨G + 3, 1, none⟩ = some (.int .i64 m.at_.2) ∧ W.cell? ⟨bx, 1, none⟩ = some (.int .i64 x) ∧ W.cell? ⟨bx, 2, none⟩ = some (.int .i64 y)) (hn : ¬ bx = G + 2) (o : Nat) (v : Value) : ((W.setCell ⟨G + 2, o, none⟩ v).cell? ⟨G + 3, 0, none⟩ = some (.int .i64 m.at_.1) ∧ (W.setCell ⟨G + 2, o, none⟩ v).cell? ⟨G + 3, 1, none⟩ = some (.int .i64 m.at_.2) ∧ (W.setCell ⟨G + 2, o, none⟩ v).cell? ⟨bx, 1, none⟩ = some (.int .i64 x) ∧ (W.setCell ⟨G + 2, o, none⟩ v).cell? ⟨bx, 2, none⟩ = some (.int .i64 y)) :=
  ⟨cell_far h.1 (.inl (by show G + 3 ≠ G + 2; omega)), cell_far h.2.1 (.inl (by show G + 3 ≠ G + 2; omega)), cell_far h.2.2.1 (.inl hn), cell_far h.2.2.2 (.inl hn)⟩
theorem RM.go {G : Nat} {m : Mc} {rv rsv : Value} {w : World} (h : RM G m rv rsv w) (off : Nat) (t x y : Int) (m' : Mc) (h6 : (#[Value.int .i64 m.tr, .int .i64 m.bu, .int .i64 m.pi] : Array Value).setIfInBounds off (.int .i64 t) = #[.int .i64 m'.tr, .int .i64 m'.bu, .int .i64 m'.pi]) (hat : m'.at_ = (x, y))
    (hr : m'.rings = m.rings) (hl : m'.lit = true → m.lit = true ∧ m'.ring = m.ring) : RM G m' rv rsv (((w.setCell ⟨G + 2, off, none⟩ (.int .i64 t)).setCell ⟨G + 3, 0, none⟩ (.int .i64 x)).setCell ⟨G + 3, 1, none⟩ (.int .i64 y)) := by
  obtain ⟨base, h1, h2, h3, h4⟩ := h.ex
  have hk : ∀ i, i ≠ G + 2 → i ≠ G + 3 → (((w.setCell ⟨G + 2, off, none⟩ (.int .i64 t)).setCell ⟨G + 3, 0, none⟩ (.int .i64 x)).setCell ⟨G + 3, 1, none⟩ (.int .i64 y)).heap[i]? = w.heap[i]? := fun i hi hi2 =>
    (Below.heap_setCell _ ⟨G + 3, 1, none⟩ _ i hi2).trans ((Below.heap_setCell _ ⟨G + 3, 0, none⟩ _ i hi2).trans (Below.heap_setCell w ⟨G + 2, off, none⟩ _ i hi))
  refine ⟨(hk G (by omega) (by omega)).trans h.g2, (hk (G + 1) (by omega) (by omega)).trans h.g5, ?_, ?_, base, h1, by simpa [World.setCell] using h2, by rw [hr]; exact h3.keep (fun i hi _ => hk i (by omega) (by omega)), fun hh => ?_⟩
  · have hB := ((h.g6.set_ off (.int .i64 t)).far (p := ⟨G + 3, 0, none⟩) (by show G + 2 ≠ G + 3; omega) (.int .i64 x)).far (p := ⟨G + 3, 1, none⟩) (by show G + 2 ≠ G + 3; omega) (.int .i64 y)
    rw [h6] at hB
    exact hB
  · rw [hat]
    exact ((h.g9.far (p := ⟨G + 2, off, none⟩) (by show G + 3 ≠ G + 2; omega) _).set_ 0 (.int .i64 x)).set_ 1 (.int .i64 y)
  · obtain ⟨h5, h6⟩ := hl hh
    rw [h6]
    exact own_keep (h4 h5) (fun g hg => hk g (by have := (World.ownsRow.lt (h4 h5) g hg).1; omega) (by have := (World.ownsRow.lt (h4 h5) g hg).1; omega))
theorem RM.lit {G : Nat} {m : Mc} {rv rsv : Value} {w : World} (h : RM G m rv rsv w) : RM G { m with pi := m.pi + 1, lit := true, ring := [m.at_] } (.slice (some ⟨w.heap.size, 0, none⟩) 1 1) rsv ((w.setCell ⟨G + 2, 2, none⟩ (.int .i64 (m.pi + 1))).alloc (.cells #[.int .i64 m.at_.1, .int .i64 m.at_.2] 47)) := by
  obtain ⟨base, h1, h2, h3, h4⟩ := h.ex
  have hz : (w.setCell ⟨G + 2, 2, none⟩ (.int .i64 (m.pi + 1))).heap.size = w.heap.size := by simp [World.setCell]
  have hl := h.g9.lt
  have hk : ∀ i, i ≠ G + 2 → i < w.heap.size → ((w.setCell ⟨G + 2, 2, none⟩ (.int .i64 (m.pi + 1))).alloc (.cells #[.int .i64 m.at_.1, .int .i64 m.at_.2] 47)).heap[i]? = w.heap[i]? := fun i hi hil =>
    (Below.heap_alloc _ _ i (by rw [hz]; exact hil)).trans (Below.heap_setCell w ⟨G + 2, 2, none⟩ _ i hi)
  have hn := Blk.new (w.setCell ⟨G + 2, 2, none⟩ (.int .i64 (m.pi + 1))) 47 #[.int .i64 m.at_.1, .int .i64 m.at_.2]
  rw [hz] at hn
  refine ⟨(hk G (by omega) (by omega)).trans h.g2, (hk (G + 1) (by omega) (by omega)).trans h.g5, (h.g6.set_ 2 _).alloc _, (hk (G + 3) (by omega) hl).trans h.g9, w.heap.size, hl, by rw [World.size_alloc, hz]; exact Nat.le_succ _, (h3.keep (fun i hi hib => hk i (by omega) (by omega))).up h2, fun _ => ?_⟩
  exact ⟨rfl, .inr ⟨w.heap.size, 1, #[.int .i64 m.at_.1, .int .i64 m.at_.2], rfl, Nat.le_refl _, hn, Nat.le_refl _, by unfold maxLen; omega, rfl, rfl⟩⟩
theorem RM.app {G : Nat} {m : Mc} {rv rsv v8 : Value} {w w8 : World} {base : Nat} {x y : Int} (h : RM G m rv rsv w) (h1 : G + 3 < base) (h2 : base ≤ w.heap.size) (h3 : RingsAt (G + 4) base rsv m.rings w) (hO : OwnP w base 47 rv m.ring)
    (hg : (w.alloc (.cells #[.int .i64 x, .int .i64 y] 47)).grownBy w8 rv.ownBlock) (hO8 : OwnP w8 base 47 v8 (m.ring ++ [(x, y)])) : RM G { m with ring := m.ring ++ [(x, y)] } v8 rsv w8 := by
  have hb : Below base w w8 := ((Below.refl base w).alloc h2 _).grown hg (by simp; omega) (fun j hj => (World.ownsRow.lt hO j hj).1)
  exact ⟨h.g2.below hb (by omega), h.g5.below hb (by omega), h.g6.below hb (by omega), h.g9.below hb h1, base, h1, Nat.le_trans h2 hb.size, h3.keep (fun i _ hi => hb.block i hi), fun _ => hO8⟩
theorem own_cut2 {w : World} {base g cap n : Nat} {e : TypeId} {L : Nat} {xs : List Pt} (h : OwnP w base e (.slice (some ⟨g, 0, none⟩) L cap) xs) (hR : ∀ x ∈ xs, inI64 x.1 ∧ inI64 x.2) (hn : n ≤ xs.length) :
    ptsR.R w (fun b => b = g) (xs.take n) [.slice (some ⟨g, 0, none⟩) n cap] := by
  have h1 := Rep.slice_take (own_prs h hR) hn
  obtain ⟨A, c, e1, l1, l2, h3⟩ := h1
  injection e1 with e1 _
  injection e1 with e2 e3 e4
  subst e2 e4
  refine ⟨some ⟨g, 0, none⟩, cap, by rw [← e3], l1, l2, fun k hk => ?_⟩
  obtain ⟨b, off, es, e5, hb, hr, hc⟩ := h3 k hk
  have e6 := e5
  injection e6 with e6
  injection e6 with e7 _ _
  exact ⟨b, off, es, e5, e7.symm, hr, hc⟩
theorem RM.offq {G : Nat} {m : Mc} {rv rsv : Value} {w : World} (h : RM G m rv rsv w) (hof : offRings m = m.rings) (j : Nat) : RM G { m with lit := false, rings := offRings m } rv rsv (w.drewN j) := by
  obtain ⟨base, h1, h2, h3, -⟩ := h.ex
  exact ⟨h.g2, h.g5, h.g6, h.g9, base, h1, h2, by show RingsAt _ _ _ (offRings m) _; rw [hof]; exact h3.keep (fun _ _ _ => rfl), fun hh => by cases hh⟩
theorem RM.offs {G : Nat} {m : Mc} {rsv v8 : Value} {w w8 : World} {base gr cap n : Nat} {vs : List Value} (h : RM G m (.slice (some ⟨gr, 0, none⟩) (n + 1) cap) rsv w) (h1 : G + 3 < base) (h2 : base ≤ w.heap.size) (hgr : base ≤ gr)
    (hv1 : w.ownsRow (G + 4) 54 1 rsv vs.length vs) (hv2 : vs.length = m.rings.length) (hv3 : ∀ (k : Nat) (u : Value) (r : List Pt), vs[k]? = some u → m.rings[k]? = some r → ptsR.R w (fun b => G + 4 ≤ b ∧ b < base ∧ IsPt w b) r [u]) (hlt : ∀ g, rsv.ownBlock = some g → g < base)
    (hO : OwnP w base 47 (.slice (some ⟨gr, 0, none⟩) m.ring.length cap) m.ring) (hR : ∀ x ∈ m.ring, inI64 x.1 ∧ inI64 x.2) (hn : n ≤ m.ring.length)
    (hown8 : w8.ownsRow (G + 4) 54 1 v8 (vs.length + 1) (vs ++ [.slice (some ⟨gr, 0, none⟩) n cap])) (hg : (w.alloc (.cells #[.slice (some ⟨gr, 0, none⟩) n cap] 54)).grownBy w8 rsv.ownBlock) (hof : offRings m = m.rings ++ [m.ring.take n]) :
    RM G { m with lit := false, rings := offRings m } (.slice (some ⟨gr, 0, none⟩) (n + 1) cap) v8 w8 := by
  have hb : Below (G + 4) w w8 := ((Below.refl (G + 4) w).alloc (by omega) _).grown hg (by simp; omega) (fun j hj => (World.ownsRow.lt hv1 j hj).1)
  have hws : w.heap.size + 1 ≤ w8.heap.size := by have := hg.size; simpa using this
  have hk : ∀ i, i < w.heap.size → some i ≠ rsv.ownBlock → w8.heap[i]? = w.heap[i]? := fun i hi hne => (hg.block i (by simp; omega) hne).trans (Below.heap_alloc _ _ i hi)
  have hgl := (World.ownsRow.lt hO gr rfl).2
  have hgne : some gr ≠ rsv.ownBlock := fun e => by have := hlt gr e.symm; omega
  refine ⟨h.g2.below hb (by omega), h.g5.below hb (by omega), h.g6.below hb (by omega), h.g9.below hb (by omega), w8.heap.size, by omega, Nat.le_refl _, ?_, fun hh => by cases hh⟩
  show RingsAt _ _ _ (offRings m) _
  rw [hof]
  refine RingsAt.snoc hv1 hv2 hv3 hown8 (fun i hi hib hp => hk i (by omega) (row_ne hv1 hp)) (by omega) (fun g hg => (World.ownsRow.lt hown8 g hg).2) ?_
  refine Rep.mono _ (D := fun b => b = gr) (fun b hb => ?_) (Rep.keep _ (fun i hi => ?_) (own_cut2 (n := n) hO hR hn))
  · subst hb
    refine ⟨by omega, by omega, ?_⟩
    obtain ⟨cs, hc⟩ := own_isPt hO
    exact ⟨cs, (hk _ hgl hgne).trans hc⟩
  · subst hi
    exact hk _ hgl hgne
theorem rtot_size : (Tryd.prog.info? 42).map (·.size) = some 3 := by kernel_rfl
theorem reffar_any (x y : Int) (w : World) : Calls Tryd.prog 43 #[.agg #[.int .i64 x, .int .i64 y]] w (Ret (.bool (farB (x, y))) w) := by
  have hb := (Below.refl w.heap.size w).alloc (Nat.le_refl _) (.cells #[.int .i64 x, .int .i64 y] 47)
  rcases (show (x < -1099511627776) ∨ (¬ x < -1099511627776 ∧ 1099511627776 < x) ∨ (¬ x < -1099511627776 ∧ ¬ 1099511627776 < x ∧ y < -1099511627776) ∨ (¬ x < -1099511627776 ∧ ¬ 1099511627776 < x ∧ ¬ y < -1099511627776 ∧ 1099511627776 < y) ∨ (¬ x < -1099511627776 ∧ ¬ 1099511627776 < x ∧ ¬ y < -1099511627776 ∧ ¬ 1099511627776 < y) from by omega) with h | ⟨h, h1⟩ | ⟨h, h1, h2⟩ | ⟨h, h1, h2, h3⟩ | ⟨h, h1, h2, h3⟩
  · have HF := Lib.hid (farB_t (x := x) (y := y) (by omega))
    rw [HF.out]
    go_enter Tryd.func43, Tryd.ntmps43
    go_wp2
    go_ret
    exact ⟨rfl, hb⟩
  · have HF := Lib.hid (farB_t (x := x) (y := y) (by omega))
    rw [HF.out]
    go_enter Tryd.func43, Tryd.ntmps43
    go_wp2
    go_ret
    exact ⟨rfl, hb⟩
  · have HF := Lib.hid (farB_t (x := x) (y := y) (by omega))
    rw [HF.out]
    go_enter Tryd.func43, Tryd.ntmps43
    go_wp2
    go_ret
    exact ⟨rfl, hb⟩
  · have HF := Lib.hid (farB_t (x := x) (y := y) (by omega))
    rw [HF.out]
    go_enter Tryd.func43, Tryd.ntmps43
    go_wp2
    go_ret
    exact ⟨rfl, hb⟩
  · have HF := Lib.hid (farB_f (x := x) (y := y) (by omega))
    rw [HF.out]
    go_enter Tryd.func43, Tryd.ntmps43
    go_wp2
    go_ret
    exact ⟨rfl, hb⟩
set_option maxRecDepth 100000 in
set_option maxHeartbeats 8000000 in
theorem refRun_any (vl : Value) (l : List Stp) (w : World) (hl : stR.slice.R w (Lt w) l [vl]) : Calls Tryd.prog 21 #[vl] w (RunPost (runF l) w) := by
  obtain ⟨A, c, rfl, hm, -⟩ := slice_inv hl
  obtain ⟨G, hG⟩ : ∃ g, g = w.heap.size := ⟨_, rfl⟩
  have HG := Lib.hid hG
  by_cases h2 : 20000 < l.length
  · have HR := Lib.hid (runF_long h2)
    have h2' : (20000 : Int) < (l.length : Int) := by omega
    have g0 := (Blk.new w 42 #[.int .i64 0, .int .i64 0, .int .i64 0]).alloc (.cells #[.int .i64 0, .int .i64 0, .int .i64 0] 42)
    have hb := ((Below.refl w.heap.size w).alloc (Nat.le_refl _) (.cells #[.int .i64 0, .int .i64 0, .int .i64 0] 42)).alloc (by simp) (.cells #[.int .i64 0, .int .i64 0, .int .i64 0] 42)
    clear h2
    go_enter Tryd.func21, Tryd.ntmps21
    go_wp2
    exact bodyPost_ret (results_rtt (p := 2) (u := 3) (v := 4) (ty := 42) (vu := .slice none 0 0) (vv := .int .i64 4) rfl _ _ w.heap.size 42 #[.int .i64 0, .int .i64 0, .int .i64 0] (0, 0) _ rfl rfl rfl g0 Tryd.underlying42 rfl rtot_size) rfl (by rw [HR.out]; exact ⟨_, rfl, Rep.slice_nil _ _ _, hb⟩)
  · have h2' : ¬ (20000 : Int) < (l.length : Int) := by omega
    have HN := Lib.hid h2
    have m2 := (((Blk.new w 42 #[.int .i64 0, .int .i64 0, .int .i64 0]).alloc (.cells #[.int .i64 0, .int .i64 0, .int .i64 0] 42)).alloc (.cells #[.int .i64 0, .int .i64 0, .int .i64 0] 42)).alloc (.cells #[.int .i64 0, .int .i64 0] 47)
    have m5 := ((Blk.new (w.alloc (.cells #[.int .i64 0, .int .i64 0, .int .i64 0] 42)) 42 #[.int .i64 0, .int .i64 0, .int .i64 0]).alloc (.cells #[.int .i64 0, .int .i64 0, .int .i64 0] 42)).alloc (.cells #[.int .i64 0, .int .i64 0] 47)
    have m6 := (Blk.new ((w.alloc (.cells #[.int .i64 0, .int .i64 0, .int .i64 0] 42)).alloc (.cells #[.int .i64 0, .int .i64 0, .int .i64 0] 42)) 42 #[.int .i64 0, .int .i64 0, .int .i64 0]).alloc (.cells #[.int .i64 0, .int .i64 0] 47)
    have m9 := Blk.new (((w.alloc (.cells #[.int .i64 0, .int .i64 0, .int .i64 0] 42)).alloc (.cells #[.int .i64 0, .int .i64 0, .int .i64 0] 42)).alloc (.cells #[.int .i64 0, .int .i64 0, .int .i64 0] 42)) 47 #[.int .i64 0, .int .i64 0]
    have hbI := ((((Below.refl w.heap.size w).alloc (Nat.le_refl _) (.cells #[.int .i64 0, .int .i64 0, .int .i64 0] 42)).alloc (by simp) (.cells #[.int .i64 0, .int .i64 0, .int .i64 0] 42)).alloc (by simp; omega) (.cells #[.int .i64 0, .int .i64 0, .int .i64 0] 42)).alloc (by simp; omega) (.cells #[.int .i64 0, .int .i64 0] 47)
    simp only [World.size_alloc] at m5 m6 m9
    obtain ⟨wi, hwi⟩ : ∃ W, W = (((w.alloc (.cells #[.int .i64 0, .int .i64 0, .int .i64 0] 42)).alloc (.cells #[.int .i64 0, .int .i64 0, .int .i64 0] 42)).alloc (.cells #[.int .i64 0, .int .i64 0, .int .i64 0] 42)).alloc (.cells #[.int .i64 0, .int .i64 0] 47) := ⟨_, rfl⟩
    have hszi : wi.heap.size = w.heap.size + 4 := by rw [hwi]; simp
    rw [← hwi, ← hG] at m2 m5 m6 m9
    rw [← hwi] at hbI
    have hMI : RM G Mc.start (.slice none 0 0) (.slice none 0 0) wi := ⟨m2, m5, m6, m9, G + 4, by omega, by omega, RingsAt.nil _ _ _, fun h => by cases h⟩
    have HWI := Lib.hid hwi
    clear hwi hszi m2 m5 m6 m9 h2 hG
    go_enter Tryd.func21, Tryd.ntmps21
    go_wp2
    rw [← HWI.out, ← HG.out]
    go_loopw [7, 8, 10, 11] (fun rsv rv lv iv wr => ∃ (k : Nat) (m : Mc), k ≤ l.length ∧ iv = .int .i64 k ∧ lv = .bool m.lit ∧ Hid (runTo Mc.start l = runTo m (l.drop k)) ∧ Hid (Fit m k) ∧ RM G m rv rsv wr ∧ Below w.heap.size w wr) (fun _ _ _ iv _ => l.length - (intOf iv).toNat)
    case atStart => exact ⟨0, Mc.start, Nat.zero_le _, rfl, rfl, by show _ = _; rw [List.drop_zero], Fit.start, hMI, hbI⟩
    case round =>
      obtain ⟨k, m, hk, rfl, rfl, hrun, hfit, hM, hb⟩ := hrel
      have hz := hb.size
      by_cases hlt : k < l.length
      · obtain ⟨b, off, o, x, y, rfl, hx, hbD, c0, c1, c2, -⟩ := steps_at (Rep.at_ hl hb) hlt
        have hki : (k : Int) < (l.length : Int) := by omega
        have hwA := (Below.refl wr.heap.size wr).alloc (Nat.le_refl _) (.cells #[.int .i64 o, .int .i64 x, .int .i64 y] 49)
        have M0 := hM.below hwA
        have s0 := Blk.new wr 49 #[.int .i64 o, .int .i64 x, .int .i64 y]
        have hb0 := bstep hb hz hwA
        obtain ⟨bx, hbx⟩ : ∃ b, b = wr.heap.size := ⟨_, rfl⟩
        obtain ⟨w0, hw0⟩ : ∃ W, W = wr.alloc (.cells #[.int .i64 o, .int .i64 x, .int .i64 y] 49) := ⟨_, rfl⟩
        rw [← hw0, ← hbx] at s0
        rw [← hw0] at M0 hb0
        have hbn : ¬ bx = G + 2 := by have := hM.g6.lt; omega
        have HBX := Lib.hid hbx
        have HW0 := Lib.hid hw0
        clear hw0 hbx hwA hM hb
        by_cases ho1 : o = 1
        · subst ho1
          rcases Bool.eq_false_or_eq_true (farB (x, y)) with hfa | hfa
          · have HR : Hid (runF l = (Mc.start, 9)) := by
              show _ = _
              have h := hrun.out.trans (run_stop hx.out (by rw [do_move_far hfa]; exact (by decide : (9 : Int) ≠ 0)))
              rw [do_move_far hfa] at h
              rw [runF_bad HN.out (by rw [h]; exact (by decide : (9 : Int) ≠ 0)), h]
            have hC := reffar_any x y
            rw [hfa] at hC
            have HC := Lib.hid hC
            clear hC hfa
            have k0 : w0.cell? ⟨bx, 0, none⟩ = some (.int .i64 1) := s0.cell 0
            have k1 : w0.cell? ⟨bx, 1, none⟩ = some (.int .i64 x) := s0.cell 1
            have k2 : w0.cell? ⟨bx, 2, none⟩ = some (.int .i64 y) := s0.cell 2
            go_upto_region 12 with fail
            rw [← HW0.out, ← HBX.out]
            go_wp2_with fail
            refine (HC.out _).mono ?_
            rintro e w1 ⟨rfl, hq⟩
            have M1 := M0.below hq
            have s1 := s0.below hq s0.lt
            have hb1 := bstep hb0 hb0.size hq
            have k0 : w1.cell? ⟨bx, 0, none⟩ = some (.int .i64 1) := s1.cell 0
            have k1 : w1.cell? ⟨bx, 1, none⟩ = some (.int .i64 x) := s1.cell 1
            have k2 : w1.cell? ⟨bx, 2, none⟩ = some (.int .i64 y) := s1.cell 2
            clear hq
            have hgE := ((M1.g2.set_ 0 (.int .i64 0)).set_ 1 (.int .i64 0)).set_ 2 (.int .i64 0)
            have hbE := ((hb1.setCell (p := ⟨G, 0, none⟩) (by rw [HG.out]; exact Nat.le_refl _) (.int .i64 0)).setCell (p := ⟨G, 1, none⟩) (by rw [HG.out]; exact Nat.le_refl _) (.int .i64 0)).setCell (p := ⟨G, 2, none⟩) (by rw [HG.out]; exact Nat.le_refl _) (.int .i64 0)
            have z0 := M1.g5.cell 0
            have z1 := M1.g5.cell 1
            have z2 := M1.g5.cell 2
            have j0 := M1.g2.cell 0
            have j1 := M1.g2.cell 1
            have j2 := M1.g2.cell 2
            have f0 := M1.g2.free 0
            have f1 := M1.g2.free 1
            have f2 := M1.g2.free 2
            simp only [List.getElem?_toArray, List.getElem?_cons_zero, List.getElem?_cons_succ] at z0 z1 z2 j0 j1 j2
            go_wp2
            exact bodyPost_ret (results_rtt (p := 2) (u := 3) (v := 4) (ty := 42) (vu := .slice none 0 0) (vv := .int .i64 9) rfl _ _ G 42 #[.int .i64 0, .int .i64 0, .int .i64 0] (0, 0) _ rfl rfl rfl hgE Tryd.underlying42 rfl rtot_size) rfl (by rw [HR.out]; exact ⟨_, rfl, Rep.slice_nil _ _ _, hbE⟩)
          · rcases Bool.eq_false_or_eq_true m.lit with hl | hl
            · have HR : Hid (runF l = (Mc.start, 14)) := by
                show _ = _
                have h := hrun.out.trans (run_stop hx.out (by rw [do_move_lit hfa hl]; exact (by decide : (14 : Int) ≠ 0)))
                rw [do_move_lit hfa hl] at h
                rw [runF_bad HN.out (by rw [h]; exact (by decide : (14 : Int) ≠ 0)), h]
              have hC := reffar_any x y
              rw [hfa] at hC
              have HC := Lib.hid hC
              clear hC hfa
              have k0 : w0.cell? ⟨bx, 0, none⟩ = some (.int .i64 1) := s0.cell 0
              have k1 : w0.cell? ⟨bx, 1, none⟩ = some (.int .i64 x) := s0.cell 1
              have k2 : w0.cell? ⟨bx, 2, none⟩ = some (.int .i64 y) := s0.cell 2
              go_upto_region 12 with fail
              rw [← HW0.out, ← HBX.out]
              go_wp2_with fail
              refine (HC.out _).mono ?_
              rintro e w1 ⟨rfl, hq⟩
              have M1 := M0.below hq
              have s1 := s0.below hq s0.lt
              have hb1 := bstep hb0 hb0.size hq
              have k0 : w1.cell? ⟨bx, 0, none⟩ = some (.int .i64 1) := s1.cell 0
              have k1 : w1.cell? ⟨bx, 1, none⟩ = some (.int .i64 x) := s1.cell 1
              have k2 : w1.cell? ⟨bx, 2, none⟩ = some (.int .i64 y) := s1.cell 2
              clear hq
              have hgE := ((M1.g2.set_ 0 (.int .i64 0)).set_ 1 (.int .i64 0)).set_ 2 (.int .i64 0)
              have hbE := ((hb1.setCell (p := ⟨G, 0, none⟩) (by rw [HG.out]; exact Nat.le_refl _) (.int .i64 0)).setCell (p := ⟨G, 1, none⟩) (by rw [HG.out]; exact Nat.le_refl _) (.int .i64 0)).setCell (p := ⟨G, 2, none⟩) (by rw [HG.out]; exact Nat.le_refl _) (.int .i64 0)
              have z0 := M1.g5.cell 0
              have z1 := M1.g5.cell 1
              have z2 := M1.g5.cell 2
              have j0 := M1.g2.cell 0
              have j1 := M1.g2.cell 1
              have j2 := M1.g2.cell 2
              have f0 := M1.g2.free 0
              have f1 := M1.g2.free 1
              have f2 := M1.g2.free 2
              simp only [List.getElem?_toArray, List.getElem?_cons_zero, List.getElem?_cons_succ] at z0 z1 z2 j0 j1 j2
              go_wp2
              exact bodyPost_ret (results_rtt (p := 2) (u := 3) (v := 4) (ty := 42) (vu := .slice none 0 0) (vv := .int .i64 14) rfl _ _ G 42 #[.int .i64 0, .int .i64 0, .int .i64 0] (0, 0) _ rfl rfl rfl hgE Tryd.underlying42 rfl rtot_size) rfl (by rw [HR.out]; exact ⟨_, rfl, Rep.slice_nil _ _ _, hbE⟩)
            · have HDO := Lib.hid (do_move hfa hl)
              have hnn := far_near hfa
              obtain ⟨mv, hmv⟩ : ∃ r, moveF m.at_ (x, y) = r := ⟨_, rfl⟩
              have hmb := move_bd hfit.out.near hnn
              rw [hmv] at hmb
              have htr := hfit.out.tr1
              have htr0 := hfit.out.tr0
              have hsum : IntKind.i64.wrap (m.tr + mv) = m.tr + mv := IntWalk.i64_in _ (by have := HN.out; omega)
              have HMV : Hid (∀ W, Calls Tryd.prog 44 #[.agg #[.int .i64 m.at_.1, .int .i64 m.at_.2], .agg #[.int .i64 x, .int .i64 y]] W (Ret (.int .i64 mv) W)) := fun W => by
                rw [← hmv]; exact refMove_any m.at_ (x, y) W hfit.out.near.1 hfit.out.near.2 hnn.1 hnn.2
              have HMW := Lib.hid hmv
              clear hmv hmb htr htr0 hnn
              have hC := reffar_any x y
              rw [hfa] at hC
              have HC := Lib.hid hC
              clear hC hfa
              have k0 : w0.cell? ⟨bx, 0, none⟩ = some (.int .i64 1) := s0.cell 0
              have k1 : w0.cell? ⟨bx, 1, none⟩ = some (.int .i64 x) := s0.cell 1
              have k2 : w0.cell? ⟨bx, 2, none⟩ = some (.int .i64 y) := s0.cell 2
              go_upto_region 12 with fail
              rw [← HW0.out, ← HBX.out]
              go_wp2_with fail
              refine (HC.out _).mono ?_
              rintro e w1 ⟨rfl, hq⟩
              have M1 := M0.below hq
              have s1 := s0.below hq s0.lt
              have hb1 := bstep hb0 hb0.size hq
              have k0 : w1.cell? ⟨bx, 0, none⟩ = some (.int .i64 1) := s1.cell 0
              have k1 : w1.cell? ⟨bx, 1, none⟩ = some (.int .i64 x) := s1.cell 1
              have k2 : w1.cell? ⟨bx, 2, none⟩ = some (.int .i64 y) := s1.cell 2
              clear hq
              have e0 : w1.cell? ⟨G + 2, 0, none⟩ = some (.int .i64 m.tr) := M1.g6.cell 0
              have HS1 : Hid (w1.drew.cell? ⟨G + 3, 0, none⟩ = some (.int .i64 m.at_.1) ∧ w1.drew.cell? ⟨G + 3, 1, none⟩ = some (.int .i64 m.at_.2) ∧ w1.drew.cell? ⟨bx, 1, none⟩ = some (.int .i64 x) ∧ w1.drew.cell? ⟨bx, 2, none⟩ = some (.int .i64 y)) := ⟨M1.g9.c20, M1.g9.c21, k1, k2⟩
              go_wp2
              refine wp_region_held_drew (S := fun W => W.cell? ⟨G + 3, 0, none⟩ = some (.int .i64 m.at_.1) ∧ W.cell? ⟨G + 3, 1, none⟩ = some (.int .i64 m.at_.2) ∧ W.cell? ⟨bx, 1, none⟩ = some (.int .i64 x) ∧ W.cell? ⟨bx, 2, none⟩ = some (.int .i64 y)) (by kernel_rfl) (HS1.out) (fun hH => ?_)
              refine take_run (i := 0) (v := ?_) (by decide) (by kernel_rfl) (by kernel_rfl) (by kernel_rfl) (fun _ _ _ _ h => h) hH rfl ?_ ?_
              rotate_left
              · (intro w hSw; (try dsimp only at hSw); (try go_split_ands); simp only [List.getElem_toArray, List.getElem_cons_zero]; go_simp; try with_reducible rfl)
              try simp (config := { failIfUnchanged := false }) only [Act.put, List.setIfInBounds_toArray, List.set_cons_zero, List.set_cons_succ, List.getElem_toArray, List.getElem_cons_zero, List.getElem_cons_succ]
              refine take_run (i := 2) (v := ?_) (by decide) (by kernel_rfl) (by kernel_rfl) (by kernel_rfl) (fun _ _ _ _ h => h) hH rfl ?_ ?_
              rotate_left
              · (intro w hSw; (try dsimp only at hSw); (try go_split_ands); simp only [List.getElem_toArray, List.getElem_cons_zero, List.getElem_cons_succ]; go_simp; try with_reducible rfl)
              try simp (config := { failIfUnchanged := false }) only [Act.put, List.setIfInBounds_toArray, List.set_cons_zero, List.set_cons_succ, List.getElem_toArray, List.getElem_cons_zero, List.getElem_cons_succ]
              refine take_run (i := 3) (v := ?_) (by decide) (by kernel_rfl) (by kernel_rfl) (by kernel_rfl) (fun _ _ _ _ h => h) hH rfl ?_ ?_
              rotate_left
              · (intro w hSw; (try dsimp only at hSw); (try go_split_ands); simp only [List.getElem_toArray, List.getElem_cons_zero, List.getElem_cons_succ]; go_simp; try with_reducible rfl)
              try simp (config := { failIfUnchanged := false }) only [Act.put, List.setIfInBounds_toArray, List.set_cons_zero, List.set_cons_succ, List.getElem_toArray, List.getElem_cons_zero, List.getElem_cons_succ]
              refine take_run (i := 4) (v := ?_) (by decide) (by kernel_rfl) (by kernel_rfl) (by kernel_rfl) (fun _ _ _ _ h => h) hH rfl ?_ ?_
              rotate_left
              · (intro w hSw; (try dsimp only at hSw); (try go_split_ands); simp only [List.getElem_toArray, List.getElem_cons_zero, List.getElem_cons_succ]; go_simp; try with_reducible rfl)
              try simp (config := { failIfUnchanged := false }) only [Act.put, List.setIfInBounds_toArray, List.set_cons_zero, List.set_cons_succ, List.getElem_toArray, List.getElem_cons_zero, List.getElem_cons_succ]
              refine take_two (i := 1) (j := 5) (by decide) (by decide) (by kernel_rfl) (fun K hK => ?_) (fun K hK => ?_)
              focus
                simp only [List.getElem_toArray, List.getElem_cons_zero, List.getElem_cons_succ]
                go_simp
                refine hK.out _ _ (by first | exact HS1.out | exact hS2 | exact hS3 _) (fun hH => ?_)
                clear hK K
                try simp (config := { failIfUnchanged := false }) only [Act.put, List.setIfInBounds_toArray, List.set_cons_zero, List.set_cons_succ, List.getElem_toArray, List.getElem_cons_zero, List.getElem_cons_succ]
                refine take_call (i := 5) (by decide) (by kernel_rfl) (fun K hK => ?_)
                simp only [List.getElem_toArray, List.getElem_cons_zero, List.getElem_cons_succ]
                go_simp
                go_at_call 44
                refine (HMV.out _).mono ?_
                rintro e w2 ⟨rfl, hq2⟩
                have hq2 : Below w1.heap.size w1 w2 := bstep (Below.drew (Below.refl _ _)) (Nat.le_refl _) hq2
                have M2 := M1.below hq2
                have s2 := s1.below hq2 s1.lt
                have d0 : w2.cell? ⟨G + 2, 0, none⟩ = some (.int .i64 m.tr) := M2.g6.cell 0
                have f0 := M2.g6.free 0
                have d3 := M2.g9.c20
                have d4 := M2.g9.c21
                have f3 := M2.g9.free 0
                have f4 := M2.g9.free 1
                have q1 : w2.cell? ⟨bx, 1, none⟩ = some (.int .i64 x) := s2.cell 1
                have q2 : w2.cell? ⟨bx, 2, none⟩ = some (.int .i64 y) := s2.cell 2
                have hS2 : w2.cell? ⟨G + 3, 0, none⟩ = some (.int .i64 m.at_.1) ∧ w2.cell? ⟨G + 3, 1, none⟩ = some (.int .i64 m.at_.2) ∧ w2.cell? ⟨bx, 1, none⟩ = some (.int .i64 x) ∧ w2.cell? ⟨bx, 2, none⟩ = some (.int .i64 y) := ⟨d3, d4, q1, q2⟩
                have hS3 := fun v => rw_set hS2 hbn 0 v
                refine hK.out _ _ (by first | exact HS1.out | exact hS2 | exact hS3 _) (fun hH => ?_)
                clear hK K
                try simp (config := { failIfUnchanged := false }) only [Act.put, List.setIfInBounds_toArray, List.set_cons_zero, List.set_cons_succ, List.getElem_toArray, List.getElem_cons_zero, List.getElem_cons_succ]
                refine take_run (i := 6) (v := ?_) (by decide) (by kernel_rfl) (by kernel_rfl) (by kernel_rfl) (fun _ _ _ _ h => h) hH rfl ?_ ?_
                rotate_left
                · (intro w hSw; (try dsimp only at hSw); (try go_split_ands); simp only [List.getElem_toArray, List.getElem_cons_zero, List.getElem_cons_succ]; go_simp; try with_reducible rfl)
                try simp (config := { failIfUnchanged := false }) only [Act.put, List.setIfInBounds_toArray, List.set_cons_zero, List.set_cons_succ, List.getElem_toArray, List.getElem_cons_zero, List.getElem_cons_succ]
                refine take_run (i := 7) (v := ?_) (by decide) (by kernel_rfl) (by kernel_rfl) (by kernel_rfl) (fun _ _ _ _ h => h) hH rfl ?_ ?_
                rotate_left
                · (intro w hSw; (try dsimp only at hSw); (try go_split_ands); simp only [List.getElem_toArray, List.getElem_cons_zero, List.getElem_cons_succ]; go_simp; try with_reducible rfl)
                try simp (config := { failIfUnchanged := false }) only [Act.put, List.setIfInBounds_toArray, List.set_cons_zero, List.set_cons_succ, List.getElem_toArray, List.getElem_cons_zero, List.getElem_cons_succ]
                refine take_call (i := 8) (by decide) (by kernel_rfl) (fun K hK => ?_)
                simp only [List.getElem_toArray, List.getElem_cons_zero, List.getElem_cons_succ]
                go_simp
                refine hK.out _ _ (by first | exact HS1.out | exact hS2 | exact hS3 _) (fun hH => ?_)
                clear hK K
                try simp (config := { failIfUnchanged := false }) only [Act.put, List.setIfInBounds_toArray, List.set_cons_zero, List.set_cons_succ, List.getElem_toArray, List.getElem_cons_zero, List.getElem_cons_succ]
                refine wpAnyH_done (by kernel_rfl) ?_ _
              rotate_left 1
              focus
                simp only [List.getElem_toArray, List.getElem_cons_zero, List.getElem_cons_succ]
                go_simp
                go_at_call 44
                refine (HMV.out _).mono ?_
                rintro e w2 ⟨rfl, hq2⟩
                have hq2 : Below w1.heap.size w1 w2 := bstep (Below.drew (Below.refl _ _)) (Nat.le_refl _) hq2
                have M2 := M1.below hq2
                have s2 := s1.below hq2 s1.lt
                have d0 : w2.cell? ⟨G + 2, 0, none⟩ = some (.int .i64 m.tr) := M2.g6.cell 0
                have f0 := M2.g6.free 0
                have d3 := M2.g9.c20
                have d4 := M2.g9.c21
                have f3 := M2.g9.free 0
                have f4 := M2.g9.free 1
                have q1 : w2.cell? ⟨bx, 1, none⟩ = some (.int .i64 x) := s2.cell 1
                have q2 : w2.cell? ⟨bx, 2, none⟩ = some (.int .i64 y) := s2.cell 2
                have hS2 : w2.cell? ⟨G + 3, 0, none⟩ = some (.int .i64 m.at_.1) ∧ w2.cell? ⟨G + 3, 1, none⟩ = some (.int .i64 m.at_.2) ∧ w2.cell? ⟨bx, 1, none⟩ = some (.int .i64 x) ∧ w2.cell? ⟨bx, 2, none⟩ = some (.int .i64 y) := ⟨d3, d4, q1, q2⟩
                have hS3 := fun v => rw_set hS2 hbn 0 v
                refine hK.out _ _ (by first | exact HS1.out | exact hS2 | exact hS3 _) (fun hH => ?_)
                clear hK K
                try simp (config := { failIfUnchanged := false }) only [Act.put, List.setIfInBounds_toArray, List.set_cons_zero, List.set_cons_succ, List.getElem_toArray, List.getElem_cons_zero, List.getElem_cons_succ]
                refine take_call (i := 1) (by decide) (by kernel_rfl) (fun K hK => ?_)
                simp only [List.getElem_toArray, List.getElem_cons_zero, List.getElem_cons_succ]
                go_simp
                refine hK.out _ _ (by first | exact HS1.out | exact hS2 | exact hS3 _) (fun hH => ?_)
                clear hK K
                try simp (config := { failIfUnchanged := false }) only [Act.put, List.setIfInBounds_toArray, List.set_cons_zero, List.set_cons_succ, List.getElem_toArray, List.getElem_cons_zero, List.getElem_cons_succ]
                refine take_run (i := 6) (v := ?_) (by decide) (by kernel_rfl) (by kernel_rfl) (by kernel_rfl) (fun _ _ _ _ h => h) hH rfl ?_ ?_
                rotate_left
                · (intro w hSw; (try dsimp only at hSw); (try go_split_ands); simp only [List.getElem_toArray, List.getElem_cons_zero, List.getElem_cons_succ]; go_simp; try with_reducible rfl)
                try simp (config := { failIfUnchanged := false }) only [Act.put, List.setIfInBounds_toArray, List.set_cons_zero, List.set_cons_succ, List.getElem_toArray, List.getElem_cons_zero, List.getElem_cons_succ]
                refine take_run (i := 7) (v := ?_) (by decide) (by kernel_rfl) (by kernel_rfl) (by kernel_rfl) (fun _ _ _ _ h => h) hH rfl ?_ ?_
                rotate_left
                · (intro w hSw; (try dsimp only at hSw); (try go_split_ands); simp only [List.getElem_toArray, List.getElem_cons_zero, List.getElem_cons_succ]; go_simp; try with_reducible rfl)
                try simp (config := { failIfUnchanged := false }) only [Act.put, List.setIfInBounds_toArray, List.set_cons_zero, List.set_cons_succ, List.getElem_toArray, List.getElem_cons_zero, List.getElem_cons_succ]
                refine take_call (i := 8) (by decide) (by kernel_rfl) (fun K hK => ?_)
                simp only [List.getElem_toArray, List.getElem_cons_zero, List.getElem_cons_succ]
                go_simp
                refine hK.out _ _ (by first | exact HS1.out | exact hS2 | exact hS3 _) (fun hH => ?_)
                clear hK K
                try simp (config := { failIfUnchanged := false }) only [Act.put, List.setIfInBounds_toArray, List.set_cons_zero, List.set_cons_succ, List.getElem_toArray, List.getElem_cons_zero, List.getElem_cons_succ]
                refine wpAnyH_done (by kernel_rfl) ?_ _
              all_goals
                have hq3 := bstep hb1 hb1.size hq2
                have M3 := M2.go 0 (m.tr + mv) x y { m with tr := m.tr + moveF m.at_ (x, y), at_ := (x, y) } (by rw [HMW.out]; rfl) rfl rfl (fun h => ⟨h, rfl⟩)
                have hb3 := ((hq3.setCell (p := ⟨G + 2, 0, none⟩) (by have := HG.out; show _ ≤ G + 2; omega) (.int .i64 (m.tr + mv))).setCell (p := ⟨G + 3, 0, none⟩) (by have := HG.out; show _ ≤ G + 3; omega) (.int .i64 x)).setCell (p := ⟨G + 3, 1, none⟩) (by have := HG.out; show _ ≤ G + 3; omega) (.int .i64 y)
                have HRR : Hid (runTo Mc.start l = runTo { m with tr := m.tr + moveF m.at_ (x, y), at_ := (x, y) } (l.drop (k + 1))) := by
                  show _ = _
                  rw [hrun.out, run_next hx.out (by rw [HDO.out]), HDO.out]
                have HFF : Hid (Fit { m with tr := m.tr + moveF m.at_ (x, y), at_ := (x, y) } (k + 1)) := by have h := hfit.out.do (1, (x, y)); rw [HDO.out] at h; exact h
                go_wp2
                go_roundw
                case rel => exact ⟨k + 1, _, by omega, by go_num, (by show _ = Value.bool m.lit; rw [hl]), HRR.out, HFF.out, M3, hb3⟩
                case measure => simp [intOf]; omega
        · by_cases ho2 : o = 2
          · subst ho2
            rcases Bool.eq_false_or_eq_true m.lit with hl | hl
            · have HR : Hid (runF l = (Mc.start, 14)) := by
                show _ = _
                have h := hrun.out.trans (run_stop hx.out (by rw [do_pierce_lit hl]; exact (by decide : (14 : Int) ≠ 0)))
                rw [do_pierce_lit hl] at h
                rw [runF_bad HN.out (by rw [h]; exact (by decide : (14 : Int) ≠ 0)), h]
              have k0 : w0.cell? ⟨bx, 0, none⟩ = some (.int .i64 2) := s0.cell 0
              have k1 : w0.cell? ⟨bx, 1, none⟩ = some (.int .i64 x) := s0.cell 1
              have k2 : w0.cell? ⟨bx, 2, none⟩ = some (.int .i64 y) := s0.cell 2
              go_upto_region 12 with fail
              rw [← HW0.out, ← HBX.out]
              have M1 := M0
              have hb1 := hb0
              have hgE := ((M1.g2.set_ 0 (.int .i64 0)).set_ 1 (.int .i64 0)).set_ 2 (.int .i64 0)
              have hbE := ((hb1.setCell (p := ⟨G, 0, none⟩) (by rw [HG.out]; exact Nat.le_refl _) (.int .i64 0)).setCell (p := ⟨G, 1, none⟩) (by rw [HG.out]; exact Nat.le_refl _) (.int .i64 0)).setCell (p := ⟨G, 2, none⟩) (by rw [HG.out]; exact Nat.le_refl _) (.int .i64 0)
              have z0 := M1.g5.cell 0
              have z1 := M1.g5.cell 1
              have z2 := M1.g5.cell 2
              have j0 := M1.g2.cell 0
              have j1 := M1.g2.cell 1
              have j2 := M1.g2.cell 2
              have f0 := M1.g2.free 0
              have f1 := M1.g2.free 1
              have f2 := M1.g2.free 2
              simp only [List.getElem?_toArray, List.getElem?_cons_zero, List.getElem?_cons_succ] at z0 z1 z2 j0 j1 j2
              go_wp2
              exact bodyPost_ret (results_rtt (p := 2) (u := 3) (v := 4) (ty := 42) (vu := .slice none 0 0) (vv := .int .i64 14) rfl _ _ G 42 #[.int .i64 0, .int .i64 0, .int .i64 0] (0, 0) _ rfl rfl rfl hgE Tryd.underlying42 rfl rtot_size) rfl (by rw [HR.out]; exact ⟨_, rfl, Rep.slice_nil _ _ _, hbE⟩)
            · have HDO := Lib.hid (do_pierce (p := (x, y)) hl)
              have HRR : Hid (runTo Mc.start l = runTo { m with pi := m.pi + 1, lit := true, ring := [m.at_] } (l.drop (k + 1))) := by
                show _ = _
                rw [hrun.out, run_next hx.out (by rw [HDO.out]), HDO.out]
              have HFF : Hid (Fit { m with pi := m.pi + 1, lit := true, ring := [m.at_] } (k + 1)) := by have h := hfit.out.do (2, (x, y)); rw [HDO.out] at h; exact h
              have hp0 := hfit.out.pi0
              have hp1 := hfit.out.pi1
              have hsum : IntKind.i64.wrap (m.pi + 1) = m.pi + 1 := IntWalk.i64_in _ (by have := HN.out; omega)
              have M3 := M0.lit
              have hb3 := (hb0.setCell (p := ⟨G + 2, 2, none⟩) (by have := HG.out; show _ ≤ G + 2; omega) (.int .i64 (m.pi + 1))).alloc (by have := hb0.size; simp [World.setCell]; omega) (.cells #[.int .i64 m.at_.1, .int .i64 m.at_.2] 47)
              have k0 : w0.cell? ⟨bx, 0, none⟩ = some (.int .i64 2) := s0.cell 0
              have k1 : w0.cell? ⟨bx, 1, none⟩ = some (.int .i64 x) := s0.cell 1
              have k2 : w0.cell? ⟨bx, 2, none⟩ = some (.int .i64 y) := s0.cell 2
              go_upto_region 12 with fail
              rw [← HW0.out, ← HBX.out]
              have j2 : w0.cell? ⟨G + 2, 2, none⟩ = some (.int .i64 m.pi) := M0.g6.cell 2
              have f2 := M0.g6.free 2
              have a0 := M0.g9.c20
              have a1 := M0.g9.c21
              go_wp2
              go_roundw
              case rel => exact ⟨k + 1, _, by omega, by go_num, rfl, HRR.out, HFF.out, M3, hb3⟩
              case measure => simp [intOf]; omega
          · by_cases ho3 : o = 3
            · subst ho3
              rcases Bool.eq_false_or_eq_true (farB (x, y)) with hfa | hfa
              · have HR : Hid (runF l = (Mc.start, 9)) := by
                  show _ = _
                  have h := hrun.out.trans (run_stop hx.out (by rw [do_cut_far hfa]; exact (by decide : (9 : Int) ≠ 0)))
                  rw [do_cut_far hfa] at h
                  rw [runF_bad HN.out (by rw [h]; exact (by decide : (9 : Int) ≠ 0)), h]
                have hC := reffar_any x y
                rw [hfa] at hC
                have HC := Lib.hid hC
                clear hC hfa
                have k0 : w0.cell? ⟨bx, 0, none⟩ = some (.int .i64 3) := s0.cell 0
                have k1 : w0.cell? ⟨bx, 1, none⟩ = some (.int .i64 x) := s0.cell 1
                have k2 : w0.cell? ⟨bx, 2, none⟩ = some (.int .i64 y) := s0.cell 2
                go_upto_region 12 with fail
                rw [← HW0.out, ← HBX.out]
                go_wp2_with fail
                refine (HC.out _).mono ?_
                rintro e w1 ⟨rfl, hq⟩
                have M1 := M0.below hq
                have s1 := s0.below hq s0.lt
                have hb1 := bstep hb0 hb0.size hq
                have k0 : w1.cell? ⟨bx, 0, none⟩ = some (.int .i64 3) := s1.cell 0
                have k1 : w1.cell? ⟨bx, 1, none⟩ = some (.int .i64 x) := s1.cell 1
                have k2 : w1.cell? ⟨bx, 2, none⟩ = some (.int .i64 y) := s1.cell 2
                clear hq
                have hgE := ((M1.g2.set_ 0 (.int .i64 0)).set_ 1 (.int .i64 0)).set_ 2 (.int .i64 0)
                have hbE := ((hb1.setCell (p := ⟨G, 0, none⟩) (by rw [HG.out]; exact Nat.le_refl _) (.int .i64 0)).setCell (p := ⟨G, 1, none⟩) (by rw [HG.out]; exact Nat.le_refl _) (.int .i64 0)).setCell (p := ⟨G, 2, none⟩) (by rw [HG.out]; exact Nat.le_refl _) (.int .i64 0)
                have z0 := M1.g5.cell 0
                have z1 := M1.g5.cell 1
                have z2 := M1.g5.cell 2
                have j0 := M1.g2.cell 0
                have j1 := M1.g2.cell 1
                have j2 := M1.g2.cell 2
                have f0 := M1.g2.free 0
                have f1 := M1.g2.free 1
                have f2 := M1.g2.free 2
                simp only [List.getElem?_toArray, List.getElem?_cons_zero, List.getElem?_cons_succ] at z0 z1 z2 j0 j1 j2
                go_wp2
                exact bodyPost_ret (results_rtt (p := 2) (u := 3) (v := 4) (ty := 42) (vu := .slice none 0 0) (vv := .int .i64 9) rfl _ _ G 42 #[.int .i64 0, .int .i64 0, .int .i64 0] (0, 0) _ rfl rfl rfl hgE Tryd.underlying42 rfl rtot_size) rfl (by rw [HR.out]; exact ⟨_, rfl, Rep.slice_nil _ _ _, hbE⟩)
              · rcases Bool.eq_false_or_eq_true m.lit with hl | hl
                · have HDO := Lib.hid (do_cut hfa hl)
                  have hnn := far_near hfa
                  have HNX : Hid (inI64 x ∧ inI64 y) := by obtain ⟨⟨a, b⟩, c, d⟩ := hnn; simp only [] at a b c d; show inI64 x ∧ inI64 y; unfold inI64; omega
                  obtain ⟨mv, hmv⟩ : ∃ r, moveF m.at_ (x, y) = r := ⟨_, rfl⟩
                  have hmb := move_bd hfit.out.near hnn
                  rw [hmv] at hmb
                  have htr := hfit.out.bu1
                  have htr0 := hfit.out.bu0
                  have hsum : IntKind.i64.wrap (m.bu + mv) = m.bu + mv := IntWalk.i64_in _ (by have := HN.out; omega)
                  have HMV : Hid (∀ W, Calls Tryd.prog 44 #[.agg #[.int .i64 m.at_.1, .int .i64 m.at_.2], .agg #[.int .i64 x, .int .i64 y]] W (Ret (.int .i64 mv) W)) := fun W => by
                    rw [← hmv]; exact refMove_any m.at_ (x, y) W hfit.out.near.1 hfit.out.near.2 hnn.1 hnn.2
                  have HMW := Lib.hid hmv
                  have hrl := hfit.out.rl
                  obtain ⟨i0, hinf, hz0, hz1, hz2⟩ := info_parts nc_pt_info
                  clear hmv hmb htr htr0 hnn
                  have hC := reffar_any x y
                  rw [hfa] at hC
                  have HC := Lib.hid hC
                  clear hC hfa
                  have k0 : w0.cell? ⟨bx, 0, none⟩ = some (.int .i64 3) := s0.cell 0
                  have k1 : w0.cell? ⟨bx, 1, none⟩ = some (.int .i64 x) := s0.cell 1
                  have k2 : w0.cell? ⟨bx, 2, none⟩ = some (.int .i64 y) := s0.cell 2
                  go_upto_region 12 with fail
                  rw [← HW0.out, ← HBX.out]
                  go_wp2_with fail
                  refine (HC.out _).mono ?_
                  rintro e w1 ⟨rfl, hq⟩
                  have M1 := M0.below hq
                  have s1 := s0.below hq s0.lt
                  have hb1 := bstep hb0 hb0.size hq
                  have k0 : w1.cell? ⟨bx, 0, none⟩ = some (.int .i64 3) := s1.cell 0
                  have k1 : w1.cell? ⟨bx, 1, none⟩ = some (.int .i64 x) := s1.cell 1
                  have k2 : w1.cell? ⟨bx, 2, none⟩ = some (.int .i64 y) := s1.cell 2
                  clear hq
                  have e0 : w1.cell? ⟨G + 2, 1, none⟩ = some (.int .i64 m.bu) := M1.g6.cell 1
                  have HS1 : Hid (w1.drew.cell? ⟨G + 3, 0, none⟩ = some (.int .i64 m.at_.1) ∧ w1.drew.cell? ⟨G + 3, 1, none⟩ = some (.int .i64 m.at_.2) ∧ w1.drew.cell? ⟨bx, 1, none⟩ = some (.int .i64 x) ∧ w1.drew.cell? ⟨bx, 2, none⟩ = some (.int .i64 y)) := ⟨M1.g9.c20, M1.g9.c21, k1, k2⟩
                  go_wp2
                  refine wp_region_held_drew (S := fun W => W.cell? ⟨G + 3, 0, none⟩ = some (.int .i64 m.at_.1) ∧ W.cell? ⟨G + 3, 1, none⟩ = some (.int .i64 m.at_.2) ∧ W.cell? ⟨bx, 1, none⟩ = some (.int .i64 x) ∧ W.cell? ⟨bx, 2, none⟩ = some (.int .i64 y)) (by kernel_rfl) (HS1.out) (fun hH => ?_)
                  refine take_run (i := 0) (v := ?_) (by decide) (by kernel_rfl) (by kernel_rfl) (by kernel_rfl) (fun _ _ _ _ h => h) hH rfl ?_ ?_
                  rotate_left
                  · (intro w hSw; (try dsimp only at hSw); (try go_split_ands); simp only [List.getElem_toArray, List.getElem_cons_zero]; go_simp; try with_reducible rfl)
                  try simp (config := { failIfUnchanged := false }) only [Act.put, List.setIfInBounds_toArray, List.set_cons_zero, List.set_cons_succ, List.getElem_toArray, List.getElem_cons_zero, List.getElem_cons_succ]
                  refine take_run (i := 2) (v := ?_) (by decide) (by kernel_rfl) (by kernel_rfl) (by kernel_rfl) (fun _ _ _ _ h => h) hH rfl ?_ ?_
                  rotate_left
                  · (intro w hSw; (try dsimp only at hSw); (try go_split_ands); simp only [List.getElem_toArray, List.getElem_cons_zero, List.getElem_cons_succ]; go_simp; try with_reducible rfl)
                  try simp (config := { failIfUnchanged := false }) only [Act.put, List.setIfInBounds_toArray, List.set_cons_zero, List.set_cons_succ, List.getElem_toArray, List.getElem_cons_zero, List.getElem_cons_succ]
                  refine take_run (i := 3) (v := ?_) (by decide) (by kernel_rfl) (by kernel_rfl) (by kernel_rfl) (fun _ _ _ _ h => h) hH rfl ?_ ?_
                  rotate_left
                  · (intro w hSw; (try dsimp only at hSw); (try go_split_ands); simp only [List.getElem_toArray, List.getElem_cons_zero, List.getElem_cons_succ]; go_simp; try with_reducible rfl)
                  try simp (config := { failIfUnchanged := false }) only [Act.put, List.setIfInBounds_toArray, List.set_cons_zero, List.set_cons_succ, List.getElem_toArray, List.getElem_cons_zero, List.getElem_cons_succ]
                  refine take_run (i := 4) (v := ?_) (by decide) (by kernel_rfl) (by kernel_rfl) (by kernel_rfl) (fun _ _ _ _ h => h) hH rfl ?_ ?_
                  rotate_left
                  · (intro w hSw; (try dsimp only at hSw); (try go_split_ands); simp only [List.getElem_toArray, List.getElem_cons_zero, List.getElem_cons_succ]; go_simp; try with_reducible rfl)
                  try simp (config := { failIfUnchanged := false }) only [Act.put, List.setIfInBounds_toArray, List.set_cons_zero, List.set_cons_succ, List.getElem_toArray, List.getElem_cons_zero, List.getElem_cons_succ]
                  refine take_two (i := 1) (j := 5) (by decide) (by decide) (by kernel_rfl) (fun K hK => ?_) (fun K hK => ?_)
                  focus
                    simp only [List.getElem_toArray, List.getElem_cons_zero, List.getElem_cons_succ]
                    go_simp
                    refine hK.out _ _ (by first | exact HS1.out | exact hS2 | exact hS3 _) (fun hH => ?_)
                    clear hK K
                    try simp (config := { failIfUnchanged := false }) only [Act.put, List.setIfInBounds_toArray, List.set_cons_zero, List.set_cons_succ, List.getElem_toArray, List.getElem_cons_zero, List.getElem_cons_succ]
                    refine take_call (i := 5) (by decide) (by kernel_rfl) (fun K hK => ?_)
                    simp only [List.getElem_toArray, List.getElem_cons_zero, List.getElem_cons_succ]
                    go_simp
                    go_at_call 44
                    refine (HMV.out _).mono ?_
                    rintro e w2 ⟨rfl, hq2⟩
                    have hq2 : Below w1.heap.size w1 w2 := bstep (Below.drew (Below.refl _ _)) (Nat.le_refl _) hq2
                    have M2 := M1.below hq2
                    have s2 := s1.below hq2 s1.lt
                    have d1 : w2.cell? ⟨G + 2, 1, none⟩ = some (.int .i64 m.bu) := M2.g6.cell 1
                    have f1 := M2.g6.free 1
                    have d3 := M2.g9.c20
                    have d4 := M2.g9.c21
                    have f3 := M2.g9.free 0
                    have f4 := M2.g9.free 1
                    have q1 : w2.cell? ⟨bx, 1, none⟩ = some (.int .i64 x) := s2.cell 1
                    have q2 : w2.cell? ⟨bx, 2, none⟩ = some (.int .i64 y) := s2.cell 2
                    have hS2 : w2.cell? ⟨G + 3, 0, none⟩ = some (.int .i64 m.at_.1) ∧ w2.cell? ⟨G + 3, 1, none⟩ = some (.int .i64 m.at_.2) ∧ w2.cell? ⟨bx, 1, none⟩ = some (.int .i64 x) ∧ w2.cell? ⟨bx, 2, none⟩ = some (.int .i64 y) := ⟨d3, d4, q1, q2⟩
                    have hS3 := fun v => rw_set hS2 hbn 1 v
                    refine hK.out _ _ (by first | exact HS1.out | exact hS2 | exact hS3 _) (fun hH => ?_)
                    clear hK K
                    try simp (config := { failIfUnchanged := false }) only [Act.put, List.setIfInBounds_toArray, List.set_cons_zero, List.set_cons_succ, List.getElem_toArray, List.getElem_cons_zero, List.getElem_cons_succ]
                    refine take_run (i := 6) (v := ?_) (by decide) (by kernel_rfl) (by kernel_rfl) (by kernel_rfl) (fun _ _ _ _ h => h) hH rfl ?_ ?_
                    rotate_left
                    · (intro w hSw; (try dsimp only at hSw); (try go_split_ands); simp only [List.getElem_toArray, List.getElem_cons_zero, List.getElem_cons_succ]; go_simp; try with_reducible rfl)
                    try simp (config := { failIfUnchanged := false }) only [Act.put, List.setIfInBounds_toArray, List.set_cons_zero, List.set_cons_succ, List.getElem_toArray, List.getElem_cons_zero, List.getElem_cons_succ]
                    refine take_run (i := 7) (v := ?_) (by decide) (by kernel_rfl) (by kernel_rfl) (by kernel_rfl) (fun _ _ _ _ h => h) hH rfl ?_ ?_
                    rotate_left
                    · (intro w hSw; (try dsimp only at hSw); (try go_split_ands); simp only [List.getElem_toArray, List.getElem_cons_zero, List.getElem_cons_succ]; go_simp; try with_reducible rfl)
                    try simp (config := { failIfUnchanged := false }) only [Act.put, List.setIfInBounds_toArray, List.set_cons_zero, List.set_cons_succ, List.getElem_toArray, List.getElem_cons_zero, List.getElem_cons_succ]
                    refine take_call (i := 8) (by decide) (by kernel_rfl) (fun K hK => ?_)
                    simp only [List.getElem_toArray, List.getElem_cons_zero, List.getElem_cons_succ]
                    go_simp
                    refine hK.out _ _ (by first | exact HS1.out | exact hS2 | exact hS3 _) (fun hH => ?_)
                    clear hK K
                    try simp (config := { failIfUnchanged := false }) only [Act.put, List.setIfInBounds_toArray, List.set_cons_zero, List.set_cons_succ, List.getElem_toArray, List.getElem_cons_zero, List.getElem_cons_succ]
                    refine wpAnyH_done (by kernel_rfl) ?_ _
                  rotate_left 1
                  focus
                    simp only [List.getElem_toArray, List.getElem_cons_zero, List.getElem_cons_succ]
                    go_simp
                    go_at_call 44
                    refine (HMV.out _).mono ?_
                    rintro e w2 ⟨rfl, hq2⟩
                    have hq2 : Below w1.heap.size w1 w2 := bstep (Below.drew (Below.refl _ _)) (Nat.le_refl _) hq2
                    have M2 := M1.below hq2
                    have s2 := s1.below hq2 s1.lt
                    have d1 : w2.cell? ⟨G + 2, 1, none⟩ = some (.int .i64 m.bu) := M2.g6.cell 1
                    have f1 := M2.g6.free 1
                    have d3 := M2.g9.c20
                    have d4 := M2.g9.c21
                    have f3 := M2.g9.free 0
                    have f4 := M2.g9.free 1
                    have q1 : w2.cell? ⟨bx, 1, none⟩ = some (.int .i64 x) := s2.cell 1
                    have q2 : w2.cell? ⟨bx, 2, none⟩ = some (.int .i64 y) := s2.cell 2
                    have hS2 : w2.cell? ⟨G + 3, 0, none⟩ = some (.int .i64 m.at_.1) ∧ w2.cell? ⟨G + 3, 1, none⟩ = some (.int .i64 m.at_.2) ∧ w2.cell? ⟨bx, 1, none⟩ = some (.int .i64 x) ∧ w2.cell? ⟨bx, 2, none⟩ = some (.int .i64 y) := ⟨d3, d4, q1, q2⟩
                    have hS3 := fun v => rw_set hS2 hbn 1 v
                    refine hK.out _ _ (by first | exact HS1.out | exact hS2 | exact hS3 _) (fun hH => ?_)
                    clear hK K
                    try simp (config := { failIfUnchanged := false }) only [Act.put, List.setIfInBounds_toArray, List.set_cons_zero, List.set_cons_succ, List.getElem_toArray, List.getElem_cons_zero, List.getElem_cons_succ]
                    refine take_call (i := 1) (by decide) (by kernel_rfl) (fun K hK => ?_)
                    simp only [List.getElem_toArray, List.getElem_cons_zero, List.getElem_cons_succ]
                    go_simp
                    refine hK.out _ _ (by first | exact HS1.out | exact hS2 | exact hS3 _) (fun hH => ?_)
                    clear hK K
                    try simp (config := { failIfUnchanged := false }) only [Act.put, List.setIfInBounds_toArray, List.set_cons_zero, List.set_cons_succ, List.getElem_toArray, List.getElem_cons_zero, List.getElem_cons_succ]
                    refine take_run (i := 6) (v := ?_) (by decide) (by kernel_rfl) (by kernel_rfl) (by kernel_rfl) (fun _ _ _ _ h => h) hH rfl ?_ ?_
                    rotate_left
                    · (intro w hSw; (try dsimp only at hSw); (try go_split_ands); simp only [List.getElem_toArray, List.getElem_cons_zero, List.getElem_cons_succ]; go_simp; try with_reducible rfl)
                    try simp (config := { failIfUnchanged := false }) only [Act.put, List.setIfInBounds_toArray, List.set_cons_zero, List.set_cons_succ, List.getElem_toArray, List.getElem_cons_zero, List.getElem_cons_succ]
                    refine take_run (i := 7) (v := ?_) (by decide) (by kernel_rfl) (by kernel_rfl) (by kernel_rfl) (fun _ _ _ _ h => h) hH rfl ?_ ?_
                    rotate_left
                    · (intro w hSw; (try dsimp only at hSw); (try go_split_ands); simp only [List.getElem_toArray, List.getElem_cons_zero, List.getElem_cons_succ]; go_simp; try with_reducible rfl)
                    try simp (config := { failIfUnchanged := false }) only [Act.put, List.setIfInBounds_toArray, List.set_cons_zero, List.set_cons_succ, List.getElem_toArray, List.getElem_cons_zero, List.getElem_cons_succ]
                    refine take_call (i := 8) (by decide) (by kernel_rfl) (fun K hK => ?_)
                    simp only [List.getElem_toArray, List.getElem_cons_zero, List.getElem_cons_succ]
                    go_simp
                    refine hK.out _ _ (by first | exact HS1.out | exact hS2 | exact hS3 _) (fun hH => ?_)
                    clear hK K
                    try simp (config := { failIfUnchanged := false }) only [Act.put, List.setIfInBounds_toArray, List.set_cons_zero, List.set_cons_succ, List.getElem_toArray, List.getElem_cons_zero, List.getElem_cons_succ]
                    refine wpAnyH_done (by kernel_rfl) ?_ _
                  all_goals
                    have hq3 := bstep hb1 hb1.size hq2
                    have M3 := M2.go 1 (m.bu + mv) x y { m with bu := m.bu + moveF m.at_ (x, y), at_ := (x, y) } (by rw [HMW.out]; rfl) rfl rfl (fun h => ⟨h, rfl⟩)
                    have hb3 := ((hq3.setCell (p := ⟨G + 2, 1, none⟩) (by have := HG.out; show _ ≤ G + 2; omega) (.int .i64 (m.bu + mv))).setCell (p := ⟨G + 3, 0, none⟩) (by have := HG.out; show _ ≤ G + 3; omega) (.int .i64 x)).setCell (p := ⟨G + 3, 1, none⟩) (by have := HG.out; show _ ≤ G + 3; omega) (.int .i64 y)
                    obtain ⟨w3, hw3⟩ : ∃ W, W = ((w2.setCell ⟨G + 2, 1, none⟩ (.int .i64 (m.bu + mv))).setCell ⟨G + 3, 0, none⟩ (.int .i64 x)).setCell ⟨G + 3, 1, none⟩ (.int .i64 y) := ⟨_, rfl⟩
                    rw [← hw3] at M3 hb3
                    have HW3 := Lib.hid hw3
                    obtain ⟨base, hB1, hB2, hB3, hB4⟩ := M3.ex
                    have hO3 : OwnP w3 base 47 _ m.ring := hB4 hl
                    have HM3 := Lib.hid M3
                    have HB3 := Lib.hid hB3
                    have p0 : w3.cell? ⟨G + 3, 0, none⟩ = some (.int .i64 x) := M3.g9.c20
                    have p1 : w3.cell? ⟨G + 3, 1, none⟩ = some (.int .i64 y) := M3.g9.c21
                    clear hw3 M3 hB3 hB4 hS2 hS3
                    go_upto_region 29 with fail
                    rw [← HW3.out]
                    clear d3 d4 q1 q2 f3 f4
                    go_wp2_with (at_builtin; refine wpList_append_own _ rfl _ _ 54 rfl base 47 i0 (.agg #[.int .i64 0, .int .i64 0]) 2 16 Tryd.underlying54 hinf hz0 hz1 hz2 rfl (by decide) _ _ _ rfl (World.ownsRow.alloc hO3 _) ⟨w3.heap.size, 0, none⟩ 1 1 [.int .i64 x, .int .i64 y] (by rfl) rfl (new_pr _ _ _ _) (pr_one _ _) (by unfold maxLen; omega) (by omega) (by simp; omega) ?_; intro v8 w8 hown8 hg8 _)
                    have hrn : { m with bu := m.bu + moveF m.at_ (x, y), at_ := (x, y), ring := m.ring ++ [(x, y)] }.ring = m.ring ++ [(x, y)] := rfl
                    have hb8 := (hb3.alloc hb3.size (.cells #[.int .i64 x, .int .i64 y] 47)).grown hg8 (by have := hb3.size; simp; omega) (fun j hj => by have h1 := (World.ownsRow.lt hO3 j hj).1; have h2 := HG.out; omega)
                    have M8 : RM G { m with bu := m.bu + moveF m.at_ (x, y), at_ := (x, y), ring := m.ring ++ [(x, y)] } v8 _ w8 := HM3.out.app hB1 hB2 HB3.out hO3 hg8 (ownP_snoc hown8)
                    have HRR : Hid (runTo Mc.start l = runTo { m with bu := m.bu + moveF m.at_ (x, y), at_ := (x, y), ring := m.ring ++ [(x, y)] } (l.drop (k + 1))) := by
                      show _ = _
                      rw [hrun.out, run_next hx.out (by rw [HDO.out]), HDO.out]
                    have HFF : Hid (Fit { m with bu := m.bu + moveF m.at_ (x, y), at_ := (x, y), ring := m.ring ++ [(x, y)] } (k + 1)) := by have h := hfit.out.do (3, (x, y)); rw [HDO.out] at h; exact h
                    go_wp2
                    go_roundw
                    case rel => exact ⟨k + 1, _, by omega, by go_num, (by show _ = Value.bool m.lit; rw [hl]), HRR.out, HFF.out, M8, hb8⟩
                    case measure => simp [intOf]; omega
                · have HR : Hid (runF l = (Mc.start, 14)) := by
                    show _ = _
                    have h := hrun.out.trans (run_stop hx.out (by rw [do_cut_off hfa hl]; exact (by decide : (14 : Int) ≠ 0)))
                    rw [do_cut_off hfa hl] at h
                    rw [runF_bad HN.out (by rw [h]; exact (by decide : (14 : Int) ≠ 0)), h]
                  have hC := reffar_any x y
                  rw [hfa] at hC
                  have HC := Lib.hid hC
                  clear hC hfa
                  have k0 : w0.cell? ⟨bx, 0, none⟩ = some (.int .i64 3) := s0.cell 0
                  have k1 : w0.cell? ⟨bx, 1, none⟩ = some (.int .i64 x) := s0.cell 1
                  have k2 : w0.cell? ⟨bx, 2, none⟩ = some (.int .i64 y) := s0.cell 2
                  go_upto_region 12 with fail
                  rw [← HW0.out, ← HBX.out]
                  go_wp2_with fail
                  refine (HC.out _).mono ?_
                  rintro e w1 ⟨rfl, hq⟩
                  have M1 := M0.below hq
                  have s1 := s0.below hq s0.lt
                  have hb1 := bstep hb0 hb0.size hq
                  have k0 : w1.cell? ⟨bx, 0, none⟩ = some (.int .i64 3) := s1.cell 0
                  have k1 : w1.cell? ⟨bx, 1, none⟩ = some (.int .i64 x) := s1.cell 1
                  have k2 : w1.cell? ⟨bx, 2, none⟩ = some (.int .i64 y) := s1.cell 2
                  clear hq
                  have hgE := ((M1.g2.set_ 0 (.int .i64 0)).set_ 1 (.int .i64 0)).set_ 2 (.int .i64 0)
                  have hbE := ((hb1.setCell (p := ⟨G, 0, none⟩) (by rw [HG.out]; exact Nat.le_refl _) (.int .i64 0)).setCell (p := ⟨G, 1, none⟩) (by rw [HG.out]; exact Nat.le_refl _) (.int .i64 0)).setCell (p := ⟨G, 2, none⟩) (by rw [HG.out]; exact Nat.le_refl _) (.int .i64 0)
                  have z0 := M1.g5.cell 0
                  have z1 := M1.g5.cell 1
                  have z2 := M1.g5.cell 2
                  have j0 := M1.g2.cell 0
                  have j1 := M1.g2.cell 1
                  have j2 := M1.g2.cell 2
                  have f0 := M1.g2.free 0
                  have f1 := M1.g2.free 1
                  have f2 := M1.g2.free 2
                  simp only [List.getElem?_toArray, List.getElem?_cons_zero, List.getElem?_cons_succ] at z0 z1 z2 j0 j1 j2
                  go_wp2
                  exact bodyPost_ret (results_rtt (p := 2) (u := 3) (v := 4) (ty := 42) (vu := .slice none 0 0) (vv := .int .i64 14) rfl _ _ G 42 #[.int .i64 0, .int .i64 0, .int .i64 0] (0, 0) _ rfl rfl rfl hgE Tryd.underlying42 rfl rtot_size) rfl (by rw [HR.out]; exact ⟨_, rfl, Rep.slice_nil _ _ _, hbE⟩)
            · by_cases ho4 : o = 4
              · subst ho4
                rcases Bool.eq_false_or_eq_true m.lit with hl | hl
                · have HDO := Lib.hid (do_off (p := (x, y)) hl)
                  have HRR : Hid (runTo Mc.start l = runTo { m with lit := false, rings := offRings m } (l.drop (k + 1))) := by
                    show _ = _
                    rw [hrun.out, run_next hx.out (by rw [HDO.out]), HDO.out]
                  have HFF : Hid (Fit { m with lit := false, rings := offRings m } (k + 1)) := by have h := hfit.out.do (4, (x, y)); rw [HDO.out] at h; exact h
                  obtain ⟨base, hB1, hB2, hB3, hB4⟩ := M0.ex
                  have hO := hB4 hl
                  obtain ⟨n, hn⟩ : ∃ n, m.ring.length = n + 1 := ⟨m.ring.length - 1, by have := hfit.out.rp hl; omega⟩
                  obtain ⟨gr, cap, hrv, hgr, hgrl⟩ := nc_own_form hO (by omega)
                  have hO' := hO
                  rw [hrv] at hO'
                  rw [hn] at hrv
                  subst hrv
                  obtain ⟨px, py, hpn⟩ : ∃ a b, m.ring[n]? = some (a, b) := ⟨_, _, List.getElem?_eq_getElem (by omega)⟩
                  obtain ⟨qx, qy, hp0⟩ : ∃ a b, m.ring[0]? = some (a, b) := ⟨_, _, List.getElem?_eq_getElem (by omega)⟩
                  obtain ⟨d0, d1⟩ := nc_own_at hO' hpn
                  obtain ⟨d2, d3⟩ := nc_own_at hO' hp0
                  rw [Nat.zero_mul] at d2 d3
                  have d3 : w0.cell? ⟨gr, 1, none⟩ = some (.int .i64 qy) := d3
                  have hcap : n + 1 ≤ cap := by
                    rcases hO.2 with ⟨h0, _⟩ | ⟨g', cap', cur, h0, _, _, hnc, _⟩
                    · cases h0
                    · injection h0 with _ _ h3
                      omega
                  have hrl := hfit.out.rl
                  have hn9 : n ≤ 20000 := by have := HN.out; omega
                  have HRB : Hid (∀ p ∈ m.ring, inI64 p.1 ∧ inI64 p.2) := fun p hp => by
                    obtain ⟨⟨a, b⟩, c, d⟩ := hfit.out.rn p hp
                    unfold inI64
                    omega
                  have HNN := Lib.hid hn
                  have HO := Lib.hid hO'
                  have HB3 := Lib.hid hB3
                  have M00 := Lib.hid M0
                  have q1 := nc_pt_eql
                  have q2 := nc_pt_eqg
                  have hrsl := hfit.out.rsl
                  have k0 : w0.cell? ⟨bx, 0, none⟩ = some (.int .i64 4) := s0.cell 0
                  have k1 : w0.cell? ⟨bx, 1, none⟩ = some (.int .i64 x) := s0.cell 1
                  have k2 : w0.cell? ⟨bx, 2, none⟩ = some (.int .i64 y) := s0.cell 2
                  by_cases hn0 : n = 0
                  · have HOF := Lib.hid (off_one (by rw [hn, hn0]))
                    subst hn0
                    clear hO hO' hB3 hB4 hn hpn hp0 hrl hrsl
                    go_upto_region 12 with fail
                    rw [← HW0.out, ← HBX.out]
                    go_wp2
                    go_quiet (fail)
                    go_wp2
                    go_roundw
                    case rel => exact ⟨k + 1, _, by omega, by go_num, rfl, HRR.out, HFF.out, M00.out.offq HOF.out _, below_drewN hb0 _⟩
                    case measure => simp [intOf]; omega
                  · by_cases hpq : (px, py) = (qx, qy)
                    · injection hpq with he1 he2
                      subst he1 he2
                      have HOF := Lib.hid (off_eq hn (by omega) hpn hp0)
                      have hni : (1 : Int) < (n : Int) + 1 := by omega
                      have hnd : decide ((1 : Int) < (n : Int) + 1) = true := decide_eq_true hni
                      have hnd0 : decide (0 < n) = true := decide_eq_true (by omega)
                      have hnd1 : decide ((0 : Int) < (n : Int)) = true := decide_eq_true (by omega)
                      have hnl : (n : Int) < (n : Int) + 1 := by omega
                      have hcapI : (n : Int) ≤ (cap : Int) := by omega
                      have hnc : n ≤ cap := by omega
                      obtain ⟨i1, hinf, hz0, hz1, hz2⟩ := info_parts nc_pts_info
                      clear hO hO' hB3 hB4 hn hpn hp0 hrl
                      go_upto_region 12 with fail
                      rw [← HW0.out, ← HBX.out]
                      go_wp2
                      go_quiet (fail)
                      generalize hw2 : World.drewN w0 _ = w2
                      have M2 : RM G m (.slice (some ⟨gr, 0, none⟩) (n + 1) cap) u7 w2 := by rw [← hw2]; exact M00.out.below (below_drewN (Below.refl _ _) _)
                      have hb2 : Below w.heap.size w w2 := by rw [← hw2]; exact below_drewN hb0 _
                      have hO2 : OwnP w2 base 47 (.slice (some ⟨gr, 0, none⟩) m.ring.length cap) m.ring := by rw [← hw2]; exact own_below HO.out (below_drewN (Below.refl _ _) _)
                      have hH2 : RingsAt (G + 4) base u7 m.rings w2 := by rw [← hw2]; exact HB3.out.keep (fun _ _ _ => rfl)
                      have hs2 : base ≤ w2.heap.size := by rw [← hw2]; exact hB2
                      obtain ⟨vs, hv1, hv2, hv3⟩ := hH2.ex
                      have hvl : vs.length ≤ 20000 := by have := HN.out; omega
                      have HV3 := Lib.hid hv3
                      have HV2 := Lib.hid hv2
                      have HLT := Lib.hid hH2.lt
                      have HM2 := Lib.hid M2
                      have HO2 := Lib.hid hO2
                      clear hw2 hv2 hv3 hH2 M2 hO2 d0 d1 d2 d3 k0 k1 k2 q1 q2 hrsl
                      go_wp2_with (at_builtin; refine wpList_append_own _ rfl _ _ 39 rfl (G + 4) 54 i1 (.slice none 0 0) 1 24 Tryd.underlying39 hinf hz0 hz1 hz2 rfl (by decide) _ _ _ rfl (World.ownsRow.alloc hv1 _) ⟨w2.heap.size, 0, none⟩ 1 1 [.slice (some ⟨gr, 0, none⟩) n cap] (by rfl) rfl (new1_cells w2 _ _) (fun u hu => by rw [List.mem_singleton.1 hu]; rfl) (by unfold maxLen; omega) (by omega) (by simp; omega) ?_; intro v8 w8 hown8 hg8 _)
                      have hb8 := (hb2.alloc hb2.size (.cells #[.slice (some ⟨gr, 0, none⟩) n cap] 54)).grown hg8 (by have := hb2.size; simp; omega) (fun j hj => by have h1 := (World.ownsRow.lt hv1 j hj).1; have h2 := HG.out; omega)
                      have M8 := HM2.out.offs hB1 hs2 hgr hv1 HV2.out HV3.out HLT.out HO2.out HRB.out (by rw [HNN.out]; omega) hown8 hg8 HOF.out
                      go_roundw
                      case rel => exact ⟨k + 1, _, by omega, by go_num, rfl, HRR.out, HFF.out, M8, hb8⟩
                      case measure => simp [intOf]; omega
                    · have HOF := Lib.hid (off_ne hn hpn hp0 hpq)
                      have hq : (px == qx && py == qy) = false := pr_ne hpq
                      have hni : (1 : Int) < (n : Int) + 1 := by omega
                      have hnd : decide ((1 : Int) < (n : Int) + 1) = true := decide_eq_true hni
                      have hnd0 : decide (0 < n) = true := decide_eq_true (by omega)
                      have hnd1 : decide ((0 : Int) < (n : Int)) = true := decide_eq_true (by omega)
                      have hnl : (n : Int) < (n : Int) + 1 := by omega
                      clear hO hO' hB3 hB4 hn hpn hp0 hrl hrsl hpq
                      go_upto_region 12 with fail
                      rw [← HW0.out, ← HBX.out]
                      go_wp2
                      go_quiet (fail)
                      go_wp2
                      go_roundw
                      case rel => exact ⟨k + 1, _, by omega, by go_num, rfl, HRR.out, HFF.out, M00.out.offq HOF.out _, below_drewN hb0 _⟩
                      case measure => simp [intOf]; omega
                · have HR : Hid (runF l = (Mc.start, 14)) := by
                    show _ = _
                    have h := hrun.out.trans (run_stop hx.out (by rw [do_off_off hl]; exact (by decide : (14 : Int) ≠ 0)))
                    rw [do_off_off hl] at h
                    rw [runF_bad HN.out (by rw [h]; exact (by decide : (14 : Int) ≠ 0)), h]
                  have k0 : w0.cell? ⟨bx, 0, none⟩ = some (.int .i64 4) := s0.cell 0
                  have k1 : w0.cell? ⟨bx, 1, none⟩ = some (.int .i64 x) := s0.cell 1
                  have k2 : w0.cell? ⟨bx, 2, none⟩ = some (.int .i64 y) := s0.cell 2
                  go_upto_region 12 with fail
                  rw [← HW0.out, ← HBX.out]
                  have M1 := M0
                  have hb1 := hb0
                  have hgE := ((M1.g2.set_ 0 (.int .i64 0)).set_ 1 (.int .i64 0)).set_ 2 (.int .i64 0)
                  have hbE := ((hb1.setCell (p := ⟨G, 0, none⟩) (by rw [HG.out]; exact Nat.le_refl _) (.int .i64 0)).setCell (p := ⟨G, 1, none⟩) (by rw [HG.out]; exact Nat.le_refl _) (.int .i64 0)).setCell (p := ⟨G, 2, none⟩) (by rw [HG.out]; exact Nat.le_refl _) (.int .i64 0)
                  have z0 := M1.g5.cell 0
                  have z1 := M1.g5.cell 1
                  have z2 := M1.g5.cell 2
                  have j0 := M1.g2.cell 0
                  have j1 := M1.g2.cell 1
                  have j2 := M1.g2.cell 2
                  have f0 := M1.g2.free 0
                  have f1 := M1.g2.free 1
                  have f2 := M1.g2.free 2
                  simp only [List.getElem?_toArray, List.getElem?_cons_zero, List.getElem?_cons_succ] at z0 z1 z2 j0 j1 j2
                  go_wp2
                  exact bodyPost_ret (results_rtt (p := 2) (u := 3) (v := 4) (ty := 42) (vu := .slice none 0 0) (vv := .int .i64 14) rfl _ _ G 42 #[.int .i64 0, .int .i64 0, .int .i64 0] (0, 0) _ rfl rfl rfl hgE Tryd.underlying42 rfl rtot_size) rfl (by rw [HR.out]; exact ⟨_, rfl, Rep.slice_nil _ _ _, hbE⟩)
              · have hdn : doF m (o, (x, y)) = (10, m) := do_none ho1 ho2 ho3 ho4
                rcases (show o < 1 ∨ (¬ o < 1 ∧ 4 < o) from by omega) with hk1 | ⟨hk1, hk2⟩
                · have HR : Hid (runF l = (Mc.start, 10)) := by
                    show _ = _
                    have h := hrun.out.trans (run_stop hx.out (by rw [hdn]; exact (by decide : (10 : Int) ≠ 0)))
                    rw [hdn] at h
                    rw [runF_bad HN.out (by rw [h]; exact (by decide : (10 : Int) ≠ 0)), h]
                  have k0 : w0.cell? ⟨bx, 0, none⟩ = some (.int .i64 o) := s0.cell 0
                  have k1 : w0.cell? ⟨bx, 1, none⟩ = some (.int .i64 x) := s0.cell 1
                  have k2 : w0.cell? ⟨bx, 2, none⟩ = some (.int .i64 y) := s0.cell 2
                  go_upto_region 12 with fail
                  rw [← HW0.out, ← HBX.out]
                  have M1 := M0
                  have hb1 := hb0
                  have hgE := ((M1.g2.set_ 0 (.int .i64 0)).set_ 1 (.int .i64 0)).set_ 2 (.int .i64 0)
                  have hbE := ((hb1.setCell (p := ⟨G, 0, none⟩) (by rw [HG.out]; exact Nat.le_refl _) (.int .i64 0)).setCell (p := ⟨G, 1, none⟩) (by rw [HG.out]; exact Nat.le_refl _) (.int .i64 0)).setCell (p := ⟨G, 2, none⟩) (by rw [HG.out]; exact Nat.le_refl _) (.int .i64 0)
                  have z0 := M1.g5.cell 0
                  have z1 := M1.g5.cell 1
                  have z2 := M1.g5.cell 2
                  have j0 := M1.g2.cell 0
                  have j1 := M1.g2.cell 1
                  have j2 := M1.g2.cell 2
                  have f0 := M1.g2.free 0
                  have f1 := M1.g2.free 1
                  have f2 := M1.g2.free 2
                  simp only [List.getElem?_toArray, List.getElem?_cons_zero, List.getElem?_cons_succ] at z0 z1 z2 j0 j1 j2
                  go_wp2
                  exact bodyPost_ret (results_rtt (p := 2) (u := 3) (v := 4) (ty := 42) (vu := .slice none 0 0) (vv := .int .i64 10) rfl _ _ G 42 #[.int .i64 0, .int .i64 0, .int .i64 0] (0, 0) _ rfl rfl rfl hgE Tryd.underlying42 rfl rtot_size) rfl (by rw [HR.out]; exact ⟨_, rfl, Rep.slice_nil _ _ _, hbE⟩)
                · have HR : Hid (runF l = (Mc.start, 10)) := by
                    show _ = _
                    have h := hrun.out.trans (run_stop hx.out (by rw [hdn]; exact (by decide : (10 : Int) ≠ 0)))
                    rw [hdn] at h
                    rw [runF_bad HN.out (by rw [h]; exact (by decide : (10 : Int) ≠ 0)), h]
                  have k0 : w0.cell? ⟨bx, 0, none⟩ = some (.int .i64 o) := s0.cell 0
                  have k1 : w0.cell? ⟨bx, 1, none⟩ = some (.int .i64 x) := s0.cell 1
                  have k2 : w0.cell? ⟨bx, 2, none⟩ = some (.int .i64 y) := s0.cell 2
                  go_upto_region 12 with fail
                  rw [← HW0.out, ← HBX.out]
                  have M1 := M0
                  have hb1 := hb0
                  have hgE := ((M1.g2.set_ 0 (.int .i64 0)).set_ 1 (.int .i64 0)).set_ 2 (.int .i64 0)
                  have hbE := ((hb1.setCell (p := ⟨G, 0, none⟩) (by rw [HG.out]; exact Nat.le_refl _) (.int .i64 0)).setCell (p := ⟨G, 1, none⟩) (by rw [HG.out]; exact Nat.le_refl _) (.int .i64 0)).setCell (p := ⟨G, 2, none⟩) (by rw [HG.out]; exact Nat.le_refl _) (.int .i64 0)
                  have z0 := M1.g5.cell 0
                  have z1 := M1.g5.cell 1
                  have z2 := M1.g5.cell 2
                  have j0 := M1.g2.cell 0
                  have j1 := M1.g2.cell 1
                  have j2 := M1.g2.cell 2
                  have f0 := M1.g2.free 0
                  have f1 := M1.g2.free 1
                  have f2 := M1.g2.free 2
                  simp only [List.getElem?_toArray, List.getElem?_cons_zero, List.getElem?_cons_succ] at z0 z1 z2 j0 j1 j2
                  go_wp2
                  exact bodyPost_ret (results_rtt (p := 2) (u := 3) (v := 4) (ty := 42) (vu := .slice none 0 0) (vv := .int .i64 10) rfl _ _ G 42 #[.int .i64 0, .int .i64 0, .int .i64 0] (0, 0) _ rfl rfl rfl hgE Tryd.underlying42 rfl rtot_size) rfl (by rw [HR.out]; exact ⟨_, rfl, Rep.slice_nil _ _ _, hbE⟩)
      · have hkl : k = l.length := by omega
        have hki : ¬ (k : Int) < (l.length : Int) := by omega
        have hfin : runTo Mc.start l = (0, m) := by rw [hrun.out, hkl, List.drop_length, runTo]
        obtain ⟨base, hB1, hB2, hB3, -⟩ := hM.ex
        have HB3 := Lib.hid hB3
        have j0 := hM.g2.cell 0
        have j1 := hM.g2.cell 1
        have j2 := hM.g2.cell 2
        have f0 := hM.g2.free 0
        have f1 := hM.g2.free 1
        have f2 := hM.g2.free 2
        clear hkl
        rcases Bool.eq_false_or_eq_true m.lit with hli | hli
        · have HR := Lib.hid (runF_lit HN.out hfin hli)
          have z0 := hM.g5.cell 0
          have z1 := hM.g5.cell 1
          have z2 := hM.g5.cell 2
          have hgE := ((hM.g2.set_ 0 (.int .i64 0)).set_ 1 (.int .i64 0)).set_ 2 (.int .i64 0)
          have hbE := ((hb.setCell (p := ⟨G, 0, none⟩) (by rw [HG.out]; exact Nat.le_refl _) (.int .i64 0)).setCell (p := ⟨G, 1, none⟩) (by rw [HG.out]; exact Nat.le_refl _) (.int .i64 0)).setCell (p := ⟨G, 2, none⟩) (by rw [HG.out]; exact Nat.le_refl _) (.int .i64 0)
          simp only [List.getElem?_toArray, List.getElem?_cons_zero, List.getElem?_cons_succ] at z0 z1 z2 j0 j1 j2
          rw [hli]
          go_wp2
          exact bodyPost_ret (results_rtt (p := 2) (u := 3) (v := 4) (ty := 42) (vu := .slice none 0 0) (vv := .int .i64 14) rfl _ _ G 42 #[.int .i64 0, .int .i64 0, .int .i64 0] (0, 0) _ rfl rfl rfl hgE Tryd.underlying42 rfl rtot_size) rfl (by rw [HR.out]; exact ⟨_, rfl, Rep.slice_nil _ _ _, hbE⟩)
        · have HR := Lib.hid (runF_ok HN.out hfin hli)
          have z0 := hM.g6.cell 0
          have z1 := hM.g6.cell 1
          have z2 := hM.g6.cell 2
          have hgE := ((hM.g2.set_ 0 (.int .i64 m.tr)).set_ 1 (.int .i64 m.bu)).set_ 2 (.int .i64 m.pi)
          have hbE := ((hb.setCell (p := ⟨G, 0, none⟩) (by rw [HG.out]; exact Nat.le_refl _) (.int .i64 m.tr)).setCell (p := ⟨G, 1, none⟩) (by rw [HG.out]; exact Nat.le_refl _) (.int .i64 m.bu)).setCell (p := ⟨G, 2, none⟩) (by rw [HG.out]; exact Nat.le_refl _) (.int .i64 m.pi)
          simp only [List.getElem?_toArray, List.getElem?_cons_zero, List.getElem?_cons_succ] at z0 z1 z2 j0 j1 j2
          have hR3 := HB3.out.keep (w' := ((wr.setCell ⟨G, 0, none⟩ (.int .i64 m.tr)).setCell ⟨G, 1, none⟩ (.int .i64 m.bu)).setCell ⟨G, 2, none⟩ (.int .i64 m.pi)) (fun i hi _ => heap3 wr G 0 1 2 _ _ _ i (by omega))
          have hrep := hR3.rep (by rw [size3]; exact hB2)
          rw [hli]
          go_wp2
          exact bodyPost_ret (results_rtt (p := 2) (u := 3) (v := 4) (ty := 42) (vu := _) (vv := .int .i64 0) rfl _ _ G 42 #[.int .i64 m.tr, .int .i64 m.bu, .int .i64 m.pi] (0, 0) _ rfl rfl rfl hgE Tryd.underlying42 rfl rtot_size) rfl (by rw [HR.out]; exact ⟨_, rfl, hrep, hbE⟩)
end Go.Proofs.YthfnncnmggkfaaaDoor
