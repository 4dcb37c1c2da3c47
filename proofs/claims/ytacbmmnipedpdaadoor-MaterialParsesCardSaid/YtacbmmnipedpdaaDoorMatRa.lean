/- Chapter 15: the reader of the reference: is, take, number, section and grade, by walking their text. -/
import Derived.Test.YtacbmmnipedpdaaDoorMatP3
import Derived.Deep.LoopGhost
namespace Go.Proofs.YtacbmmnipedpdaaDoor
open Go Go.RowKit
set_option linter.unusedSimpArgs false

theorem lx15_at {w : World} {D : Nat → Prop} {L : List Lx} {A : Option Addr} {n c : Nat} (h : Rep.lx.slice.R w D L [.slice A n c]) {k : Nat} (hk : k < L.length) :
    ∃ (b off : Nat) (x1 : Int) (x2 : List UInt8) (x3 x4 : Int), A = some ⟨b, off, none⟩ ∧ Hid (lxN L k = (x1, x2, x3, x4)) ∧ D b ∧ w.cell? ⟨b, off + k * 4, none⟩ = some (.int .i64 x1) ∧ w.cell? ⟨b, off + k * 4 + 1, none⟩ = some (.string (bA x2)) ∧ w.cell? ⟨b, off + k * 4 + 2, none⟩ = some (.int .i64 x3) ∧ w.cell? ⟨b, off + k * 4 + 3, none⟩ = some (.int .i64 x4) := by
  obtain ⟨A', c', e, h1, h2, h3⟩ := h
  injection e with e _
  injection e with e1 e2 e3
  subst e1
  obtain ⟨b, off, es, rfl, hb, hr, hc⟩ := h3 k hk
  have hr' : es = lxC L[k] := hr
  subst hr'
  have hg : lxN L k = L[k] := by unfold lxN; rw [List.getD_eq_getElem?_getD, List.getElem?_eq_getElem hk]; rfl
  generalize L[k] = x at *
  obtain ⟨x1, x2, x3, x4⟩ := x
  exact ⟨b, off, x1, x2, x3, x4, rfl, hg, hb, hc 0 (by decide), hc 1 (by decide), hc 2 (by decide), hc 3 (by decide)⟩
theorem results_cc15 {P : Program} {fn : Func} {p q : Tmp} {ty ty' : TypeId} (h : fn.results = #[.cell p ty, .cell q ty']) (tmps : Array Value) (w : World) {a b : Addr} {va vb : Value}
    (hp : tmps.getD p undef = .pointer (some a)) (hq : tmps.getD q undef = .pointer (some b)) (ha : (loadVar ty a).run P w = .ok va w) (hb : (loadVar ty' b).run P w = .ok vb w) :
    (results fn tmps).run P w = .ok (.tuple #[va, vb]) w := by
  have hp' : tmps[p]?.getD undef = .pointer (some a) := by simpa using hp
  have hq' : tmps[q]?.getD undef = .pointer (some b) := by simpa using hq
  simp [results, h, hp', hq', asAddr, ha, hb, Sem.run_bind, Result.andThen]
theorem results_tc15 {P : Program} {fn : Func} {u q : Tmp} {ty' : TypeId} (h : fn.results = #[.tmp u, .cell q ty']) (tmps : Array Value) (w : World) {b : Addr} {vu vb : Value}
    (hu : tmps.getD u undef = vu) (hq : tmps.getD q undef = .pointer (some b)) (hb : (loadVar ty' b).run P w = .ok vb w) :
    (results fn tmps).run P w = .ok (.tuple #[vu, vb]) w := by
  have hu' : tmps[u]?.getD undef = vu := by simpa using hu
  have hq' : tmps[q]?.getD undef = .pointer (some b) := by simpa using hq
  simp [results, h, hu', hq', asAddr, hb, Sem.run_bind, Result.andThen]
theorem rd15_size : (Tryd.prog.info? 84).map (·.size) = some 3 := by kernel_rfl
theorem load_lx {W : World} {g : Nat} {cs : Array Value} (h : Blk W g 81 cs) (hs : cs.size = 4) : (loadVar 81 ⟨g, 0, none⟩).run Tryd.prog W = .ok (.agg cs) W :=
  run_loadVar_row W g 81 81 cs _ _ h Tryd.underlying81 rfl (by rw [hs]; exact lex_info4)
theorem load_rd {W : World} {g : Nat} {cs : Array Value} (h : Blk W g 84 cs) (hs : cs.size = 3) : (loadVar 84 ⟨g, 0, none⟩).run Tryd.prog W = .ok (.agg cs) W :=
  run_loadVar_row W g 84 84 cs _ _ h Tryd.underlying84 rfl (by rw [hs]; exact rd15_size)
theorem three_set {w : World} {g : Nat} {t : TypeId} {a b c a' b' c' : Value} (h : Blk w g t #[a, b, c]) : Blk (((w.setCell ⟨g, 0, none⟩ a').setCell ⟨g, 1, none⟩ b').setCell ⟨g, 2, none⟩ c') g t #[a', b', c'] := by
  have := ((h.set_ 0 a').set_ 1 b').set_ 2 c'
  simpa using this
theorem three_far {w : World} {g h : Nat} {t : TypeId} {cs : Array Value} {a' b' c' : Value} (hb : Blk w g t cs) (hne : g ≠ h) : Blk (((w.setCell ⟨h, 0, none⟩ a').setCell ⟨h, 1, none⟩ b').setCell ⟨h, 2, none⟩ c') g t cs :=
  ((hb.far (p := ⟨h, 0, none⟩) hne _).far (p := ⟨h, 1, none⟩) hne _).far (p := ⟨h, 2, none⟩) hne _
theorem four_far {w : World} {g h : Nat} {t : TypeId} {cs : Array Value} {a' b' c' d' : Value} (hb : Blk w g t cs) (hne : g ≠ h) : Blk ((((w.setCell ⟨h, 0, none⟩ a').setCell ⟨h, 1, none⟩ b').setCell ⟨h, 2, none⟩ c').setCell ⟨h, 3, none⟩ d') g t cs :=
  (((hb.far (p := ⟨h, 0, none⟩) hne _).far (p := ⟨h, 1, none⟩) hne _).far (p := ⟨h, 2, none⟩) hne _).far (p := ⟨h, 3, none⟩) hne _
theorem three_below {B : Nat} {a w : World} {g : Nat} {a' b' c' : Value} (h : Below B a w) (hg : B ≤ g) : Below B a (((w.setCell ⟨g, 0, none⟩ a').setCell ⟨g, 1, none⟩ b').setCell ⟨g, 2, none⟩ c') :=
  ((h.setCell (p := ⟨g, 0, none⟩) hg _).setCell (p := ⟨g, 1, none⟩) hg _).setCell (p := ⟨g, 2, none⟩) hg _
theorem take_fin {W : World} {g : Nat} {z0 z1 z2 z3 o0 o1 o2 a b c d e f h : Value} (h1 : Blk W (g + 1) 81 #[z0, z1, z2, z3]) (h2 : Blk W (g + 1 + 1) 84 #[o0, o1, o2]) :
    Blk ((((((((W.setCell ⟨g + 1, 0, none⟩ a).setCell ⟨g + 1, 1, none⟩ b).setCell ⟨g + 1, 2, none⟩ c).setCell ⟨g + 1, 3, none⟩ d).setCell ⟨g + 1 + 1, 0, none⟩ e).setCell ⟨g + 1 + 1, 1, none⟩ f).setCell ⟨g + 1 + 1, 2, none⟩ h).drew) (g + 1) 81 #[a, b, c, d] ∧
    Blk ((((((((W.setCell ⟨g + 1, 0, none⟩ a).setCell ⟨g + 1, 1, none⟩ b).setCell ⟨g + 1, 2, none⟩ c).setCell ⟨g + 1, 3, none⟩ d).setCell ⟨g + 1 + 1, 0, none⟩ e).setCell ⟨g + 1 + 1, 1, none⟩ f).setCell ⟨g + 1 + 1, 2, none⟩ h).drew) (g + 1 + 1) 84 #[e, f, h] :=
  ⟨(three_far (four_set h1) (by omega)).drewN 1, (three_set (four_far h2 (by omega))).drewN 1⟩
/-- a reader by value. -/
abbrev rdA (A : Option Addr) (n c : Nat) (x : Rd) : Array Value := #[.slice A n c, .int .i64 x.1, .bool x.2]
set_option maxRecDepth 100000 in
set_option maxHeartbeats 2000000 in
theorem refIs_any (A : Option Addr) (n c : Nat) (L : List Lx) (k : Nat) (bad : Bool) (kd : Int) (t : List UInt8) (w : World) (hl : Rep.lx.slice.R w (Lt w) L [.slice A n c]) (hk : k < L.length) :
    Calls Tryd.prog 50 #[.agg #[.slice A n c, .int .i64 k, .bool bad], .int .i64 kd, .string (bA t)] w (Ret (.bool (fitB (lxN L k) kd t)) w) := by
  obtain ⟨hn, hnm⟩ := slice_ln hl
  have hb1 : Below w.heap.size w (w.alloc (.cells #[.slice A n c, .int .i64 k, .bool bad] 84)) := (Below.refl _ _).alloc (Nat.le_refl _) _
  obtain ⟨b, off, x1, x2, x3, x4, rfl, hx, hbD, c0, c1, -, -⟩ := lx15_at hl hk
  have hkI : (k : Int) < (n : Int) := by omega
  have m0 := ((bcell hb1).1 b _ hbD).trans c0
  have m1 := ((bcell hb1).1 b _ hbD).trans c1
  have HB1 := Lib.hid hb1
  obtain ⟨r, hr⟩ : ∃ r, r = fitB (lxN L k) kd t := ⟨_, rfl⟩
  rw [← hr]
  rw [hx.out] at hr
  clear hl hn hk c0 c1 hb1
  by_cases h1 : x1 = kd
  · subst h1
    have q1 := beq_self_int x1
    by_cases h2 : t = []
    · have e1 : r = true := by rw [hr]; unfold fitB; simp [h2]
      subst e1 h2
      clear hr
      go_enter Tryd.func50, Tryd.ntmps50
      go_wp2
      go_ret
      exact ⟨rfl, HB1.out⟩
    · have q2 : (t == []) = false := by rw [str_eq]; exact decide_eq_false h2
      have e1 : r = (x2 == t) := by rw [hr, str_eq]; unfold fitB; simp [h2]
      have HE := Lib.hid e1
      clear hr e1 h2
      go_enter Tryd.func50, Tryd.ntmps50
      go_wp2
      go_ret
      exact ⟨ret_bool (by rw [HE.out]), HB1.out⟩
  · have q1 : (x1 == kd) = false := ieq_f h1
    have e1 : r = false := by rw [hr]; unfold fitB; simp [h1]
    subst e1
    clear hr h1
    go_enter Tryd.func50, Tryd.ntmps50
    go_wp2
    go_ret
    exact ⟨rfl, HB1.out⟩
def TakePost (A : Option Addr) (n c : Nat) (q : Lx × Rd) (w : World) (e : Ending) (w' : World) : Prop := e = .returned (.tuple #[.agg (lxA q.1), .agg (rdA A n c q.2)]) ∧ Below w.heap.size w w'
theorem TakePost.of {A : Option Addr} {n c : Nat} {q : Lx × Rd} {w w' : World} {a b : Array Value} (h1 : a = lxA q.1) (h2 : b = rdA A n c q.2) (hb : Below w.heap.size w w') : TakePost A n c q w (.returned (.tuple #[.agg a, .agg b])) w' := by
  subst h1 h2; exact ⟨rfl, hb⟩
set_option maxRecDepth 100000 in
set_option maxHeartbeats 4000000 in
theorem refTake_any (A : Option Addr) (n c : Nat) (L : List Lx) (k : Nat) (bad : Bool) (kd : Int) (t : List UInt8) (w : World) (hl : Rep.lx.slice.R w (Lt w) L [.slice A n c]) (hk : k < L.length) :
    Calls Tryd.prog 67 #[.agg #[.slice A n c, .int .i64 k, .bool bad], .int .i64 kd, .string (bA t)] w (TakePost A n c (takeR L (k, bad) kd t) w) := by
  obtain ⟨hn, hnm⟩ := slice_ln hl
  obtain ⟨W, hW⟩ : ∃ W, W = ((w.alloc (.cells #[.slice A n c, .int .i64 k, .bool bad] 84)).alloc (.cells #[.int .i64 0, .string ⟨#[]⟩, .int .i64 0, .int .i64 0] 81)).alloc (.cells #[.slice none 0 0, .int .i64 0, .bool false] 84) := ⟨_, rfl⟩
  have hbW : Below w.heap.size w W := by rw [hW]; exact (((Below.refl _ _).alloc (Nat.le_refl _) _).alloc (by simp) _).alloc (by simp; omega) _
  have b0 : Blk W w.heap.size 84 #[.slice A n c, .int .i64 k, .bool bad] := by rw [hW]; exact ((Blk.new w _ _).alloc _).alloc _
  have b1 : Blk W (w.heap.size + 1) 81 #[.int .i64 0, .string ⟨#[]⟩, .int .i64 0, .int .i64 0] := by
    have := (Blk.new (w.alloc (.cells #[.slice A n c, .int .i64 k, .bool bad] 84)) 81 #[.int .i64 0, .string ⟨#[]⟩, .int .i64 0, .int .i64 0]).alloc (.cells #[.slice none 0 0, .int .i64 0, .bool false] 84)
    rw [hW]; simpa using this
  have b2 : Blk W (w.heap.size + 1 + 1) 84 #[.slice none 0 0, .int .i64 0, .bool false] := by
    have := Blk.new ((w.alloc (.cells #[.slice A n c, .int .i64 k, .bool bad] 84)).alloc (.cells #[.int .i64 0, .string ⟨#[]⟩, .int .i64 0, .int .i64 0] 81)) 84 #[.slice none 0 0, .int .i64 0, .bool false]
    rw [hW]; simpa using this
  have HW := Lib.hid hW
  have HBW := Lib.hid hbW
  have CI := Lib.hid (refIs_any A n c L k bad kd t W (Rep.below hl hbW) hk)
  obtain ⟨ft, hft⟩ : ∃ ft, fitB (lxN L k) kd t = ft := ⟨_, rfl⟩
  rw [hft] at CI
  obtain ⟨b, off, x1, x2, x3, x4, rfl, hx, hbD, c0, c1, c2, c3⟩ := lx15_at hl hk
  have hbl : b < W.heap.size := Nat.lt_of_lt_of_le hbD hbW.size
  have HB := Lib.hid (And.intro b0 (And.intro b1 b2))
  have HC := Lib.hid (And.intro (((bcell hbW).1 b _ hbD).trans c0) (And.intro (((bcell hbW).1 b _ hbD).trans c1) (And.intro (((bcell hbW).1 b _ hbD).trans c2) (((bcell hbW).1 b _ hbD).trans c3))))
  have hbne0 : b ≠ w.heap.size := by have : b < w.heap.size := hbD; omega
  have hkI : (k : Int) < (n : Int) := by omega
  have hkw : IntKind.i64.wrap ((k : Int) + 1 - 1) = (k : Int) := by rw [show (k : Int) + 1 - 1 = (k : Int) from by omega]; exact IntWalk.i64_in _ (by omega)
  clear hW hbW b0 b1 b2 c0 c1 c2 c3 hl hk hn
  cases bad with
  | true =>
    have e1 : takeR L (k, true) kd t = ((0, [], 0, 0), (k, true)) := take_bad L k kd t
    rw [e1]
    clear CI e1 hft hkw hkI
    go_enter Tryd.func67, Tryd.ntmps67
    go_upto_region 1 with fail
    rw [← HW.out]
    have z0 : W.cell? ⟨w.heap.size, 0, none⟩ = some (.slice (some ⟨b, off, none⟩) n c) := HB.out.1.cell 0
    have z1 : W.cell? ⟨w.heap.size, 1, none⟩ = some (.int .i64 k) := HB.out.1.cell 1
    have z2 : W.cell? ⟨w.heap.size, 2, none⟩ = some (.bool true) := HB.out.1.cell 2
    have zf := HB.out.1.free 2
    have y0 : W.cell? ⟨w.heap.size + 1, 0, none⟩ = some (.int .i64 0) := HB.out.2.1.cell 0
    have y1 : W.cell? ⟨w.heap.size + 1, 1, none⟩ = some (.string ⟨#[]⟩) := HB.out.2.1.cell 1
    have y2 : W.cell? ⟨w.heap.size + 1, 2, none⟩ = some (.int .i64 0) := HB.out.2.1.cell 2
    have y3 : W.cell? ⟨w.heap.size + 1, 3, none⟩ = some (.int .i64 0) := HB.out.2.1.cell 3
    have yf0 := HB.out.2.1.free 0
    have yf1 := HB.out.2.1.free 1
    have yf2 := HB.out.2.1.free 2
    have yf3 := HB.out.2.1.free 3
    have x0 : W.cell? ⟨w.heap.size + 1 + 1, 0, none⟩ = some (.slice none 0 0) := HB.out.2.2.cell 0
    have x1' : W.cell? ⟨w.heap.size + 1 + 1, 1, none⟩ = some (.int .i64 0) := HB.out.2.2.cell 1
    have x2' : W.cell? ⟨w.heap.size + 1 + 1, 2, none⟩ = some (.bool false) := HB.out.2.2.cell 2
    have xf0 := HB.out.2.2.free 0
    have xf1 := HB.out.2.2.free 1
    have xf2 := HB.out.2.2.free 2
    go_wp2
    go_region
    go_wp2
    have hfin := take_fin (a := .int .i64 0) (b := .string ⟨#[]⟩) (c := .int .i64 0) (d := .int .i64 0) (e := .slice (some ⟨b, off, none⟩) n c) (f := .int .i64 k) (h := .bool true) (HB.out.2.1.far (p := ⟨w.heap.size, 2, none⟩) (by show w.heap.size + 1 ≠ w.heap.size; omega) (.bool true)) (HB.out.2.2.far (p := ⟨w.heap.size, 2, none⟩) (by show w.heap.size + 1 + 1 ≠ w.heap.size; omega) (.bool true))
    exact bodyPost_ret (results_cc15 (p := 6) (q := 7) rfl _ _ rfl rfl (load_lx hfin.1 rfl) (load_rd hfin.2 rfl)) rfl (TakePost.of rfl rfl (below_drewN (three_below (four_below (Below.setCell HBW.out (p := ⟨w.heap.size, 2, none⟩) (Nat.le_refl _) _) (by omega)) (by omega)) 1))
  | false =>
    cases ft with
    | false =>
      have e1 : takeR L (k, false) kd t = ((0, [], 0, 0), (k, true)) := take_no hft
      rw [e1]
      clear e1 hft hkw hkI
      go_enter Tryd.func67, Tryd.ntmps67
      go_upto_region 1 with fail
      rw [← HW.out]
      have z0 : W.cell? ⟨w.heap.size, 0, none⟩ = some (.slice (some ⟨b, off, none⟩) n c) := HB.out.1.cell 0
      have z1 : W.cell? ⟨w.heap.size, 1, none⟩ = some (.int .i64 k) := HB.out.1.cell 1
      have z2 : W.cell? ⟨w.heap.size, 2, none⟩ = some (.bool false) := HB.out.1.cell 2
      have zf := HB.out.1.free 2
      have y0 : W.cell? ⟨w.heap.size + 1, 0, none⟩ = some (.int .i64 0) := HB.out.2.1.cell 0
      have y1 : W.cell? ⟨w.heap.size + 1, 1, none⟩ = some (.string ⟨#[]⟩) := HB.out.2.1.cell 1
      have y2 : W.cell? ⟨w.heap.size + 1, 2, none⟩ = some (.int .i64 0) := HB.out.2.1.cell 2
      have y3 : W.cell? ⟨w.heap.size + 1, 3, none⟩ = some (.int .i64 0) := HB.out.2.1.cell 3
      have yf0 := HB.out.2.1.free 0
      have yf1 := HB.out.2.1.free 1
      have yf2 := HB.out.2.1.free 2
      have yf3 := HB.out.2.1.free 3
      have x0 : W.cell? ⟨w.heap.size + 1 + 1, 0, none⟩ = some (.slice none 0 0) := HB.out.2.2.cell 0
      have x1' : W.cell? ⟨w.heap.size + 1 + 1, 1, none⟩ = some (.int .i64 0) := HB.out.2.2.cell 1
      have x2' : W.cell? ⟨w.heap.size + 1 + 1, 2, none⟩ = some (.bool false) := HB.out.2.2.cell 2
      have xf0 := HB.out.2.2.free 0
      have xf1 := HB.out.2.2.free 1
      have xf2 := HB.out.2.2.free 2
      go_wp2_with fail
      refine CI.out.mono ?_
      rintro e w1 ⟨rfl, hb1⟩
      have HB := Lib.hid (And.intro (HB.out.1.below hb1 HB.out.1.lt) (And.intro (HB.out.2.1.below hb1 HB.out.2.1.lt) (HB.out.2.2.below hb1 HB.out.2.2.lt)))
      have HBW := Lib.hid (bstep HBW.out HBW.out.size hb1)
      obtain ⟨hd0, hd1, hd2, hd3⟩ := HC.out
      have d0 := ((bcell hb1).1 b _ hbl).trans hd0
      have d1 := ((bcell hb1).1 b _ hbl).trans hd1
      have d2 := ((bcell hb1).1 b _ hbl).trans hd2
      have d3 := ((bcell hb1).1 b _ hbl).trans hd3
      clear z0 z1 z2 zf y0 y1 y2 y3 yf0 yf1 yf2 yf3 x0 x1' x2' xf0 xf1 xf2 hd0 hd1 hd2 hd3 hb1
      have zf1 := HB.out.1.free 1
      have z0 : w1.cell? ⟨w.heap.size, 0, none⟩ = some (.slice (some ⟨b, off, none⟩) n c) := HB.out.1.cell 0
      have z1 : w1.cell? ⟨w.heap.size, 1, none⟩ = some (.int .i64 k) := HB.out.1.cell 1
      have z2 : w1.cell? ⟨w.heap.size, 2, none⟩ = some (.bool false) := HB.out.1.cell 2
      have zf := HB.out.1.free 2
      have y0 : w1.cell? ⟨w.heap.size + 1, 0, none⟩ = some (.int .i64 0) := HB.out.2.1.cell 0
      have y1 : w1.cell? ⟨w.heap.size + 1, 1, none⟩ = some (.string ⟨#[]⟩) := HB.out.2.1.cell 1
      have y2 : w1.cell? ⟨w.heap.size + 1, 2, none⟩ = some (.int .i64 0) := HB.out.2.1.cell 2
      have y3 : w1.cell? ⟨w.heap.size + 1, 3, none⟩ = some (.int .i64 0) := HB.out.2.1.cell 3
      have yf0 := HB.out.2.1.free 0
      have yf1 := HB.out.2.1.free 1
      have yf2 := HB.out.2.1.free 2
      have yf3 := HB.out.2.1.free 3
      have x0 : w1.cell? ⟨w.heap.size + 1 + 1, 0, none⟩ = some (.slice none 0 0) := HB.out.2.2.cell 0
      have x1' : w1.cell? ⟨w.heap.size + 1 + 1, 1, none⟩ = some (.int .i64 0) := HB.out.2.2.cell 1
      have x2' : w1.cell? ⟨w.heap.size + 1 + 1, 2, none⟩ = some (.bool false) := HB.out.2.2.cell 2
      have xf0 := HB.out.2.2.free 0
      have xf1 := HB.out.2.2.free 1
      have xf2 := HB.out.2.2.free 2
      go_wp2
      go_region
      go_wp2
      have hfin := take_fin (a := .int .i64 0) (b := .string ⟨#[]⟩) (c := .int .i64 0) (d := .int .i64 0) (e := .slice (some ⟨b, off, none⟩) n c) (f := .int .i64 k) (h := .bool true) (HB.out.2.1.far (p := ⟨w.heap.size, 2, none⟩) (by show w.heap.size + 1 ≠ w.heap.size; omega) (.bool true)) (HB.out.2.2.far (p := ⟨w.heap.size, 2, none⟩) (by show w.heap.size + 1 + 1 ≠ w.heap.size; omega) (.bool true))
      exact bodyPost_ret (results_cc15 (p := 6) (q := 7) rfl _ _ rfl rfl (load_lx hfin.1 rfl) (load_rd hfin.2 rfl)) rfl (TakePost.of rfl rfl (below_drewN (three_below (four_below (Below.setCell HBW.out (p := ⟨w.heap.size, 2, none⟩) (Nat.le_refl _) _) (by omega)) (by omega)) 1))
    | true =>
      have e1 : takeR L (k, false) kd t = ((x1, x2, x3, x4), (k + 1, false)) := by rw [take_yes hft, hx.out]
      rw [e1]
      clear e1 hft
      go_enter Tryd.func67, Tryd.ntmps67
      go_upto_region 1 with fail
      rw [← HW.out]
      have z0 : W.cell? ⟨w.heap.size, 0, none⟩ = some (.slice (some ⟨b, off, none⟩) n c) := HB.out.1.cell 0
      have z1 : W.cell? ⟨w.heap.size, 1, none⟩ = some (.int .i64 k) := HB.out.1.cell 1
      have z2 : W.cell? ⟨w.heap.size, 2, none⟩ = some (.bool false) := HB.out.1.cell 2
      have zf := HB.out.1.free 2
      have y0 : W.cell? ⟨w.heap.size + 1, 0, none⟩ = some (.int .i64 0) := HB.out.2.1.cell 0
      have y1 : W.cell? ⟨w.heap.size + 1, 1, none⟩ = some (.string ⟨#[]⟩) := HB.out.2.1.cell 1
      have y2 : W.cell? ⟨w.heap.size + 1, 2, none⟩ = some (.int .i64 0) := HB.out.2.1.cell 2
      have y3 : W.cell? ⟨w.heap.size + 1, 3, none⟩ = some (.int .i64 0) := HB.out.2.1.cell 3
      have yf0 := HB.out.2.1.free 0
      have yf1 := HB.out.2.1.free 1
      have yf2 := HB.out.2.1.free 2
      have yf3 := HB.out.2.1.free 3
      have x0 : W.cell? ⟨w.heap.size + 1 + 1, 0, none⟩ = some (.slice none 0 0) := HB.out.2.2.cell 0
      have x1' : W.cell? ⟨w.heap.size + 1 + 1, 1, none⟩ = some (.int .i64 0) := HB.out.2.2.cell 1
      have x2' : W.cell? ⟨w.heap.size + 1 + 1, 2, none⟩ = some (.bool false) := HB.out.2.2.cell 2
      have xf0 := HB.out.2.2.free 0
      have xf1 := HB.out.2.2.free 1
      have xf2 := HB.out.2.2.free 2
      go_wp2_with fail
      refine CI.out.mono ?_
      rintro e w1 ⟨rfl, hb1⟩
      have HB := Lib.hid (And.intro (HB.out.1.below hb1 HB.out.1.lt) (And.intro (HB.out.2.1.below hb1 HB.out.2.1.lt) (HB.out.2.2.below hb1 HB.out.2.2.lt)))
      have HBW := Lib.hid (bstep HBW.out HBW.out.size hb1)
      obtain ⟨hd0, hd1, hd2, hd3⟩ := HC.out
      have d0 := ((bcell hb1).1 b _ hbl).trans hd0
      have d1 := ((bcell hb1).1 b _ hbl).trans hd1
      have d2 := ((bcell hb1).1 b _ hbl).trans hd2
      have d3 := ((bcell hb1).1 b _ hbl).trans hd3
      clear z0 z1 z2 zf y0 y1 y2 y3 yf0 yf1 yf2 yf3 x0 x1' x2' xf0 xf1 xf2 hd0 hd1 hd2 hd3 hb1
      have zf1 := HB.out.1.free 1
      have z0 : w1.cell? ⟨w.heap.size, 0, none⟩ = some (.slice (some ⟨b, off, none⟩) n c) := HB.out.1.cell 0
      have z1 : w1.cell? ⟨w.heap.size, 1, none⟩ = some (.int .i64 k) := HB.out.1.cell 1
      have z2 : w1.cell? ⟨w.heap.size, 2, none⟩ = some (.bool false) := HB.out.1.cell 2
      have zf := HB.out.1.free 2
      have y0 : w1.cell? ⟨w.heap.size + 1, 0, none⟩ = some (.int .i64 0) := HB.out.2.1.cell 0
      have y1 : w1.cell? ⟨w.heap.size + 1, 1, none⟩ = some (.string ⟨#[]⟩) := HB.out.2.1.cell 1
      have y2 : w1.cell? ⟨w.heap.size + 1, 2, none⟩ = some (.int .i64 0) := HB.out.2.1.cell 2
      have y3 : w1.cell? ⟨w.heap.size + 1, 3, none⟩ = some (.int .i64 0) := HB.out.2.1.cell 3
      have yf0 := HB.out.2.1.free 0
      have yf1 := HB.out.2.1.free 1
      have yf2 := HB.out.2.1.free 2
      have yf3 := HB.out.2.1.free 3
      have x0 : w1.cell? ⟨w.heap.size + 1 + 1, 0, none⟩ = some (.slice none 0 0) := HB.out.2.2.cell 0
      have x1' : w1.cell? ⟨w.heap.size + 1 + 1, 1, none⟩ = some (.int .i64 0) := HB.out.2.2.cell 1
      have x2' : w1.cell? ⟨w.heap.size + 1 + 1, 2, none⟩ = some (.bool false) := HB.out.2.2.cell 2
      have xf0 := HB.out.2.2.free 0
      have xf1 := HB.out.2.2.free 1
      have xf2 := HB.out.2.2.free 2
      go_wp2
      go_region
      go_wp2
      have hfin := take_fin (a := .int .i64 x1) (b := .string (bA x2)) (c := .int .i64 x3) (d := .int .i64 x4) (e := .slice (some ⟨b, off, none⟩) n c) (f := .int .i64 ((k : Int) + 1)) (h := .bool false) (HB.out.2.1.far (p := ⟨w.heap.size, 1, none⟩) (by show w.heap.size + 1 ≠ w.heap.size; omega) (.int .i64 ((k : Int) + 1))) (HB.out.2.2.far (p := ⟨w.heap.size, 1, none⟩) (by show w.heap.size + 1 + 1 ≠ w.heap.size; omega) (.int .i64 ((k : Int) + 1)))
      exact bodyPost_ret (results_cc15 (p := 6) (q := 7) rfl _ _ rfl rfl (load_lx hfin.1 rfl) (load_rd hfin.2 rfl)) rfl (TakePost.of rfl rfl (below_drewN (three_below (four_below (Below.setCell HBW.out (p := ⟨w.heap.size, 1, none⟩) (Nat.le_refl _) _) (by omega)) (by omega)) 1))
end Go.Proofs.YtacbmmnipedpdaaDoor
namespace Go.Proofs.YtacbmmnipedpdaaDoor
open Go Go.RowKit
set_option linter.unusedSimpArgs false

theorem take_lt {L : List Lx} (hE : Ends15 L) {x : Rd} (hk : x.1 < L.length) {kd : Int} (h0 : kd ≠ 0) (t : List UInt8) : (takeR L x kd t).2.1 < L.length := by
  unfold takeR
  split
  · exact hk
  · rename_i h
    rw [not_or] at h
    exact fit_next hE hk h0 (by simpa using h.2)
theorem num_lt {L : List Lx} (hE : Ends15 L) {x : Rd} (hk : x.1 < L.length) (t : List UInt8) : (numR L x t).2.1 < L.length := take_lt hE (take_lt hE hk (by decide) t) (by decide) []
def NumPost (A : Option Addr) (n c : Nat) (q : Int × Rd) (w : World) (e : Ending) (w' : World) : Prop := e = .returned (.tuple #[.int .i64 q.1, .agg (rdA A n c q.2)]) ∧ Below w.heap.size w w'
theorem NumPost.of {A : Option Addr} {n c k : Nat} {y : Int} {bd : Bool} {q : Int × Rd} {w w' : World} (h1 : q = (y, (k, bd))) (hb : Below w.heap.size w w') : NumPost A n c q w (.returned (.tuple #[.int .i64 y, .agg #[.slice A n c, .int .i64 k, .bool bd]])) w' := by
  subst h1; exact ⟨rfl, hb⟩
set_option maxRecDepth 100000 in
set_option maxHeartbeats 4000000 in
theorem refNumber_any (A : Option Addr) (n c : Nat) (L : List Lx) (hE : Ends15 L) (k : Nat) (bad : Bool) (t : List UInt8) (w : World) (hl : Rep.lx.slice.R w (Lt w) L [.slice A n c]) (hk : k < L.length) :
    Calls Tryd.prog 68 #[.agg #[.slice A n c, .int .i64 k, .bool bad], .string (bA t)] w (NumPost A n c (numR L (k, bad) t) w) := by
  obtain ⟨W, hW⟩ : ∃ W, W = (w.alloc (.cells #[.slice A n c, .int .i64 k, .bool bad] 84)).alloc (.cells #[.slice none 0 0, .int .i64 0, .bool false] 84) := ⟨_, rfl⟩
  have hbW : Below w.heap.size w W := by rw [hW]; exact ((Below.refl _ _).alloc (Nat.le_refl _) _).alloc (by simp) _
  have b0 : Blk W w.heap.size 84 #[.slice A n c, .int .i64 k, .bool bad] := by rw [hW]; exact (Blk.new w _ _).alloc _
  have b1 : Blk W (w.heap.size + 1) 84 #[.slice none 0 0, .int .i64 0, .bool false] := by
    have := Blk.new (w.alloc (.cells #[.slice A n c, .int .i64 k, .bool bad] 84)) 84 #[.slice none 0 0, .int .i64 0, .bool false]
    rw [hW]; simpa using this
  have HW := Lib.hid hW
  have HBW := Lib.hid hbW
  have HL := Lib.hid hl
  have hk1 := take_lt hE (x := (k, bad)) hk (kd := 1) (by decide) t
  have C1 := Lib.hid (refTake_any A n c L k bad 1 t W (Rep.below hl hbW) hk)
  obtain ⟨q, hq⟩ : ∃ q, q = numR L (k, bad) t := ⟨_, rfl⟩
  have HQ : Hid (q = ((takeR L (takeR L (k, bad) 1 t).2 2 []).1.2.2.1, (takeR L (takeR L (k, bad) 1 t).2 2 []).2)) := hq
  rw [← hq]
  generalize takeR L (k, bad) 1 t = r1 at *
  obtain ⟨⟨x1, x2, x3, x4⟩, k1, bd1⟩ := r1
  have hk1 : k1 < L.length := hk1
  have HB := Lib.hid (And.intro b0 b1)
  have z0 : W.cell? ⟨w.heap.size, 0, none⟩ = some (.slice A n c) := b0.cell 0
  have z1 : W.cell? ⟨w.heap.size, 1, none⟩ = some (.int .i64 k) := b0.cell 1
  have z2 : W.cell? ⟨w.heap.size, 2, none⟩ = some (.bool bad) := b0.cell 2
  clear hW hbW hl hq hk b0 b1
  go_enter Tryd.func68, Tryd.ntmps68
  go_upto_region 1 with fail
  rw [← HW.out]
  go_wp2_with fail
  refine C1.out.mono ?_
  rintro e w1 ⟨rfl, hb1⟩
  simp only [lxA, rdA]
  have HB := Lib.hid (And.intro (HB.out.1.below hb1 HB.out.1.lt) (HB.out.2.below hb1 HB.out.2.lt))
  have HBW := Lib.hid (bstep HBW.out HBW.out.size hb1)
  clear z0 z1 z2 C1 hb1 HW
  have z0 : w1.cell? ⟨w.heap.size, 0, none⟩ = some (.slice A n c) := HB.out.1.cell 0
  have z1 : w1.cell? ⟨w.heap.size, 1, none⟩ = some (.int .i64 k) := HB.out.1.cell 1
  have z2 : w1.cell? ⟨w.heap.size, 2, none⟩ = some (.bool bad) := HB.out.1.cell 2
  have zf0 := HB.out.1.free 0
  have zf1 := HB.out.1.free 1
  have zf2 := HB.out.1.free 2
  go_wp2_with fail
  have HB2 := Lib.hid (And.intro (three_set (a' := .slice A n c) (b' := .int .i64 k1) (c' := .bool bd1) HB.out.1) (three_far (a' := .slice A n c) (b' := .int .i64 k1) (c' := .bool bd1) HB.out.2 (show w.heap.size + 1 ≠ w.heap.size by omega)))
  have HBW2 := Lib.hid (three_below (a' := .slice A n c) (b' := .int .i64 k1) (c' := .bool bd1) HBW.out (Nat.le_refl w.heap.size))
  clear z0 z1 z2 zf0 zf1 zf2 HB HBW
  generalize ((w1.setCell ⟨w.heap.size, 0, none⟩ (.slice A n c)).setCell ⟨w.heap.size, 1, none⟩ (.int .i64 k1)).setCell ⟨w.heap.size, 2, none⟩ (.bool bd1) = W2 at *
  have C2 := Lib.hid (refTake_any A n c L k1 bd1 2 [] W2 (Rep.below HL.out HBW2.out) hk1)
  generalize takeR L (k1, bd1) 2 [] = r2 at *
  obtain ⟨⟨y1, y2, y3, y4⟩, k2, bd2⟩ := r2
  refine C2.out.mono ?_
  rintro e w3 ⟨rfl, hb3⟩
  simp only [lxA, rdA]
  have HB := Lib.hid (And.intro (HB2.out.1.below hb3 HB2.out.1.lt) (HB2.out.2.below hb3 HB2.out.2.lt))
  have HBW := Lib.hid (bstep HBW2.out HBW2.out.size hb3)
  clear C2 hb3 HB2 HBW2
  have hba := (Below.refl w3.heap.size w3).alloc (Nat.le_refl _) (.cells #[.int .i64 y1, .string (bA y2), .int .i64 y3, .int .i64 y4] 81)
  have HB4 := Lib.hid (And.intro (HB.out.1.below hba HB.out.1.lt) (And.intro (HB.out.2.below hba HB.out.2.lt) (Blk.new w3 81 #[.int .i64 y1, .string (bA y2), .int .i64 y3, .int .i64 y4])))
  have HBW4 := Lib.hid (bstep HBW.out HBW.out.size hba)
  have hneg : w3.heap.size ≠ w.heap.size := by have := HB.out.1.lt; omega
  have hneg1 : w3.heap.size ≠ w.heap.size + 1 := by have := HB.out.2.lt; omega
  clear hba HB HBW
  have z0 : (w3.alloc (.cells #[.int .i64 y1, .string (bA y2), .int .i64 y3, .int .i64 y4] 81)).cell? ⟨w.heap.size, 0, none⟩ = some (.slice A n c) := HB4.out.1.cell 0
  have z1 : (w3.alloc (.cells #[.int .i64 y1, .string (bA y2), .int .i64 y3, .int .i64 y4] 81)).cell? ⟨w.heap.size, 1, none⟩ = some (.int .i64 k1) := HB4.out.1.cell 1
  have z2 : (w3.alloc (.cells #[.int .i64 y1, .string (bA y2), .int .i64 y3, .int .i64 y4] 81)).cell? ⟨w.heap.size, 2, none⟩ = some (.bool bd1) := HB4.out.1.cell 2
  have zf0 := HB4.out.1.free 0
  have zf1 := HB4.out.1.free 1
  have zf2 := HB4.out.1.free 2
  go_upto_region 3 with fail
  have HB5 := Lib.hid (And.intro (three_set (a' := .slice A n c) (b' := .int .i64 k2) (c' := .bool bd2) HB4.out.1) (And.intro (three_far (a' := .slice A n c) (b' := .int .i64 k2) (c' := .bool bd2) HB4.out.2.1 (show w.heap.size + 1 ≠ w.heap.size by omega)) (three_far (a' := .slice A n c) (b' := .int .i64 k2) (c' := .bool bd2) HB4.out.2.2 hneg)))
  have HBW5 := Lib.hid (three_below (a' := .slice A n c) (b' := .int .i64 k2) (c' := .bool bd2) HBW4.out (Nat.le_refl w.heap.size))
  clear z0 z1 z2 zf0 zf1 zf2 HB4 HBW4
  generalize (((w3.alloc (.cells #[.int .i64 y1, .string (bA y2), .int .i64 y3, .int .i64 y4] 81)).setCell ⟨w.heap.size, 0, none⟩ (.slice A n c)).setCell ⟨w.heap.size, 1, none⟩ (.int .i64 k2)).setCell ⟨w.heap.size, 2, none⟩ (.bool bd2) = W5 at *
  have z0 : W5.cell? ⟨w.heap.size, 0, none⟩ = some (.slice A n c) := HB5.out.1.cell 0
  have z1 : W5.cell? ⟨w.heap.size, 1, none⟩ = some (.int .i64 k2) := HB5.out.1.cell 1
  have z2 : W5.cell? ⟨w.heap.size, 2, none⟩ = some (.bool bd2) := HB5.out.1.cell 2
  have y0' : W5.cell? ⟨w.heap.size + 1, 0, none⟩ = some (.slice none 0 0) := HB5.out.2.1.cell 0
  have y1' : W5.cell? ⟨w.heap.size + 1, 1, none⟩ = some (.int .i64 0) := HB5.out.2.1.cell 1
  have y2' : W5.cell? ⟨w.heap.size + 1, 2, none⟩ = some (.bool false) := HB5.out.2.1.cell 2
  have yf0 := HB5.out.2.1.free 0
  have yf1 := HB5.out.2.1.free 1
  have yf2 := HB5.out.2.1.free 2
  have l2 : W5.cell? ⟨w3.heap.size, 2, none⟩ = some (.int .i64 y3) := HB5.out.2.2.cell 2
  go_region
  go_wp2
  have hfin := three_set (a' := .slice A n c) (b' := .int .i64 k2) (c' := .bool bd2) HB5.out.2.1
  exact bodyPost_ret (results_tc15 (u := 4) (q := 5) rfl _ _ rfl rfl (load_rd (hfin.drewN 1) rfl)) rfl (NumPost.of HQ.out (below_drewN (three_below HBW5.out (by omega)) 1))
end Go.Proofs.YtacbmmnipedpdaaDoor
namespace Go.Proofs.YtacbmmnipedpdaaDoor
open Go Go.RowKit
set_option linter.unusedSimpArgs false

/-- a reader in its box, a result's box and a reader's result's box. -/
structure SR (w : World) (A : Option Addr) (n c : Nat) (T : TypeId) (z : Array Value) (k : Nat) (bd : Bool) (W : World) : Prop where
  b0 : Blk W w.heap.size 84 #[.slice A n c, .int .i64 k, .bool bd]
  b1 : Blk W (w.heap.size + 1) T z
  b2 : Blk W (w.heap.size + 1 + 1) 84 #[.slice none 0 0, .int .i64 0, .bool false]
  hb : Below w.heap.size w W
theorem SR.below {w W W' : World} {A : Option Addr} {n c k : Nat} {T : TypeId} {z : Array Value} {bd : Bool} (h : SR w A n c T z k bd W) (hb : Below W.heap.size W W') : SR w A n c T z k bd W' :=
  ⟨h.b0.below hb h.b0.lt, h.b1.below hb h.b1.lt, h.b2.below hb h.b2.lt, bstep h.hb h.hb.size hb⟩
theorem SR.set {w W : World} {A : Option Addr} {n c k k' : Nat} {T : TypeId} {z : Array Value} {bd bd' : Bool} (h : SR w A n c T z k bd W) : SR w A n c T z k' bd' (((W.setCell ⟨w.heap.size, 0, none⟩ (.slice A n c)).setCell ⟨w.heap.size, 1, none⟩ (.int .i64 k')).setCell ⟨w.heap.size, 2, none⟩ (.bool bd')) :=
  ⟨three_set h.b0, three_far h.b1 (by omega), three_far h.b2 (by omega), three_below h.hb (Nat.le_refl _)⟩
/-- the lexemes, later. -/
def LxOld (w : World) (L : List Lx) (v : Value) : Prop := Rep.lx.slice.R w (Lt w) L [v]
theorem LxOld.below6 {w W : World} {L : List Lx} {v : Value} (h : LxOld w L v) (hb : Below w.heap.size w W) : Rep.lx.slice.R W (Lt W) L [v] := Rep.below h hb
theorem sr_new (w : World) (A : Option Addr) (n c k : Nat) (bd : Bool) (T : TypeId) (z : Array Value) : SR w A n c T z k bd (((w.alloc (.cells #[.slice A n c, .int .i64 k, .bool bd] 84)).alloc (.cells z T)).alloc (.cells #[.slice none 0 0, .int .i64 0, .bool false] 84)) := by
  refine ⟨((Blk.new w _ _).alloc _).alloc _, ?_, ?_, (((Below.refl _ _).alloc (Nat.le_refl _) _).alloc (by simp) _).alloc (by simp; omega) _⟩
  · have := (Blk.new (w.alloc (.cells #[.slice A n c, .int .i64 k, .bool bd] 84)) T z).alloc (.cells #[.slice none 0 0, .int .i64 0, .bool false] 84)
    simpa using this
  · have := Blk.new ((w.alloc (.cells #[.slice A n c, .int .i64 k, .bool bd] 84)).alloc (.cells z T)) 84 #[.slice none 0 0, .int .i64 0, .bool false]
    simpa using this
/-- a lexeme in a box of its own. -/
structure LxBx (w : World) (g : Nat) (x1 : Int) (x2 : List UInt8) (x3 x4 : Int) (W : World) : Prop where
  b : Blk W g 81 #[.int .i64 x1, .string (bA x2), .int .i64 x3, .int .i64 x4]
  gt : w.heap.size + 1 + 1 < g
theorem LxBx.below {w W W' : World} {g : Nat} {x1 x3 x4 : Int} {x2 : List UInt8} (h : LxBx w g x1 x2 x3 x4 W) (hb : Below W.heap.size W W') : LxBx w g x1 x2 x3 x4 W' := ⟨h.b.below hb h.b.lt, h.gt⟩
theorem LxBx.set {w W : World} {g : Nat} {x1 x3 x4 : Int} {x2 : List UInt8} {a b c : Value} (h : LxBx w g x1 x2 x3 x4 W) : LxBx w g x1 x2 x3 x4 (((W.setCell ⟨w.heap.size, 0, none⟩ a).setCell ⟨w.heap.size, 1, none⟩ b).setCell ⟨w.heap.size, 2, none⟩ c) := ⟨three_far h.b (by have := h.gt; omega), h.gt⟩
theorem sect_fin {W : World} {g : Nat} {z0 z1 z2 z3 o0 o1 o2 a b c d e f h : Value} (h1 : Blk W (g + 1) 36 #[z0, z1, z2, z3]) (h2 : Blk W (g + 1 + 1) 84 #[o0, o1, o2]) :
    Blk ((((((((W.setCell ⟨g + 1, 0, none⟩ a).setCell ⟨g + 1, 1, none⟩ b).setCell ⟨g + 1, 2, none⟩ c).setCell ⟨g + 1, 3, none⟩ d).setCell ⟨g + 1 + 1, 0, none⟩ e).setCell ⟨g + 1 + 1, 1, none⟩ f).setCell ⟨g + 1 + 1, 2, none⟩ h).drew) (g + 1) 36 #[a, b, c, d] ∧
    Blk ((((((((W.setCell ⟨g + 1, 0, none⟩ a).setCell ⟨g + 1, 1, none⟩ b).setCell ⟨g + 1, 2, none⟩ c).setCell ⟨g + 1, 3, none⟩ d).setCell ⟨g + 1 + 1, 0, none⟩ e).setCell ⟨g + 1 + 1, 1, none⟩ f).setCell ⟨g + 1 + 1, 2, none⟩ h).drew) (g + 1 + 1) 84 #[e, f, h] :=
  ⟨(three_far (four_set h1) (by omega)).drewN 1, (three_set (four_far h2 (by omega))).drewN 1⟩
theorem load_sc {W : World} {g : Nat} {cs : Array Value} (h : Blk W g 36 cs) (hs : cs.size = 4) : (loadVar 36 ⟨g, 0, none⟩).run Tryd.prog W = .ok (.agg cs) W :=
  run_loadVar_row W g 36 36 cs _ _ h Tryd.underlying36 rfl (by rw [hs]; exact sc_size)
def SectRPost (A : Option Addr) (n c : Nat) (q : Sc × Rd) (w : World) (e : Ending) (w' : World) : Prop := e = .returned (.tuple #[.agg (scC q.1), .agg (rdA A n c q.2)]) ∧ Below w.heap.size w w'
theorem SectRPost.of {A : Option Addr} {n c k : Nat} {nm : List UInt8} {x y z : Int} {bd : Bool} {q : Sc × Rd} {w w' : World} (h1 : q = ((nm, x, y, z), (k, bd))) (hb : Below w.heap.size w w') : SectRPost A n c q w (.returned (.tuple #[.agg #[.string (bA nm), .int .i64 x, .int .i64 y, .int .i64 z], .agg #[.slice A n c, .int .i64 k, .bool bd]])) w' := by
  subst h1; exact ⟨rfl, hb⟩
theorem sectR_eq (L : List Lx) (x : Rd) : sectR L x = (((takeR L x 1 []).1.2.1, (numR L (takeR L x 1 []).2 tArea).1, (numR L (numR L (takeR L x 1 []).2 tArea).2 tHeight).1, (numR L (numR L (numR L (takeR L x 1 []).2 tArea).2 tHeight).2 tStock).1), (takeR L (numR L (numR L (numR L (takeR L x 1 []).2 tArea).2 tHeight).2 tStock).2 4 [59]).2) := rfl
set_option maxRecDepth 100000 in
set_option maxHeartbeats 8000000 in
theorem refSect_any (A : Option Addr) (n c : Nat) (L : List Lx) (hE : Ends15 L) (k : Nat) (bad : Bool) (w : World) (hl : Rep.lx.slice.R w (Lt w) L [.slice A n c]) (hk : k < L.length) :
    Calls Tryd.prog 52 #[.agg #[.slice A n c, .int .i64 k, .bool bad]] w (SectRPost A n c (sectR L (k, bad)) w) := by
  obtain ⟨W, hW⟩ : ∃ W, W = ((w.alloc (.cells #[.slice A n c, .int .i64 k, .bool bad] 84)).alloc (.cells #[.string ⟨#[]⟩, .int .i64 0, .int .i64 0, .int .i64 0] 36)).alloc (.cells #[.slice none 0 0, .int .i64 0, .bool false] 84) := ⟨_, rfl⟩
  have hs := sr_new w A n c k bad 36 #[.string ⟨#[]⟩, .int .i64 0, .int .i64 0, .int .i64 0]
  rw [← hW] at hs
  have HS := Lib.hid hs
  have HW := Lib.hid hW
  have HLr : Hid (LxOld w L (.slice A n c)) := hl
  have hk1 := take_lt hE (x := (k, bad)) hk (kd := 1) (by decide) []
  have C1 := Lib.hid (refTake_any A n c L k bad 1 [] W (HLr.out.below6 hs.hb) hk)
  obtain ⟨q, hq⟩ : ∃ q, q = sectR L (k, bad) := ⟨_, rfl⟩
  have HQ := Lib.hid hq
  rw [← hq]
  rw [sectR_eq] at HQ
  generalize takeR L (k, bad) 1 [] = r1 at *
  obtain ⟨⟨x1, x2, x3, x4⟩, k1, bd1⟩ := r1
  have hk1 : k1 < L.length := hk1
  clear hs hW hl hq hk
  have z0 : W.cell? ⟨w.heap.size, 0, none⟩ = some (.slice A n c) := HS.out.b0.cell 0
  have z1 : W.cell? ⟨w.heap.size, 1, none⟩ = some (.int .i64 k) := HS.out.b0.cell 1
  have z2 : W.cell? ⟨w.heap.size, 2, none⟩ = some (.bool bad) := HS.out.b0.cell 2
  go_enter Tryd.func52, Tryd.ntmps52
  go_upto_region 1 with fail
  rw [← HW.out]
  go_wp2_with fail
  refine C1.out.mono ?_
  rintro e w1 ⟨rfl, hb⟩
  simp only [lxA, rdA]
  have HS := Lib.hid (HS.out.below hb)
  clear z0 z1 z2 C1 HW hb
  have hba := (Below.refl w1.heap.size w1).alloc (Nat.le_refl _) (.cells #[.int .i64 x1, .string (bA x2), .int .i64 x3, .int .i64 x4] 81)
  obtain ⟨g4, hg4⟩ : ∃ g4, g4 = w1.heap.size := ⟨_, rfl⟩
  have HX : Hid (LxBx w w1.heap.size x1 x2 x3 x4 (w1.alloc (.cells #[.int .i64 x1, .string (bA x2), .int .i64 x3, .int .i64 x4] 81))) := ⟨Blk.new w1 _ _, HS.out.b2.lt⟩
  have HS := Lib.hid (HS.out.below hba)
  clear hba
  have z0 : (w1.alloc (.cells #[.int .i64 x1, .string (bA x2), .int .i64 x3, .int .i64 x4] 81)).cell? ⟨w.heap.size, 0, none⟩ = some (.slice A n c) := HS.out.b0.cell 0
  have z1 : (w1.alloc (.cells #[.int .i64 x1, .string (bA x2), .int .i64 x3, .int .i64 x4] 81)).cell? ⟨w.heap.size, 1, none⟩ = some (.int .i64 k) := HS.out.b0.cell 1
  have z2 : (w1.alloc (.cells #[.int .i64 x1, .string (bA x2), .int .i64 x3, .int .i64 x4] 81)).cell? ⟨w.heap.size, 2, none⟩ = some (.bool bad) := HS.out.b0.cell 2
  have zf0 := HS.out.b0.free 0
  have zf1 := HS.out.b0.free 1
  have zf2 := HS.out.b0.free 2
  clear hg4
  go_wp2_with fail
  have HX := Lib.hid (HX.out.set (a := .slice A n c) (b := .int .i64 k1) (c := .bool bd1))
  have HS := Lib.hid (HS.out.set (k' := k1) (bd' := bd1))
  clear z0 z1 z2 zf0 zf1 zf2
  generalize (((w1.alloc (.cells #[.int .i64 x1, .string (bA x2), .int .i64 x3, .int .i64 x4] 81)).setCell ⟨w.heap.size, 0, none⟩ (.slice A n c)).setCell ⟨w.heap.size, 1, none⟩ (.int .i64 k1)).setCell ⟨w.heap.size, 2, none⟩ (.bool bd1) = W1 at *
  generalize w1.heap.size = g4 at *
  have CC := Lib.hid (refNumber_any A n c L hE k1 bd1 tArea W1 (HLr.out.below6 HS.out.hb) hk1)
  have hk2 := num_lt hE (x := (k1, bd1)) hk1 tArea
  generalize numR L (k1, bd1) tArea = r2 at *
  obtain ⟨v2, k2, bd2⟩ := r2
  have hk2 : k2 < L.length := hk2
  refine CC.out.mono ?_
  rintro e w2 ⟨rfl, hb⟩
  simp only [rdA]
  have HS := Lib.hid (HS.out.below hb)
  have HX := Lib.hid (HX.out.below hb)
  clear CC hb
  have z0 : w2.cell? ⟨w.heap.size, 0, none⟩ = some (.slice A n c) := HS.out.b0.cell 0
  have z1 : w2.cell? ⟨w.heap.size, 1, none⟩ = some (.int .i64 k1) := HS.out.b0.cell 1
  have z2 : w2.cell? ⟨w.heap.size, 2, none⟩ = some (.bool bd1) := HS.out.b0.cell 2
  have zf0 := HS.out.b0.free 0
  have zf1 := HS.out.b0.free 1
  have zf2 := HS.out.b0.free 2
  go_wp2_with fail
  have HX := Lib.hid (HX.out.set (a := .slice A n c) (b := .int .i64 k2) (c := .bool bd2))
  have HS := Lib.hid (HS.out.set (k' := k2) (bd' := bd2))
  clear z0 z1 z2 zf0 zf1 zf2
  generalize ((w2.setCell ⟨w.heap.size, 0, none⟩ (.slice A n c)).setCell ⟨w.heap.size, 1, none⟩ (.int .i64 k2)).setCell ⟨w.heap.size, 2, none⟩ (.bool bd2) = W2 at *
  have CC := Lib.hid (refNumber_any A n c L hE k2 bd2 tHeight W2 (HLr.out.below6 HS.out.hb) hk2)
  have hk3 := num_lt hE (x := (k2, bd2)) hk2 tHeight
  generalize numR L (k2, bd2) tHeight = r3 at *
  obtain ⟨v3, k3, bd3⟩ := r3
  have hk3 : k3 < L.length := hk3
  refine CC.out.mono ?_
  rintro e w3 ⟨rfl, hb⟩
  simp only [rdA]
  have HS := Lib.hid (HS.out.below hb)
  have HX := Lib.hid (HX.out.below hb)
  clear CC hb
  have z0 : w3.cell? ⟨w.heap.size, 0, none⟩ = some (.slice A n c) := HS.out.b0.cell 0
  have z1 : w3.cell? ⟨w.heap.size, 1, none⟩ = some (.int .i64 k2) := HS.out.b0.cell 1
  have z2 : w3.cell? ⟨w.heap.size, 2, none⟩ = some (.bool bd2) := HS.out.b0.cell 2
  have zf0 := HS.out.b0.free 0
  have zf1 := HS.out.b0.free 1
  have zf2 := HS.out.b0.free 2
  go_wp2_with fail
  have HX := Lib.hid (HX.out.set (a := .slice A n c) (b := .int .i64 k3) (c := .bool bd3))
  have HS := Lib.hid (HS.out.set (k' := k3) (bd' := bd3))
  clear z0 z1 z2 zf0 zf1 zf2
  generalize ((w3.setCell ⟨w.heap.size, 0, none⟩ (.slice A n c)).setCell ⟨w.heap.size, 1, none⟩ (.int .i64 k3)).setCell ⟨w.heap.size, 2, none⟩ (.bool bd3) = W3 at *
  have CC := Lib.hid (refNumber_any A n c L hE k3 bd3 tStock W3 (HLr.out.below6 HS.out.hb) hk3)
  have hk4 := num_lt hE (x := (k3, bd3)) hk3 tStock
  generalize numR L (k3, bd3) tStock = r4 at *
  obtain ⟨v4, k4, bd4⟩ := r4
  have hk4 : k4 < L.length := hk4
  refine CC.out.mono ?_
  rintro e w4 ⟨rfl, hb⟩
  simp only [rdA]
  have HS := Lib.hid (HS.out.below hb)
  have HX := Lib.hid (HX.out.below hb)
  clear CC hb
  have z0 : w4.cell? ⟨w.heap.size, 0, none⟩ = some (.slice A n c) := HS.out.b0.cell 0
  have z1 : w4.cell? ⟨w.heap.size, 1, none⟩ = some (.int .i64 k3) := HS.out.b0.cell 1
  have z2 : w4.cell? ⟨w.heap.size, 2, none⟩ = some (.bool bd3) := HS.out.b0.cell 2
  have zf0 := HS.out.b0.free 0
  have zf1 := HS.out.b0.free 1
  have zf2 := HS.out.b0.free 2
  go_wp2_with fail
  have HX := Lib.hid (HX.out.set (a := .slice A n c) (b := .int .i64 k4) (c := .bool bd4))
  have HS := Lib.hid (HS.out.set (k' := k4) (bd' := bd4))
  clear z0 z1 z2 zf0 zf1 zf2
  generalize ((w4.setCell ⟨w.heap.size, 0, none⟩ (.slice A n c)).setCell ⟨w.heap.size, 1, none⟩ (.int .i64 k4)).setCell ⟨w.heap.size, 2, none⟩ (.bool bd4) = W4 at *
  have CC := Lib.hid (refTake_any A n c L k4 bd4 4 [59] W4 (HLr.out.below6 HS.out.hb) hk4)
  generalize takeR L (k4, bd4) 4 [59] = r5 at *
  obtain ⟨⟨u1, u2, u3, u4⟩, k5, bd5⟩ := r5
  refine CC.out.mono ?_
  rintro e w5 ⟨rfl, hb⟩
  simp only [lxA, rdA]
  have HS := Lib.hid (HS.out.below hb)
  have HX := Lib.hid (HX.out.below hb)
  clear CC hb
  have z0 : w5.cell? ⟨w.heap.size, 0, none⟩ = some (.slice A n c) := HS.out.b0.cell 0
  have z1 : w5.cell? ⟨w.heap.size, 1, none⟩ = some (.int .i64 k4) := HS.out.b0.cell 1
  have z2 : w5.cell? ⟨w.heap.size, 2, none⟩ = some (.bool bd4) := HS.out.b0.cell 2
  have zf0 := HS.out.b0.free 0
  have zf1 := HS.out.b0.free 1
  have zf2 := HS.out.b0.free 2
  go_upto_region 6 with fail
  have HX := Lib.hid (HX.out.set (a := .slice A n c) (b := .int .i64 k5) (c := .bool bd5))
  have HS := Lib.hid (HS.out.set (k' := k5) (bd' := bd5))
  clear z0 z1 z2 zf0 zf1 zf2
  generalize ((w5.setCell ⟨w.heap.size, 0, none⟩ (.slice A n c)).setCell ⟨w.heap.size, 1, none⟩ (.int .i64 k5)).setCell ⟨w.heap.size, 2, none⟩ (.bool bd5) = W5 at *
  have z0 : W5.cell? ⟨w.heap.size, 0, none⟩ = some (.slice A n c) := HS.out.b0.cell 0
  have z1 : W5.cell? ⟨w.heap.size, 1, none⟩ = some (.int .i64 k5) := HS.out.b0.cell 1
  have z2 : W5.cell? ⟨w.heap.size, 2, none⟩ = some (.bool bd5) := HS.out.b0.cell 2
  have l1 : W5.cell? ⟨g4, 1, none⟩ = some (.string (bA x2)) := HX.out.b.cell 1
  have s0 : W5.cell? ⟨w.heap.size + 1, 0, none⟩ = some (.string ⟨#[]⟩) := HS.out.b1.cell 0
  have s1 : W5.cell? ⟨w.heap.size + 1, 1, none⟩ = some (.int .i64 0) := HS.out.b1.cell 1
  have s2 : W5.cell? ⟨w.heap.size + 1, 2, none⟩ = some (.int .i64 0) := HS.out.b1.cell 2
  have s3 : W5.cell? ⟨w.heap.size + 1, 3, none⟩ = some (.int .i64 0) := HS.out.b1.cell 3
  have sf0 := HS.out.b1.free 0
  have sf1 := HS.out.b1.free 1
  have sf2 := HS.out.b1.free 2
  have sf3 := HS.out.b1.free 3
  have p0 : W5.cell? ⟨w.heap.size + 1 + 1, 0, none⟩ = some (.slice none 0 0) := HS.out.b2.cell 0
  have p1 : W5.cell? ⟨w.heap.size + 1 + 1, 1, none⟩ = some (.int .i64 0) := HS.out.b2.cell 1
  have p2 : W5.cell? ⟨w.heap.size + 1 + 1, 2, none⟩ = some (.bool false) := HS.out.b2.cell 2
  have pf0 := HS.out.b2.free 0
  have pf1 := HS.out.b2.free 1
  have pf2 := HS.out.b2.free 2
  go_region
  go_wp2
  have hfin := sect_fin (a := .string (bA x2)) (b := .int .i64 v2) (c := .int .i64 v3) (d := .int .i64 v4) (e := .slice A n c) (f := .int .i64 k5) (h := .bool bd5) HS.out.b1 HS.out.b2
  exact bodyPost_ret (results_cc15 (p := 2) (q := 3) rfl _ _ rfl rfl (load_sc hfin.1 rfl) (load_rd hfin.2 rfl)) rfl (SectRPost.of HQ.out (below_drewN (three_below (four_below HS.out.hb (by omega)) (by omega)) 1))
end Go.Proofs.YtacbmmnipedpdaaDoor
namespace Go.Proofs.YtacbmmnipedpdaaDoor
open Go Go.RowKit
set_option linter.unusedSimpArgs false

theorem box_grown15 {X W : World} {gx base size n : Nat} {t e : TypeId} {cs : Array Value} {v : Value} {xs : List Value} (hb : Blk X gx t cs) (ho : X.ownsRow base e size v n xs) {o : Obj} (hg : (X.alloc o).grownBy W v.ownBlock) (hne : t ≠ e) : Blk W gx t cs := by
  refine ((hg.block gx (by have := hb.lt; simp; omega) (fun h => ?_)).trans (Below.heap_alloc _ _ gx hb.lt)).trans hb
  rcases ho.2 with ⟨rfl, -⟩ | ⟨g, cap, cur, rfl, hb', hh, -⟩
  · cases h
  · have h : gx = g := Option.some.inj h
    subst h
    have hb := (show X.heap[gx]? = _ from hb)
    rw [hh] at hb
    injection hb with hb
    injection hb with _ hb _
    exact hne hb.symm
theorem gradeR_eq (L : List Lx) (x : Rd) : gradeR L x = (((takeR L x 1 []).1.2.1, (numR L (takeR L x 1 []).2 tDensity).1, (numR L (numR L (takeR L x 1 []).2 tDensity).2 tYield).1, (gaugesR L L.length (numR L (numR L (numR L (takeR L x 1 []).2 tDensity).2 tYield).2 tGauges).2 [(numR L (numR L (numR L (takeR L x 1 []).2 tDensity).2 tYield).2 tGauges).1]).1), (takeR L (gaugesR L L.length (numR L (numR L (numR L (takeR L x 1 []).2 tDensity).2 tYield).2 tGauges).2 [(numR L (numR L (numR L (takeR L x 1 []).2 tDensity).2 tYield).2 tGauges).1]).2 4 [59]).2) := rfl
def GradeRPost (A : Option Addr) (n c : Nat) (q : Gr × Rd) (w : World) (e : Ending) (w' : World) : Prop := ∃ a, e = .returned (.tuple #[.agg a, .agg (rdA A n c q.2)]) ∧ GrOut q.1 w.heap.size a w' ∧ (∀ x ∈ q.1.2.2.2, inI64 x) ∧ Below w.heap.size w w'
/-- where the gauges are being read. -/
structure GaR (w : World) (A : Option Addr) (n c : Nat) (g8 : Nat) (nm : List UInt8) (v2 v3 : Int) (k : Nat) (bd : Bool) (acc : List Int) (vg : Value) (W : World) : Prop where
  s : SR w A n c 32 #[.string ⟨#[]⟩, .int .i64 0, .int .i64 0, .slice none 0 0] k bd W
  b8 : Blk W g8 32 #[.string (bA nm), .int .i64 v2, .int .i64 v3, vg]
  g8 : w.heap.size + 1 + 1 < g8
  own : W.ownsRow (w.heap.size + 1 + 1 + 1) 3 1 vg acc.length (acc.map (Value.int .i64))
  i64 : ∀ x ∈ acc, inI64 x
theorem GaR.below {w W W' : World} {A : Option Addr} {n c g8 k : Nat} {nm : List UInt8} {v2 v3 : Int} {bd : Bool} {acc : List Int} {vg : Value} (h : GaR w A n c g8 nm v2 v3 k bd acc vg W) (hb : Below W.heap.size W W') : GaR w A n c g8 nm v2 v3 k bd acc vg W' :=
  ⟨h.s.below hb, h.b8.below hb h.b8.lt, h.g8, own_below h.own hb, h.i64⟩
theorem own_far15 {W : World} {base size n g i : Nat} {e : TypeId} {u v : Value} {xs : List Value} (h : W.ownsRow base e size v n xs) (hg : g < base) : (W.setCell ⟨g, i, none⟩ u).ownsRow base e size v n xs := own_far h hg i u
theorem GaR.setR {w W : World} {A : Option Addr} {n c g8 k k' : Nat} {nm : List UInt8} {v2 v3 : Int} {bd bd' : Bool} {acc : List Int} {vg : Value} (h : GaR w A n c g8 nm v2 v3 k bd acc vg W) : GaR w A n c g8 nm v2 v3 k' bd' acc vg (((W.setCell ⟨w.heap.size, 0, none⟩ (.slice A n c)).setCell ⟨w.heap.size, 1, none⟩ (.int .i64 k')).setCell ⟨w.heap.size, 2, none⟩ (.bool bd')) :=
  ⟨h.s.set, three_far h.b8 (by have := h.g8; omega), h.g8, own_far15 (own_far15 (own_far15 h.own (by omega)) (by omega)) (by omega), h.i64⟩
/-- a gauge more. -/
theorem GaR.app {w X W : World} {A : Option Addr} {n c g8 k : Nat} {nm : List UInt8} {v2 v3 x : Int} {bd : Bool} {acc : List Int} {vg vn : Value} {o : Obj} (h : GaR w A n c g8 nm v2 v3 k bd acc vg X) (hg : (X.alloc o).grownBy W vg.ownBlock) (hown : W.ownsRow (w.heap.size + 1 + 1 + 1) 3 1 vn (acc.length + 1) (acc.map (Value.int .i64) ++ [.int .i64 x])) (hx : inI64 x) :
    GaR w A n c g8 nm v2 v3 k bd (acc ++ [x]) vn (W.setCell ⟨g8, 3, none⟩ vn) := by
  have hlt := World.ownsRow.lt h.own
  have hb : Below w.heap.size w W := (h.s.hb.alloc h.s.hb.size o).grown hg (by simp; have := h.s.hb.size; omega) (fun j hj => by have := (hlt j hj).1; omega)
  have h8 := (box_grown15 h.b8 h.own hg (by decide)).set_ 3 vn
  have hg8 := h.g8
  refine ⟨⟨(box_grown15 h.s.b0 h.own hg (by decide)).far (p := ⟨g8, 3, none⟩) (by show w.heap.size ≠ g8; omega) _, (box_grown15 h.s.b1 h.own hg (by decide)).far (p := ⟨g8, 3, none⟩) (by show w.heap.size + 1 ≠ g8; omega) _, (box_grown15 h.s.b2 h.own hg (by decide)).far (p := ⟨g8, 3, none⟩) (by show w.heap.size + 1 + 1 ≠ g8; omega) _, hb.setCell (p := ⟨g8, 3, none⟩) (by show w.heap.size ≤ g8; omega) _⟩, by simpa using h8, hg8, ?_, fun y hy => ?_⟩
  · have h9 := box_grown15 h.b8 h.own hg (by decide)
    rw [List.length_append, List.map_append]
    refine ⟨hown.1, ?_⟩
    rcases hown.2 with h0 | ⟨g, cap, cur, rfl, hb', hh, r⟩
    · exact .inl h0
    · refine .inr ⟨g, cap, cur, rfl, hb', (Below.heap_setCell W ⟨g8, 3, none⟩ _ g (fun e => ?_)).trans hh, r⟩
      have h9 := (show W.heap[g8]? = _ from h9)
      rw [← show g = g8 from e, hh] at h9
      injection h9 with h9
      injection h9 with _ h9 _
      exact absurd h9 (by decide)
  · rcases List.mem_append.1 hy with hy | hy
    · exact h.i64 y hy
    · rw [List.mem_singleton.1 hy]; exact hx
theorem grade_fin {W : World} {g : Nat} {z0 z1 z2 z3 o0 o1 o2 a b c d e f h : Value} (h1 : Blk W (g + 1) 32 #[z0, z1, z2, z3]) (h2 : Blk W (g + 1 + 1) 84 #[o0, o1, o2]) :
    Blk ((((((((W.setCell ⟨g + 1, 0, none⟩ a).setCell ⟨g + 1, 1, none⟩ b).setCell ⟨g + 1, 2, none⟩ c).setCell ⟨g + 1, 3, none⟩ d).setCell ⟨g + 1 + 1, 0, none⟩ e).setCell ⟨g + 1 + 1, 1, none⟩ f).setCell ⟨g + 1 + 1, 2, none⟩ h).drew) (g + 1) 32 #[a, b, c, d] ∧
    Blk ((((((((W.setCell ⟨g + 1, 0, none⟩ a).setCell ⟨g + 1, 1, none⟩ b).setCell ⟨g + 1, 2, none⟩ c).setCell ⟨g + 1, 3, none⟩ d).setCell ⟨g + 1 + 1, 0, none⟩ e).setCell ⟨g + 1 + 1, 1, none⟩ f).setCell ⟨g + 1 + 1, 2, none⟩ h).drew) (g + 1 + 1) 84 #[e, f, h] :=
  ⟨(three_far (four_set h1) (by omega)).drewN 1, (three_set (four_far h2 (by omega))).drewN 1⟩
theorem own_fin15 {W : World} {g base n : Nat} {e : TypeId} {v : Value} {xs : List Value} {a b c d e' f h : Value} (ho : W.ownsRow base e 1 v n xs) (hg : g + 1 + 1 < base) :
    ((((((((W.setCell ⟨g + 1, 0, none⟩ a).setCell ⟨g + 1, 1, none⟩ b).setCell ⟨g + 1, 2, none⟩ c).setCell ⟨g + 1, 3, none⟩ d).setCell ⟨g + 1 + 1, 0, none⟩ e').setCell ⟨g + 1 + 1, 1, none⟩ f).setCell ⟨g + 1 + 1, 2, none⟩ h).drew).ownsRow base e 1 v n xs :=
  own_below (own_far15 (own_far15 (own_far15 (own_far15 (own_far15 (own_far15 (own_far15 ho (by omega)) (by omega)) (by omega)) (by omega)) (by omega)) (by omega)) (by omega)) ((Below.refl _ _).drew)
theorem GradeRPost.of {A : Option Addr} {n c k : Nat} {nm : List UInt8} {x y : Int} {ts : List Int} {v : Value} {bd : Bool} {q : Gr × Rd} {w w' : World} (h1 : q = ((nm, x, y, ts), (k, bd))) (ho : w'.ownsRow (w.heap.size + 1 + 1 + 1) 3 1 v ts.length (ts.map (Value.int .i64))) (hi : ∀ x ∈ ts, inI64 x) (hb : Below w.heap.size w w') :
    GradeRPost A n c q w (.returned (.tuple #[.agg #[.string (bA nm), .int .i64 x, .int .i64 y, v], .agg #[.slice A n c, .int .i64 k, .bool bd]])) w' := by
  subst h1
  refine ⟨_, rfl, ⟨v, rfl, ?_⟩, hi, hb⟩
  refine ⟨ho.1, ?_⟩
  rcases ho.2 with h0 | ⟨g, cap, cur, e, hb', r⟩
  · exact .inl h0
  · exact .inr ⟨g, cap, cur, e, by omega, r⟩
theorem load_gr {W : World} {g : Nat} {cs : Array Value} (h : Blk W g 32 cs) (hs : cs.size = 4) : (loadVar 32 ⟨g, 0, none⟩).run Tryd.prog W = .ok (.agg cs) W :=
  run_loadVar_row W g 32 32 cs _ _ h Tryd.underlying32 rfl (by rw [hs]; exact gr_size)
set_option maxRecDepth 100000 in
set_option maxHeartbeats 8000000 in
theorem refGrade_any15 (A : Option Addr) (n c : Nat) (L : List Lx) (hE : Ends15 L) (hI : Nums15 L) (hLL : L.length ≤ 100000) (k : Nat) (bad : Bool) (w : World) (hl : Rep.lx.slice.R w (Lt w) L [.slice A n c]) (hk : k < L.length) :
    Calls Tryd.prog 51 #[.agg #[.slice A n c, .int .i64 k, .bool bad]] w (GradeRPost A n c (gradeR L (k, bad)) w) := by
  obtain ⟨i0, hi0, hz0, hz1, hz2⟩ := info_parts mt_int_info
  obtain ⟨W, hW⟩ : ∃ W, W = ((w.alloc (.cells #[.slice A n c, .int .i64 k, .bool bad] 84)).alloc (.cells #[.string ⟨#[]⟩, .int .i64 0, .int .i64 0, .slice none 0 0] 32)).alloc (.cells #[.slice none 0 0, .int .i64 0, .bool false] 84) := ⟨_, rfl⟩
  have hs := sr_new w A n c k bad 32 #[.string ⟨#[]⟩, .int .i64 0, .int .i64 0, .slice none 0 0]
  rw [← hW] at hs
  have HS := Lib.hid hs
  have HW := Lib.hid hW
  have HLr : Hid (LxOld w L (.slice A n c)) := hl
  have hk1 := take_lt hE (x := (k, bad)) hk (kd := 1) (by decide) []
  have C1 := Lib.hid (refTake_any A n c L k bad 1 [] W (HLr.out.below6 hs.hb) hk)
  obtain ⟨q, hq⟩ : ∃ q, q = gradeR L (k, bad) := ⟨_, rfl⟩
  have HQ := Lib.hid hq
  rw [← hq]
  rw [gradeR_eq] at HQ
  generalize takeR L (k, bad) 1 [] = r1 at *
  obtain ⟨⟨x1, x2, x3, x4⟩, k1, bd1⟩ := r1
  have hk1 : k1 < L.length := hk1
  clear hs hW hl hq hk
  have z0 : W.cell? ⟨w.heap.size, 0, none⟩ = some (.slice A n c) := HS.out.b0.cell 0
  have z1 : W.cell? ⟨w.heap.size, 1, none⟩ = some (.int .i64 k) := HS.out.b0.cell 1
  have z2 : W.cell? ⟨w.heap.size, 2, none⟩ = some (.bool bad) := HS.out.b0.cell 2
  go_enter Tryd.func51, Tryd.ntmps51
  go_upto_region 1 with fail
  rw [← HW.out]
  go_wp2_with fail
  refine C1.out.mono ?_
  rintro e w1 ⟨rfl, hb⟩
  simp only [lxA, rdA]
  have HS := Lib.hid (HS.out.below hb)
  clear z0 z1 z2 C1 HW hb
  have hba := (Below.refl w1.heap.size w1).alloc (Nat.le_refl _) (.cells #[.int .i64 x1, .string (bA x2), .int .i64 x3, .int .i64 x4] 81)
  obtain ⟨g4, hg4⟩ : ∃ g4, g4 = w1.heap.size := ⟨_, rfl⟩
  have HX : Hid (LxBx w w1.heap.size x1 x2 x3 x4 (w1.alloc (.cells #[.int .i64 x1, .string (bA x2), .int .i64 x3, .int .i64 x4] 81))) := ⟨Blk.new w1 _ _, HS.out.b2.lt⟩
  have HS := Lib.hid (HS.out.below hba)
  clear hba
  have z0 : (w1.alloc (.cells #[.int .i64 x1, .string (bA x2), .int .i64 x3, .int .i64 x4] 81)).cell? ⟨w.heap.size, 0, none⟩ = some (.slice A n c) := HS.out.b0.cell 0
  have z1 : (w1.alloc (.cells #[.int .i64 x1, .string (bA x2), .int .i64 x3, .int .i64 x4] 81)).cell? ⟨w.heap.size, 1, none⟩ = some (.int .i64 k) := HS.out.b0.cell 1
  have z2 : (w1.alloc (.cells #[.int .i64 x1, .string (bA x2), .int .i64 x3, .int .i64 x4] 81)).cell? ⟨w.heap.size, 2, none⟩ = some (.bool bad) := HS.out.b0.cell 2
  have zf0 := HS.out.b0.free 0
  have zf1 := HS.out.b0.free 1
  have zf2 := HS.out.b0.free 2
  clear hg4
  go_wp2_with fail
  have HX := Lib.hid (HX.out.set (a := .slice A n c) (b := .int .i64 k1) (c := .bool bd1))
  have HS := Lib.hid (HS.out.set (k' := k1) (bd' := bd1))
  clear z0 z1 z2 zf0 zf1 zf2
  generalize (((w1.alloc (.cells #[.int .i64 x1, .string (bA x2), .int .i64 x3, .int .i64 x4] 81)).setCell ⟨w.heap.size, 0, none⟩ (.slice A n c)).setCell ⟨w.heap.size, 1, none⟩ (.int .i64 k1)).setCell ⟨w.heap.size, 2, none⟩ (.bool bd1) = W1 at *
  generalize w1.heap.size = g4 at *
  have CC := Lib.hid (refNumber_any A n c L hE k1 bd1 tDensity W1 (HLr.out.below6 HS.out.hb) hk1)
  have hk2 := num_lt hE (x := (k1, bd1)) hk1 tDensity
  generalize numR L (k1, bd1) tDensity = r2 at *
  obtain ⟨v2, k2, bd2⟩ := r2
  have hk2 : k2 < L.length := hk2
  refine CC.out.mono ?_
  rintro e w2 ⟨rfl, hb⟩
  simp only [rdA]
  have HS := Lib.hid (HS.out.below hb)
  have HX := Lib.hid (HX.out.below hb)
  clear CC hb
  have z0 : w2.cell? ⟨w.heap.size, 0, none⟩ = some (.slice A n c) := HS.out.b0.cell 0
  have z1 : w2.cell? ⟨w.heap.size, 1, none⟩ = some (.int .i64 k1) := HS.out.b0.cell 1
  have z2 : w2.cell? ⟨w.heap.size, 2, none⟩ = some (.bool bd1) := HS.out.b0.cell 2
  have zf0 := HS.out.b0.free 0
  have zf1 := HS.out.b0.free 1
  have zf2 := HS.out.b0.free 2
  go_wp2_with fail
  have HX := Lib.hid (HX.out.set (a := .slice A n c) (b := .int .i64 k2) (c := .bool bd2))
  have HS := Lib.hid (HS.out.set (k' := k2) (bd' := bd2))
  clear z0 z1 z2 zf0 zf1 zf2
  generalize ((w2.setCell ⟨w.heap.size, 0, none⟩ (.slice A n c)).setCell ⟨w.heap.size, 1, none⟩ (.int .i64 k2)).setCell ⟨w.heap.size, 2, none⟩ (.bool bd2) = W2 at *
  have CC := Lib.hid (refNumber_any A n c L hE k2 bd2 tYield W2 (HLr.out.below6 HS.out.hb) hk2)
  have hk3 := num_lt hE (x := (k2, bd2)) hk2 tYield
  generalize numR L (k2, bd2) tYield = r3 at *
  obtain ⟨v3, k3, bd3⟩ := r3
  have hk3 : k3 < L.length := hk3
  refine CC.out.mono ?_
  rintro e w3 ⟨rfl, hb⟩
  simp only [rdA]
  have HS := Lib.hid (HS.out.below hb)
  have HX := Lib.hid (HX.out.below hb)
  clear CC hb
  have z0 : w3.cell? ⟨w.heap.size, 0, none⟩ = some (.slice A n c) := HS.out.b0.cell 0
  have z1 : w3.cell? ⟨w.heap.size, 1, none⟩ = some (.int .i64 k2) := HS.out.b0.cell 1
  have z2 : w3.cell? ⟨w.heap.size, 2, none⟩ = some (.bool bd2) := HS.out.b0.cell 2
  have zf0 := HS.out.b0.free 0
  have zf1 := HS.out.b0.free 1
  have zf2 := HS.out.b0.free 2
  go_wp2_with fail
  have HX := Lib.hid (HX.out.set (a := .slice A n c) (b := .int .i64 k3) (c := .bool bd3))
  have HS := Lib.hid (HS.out.set (k' := k3) (bd' := bd3))
  clear z0 z1 z2 zf0 zf1 zf2
  generalize ((w3.setCell ⟨w.heap.size, 0, none⟩ (.slice A n c)).setCell ⟨w.heap.size, 1, none⟩ (.int .i64 k3)).setCell ⟨w.heap.size, 2, none⟩ (.bool bd3) = W3 at *
  have CC := Lib.hid (refNumber_any A n c L hE k3 bd3 tGauges W3 (HLr.out.below6 HS.out.hb) hk3)
  have hk4 := num_lt hE (x := (k3, bd3)) hk3 tGauges
  have hv4 := num_i64 hI (k3, bd3) tGauges
  generalize numR L (k3, bd3) tGauges = r4 at *
  obtain ⟨v4, k4, bd4⟩ := r4
  have hk4 : k4 < L.length := hk4
  refine CC.out.mono ?_
  rintro e w4 ⟨rfl, hb⟩
  simp only [rdA]
  have HS := Lib.hid (HS.out.below hb)
  have HX := Lib.hid (HX.out.below hb)
  clear CC hb
  have z0 : w4.cell? ⟨w.heap.size, 0, none⟩ = some (.slice A n c) := HS.out.b0.cell 0
  have z1 : w4.cell? ⟨w.heap.size, 1, none⟩ = some (.int .i64 k3) := HS.out.b0.cell 1
  have z2 : w4.cell? ⟨w.heap.size, 2, none⟩ = some (.bool bd3) := HS.out.b0.cell 2
  have zf0 := HS.out.b0.free 0
  have zf1 := HS.out.b0.free 1
  have zf2 := HS.out.b0.free 2
  go_upto_region 5 with fail
  have HX := Lib.hid (HX.out.set (a := .slice A n c) (b := .int .i64 k4) (c := .bool bd4))
  have HS := Lib.hid (HS.out.set (k' := k4) (bd' := bd4))
  clear z0 z1 z2 zf0 zf1 zf2
  generalize ((w4.setCell ⟨w.heap.size, 0, none⟩ (.slice A n c)).setCell ⟨w.heap.size, 1, none⟩ (.int .i64 k4)).setCell ⟨w.heap.size, 2, none⟩ (.bool bd4) = W4 at *
  have l1 : W4.cell? ⟨g4, 1, none⟩ = some (.string (bA x2)) := HX.out.b.cell 1
  have hv4 : inI64 v4 := hv4
  go_wp2_with fail
  have hb1 := (Below.refl W4.heap.size W4).alloc (Nat.le_refl _) (.cells #[.int .i64 v4] 3)
  have hb2 := (Below.refl (W4.alloc (.cells #[.int .i64 v4] 3)).heap.size (W4.alloc (.cells #[.int .i64 v4] 3))).alloc (Nat.le_refl _) (.cells #[.string (bA x2), .int .i64 v2, .int .i64 v3, .slice (some ⟨W4.heap.size, 0, none⟩) 1 1] 32)
  have hs4 := HS.out.b2.lt
  have hb8 := Blk.new (W4.alloc (.cells #[.int .i64 v4] 3)) 32 #[.string (bA x2), .int .i64 v2, .int .i64 v3, .slice (some ⟨W4.heap.size, 0, none⟩) 1 1]
  rw [World.size_alloc] at hb8
  have hown : (((W4.alloc (.cells #[.int .i64 v4] 3)).alloc (.cells #[.string (bA x2), .int .i64 v2, .int .i64 v3, .slice (some ⟨W4.heap.size, 0, none⟩) 1 1] 32))).ownsRow (w.heap.size + 1 + 1 + 1) 3 1 (.slice (some ⟨W4.heap.size, 0, none⟩) 1 1) 1 [.int .i64 v4] := by
    refine World.ownsRow.alloc ?_ _
    refine ⟨rfl, .inr ⟨W4.heap.size, 1, #[.int .i64 v4], rfl, by omega, ?_, Nat.le_refl _, by unfold maxLen; omega, rfl, by simp⟩⟩
    exact Blk.new W4 3 #[.int .i64 v4]
  have hga : GaR w A n c (W4.heap.size + 1) x2 v2 v3 k4 bd4 [v4] (.slice (some ⟨W4.heap.size, 0, none⟩) 1 1) ((W4.alloc (.cells #[.int .i64 v4] 3)).alloc (.cells #[.string (bA x2), .int .i64 v2, .int .i64 v3, .slice (some ⟨W4.heap.size, 0, none⟩) 1 1] 32)) := ⟨(HS.out.below hb1).below hb2, hb8, by omega, hown, fun x hx => by rw [List.mem_singleton.1 hx]; exact hv4⟩
  have HGA := Lib.hid hga
  obtain ⟨R, hR⟩ : ∃ R, gaugesR L L.length (k4, bd4) [v4] = R := ⟨_, rfl⟩
  have HR := Lib.hid hR
  rw [hR] at HQ
  clear hb1 hb2 hs4 hb8 hown hga hv4 HS HX hR l1
  generalize hW5 : ((W4.alloc (.cells #[.int .i64 v4] 3)).alloc (.cells #[.string (bA x2), .int .i64 v2, .int .i64 v3, .slice (some ⟨W4.heap.size, 0, none⟩) 1 1] 32)) = W5 at *
  generalize W4.heap.size + 1 = g8 at *
  clear hW5
  go_loopg [] L.length (fun gh wr => ∃ (k : Nat) (bd : Bool) (acc : List Int) (vg : Value), Hid (GaR w A n c g8 x2 v2 v3 k bd acc vg wr) ∧ Hid (k < L.length ∧ L.length ≤ gh + k ∧ acc.length ≤ k + 1 ∧ gaugesR L gh (k, bd) acc = R))
  case atStart => exact ⟨k4, bd4, [v4], _, HGA.out, hk4, by omega, by simp, HR.out⟩
  case round =>
    clear HGA HR hk4
    obtain ⟨k, bd, acc, vg, HG, hfu⟩ := hrel
    have hk : k < L.length := hfu.out.1
    have z0 : wr.cell? ⟨w.heap.size, 0, none⟩ = some (.slice A n c) := HG.out.s.b0.cell 0
    have z1 : wr.cell? ⟨w.heap.size, 1, none⟩ = some (.int .i64 k) := HG.out.s.b0.cell 1
    have z2 : wr.cell? ⟨w.heap.size, 2, none⟩ = some (.bool bd) := HG.out.s.b0.cell 2
    cases bd with
    | true =>
      have hRR : R = (acc, (k, true)) := by rw [← hfu.out.2.2.2, gaugesR_bad]
      subst hRR
      have CC := Lib.hid (refTake_any A n c L k true 4 [59] wr (HLr.out.below6 HG.out.s.hb) hk)
      generalize takeR L (k, true) 4 [59] = r5 at *
      obtain ⟨⟨u1, u2, u3, u4⟩, k5, bd5⟩ := r5
      go_wp2_with fail
      refine CC.out.mono ?_
      rintro e w5 ⟨rfl, hb⟩
      simp only [lxA, rdA]
      have HG := Lib.hid (HG.out.below hb)
      clear CC hb z0 z1 z2
      have z0 : w5.cell? ⟨w.heap.size, 0, none⟩ = some (.slice A n c) := HG.out.s.b0.cell 0
      have z1 : w5.cell? ⟨w.heap.size, 1, none⟩ = some (.int .i64 k) := HG.out.s.b0.cell 1
      have z2 : w5.cell? ⟨w.heap.size, 2, none⟩ = some (.bool true) := HG.out.s.b0.cell 2
      have zf0 := HG.out.s.b0.free 0
      have zf1 := HG.out.s.b0.free 1
      have zf2 := HG.out.s.b0.free 2
      go_upto_region 11 with fail
      have HG := Lib.hid (HG.out.setR (k' := k5) (bd' := bd5))
      clear z0 z1 z2 zf0 zf1 zf2
      generalize ((w5.setCell ⟨w.heap.size, 0, none⟩ (.slice A n c)).setCell ⟨w.heap.size, 1, none⟩ (.int .i64 k5)).setCell ⟨w.heap.size, 2, none⟩ (.bool bd5) = W6 at *
      obtain ⟨VA, vc, rfl⟩ := own_form15 HG.out.own
      have z0 : W6.cell? ⟨w.heap.size, 0, none⟩ = some (.slice A n c) := HG.out.s.b0.cell 0
      have z1 : W6.cell? ⟨w.heap.size, 1, none⟩ = some (.int .i64 k5) := HG.out.s.b0.cell 1
      have z2 : W6.cell? ⟨w.heap.size, 2, none⟩ = some (.bool bd5) := HG.out.s.b0.cell 2
      have q0 : W6.cell? ⟨g8, 0, none⟩ = some (.string (bA x2)) := HG.out.b8.cell 0
      have q1 : W6.cell? ⟨g8, 1, none⟩ = some (.int .i64 v2) := HG.out.b8.cell 1
      have q2 : W6.cell? ⟨g8, 2, none⟩ = some (.int .i64 v3) := HG.out.b8.cell 2
      have q3 : W6.cell? ⟨g8, 3, none⟩ = some (.slice VA acc.length vc) := HG.out.b8.cell 3
      have s0 : W6.cell? ⟨w.heap.size + 1, 0, none⟩ = some (.string ⟨#[]⟩) := HG.out.s.b1.cell 0
      have s1 : W6.cell? ⟨w.heap.size + 1, 1, none⟩ = some (.int .i64 0) := HG.out.s.b1.cell 1
      have s2 : W6.cell? ⟨w.heap.size + 1, 2, none⟩ = some (.int .i64 0) := HG.out.s.b1.cell 2
      have s3 : W6.cell? ⟨w.heap.size + 1, 3, none⟩ = some (.slice none 0 0) := HG.out.s.b1.cell 3
      have sf0 := HG.out.s.b1.free 0
      have sf1 := HG.out.s.b1.free 1
      have sf2 := HG.out.s.b1.free 2
      have sf3 := HG.out.s.b1.free 3
      have p0 : W6.cell? ⟨w.heap.size + 1 + 1, 0, none⟩ = some (.slice none 0 0) := HG.out.s.b2.cell 0
      have p1 : W6.cell? ⟨w.heap.size + 1 + 1, 1, none⟩ = some (.int .i64 0) := HG.out.s.b2.cell 1
      have p2 : W6.cell? ⟨w.heap.size + 1 + 1, 2, none⟩ = some (.bool false) := HG.out.s.b2.cell 2
      have pf0 := HG.out.s.b2.free 0
      have pf1 := HG.out.s.b2.free 1
      have pf2 := HG.out.s.b2.free 2
      have hg8 := HG.out.g8
      have hn0 : g8 ≠ w.heap.size + 1 := by omega
      have hn1 : g8 ≠ w.heap.size + 1 + 1 := by omega
      go_region
      go_wp2
      have hfin := grade_fin (a := .string (bA x2)) (b := .int .i64 v2) (c := .int .i64 v3) (d := .slice VA acc.length vc) (e := .slice A n c) (f := .int .i64 k5) (h := .bool bd5) HG.out.s.b1 HG.out.s.b2
      exact bodyPost_ret (results_cc15 (p := 2) (q := 3) rfl _ _ rfl rfl (load_gr hfin.1 rfl) (load_rd hfin.2 rfl)) rfl (GradeRPost.of HQ.out (own_fin15 HG.out.own (by omega)) HG.out.i64 (below_drewN (three_below (four_below HG.out.s.hb (by omega)) (by omega)) 1))
    | false =>
      have CI := Lib.hid (refIs_any A n c L k false 2 [] wr (HLr.out.below6 HG.out.s.hb) hk)
      obtain ⟨ft, hft⟩ : ∃ ft, fitB (lxN L k) 2 [] = ft := ⟨_, rfl⟩
      rw [hft] at CI
      cases ft with
      | false =>
        have hRR : R = (acc, (k, false)) := by rw [← hfu.out.2.2.2, gaugesR_no hft]
        subst hRR
        go_wp2_with fail
        refine CI.out.mono ?_
        rintro e w1 ⟨rfl, hb⟩
        have HG := Lib.hid (HG.out.below hb)
        clear CI hb z0 z1 z2
        have z0 : w1.cell? ⟨w.heap.size, 0, none⟩ = some (.slice A n c) := HG.out.s.b0.cell 0
        have z1 : w1.cell? ⟨w.heap.size, 1, none⟩ = some (.int .i64 k) := HG.out.s.b0.cell 1
        have z2 : w1.cell? ⟨w.heap.size, 2, none⟩ = some (.bool false) := HG.out.s.b0.cell 2
        have CC := Lib.hid (refTake_any A n c L k false 4 [59] w1 (HLr.out.below6 HG.out.s.hb) hk)
        generalize takeR L (k, false) 4 [59] = r5 at *
        obtain ⟨⟨u1, u2, u3, u4⟩, k5, bd5⟩ := r5
        go_wp2_with fail
        refine CC.out.mono ?_
        rintro e w5 ⟨rfl, hb⟩
        simp only [lxA, rdA]
        have HG := Lib.hid (HG.out.below hb)
        clear CC hb z0 z1 z2
        have z0 : w5.cell? ⟨w.heap.size, 0, none⟩ = some (.slice A n c) := HG.out.s.b0.cell 0
        have z1 : w5.cell? ⟨w.heap.size, 1, none⟩ = some (.int .i64 k) := HG.out.s.b0.cell 1
        have z2 : w5.cell? ⟨w.heap.size, 2, none⟩ = some (.bool false) := HG.out.s.b0.cell 2
        have zf0 := HG.out.s.b0.free 0
        have zf1 := HG.out.s.b0.free 1
        have zf2 := HG.out.s.b0.free 2
        go_upto_region 11 with fail
        have HG := Lib.hid (HG.out.setR (k' := k5) (bd' := bd5))
        clear z0 z1 z2 zf0 zf1 zf2
        generalize ((w5.setCell ⟨w.heap.size, 0, none⟩ (.slice A n c)).setCell ⟨w.heap.size, 1, none⟩ (.int .i64 k5)).setCell ⟨w.heap.size, 2, none⟩ (.bool bd5) = W6 at *
        obtain ⟨VA, vc, rfl⟩ := own_form15 HG.out.own
        have z0 : W6.cell? ⟨w.heap.size, 0, none⟩ = some (.slice A n c) := HG.out.s.b0.cell 0
        have z1 : W6.cell? ⟨w.heap.size, 1, none⟩ = some (.int .i64 k5) := HG.out.s.b0.cell 1
        have z2 : W6.cell? ⟨w.heap.size, 2, none⟩ = some (.bool bd5) := HG.out.s.b0.cell 2
        have q0 : W6.cell? ⟨g8, 0, none⟩ = some (.string (bA x2)) := HG.out.b8.cell 0
        have q1 : W6.cell? ⟨g8, 1, none⟩ = some (.int .i64 v2) := HG.out.b8.cell 1
        have q2 : W6.cell? ⟨g8, 2, none⟩ = some (.int .i64 v3) := HG.out.b8.cell 2
        have q3 : W6.cell? ⟨g8, 3, none⟩ = some (.slice VA acc.length vc) := HG.out.b8.cell 3
        have s0 : W6.cell? ⟨w.heap.size + 1, 0, none⟩ = some (.string ⟨#[]⟩) := HG.out.s.b1.cell 0
        have s1 : W6.cell? ⟨w.heap.size + 1, 1, none⟩ = some (.int .i64 0) := HG.out.s.b1.cell 1
        have s2 : W6.cell? ⟨w.heap.size + 1, 2, none⟩ = some (.int .i64 0) := HG.out.s.b1.cell 2
        have s3 : W6.cell? ⟨w.heap.size + 1, 3, none⟩ = some (.slice none 0 0) := HG.out.s.b1.cell 3
        have sf0 := HG.out.s.b1.free 0
        have sf1 := HG.out.s.b1.free 1
        have sf2 := HG.out.s.b1.free 2
        have sf3 := HG.out.s.b1.free 3
        have p0 : W6.cell? ⟨w.heap.size + 1 + 1, 0, none⟩ = some (.slice none 0 0) := HG.out.s.b2.cell 0
        have p1 : W6.cell? ⟨w.heap.size + 1 + 1, 1, none⟩ = some (.int .i64 0) := HG.out.s.b2.cell 1
        have p2 : W6.cell? ⟨w.heap.size + 1 + 1, 2, none⟩ = some (.bool false) := HG.out.s.b2.cell 2
        have pf0 := HG.out.s.b2.free 0
        have pf1 := HG.out.s.b2.free 1
        have pf2 := HG.out.s.b2.free 2
        have hg8 := HG.out.g8
        have hn0 : g8 ≠ w.heap.size + 1 := by omega
        have hn1 : g8 ≠ w.heap.size + 1 + 1 := by omega
        go_region
        go_wp2
        have hfin := grade_fin (a := .string (bA x2)) (b := .int .i64 v2) (c := .int .i64 v3) (d := .slice VA acc.length vc) (e := .slice A n c) (f := .int .i64 k5) (h := .bool bd5) HG.out.s.b1 HG.out.s.b2
        exact bodyPost_ret (results_cc15 (p := 2) (q := 3) rfl _ _ rfl rfl (load_gr hfin.1 rfl) (load_rd hfin.2 rfl)) rfl (GradeRPost.of HQ.out (own_fin15 HG.out.own (by omega)) HG.out.i64 (below_drewN (three_below (four_below HG.out.s.hb (by omega)) (by omega)) 1))
      | true =>
        have hfn := fit_next hE hk (by decide) hft
        have hyi := hI k
        obtain ⟨⟨y1, y2, y3, y4⟩, hy⟩ : ∃ y, lxN L k = y := ⟨_, rfl⟩
        have hgk : 0 < gk := by have := hfu.out.2.1; omega
        obtain ⟨gk1, hgk1⟩ : ∃ gk1, gk = gk1 + 1 := ⟨gk - 1, by omega⟩
        have HN : Hid (gaugesR L gk1 (k + 1, false) (acc ++ [y3]) = R) := by have h := hfu.out.2.2.2; rw [hgk1, gaugesR_yes hft, hy] at h; exact h
        have hal := hfu.out.2.2.1
        have hfl := hfu.out.2.1
        rw [hy] at hyi
        have hyi : inI64 y3 := hyi
        go_wp2_with fail
        refine CI.out.mono ?_
        rintro e w1 ⟨rfl, hb⟩
        have HG := Lib.hid (HG.out.below hb)
        clear CI hb z0 z1 z2
        have z0 : w1.cell? ⟨w.heap.size, 0, none⟩ = some (.slice A n c) := HG.out.s.b0.cell 0
        have z1 : w1.cell? ⟨w.heap.size, 1, none⟩ = some (.int .i64 k) := HG.out.s.b0.cell 1
        have z2 : w1.cell? ⟨w.heap.size, 2, none⟩ = some (.bool false) := HG.out.s.b0.cell 2
        have CC := Lib.hid (refTake_any A n c L k false 2 [] w1 (HLr.out.below6 HG.out.s.hb) hk)
        rw [take_yes hft, hy] at CC
        go_wp2_with fail
        refine CC.out.mono ?_
        rintro e w2 ⟨rfl, hb⟩
        simp only [lxA, rdA]
        have HG := Lib.hid (HG.out.below hb)
        clear CC hb z0 z1 z2
        have hba := (Below.refl w2.heap.size w2).alloc (Nat.le_refl _) (.cells #[.int .i64 y1, .string (bA y2), .int .i64 y3, .int .i64 y4] 81)
        have hbb := (Below.refl (w2.alloc (.cells #[.int .i64 y1, .string (bA y2), .int .i64 y3, .int .i64 y4] 81)).heap.size (w2.alloc (.cells #[.int .i64 y1, .string (bA y2), .int .i64 y3, .int .i64 y4] 81))).alloc (Nat.le_refl _) (.cells #[.slice A n c, .int .i64 ((k : Int) + 1), .bool false] 84)
        have h9 := (Blk.new w2 81 #[.int .i64 y1, .string (bA y2), .int .i64 y3, .int .i64 y4]).alloc (.cells #[.slice A n c, .int .i64 ((k : Int) + 1), .bool false] 84)
        have h10 := Blk.new (w2.alloc (.cells #[.int .i64 y1, .string (bA y2), .int .i64 y3, .int .i64 y4] 81)) 84 #[.slice A n c, .int .i64 ((k : Int) + 1), .bool false]
        rw [World.size_alloc] at h10
        have hgx8 : w2.heap.size ≠ g8 ∧ w2.heap.size + 1 ≠ g8 ∧ w2.heap.size + 1 ≠ w.heap.size := by have := HG.out.b8.lt; have := HG.out.s.b0.lt; omega
        have HG := Lib.hid ((HG.out.below hba).below hbb)
        go_upto_region 8 with fail
        have HX9 := Lib.hid h9
        have HX10 := Lib.hid h10
        clear h9 h10 hba hbb
        generalize hX : (w2.alloc (.cells #[.int .i64 y1, .string (bA y2), .int .i64 y3, .int .i64 y4] 81)).alloc (.cells #[.slice A n c, .int .i64 ((k : Int) + 1), .bool false] 84) = X at *
        clear hX
        generalize w2.heap.size = gx at *
        have hg8 := HG.out.g8
        have x3 : X.cell? ⟨g8, 3, none⟩ = some vg := HG.out.b8.cell 3
        have y2c : X.cell? ⟨gx, 2, none⟩ = some (.int .i64 y3) := HX9.out.cell 2
        have hne1 : g8 ≠ gx + 1 := by omega
        have hne2 : g8 ≠ w.heap.size := by omega
        have hne3 : gx + 1 ≠ w.heap.size := hgx8.2.2
        have hszX := HG.out.s.b2.lt
        go_wp2_with (at_builtin; refine wpList_append_own _ rfl _ _ 30 rfl (w.heap.size + 1 + 1 + 1) 3 i0 (.int .i64 0) 1 8 Tryd.underlying30 hi0 hz0 hz1 hz2 rfl (by decide) _ _ _ rfl (World.ownsRow.alloc HG.out.own _) ⟨X.heap.size, 0, none⟩ 1 1 [.int .i64 y3] rfl rfl (new1_cells _ _ _) (one_oneCell rfl) (by unfold maxLen; omega) (by omega) (by simp; omega) ?_; intro vn w3 hown2 hg2 _; obtain ⟨VA, vc, rfl⟩ := own_form15 hown2; have h8 := box_grown15 HG.out.b8 HG.out.own hg2 (by decide); have h10 := box_grown15 HX10.out HG.out.own hg2 (by decide); have hr0 := box_grown15 HG.out.s.b0 HG.out.own hg2 (by decide); have e3 : w3.cell? ⟨g8, 3, none⟩ = some vg := h8.cell 3; have ef3 := h8.free 3; have t0 : w3.cell? ⟨gx + 1, 0, none⟩ = some (.slice A n c) := h10.cell 0; have t1 : w3.cell? ⟨gx + 1, 1, none⟩ = some (.int .i64 ((k : Int) + 1)) := h10.cell 1; have t2 : w3.cell? ⟨gx + 1, 2, none⟩ = some (.bool false) := h10.cell 2; have z0 : w3.cell? ⟨w.heap.size, 0, none⟩ = some (.slice A n c) := hr0.cell 0; have z1 : w3.cell? ⟨w.heap.size, 1, none⟩ = some (.int .i64 k) := hr0.cell 1; have z2 : w3.cell? ⟨w.heap.size, 2, none⟩ = some (.bool false) := hr0.cell 2; have zf0 := hr0.free 0; have zf1 := hr0.free 1; have zf2 := hr0.free 2)
        go_wp2
        go_roundg gk1
        case measure => omega
        case rel => exact ⟨k + 1, false, acc ++ [y3], _, (HG.out.app hg2 hown2 hyi).setR (k' := k + 1) (bd' := false), hfn, by omega, by simp; omega, HN.out⟩
end Go.Proofs.YtacbmmnipedpdaaDoor
