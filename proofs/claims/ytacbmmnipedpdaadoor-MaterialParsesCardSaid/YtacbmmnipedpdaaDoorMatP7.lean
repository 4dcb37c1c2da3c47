/- Chapter 15: Parse of the program, by walking its text. -/
import Derived.Test.YtacbmmnipedpdaaDoorMatP6
namespace Go.Proofs.YtacbmmnipedpdaaDoor
open Go Go.RowKit
set_option linter.unusedSimpArgs false

def ParseP15 (r : Mat × Int × Int) (w : World) (e : Ending) (w' : World) : Prop := ∃ vg vs, e = .returned (.tuple #[.agg #[vg, vs], .int .i64 r.2.1, .int .i64 r.2.2]) ∧ matR.R w' (Lt w') r.1 [vg, vs] ∧ Below w.heap.size w w'
theorem three_new (w : World) : ∃ W, W = ((w.alloc (.cells #[.slice none 0 0, .slice none 0 0] 25)).alloc (.cells #[.int .i64 0] 27)).alloc (.cells #[.int .i64 0] 3) ∧ Blk W w.heap.size 25 #[.slice none 0 0, .slice none 0 0] ∧ Blk W (w.heap.size + 1) 27 #[.int .i64 0] ∧ Blk W (w.heap.size + 1 + 1) 3 #[.int .i64 0] ∧ Below w.heap.size w W ∧ W.heap.size = w.heap.size + 1 + 1 + 1 := by
  have h1 := Blk.new w 25 #[.slice none 0 0, .slice none 0 0]
  have h2 := Blk.new (w.alloc (.cells #[.slice none 0 0, .slice none 0 0] 25)) 27 #[.int .i64 0]
  have h3 := Blk.new ((w.alloc (.cells #[.slice none 0 0, .slice none 0 0] 25)).alloc (.cells #[.int .i64 0] 27)) 3 #[.int .i64 0]
  simp only [World.size_alloc] at h2 h3
  refine ⟨_, rfl, (h1.alloc _).alloc _, h2.alloc _, h3, (((Below.refl w.heap.size w).alloc (Nat.le_refl _) _).alloc (by simp) _).alloc (by simp; omega) _, by simp⟩
theorem Blk.below15 {N b : Nat} {w w' : World} {t : TypeId} {cs : Array Value} (h : Blk w b t cs) (hb : Below N w w') (hN : b < N) : Blk w' b t cs := (hb.block b hN).trans h
theorem run_load_one {P : Program} {ty : TypeId} {a : Addr} {w : World} {v : Value} (hn : ∀ w, (isAgg ty).run P w = .ok false w) (h : w.cell? a = some v) : (loadVar ty a).run P w = .ok v w := by
  simp [loadVar, Sem.run_bind, hn, go_sem, h]
theorem results_c3 {P : Program} {fn : Func} {p q u : Tmp} {ty ty' ty2 : TypeId} (h : fn.results = #[.cell p ty, .cell q ty', .cell u ty2]) (tmps : Array Value) (w : World) {a b c : Addr} {va vb vc : Value}
    (hp : tmps.getD p undef = .pointer (some a)) (hq : tmps.getD q undef = .pointer (some b)) (hu : tmps.getD u undef = .pointer (some c)) (ha : (loadVar ty a).run P w = .ok va w) (hb : (loadVar ty' b).run P w = .ok vb w) (hc : (loadVar ty2 c).run P w = .ok vc w) :
    (results fn tmps).run P w = .ok (.tuple #[va, vb, vc]) w := by
  have hp' : tmps[p]?.getD undef = .pointer (some a) := by simpa using hp
  have hq' : tmps[q]?.getD undef = .pointer (some b) := by simpa using hq
  have hu' : tmps[u]?.getD undef = .pointer (some c) := by simpa using hu
  simp [results, h, hp', hq', hu', asAddr, ha, hb, hc, Sem.run_bind, Result.andThen]
theorem mat_size2 : (Tryd.prog.info? 25).map (·.size) = some 2 := by kernel_rfl
/-- Parse's three results, read from their variables. -/
theorem results15 {M : Nat} {tmps : Array Value} {W : World} {vg vs : Value} {e a : Int} (h2 : tmps.getD 2 undef = .pointer (some ⟨M, 0, none⟩)) (h3 : tmps.getD 3 undef = .pointer (some ⟨M + 1, 0, none⟩)) (h4 : tmps.getD 4 undef = .pointer (some ⟨M + 1 + 1, 0, none⟩))
    (b0 : Blk W M 25 #[vg, vs]) (b1 : Blk W (M + 1) 27 #[.int .i64 e]) (b2 : Blk W (M + 1 + 1) 3 #[.int .i64 a]) :
    (results Tryd.f24 tmps).run Tryd.prog W = .ok (.tuple #[.agg #[vg, vs], .int .i64 e, .int .i64 a]) W :=
  results_c3 (p := 2) (q := 3) (u := 4) (ty := 25) (ty' := 27) (ty2 := 3) rfl tmps W h2 h3 h4
    (run_loadVar_row W M 25 25 #[vg, vs] (0, 0) _ b0 Tryd.underlying25 rfl mat_size2)
    (run_load_one Tryd.isAgg27 b1.c0) (run_load_one Tryd.isAgg3 b2.c0)
def dfr15 (M : Nat) : Deferred := { target := .fn (.func 44) #[.pointer (some ⟨M, 0, none⟩), .pointer (some ⟨M + 1, 0, none⟩), .pointer (some ⟨M + 1 + 1, 0, none⟩)], args := #[] }
theorem leaves_ok {M : Nat} {tmps : Array Value} {w W : World} {r : Mat × Int × Int} {vg vs : Value} (h2 : tmps.getD 2 undef = .pointer (some ⟨M, 0, none⟩)) (h3 : tmps.getD 3 undef = .pointer (some ⟨M + 1, 0, none⟩)) (h4 : tmps.getD 4 undef = .pointer (some ⟨M + 1 + 1, 0, none⟩))
    (b0 : Blk W M 25 #[vg, vs]) (b1 : Blk W (M + 1) 27 #[.int .i64 r.2.1]) (b2 : Blk W (M + 1 + 1) 3 #[.int .i64 r.2.2]) (hm : matR.R W (Lt W) r.1 [vg, vs]) (hb : Below w.heap.size w W) :
    Leaves Tryd.prog Tryd.f24 tmps (ParseP15 r w) [dfr15 M] .returning W := by
  refine leaves_cons (f := 44) (args := #[.pointer (some ⟨M, 0, none⟩), .pointer (some ⟨M + 1, 0, none⟩), .pointer (some ⟨M + 1 + 1, 0, none⟩)]) (by simp) (by simp [go_sem]) ?_
  refine (catch_idle15 _ _ _ W).mono ?_
  rintro e u' w'' ⟨rfl, rfl, rfl⟩
  exact ⟨_, results15 h2 h3 h4 b0 b1 b2, _, _, rfl, hm, hb⟩
theorem leaves_bad {M : Nat} {tmps : Array Value} {L : List Lx} {k : Nat} {w W : World} {r : Mat × Int × Int} {vg vs v1 v2 : Value} (hr : r = (([], []), 5, (lxN L k).2.2.2)) (hM : w.heap.size = M) (h2 : tmps.getD 2 undef = .pointer (some ⟨M, 0, none⟩)) (h3 : tmps.getD 3 undef = .pointer (some ⟨M + 1, 0, none⟩)) (h4 : tmps.getD 4 undef = .pointer (some ⟨M + 1 + 1, 0, none⟩))
    (b0 : Blk W M 25 #[vg, vs]) (b1 : Blk W (M + 1) 27 #[v1]) (b2 : Blk W (M + 1 + 1) 3 #[v2]) (hb : Below w.heap.size w W) :
    Leaves Tryd.prog Tryd.f24 tmps (ParseP15 r w) [dfr15 M] (.panicking [misV L k]) W := by
  refine leaves_cons (f := 44) (args := #[.pointer (some ⟨M, 0, none⟩), .pointer (some ⟨M + 1, 0, none⟩), .pointer (some ⟨M + 1 + 1, 0, none⟩)]) (by simp) (by simp [go_sem]) ?_
  refine (catch_mis15 M _ vg vs v1 v2 [] W b0 b1 b2).mono ?_
  rintro e u' w'' ⟨rfl, rfl, rfl⟩
  have c0 := ((((b0.set_ 0 (.slice none 0 0)).set_ 1 (.slice none 0 0)).far (p := ⟨M + 1, 0, none⟩) (by show M ≠ M + 1; omega) (.int .i64 5))).far (p := ⟨M + 1 + 1, 0, none⟩) (by show M ≠ M + 1 + 1; omega) (.int .i64 (lxN L k).2.2.2)
  have c1 := ((((b1.far (p := ⟨M, 0, none⟩) (by show M + 1 ≠ M; omega) (.slice none 0 0)).far (p := ⟨M, 1, none⟩) (by show M + 1 ≠ M; omega) (.slice none 0 0)).set_ 0 (.int .i64 5))).far (p := ⟨M + 1 + 1, 0, none⟩) (by show M + 1 ≠ M + 1 + 1; omega) (.int .i64 (lxN L k).2.2.2)
  have c2 := (((b2.far (p := ⟨M, 0, none⟩) (by show M + 1 + 1 ≠ M; omega) (.slice none 0 0)).far (p := ⟨M, 1, none⟩) (by show M + 1 + 1 ≠ M; omega) (.slice none 0 0)).far (p := ⟨M + 1, 0, none⟩) (by show M + 1 + 1 ≠ M + 1; omega) (.int .i64 5)).set_ 0 (.int .i64 (lxN L k).2.2.2)
  have hbb := (((hb.setCell (p := ⟨M, 0, none⟩) (by show w.heap.size ≤ M; omega) (.slice none 0 0)).setCell (p := ⟨M, 1, none⟩) (by show w.heap.size ≤ M; omega) (.slice none 0 0)).setCell (p := ⟨M + 1, 0, none⟩) (by show w.heap.size ≤ M + 1; omega) (.int .i64 5)).setCell (p := ⟨M + 1 + 1, 0, none⟩) (by show w.heap.size ≤ M + 1 + 1; omega) (.int .i64 (lxN L k).2.2.2)
  subst hr
  exact ⟨_, results15 h2 h3 h4 (by simpa using c0) (by simpa using c1) (by simpa using c2), _, _, rfl, ⟨_, _, rfl, Rep.slice_nil _ _ _, Rep.slice_nil _ _ _⟩, hbb⟩
theorem leaves_tmps {P : Program} {fn : Func} {t t' : Array Value} {R : Ending → World → Prop} (h : results fn t = results fn t') : ∀ (ds : List Deferred) (u : FrameMode) (w : World), Leaves P fn t R ds u w = Leaves P fn t' R ds u w
  | [], .returning, w => by unfold Leaves; rw [h]
  | [], .panicking c, w => by unfold Leaves; rfl
  | [], .run, w => by unfold Leaves; rfl
  | d :: ds, u, w => by unfold Leaves; simp only [leaves_tmps h ds]
theorem q15 {R : Ending → World → Prop} (o : Option Tmp) (ho : o ≠ some 2 ∧ o ≠ some 3 ∧ o ≠ some 4) (c : List PanicEntry) (a : Act) (w : World) (v : Value) (h : bodyPostD Tryd.prog Tryd.f24 R (.panic c) (a.put o v) w) : bodyPostD Tryd.prog Tryd.f24 R (.panic c) a w := by
  cases o with
  | none => exact h
  | some i =>
    have h2 : i ≠ 2 := fun e => ho.1 (by rw [e])
    have h3 : i ≠ 3 := fun e => ho.2.1 (by rw [e])
    have h4 : i ≠ 4 := fun e => ho.2.2 (by rw [e])
    have e : results Tryd.f24 (a.tmps.setIfInBounds i v) = results Tryd.f24 a.tmps := by
      simp [results, Tryd.results24, Array.getElem?_setIfInBounds, h2, h3, h4]
    have h' : Leaves Tryd.prog Tryd.f24 (a.tmps.setIfInBounds i v) R a.defers (.panicking c) w := h
    rw [leaves_tmps e] at h'
    exact h'
theorem scan_zero15 {D : List UInt8} {L : List Lx} {a : Int} (h : scanS D = (L, 0, a)) : a = 0 := by
  unfold scanS at h
  split at h
  · injection h with h1 h2
    injection h2 with h2 h3
    cases h2
  · have := scanF_zero D.length 0 D (Nat.le_refl _) (by rw [h])
    rw [h] at this
    exact this
theorem lexes_pos {i : Int} {l : List UInt8} {L : List Lx} (h : Lexes i l L) : 0 < L.length := by cases h <;> simp
end Go.Proofs.YtacbmmnipedpdaaDoor
