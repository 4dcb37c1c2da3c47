/- Chapter 34: Best, of the program and of the reference, by walking their text. -/
import Derived.Test.YtgiphdjblnfjcaaWsA8
import Derived.Laws.EntriesVeiled
namespace Go.Proofs.Ytgiphdjblnfjcaa
open Go Go.RowKit

def BestPost (l : List Bead) (reach stiff : Int) (before : List (Int × Int)) (w : World) (e : Ending) (w' : World) : Prop :=
  ∃ v, e = .returned (.tuple #[v, .int .i64 (bestF l reach stiff before).2.1, .int .i64 (bestF l reach stiff before).2.2]) ∧ Rep.int.slice.R w' (Lt w') (bestF l reach stiff before).1 [v] ∧ Below w.heap.size w w'
theorem BestPost.of {l : List Bead} {reach stiff : Int} {before : List (Int × Int)} {w w' : World} {xs : List Int} {m n : Int} {v : Value} (h : bestF l reach stiff before = (xs, m, n)) (hv : Rep.int.slice.R w' (Lt w') xs [v]) (hb : Below w.heap.size w w') :
    BestPost l reach stiff before w (.returned (.tuple #[v, .int .i64 m, .int .i64 n])) w' := ⟨v, by rw [h], by rw [h]; exact hv, hb⟩
theorem bestF_many {l : List Bead} {reach stiff : Int} {before : List (Int × Int)} (h : 8 < l.length) : bestF l reach stiff before = ([], 0, 13) := if_pos h
theorem bestF_bad {l : List Bead} {reach stiff : Int} {before : List (Int × Int)} (h : ¬ 8 < l.length) (h' : wrongF l reach stiff before ≠ 0) : bestF l reach stiff before = ([], 0, wrongF l reach stiff before) := by unfold bestF; rw [if_neg h, if_pos h']
def bestS (l : List Bead) (reach stiff : Int) (before : List (Int × Int)) : Sr := searchF (unevB l reach stiff) before l.length (l.length + 1) ⟨false, 0, []⟩ [] 0
theorem bestF_yes {l : List Bead} {reach stiff : Int} {before : List (Int × Int)} (h : ¬ 8 < l.length) (h' : wrongF l reach stiff before = 0) : bestF l reach stiff before = ((bestS l reach stiff before).ord, (bestS l reach stiff before).least, 0) := by
  unfold bestF; rw [if_neg h, if_neg (by simpa using h')]; rfl
theorem rep_old {α : Type} {E : Rep α} {x : α} {cs : List Value} {a b c : Nat} {w w' : World} (hr : E.R w (Lt w) x cs) (hb : Below w.heap.size w w') (h : w.heap.size ≤ a ∧ w.heap.size ≤ b ∧ w.heap.size ≤ c) : E.R w' (Ok3 a b c w') x cs :=
  E.mono (fun i (hi : i < w.heap.size) => ⟨Nat.lt_of_lt_of_le hi hb.size, by omega, by omega, by omega⟩) (E.keep (fun i hi => hb.block i hi) hr)
theorem below_of_kept {a b c B : Nat} {w0 w w' : World} (h : Below B w0 w) (hk : Kept a b c w w') (hB : B ≤ w.heap.size) (h' : B ≤ a ∧ B ≤ b ∧ B ≤ c) : Below B w0 w' :=
  ⟨hk.os.trans h.os, hk.tape.trans h.tape, hk.output.trans h.output, Nat.le_trans h.size hk.size, fun i hi => (hk.block i ⟨by omega, by omega, by omega, by omega⟩).trans (h.block i hi)⟩
theorem run_load_one {P : Program} {ty : TypeId} {a : Addr} {w : World} {v : Value} (hn : ∀ w, (isAgg ty).run P w = .ok false w) (h : w.cell? a = some v) : (loadVar ty a).run P w = .ok v w := by
  simp [loadVar, Sem.run_bind, hn, go_sem, h]
theorem results_cct {P : Program} {fn : Func} {p q u : Tmp} {ty ty' : TypeId} (h : fn.results = #[.cell p ty, .cell q ty', .tmp u]) (tmps : Array Value) (w : World) {a b : Addr} {va vb vu : Value}
    (hp : tmps.getD p undef = .pointer (some a)) (hq : tmps.getD q undef = .pointer (some b)) (hu : tmps.getD u undef = vu) (ha : (loadVar ty a).run P w = .ok va w) (hb : (loadVar ty' b).run P w = .ok vb w) :
    (results fn tmps).run P w = .ok (.tuple #[va, vb, vu]) w := by
  have hp' : tmps[p]?.getD undef = .pointer (some a) := by simpa using hp
  have hq' : tmps[q]?.getD undef = .pointer (some b) := by simpa using hq
  have hu' : tmps[u]?.getD undef = vu := by simpa using hu
  simp [results, h, hp', hq', hu', asAddr, ha, hb, Sem.run_bind, Result.andThen]
set_option maxRecDepth 100000 in
set_option maxHeartbeats 1000000 in
theorem best_any (vl vb : Value) (l : List Bead) (reach stiff : Int) (before : List (Int × Int)) (w : World) (hl : beadR.slice.R w (Lt w) l [vl]) (hb : prR.slice.R w (Lt w) before [vb]) :
    Calls Try.prog 17 #[vl, .agg #[.int .i64 reach, .int .i64 stiff], vb] w (BestPost l reach stiff before w) := by
  obtain ⟨A, c, rfl, hm, -⟩ := slice_inv hl
  obtain ⟨B, d, rfl, hmb, -⟩ := slice_inv hb
  have h4 : Below w.heap.size w ((((w.alloc (.cells #[.slice A l.length c] 22)).alloc (.cells #[.int .i64 reach, .int .i64 stiff] 24)).alloc (.cells #[.slice none 0 0] 28)).alloc (.cells #[.int .i64 0] 3)) :=
    ((((Below.refl _ _).alloc (Nat.le_refl _) _).alloc (by simp) _).alloc (by simp; omega) _).alloc (by simp; omega) _
  have b0 := (((Blk.new w 22 #[.slice A l.length c]).alloc (.cells #[.int .i64 reach, .int .i64 stiff] 24)).alloc (.cells #[.slice none 0 0] 28)).alloc (.cells #[.int .i64 0] 3)
  have b1 := ((Blk.new (w.alloc (.cells #[.slice A l.length c] 22)) 24 #[.int .i64 reach, .int .i64 stiff]).alloc (.cells #[.slice none 0 0] 28)).alloc (.cells #[.int .i64 0] 3)
  have b2 := (Blk.new ((w.alloc (.cells #[.slice A l.length c] 22)).alloc (.cells #[.int .i64 reach, .int .i64 stiff] 24)) 28 #[.slice none 0 0]).alloc (.cells #[.int .i64 0] 3)
  have b3 := Blk.new (((w.alloc (.cells #[.slice A l.length c] 22)).alloc (.cells #[.int .i64 reach, .int .i64 stiff] 24)).alloc (.cells #[.slice none 0 0] 28)) 3 #[.int .i64 0]
  simp only [World.size_alloc] at b1 b2 b3
  obtain ⟨w0, hw0⟩ : ∃ w0, w0 = (((w.alloc (.cells #[.slice A l.length c] 22)).alloc (.cells #[.int .i64 reach, .int .i64 stiff] 24)).alloc (.cells #[.slice none 0 0] 28)).alloc (.cells #[.int .i64 0] 3) := ⟨_, rfl⟩
  rw [← hw0] at h4 b0 b1 b2 b3
  have hz0 : w0.heap.size = w.heap.size + 4 := by rw [hw0]; simp
  have HW0 := Lib.hid hw0
  have HZ0 := Lib.hid hz0
  clear hw0 hz0
  by_cases h8 : 8 < l.length
  · have HG := Lib.hid (bestF_many (reach := reach) (stiff := stiff) (before := before) h8)
    have k2 := b2.c0
    have k3 := b3.c0
    have f2 := b2.free 0
    have f3 := b3.free 0
    go_enter Try.func17, Try.ntmps17
    go_wp2
    rw [← HW0.out]
    exact bodyPost_ret (results_cct (p := 6) (q := 7) (u := 8) (vu := .int .i64 13) rfl _ _ rfl rfl rfl (run_load_one Try.isAgg28 b2.c0) (run_load_one Try.isAgg3 b3.c0)) rfl (BestPost.of HG.out (Rep.slice_nil _ _ _) h4)
  · by_cases hw : wrongF l reach stiff before = 0
    · have hb0 : (wrongF l reach stiff before != 0) = false := by simp [hw]
      have HG := Lib.hid (bestF_yes h8 hw)
      have hC := (wrongF_zero hw).1
      obtain ⟨h32, hr, hok⟩ := checkF_ok hC
      have HC := Lib.hid hC
      have HOK := Lib.hid hok
      have HW := Lib.hid hw
      clear hw hC hok hr
      go_enter Try.func17, Try.ntmps17
      go_wp2_with fail
      rw [← HW0.out]
      refine (wrong_any _ _ _ _ _ before _ (Rep.below hl h4) (Rep.below hb h4)).mono ?_
      rintro e w1 ⟨rfl, hb1⟩
      have c0 := b0.below hb1 b0.lt
      have c1 := b1.below hb1 b1.lt
      have c2 := b2.below hb1 b2.lt
      have c3 := b3.below hb1 b3.lt
      have hw1 := bstep h4 h4.size hb1
      have hz1 := hb1.size
      have k0 := c0.c0
      have k1 := c1.c20
      have k2 := c1.c21
      clear b0 b1 b2 b3
      go_wp2_with fail
      refine (newPanel_any _ _ l reach stiff before _ (Rep.below hl hw1) (Rep.below hb hw1) HOK.out).mono ?_
      rintro e w2 ⟨g, rfl, hg, hgs, hb2⟩
      have d0 := c0.below hb2 c0.lt
      have d1 := c1.below hb2 c1.lt
      have d2 := c2.below hb2 c2.lt
      have d3 := c3.below hb2 c3.lt
      have hw2 := bstep hw1 hw1.size hb2
      have hz2 := hb2.size
      clear k0 k1 k2 c0 c1 c2 c3
      have hz0 := HZ0.out
      have hgl := hg.lt
      have h1z := hb1.size
      have hF := Blk.new (w2.alloc (.cells #[.pointer (some ⟨g, 0, none⟩)] 51)) 4 #[.bool false]
      have hP := (Blk.new w2 51 #[.pointer (some ⟨g, 0, none⟩)]).alloc (.cells #[.bool false] 4)
      have hS := Blk.new ((w2.alloc (.cells #[.pointer (some ⟨g, 0, none⟩)] 51)).alloc (.cells #[.bool false] 4)) 57 #[.func (.func 32) #[] #[.pointer (some ⟨w2.heap.size + 1, 0, none⟩), .pointer (some ⟨w.heap.size + 1 + 1 + 1, 0, none⟩), .pointer (some ⟨w.heap.size, 0, none⟩), .pointer (some ⟨w.heap.size + 1 + 1, 0, none⟩), .pointer (some ⟨w2.heap.size, 0, none⟩), .pointer (some ⟨w2.heap.size + 1 + 1, 0, none⟩)]]
      simp only [World.size_alloc] at hF hS
      have HF := Lib.hid (hF.alloc (.cells #[.func (.func 32) #[] #[.pointer (some ⟨w2.heap.size + 1, 0, none⟩), .pointer (some ⟨w.heap.size + 1 + 1 + 1, 0, none⟩), .pointer (some ⟨w.heap.size, 0, none⟩), .pointer (some ⟨w.heap.size + 1 + 1, 0, none⟩), .pointer (some ⟨w2.heap.size, 0, none⟩), .pointer (some ⟨w2.heap.size + 1 + 1, 0, none⟩)]] 57))
      have HP := Lib.hid (hP.alloc (.cells #[.func (.func 32) #[] #[.pointer (some ⟨w2.heap.size + 1, 0, none⟩), .pointer (some ⟨w.heap.size + 1 + 1 + 1, 0, none⟩), .pointer (some ⟨w.heap.size, 0, none⟩), .pointer (some ⟨w.heap.size + 1 + 1, 0, none⟩), .pointer (some ⟨w2.heap.size, 0, none⟩), .pointer (some ⟨w2.heap.size + 1 + 1, 0, none⟩)]] 57))
      have HS := Lib.hid hS
      have HB3 := Lib.hid ((((Below.refl w2.heap.size w2).alloc (Nat.le_refl _) (.cells #[.pointer (some ⟨g, 0, none⟩)] 51)).alloc (by simp) (.cells #[.bool false] 4)).alloc (by simp; omega) (.cells #[.func (.func 32) #[] #[.pointer (some ⟨w2.heap.size + 1, 0, none⟩), .pointer (some ⟨w.heap.size + 1 + 1 + 1, 0, none⟩), .pointer (some ⟨w.heap.size, 0, none⟩), .pointer (some ⟨w.heap.size + 1 + 1, 0, none⟩), .pointer (some ⟨w2.heap.size, 0, none⟩), .pointer (some ⟨w2.heap.size + 1 + 1, 0, none⟩)]] 57))
      clear hF hP hS
      go_wp2_with fail
      have hbw := bstep hw2 hw2.size HB3.out
      have hap : Apart (w2.heap.size + 1) (w.heap.size + 1 + 1 + 1) w.heap.size (w.heap.size + 1 + 1) w2.heap.size (w2.heap.size + 1 + 1) g := by
        unfold Apart; omega
      refine (search_any _ _ _ _ _ _ g _ (.slice B before.length d) l reach stiff before hap HC.out (l.length + 1) _ [] 0 ⟨false, 0, []⟩ _ (by simp) (Beg.nil _)
        ⟨HF.out, d3.below HB3.out d3.lt, ⟨_, d2.below HB3.out d2.lt, Rep.slice_nil _ _ _⟩, d0.below HB3.out d0.lt, HP.out, HS.out, hg.below HB3.out hg.lt, rep_old hl hbw (by omega), rep_old hb hbw (by omega)⟩ (Rep.slice_nil _ _ _)).mono ?_
      rintro e w4 ⟨rfl, hkw, hst⟩
      obtain ⟨vo, ho, hro⟩ := hst.ord
      obtain ⟨O, co, rfl, -, -⟩ := slice_inv hro
      have hu := hst.least
      have hbw4 := below_of_kept hbw hkw hbw.size (by omega)
      have k2 := ho.c0
      have k3 := hu.c0
      have f2 := ho.free 0
      have f3 := hu.free 0
      clear HF HP HS HB3
      go_wp2
      go_region
      go_wp2
      have hn : w.heap.size + 1 + 1 ≠ w.heap.size + 1 + 1 + 1 := by omega
      have g2 := (ho.set_ 0 (.slice O (searchF (unevB l reach stiff) before l.length (l.length + 1) ⟨false, 0, []⟩ [] 0).ord.length co)).far (p := ⟨w.heap.size + 1 + 1 + 1, 0, none⟩) hn (.int .i64 (searchF (unevB l reach stiff) before l.length (l.length + 1) ⟨false, 0, []⟩ [] 0).least)
      have g3 := (hu.far (p := ⟨w.heap.size + 1 + 1, 0, none⟩) hn.symm (.slice O (searchF (unevB l reach stiff) before l.length (l.length + 1) ⟨false, 0, []⟩ [] 0).ord.length co)).set_ 0 (.int .i64 (searchF (unevB l reach stiff) before l.length (l.length + 1) ⟨false, 0, []⟩ [] 0).least)
      have hk5 := (((Kept.refl (w2.heap.size + 1) (w.heap.size + 1 + 1 + 1) (w.heap.size + 1 + 1) w4).set (p := ⟨w.heap.size + 1 + 1, 0, none⟩) (.inr (.inr rfl)) (.slice O (searchF (unevB l reach stiff) before l.length (l.length + 1) ⟨false, 0, []⟩ [] 0).ord.length co)).set (p := ⟨w.heap.size + 1 + 1 + 1, 0, none⟩) (.inr (.inl rfl)) (.int .i64 (searchF (unevB l reach stiff) before l.length (l.length + 1) ⟨false, 0, []⟩ [] 0).least)).trans (Kept.of ((Below.refl _ _).drew))
      exact bodyPost_ret (results_cct (p := 6) (q := 7) (u := 8) (vu := .int .i64 0) rfl _ _ rfl rfl rfl (run_load_one Try.isAgg28 (Blk.c0 (w := World.drew _) g2)) (run_load_one Try.isAgg3 (Blk.c0 (w := World.drew _) g3))) rfl
        (BestPost.of HG.out (rep_lt (hk5.rep hro)) (below_of_kept hbw4 hk5 hbw4.size (by omega)))
    · have hb0 : (wrongF l reach stiff before != 0) = true := by simp [hw]
      have HG := Lib.hid (bestF_bad h8 hw)
      clear hw
      have k0 := b0.c0
      have k1 := b1.c20
      have k1' := b1.c21
      go_enter Try.func17, Try.ntmps17
      go_wp2_with fail
      rw [← HW0.out]
      refine (wrong_any _ _ _ _ _ before _ (Rep.below hl h4) (Rep.below hb h4)).mono ?_
      rintro e w1 ⟨rfl, hb1⟩
      have hw1 := bstep h4 h4.size hb1
      have c2 := b2.below hb1 b2.lt
      have c3 := b3.below hb1 b3.lt
      have k2 := c2.c0
      have k3 := c3.c0
      have f2 := c2.free 0
      have f3 := c3.free 0
      clear k0 k1 k1'
      go_wp2
      have e2 := (c2.set_ 0 (.slice none 0 0)).far (p := ⟨w.heap.size + 3, 0, none⟩) (by show w.heap.size + 2 ≠ w.heap.size + 3; omega) (.int .i64 0)
      have e3 := (c3.far (p := ⟨w.heap.size + 2, 0, none⟩) (by show w.heap.size + 3 ≠ w.heap.size + 2; omega) (.slice none 0 0)).set_ 0 (.int .i64 0)
      exact bodyPost_ret (results_cct (p := 6) (q := 7) (u := 8) (vu := .int .i64 (wrongF l reach stiff before)) rfl _ _ rfl rfl rfl (run_load_one Try.isAgg28 e2.c0) (run_load_one Try.isAgg3 e3.c0)) rfl
        (BestPost.of HG.out (Rep.slice_nil _ _ _) ((hw1.setCell (p := ⟨w.heap.size + 2, 0, none⟩) (by show w.heap.size ≤ w.heap.size + 2; omega) _).setCell (p := ⟨w.heap.size + 3, 0, none⟩) (by show w.heap.size ≤ w.heap.size + 3; omega) _))
end Go.Proofs.Ytgiphdjblnfjcaa
