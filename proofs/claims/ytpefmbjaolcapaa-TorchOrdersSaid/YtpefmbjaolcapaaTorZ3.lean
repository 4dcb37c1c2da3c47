/- Chapter 26: awake: it returns true. -/
import Derived.Test.YtpefmbjaolcapaaTorAw
import Derived.Test.YtpefmbjaolcapaaTorY8
namespace Go.Proofs.Ytpefmbjaolcapaa
open Go Go.RowKit

theorem best_any (A : Option Addr) (n c : Nat) (shapes : List Shp) (w : World) (hs : shpsR.R w (Lt w) shapes [.slice A n c]) (hS : SmallS shapes) :
    Calls Try.prog 22 #[.slice A n c] w (BestPost (bestF shapes) w) := by
  by_cases h : 9 < (contoursF shapes).length
  · exact best_many A n c shapes w hs hS h
  · exact best_few A n c shapes w hs hS (by omega)
theorem small_one : SmallS oneS := ⟨by decide, by decide⟩
theorem small_two : SmallS twoS := ⟨by decide, by decide⟩
theorem one_rep {w : World} {g h : Nat} {A B : Option Addr} {t u : TypeId} (hg : Blk w g t #[.slice A 4 4, .slice (some ⟨h, 0, none⟩) 1 1]) (hA : ptsR.R w (Lt w) (squareF 2 2 6) [.slice A 4 4]) (hh : Blk w h u #[.slice B 4 4]) (hB : ptsR.R w (Lt w) (squareF 4 4 2) [.slice B 4 4]) :
    shpsR.R w (Lt w) oneS [.slice (some ⟨g, 0, none⟩) 1 1] :=
  ⟨some ⟨g, 0, none⟩, 1, rfl, Nat.le_refl _, by unfold maxLen; omega, fun k hk => by
    have hk0 : k = 0 := by simp [oneS] at hk; exact hk
    subst hk0
    refine ⟨g, 0, [.slice A 4 4, .slice (some ⟨h, 0, none⟩) 1 1], rfl, hg.lt, ⟨[.slice A 4 4], [.slice (some ⟨h, 0, none⟩) 1 1], rfl, hA, ⟨some ⟨h, 0, none⟩, 1, rfl, Nat.le_refl _, by unfold maxLen; omega, fun k hk => by
      have hk0 : k = 0 := by
        have h : k < 1 := hk
        omega
      subst hk0
      refine ⟨h, 0, [.slice B 4 4], rfl, hh.lt, hB, fun j hj => ?_⟩
      rw [Nat.zero_mul, Nat.add_zero, Nat.zero_add, hh.cell]
      simp⟩⟩, fun j hj => ?_⟩
    rw [Nat.zero_mul, Nat.add_zero, Nat.zero_add, hg.cell]
    simp⟩
theorem two_rep {w : World} {g : Nat} {A B : Option Addr} {t : TypeId} (hg : Blk w g t #[.slice A 4 4, .slice none 0 0, .slice B 4 4, .slice none 0 0]) (hA : ptsR.R w (Lt w) (squareF 9 0 3) [.slice A 4 4]) (hB : ptsR.R w (Lt w) (squareF 5 0 3) [.slice B 4 4]) :
    shpsR.R w (Lt w) twoS [.slice (some ⟨g, 0, none⟩) 2 2] :=
  ⟨some ⟨g, 0, none⟩, 2, rfl, Nat.le_refl _, by unfold maxLen; omega, fun k hk => by
    have hk2 : k = 0 ∨ k = 1 := by simp [twoS] at hk; omega
    rcases hk2 with rfl | rfl
    · refine ⟨g, 0, [.slice A 4 4, .slice none 0 0], rfl, hg.lt, ⟨[.slice A 4 4], [.slice none 0 0], rfl, hA, Rep.slice_nil _ _ _⟩, fun j hj => ?_⟩
      have hj2 : j = 0 ∨ j = 1 := by
        have h : j < 2 := hj
        omega
      rcases hj2 with rfl | rfl <;> exact hg.cell _
    · refine ⟨g, 0, [.slice B 4 4, .slice none 0 0], rfl, hg.lt, ⟨[.slice B 4 4], [.slice none 0 0], rfl, hB, Rep.slice_nil _ _ _⟩, fun j hj => ?_⟩
      have hj2 : j = 0 ∨ j = 1 := by
        have h : j < 2 := hj
        omega
      rcases hj2 with rfl | rfl <;> exact hg.cell _⟩
theorem pr_two_rep {w : World} {g : Nat} {t : TypeId} {x y x' y' : Int} (h : Blk w g t #[.int .i64 x, .int .i64 y, .int .i64 x', .int .i64 y']) (hx : inI64 x) (hy : inI64 y) (hx' : inI64 x') (hy' : inI64 y') : prR.slice.R w (Lt w) [(x, y), (x', y')] [.slice (some ⟨g, 0, none⟩) 2 2] :=
  Blk.slice_enc (E := prR) (enc := prEnc) (fun _ => rfl) h rfl (fun q hq => by
    refine ⟨[.int .i64 q.1], [.int .i64 q.2], rfl, ⟨rfl, ?_⟩, ⟨rfl, ?_⟩⟩ <;> (simp at hq; rcases hq with rfl | rfl <;> assumption)) (c := 2) (by show 2 ≤ 2; decide) (by decide)
structure AW (A1 A2 : Option Addr) (g3 g4 : Nat) (w : World) : Prop where
  one : shpsR.R w (Lt w) oneS [.slice A1 1 1]
  two : shpsR.R w (Lt w) twoS [.slice A2 2 2]
  b3 : Blk w g3 24 #[.int .i64 0, .int .i64 1]
  b4 : Blk w g4 24 #[.int .i64 0, .int .i64 0]
theorem AW.below {A1 A2 : Option Addr} {g3 g4 : Nat} {w W : World} (h : AW A1 A2 g3 g4 w) (hb : Below w.heap.size w W) : AW A1 A2 g3 g4 W :=
  ⟨Rep.below h.one hb, Rep.below h.two hb, h.b3.below hb h.b3.lt, h.b4.below hb h.b4.lt⟩
theorem aw_st1 : startF oneS (0, 1) = ((4, 4), true) := by decide +kernel
theorem aw_st2 : startF oneS (0, 2) = ((0, 0), false) := by decide +kernel
theorem in0 : inI64 0 := by constructor <;> decide
theorem in1 : inI64 1 := by constructor <;> decide
theorem same_eq (xs : List Pt) : decide (xs = xs) = true := by simp
theorem pt_under : Try.prog.underlying 28 = some (.struct (Try.prog.fieldsOf 28)) := by kernel_rfl
theorem pt_held : Try.prog.stoodInHeld 28 = false := by kernel_rfl
theorem pt_guard : Try.prog.eqGuardType Try.prog.depth 28 = false := by kernel_rfl
theorem pt_neq (x y x' y' : Int) (w : World) : (binOp .neq 28 (.agg #[.int .i64 x, .int .i64 y]) (.agg #[.int .i64 x', .int .i64 y'])).run Try.prog w = .ok (.bool (!(x == x' && y == y'))) w := by
  have u3 := Try.underlying3
  have a3 := Try.isAgg3
  have z3 := Try.sizeOf3
  rw [run_neq_struct, show (10000 : Nat) = 9999 + 1 from rfl, run_equalIn_agg w 9999 28 _ _ pt_under pt_held]
  simp only [Program.fieldsOf, Try.underlying28]
  go_simp
  by_cases h1 : x = x' <;> by_cases h2 : y = y' <;> simp [h1, h2]
theorem pt_neq44 (w : World) : (binOp .neq 28 (.agg #[.int .i64 4, .int .i64 4]) (.agg #[.int .i64 4, .int .i64 4])).run Try.prog w = .ok (.bool false) w := pt_neq 4 4 4 4 w
theorem pt_eqg (op : BinOp) (p q : Operand) (xs ys : Array Value) (w : World) : (eqGuard op 28 p q (.agg xs) (.agg ys)).run Try.prog w = .ok () w := run_eqGuard_agg w op _ p q xs ys pt_guard
set_option maxRecDepth 100000 in
set_option maxHeartbeats 2000000 in
theorem awake_any (w : World) : Calls Try.prog 11 #[] w (Ret (.bool true) w) := by
  go_enter Try.func11, Try.ntmps11
  go_wp2_with fail
  refine (square_any 2 2 6 _ (by omega) (by omega) (by omega)).mono ?_
  rintro e w1 ⟨S1, rfl, hs1, hb1⟩
  go_wp2_with fail
  refine (square_any 4 4 2 _ (by omega) (by omega) (by omega)).mono ?_
  rintro e w2 ⟨S2, rfl, hs2, hb2⟩
  have hs1 := Rep.below hs1 hb2
  have hbw2 := bstep hb1 hb1.size hb2
  go_wp2_with fail
  refine (square_any 9 0 3 _ (by omega) (by omega) (by omega)).mono ?_
  rintro e w3 ⟨S3, rfl, hs3, hb3⟩
  have bh : Blk w3 w2.heap.size 41 #[.slice S2 4 4] := Blk.below ((Blk.new w2 _ _).alloc _) hb3 (Blk.lt ((Blk.new w2 _ _).alloc _))
  have bg : Blk w3 (w2.heap.size + 1) 44 #[.slice S1 4 4, .slice (some ⟨w2.heap.size, 0, none⟩) 1 1] := by
    have h := Blk.new (w2.alloc (.cells #[.slice S2 4 4] 41)) 44 #[.slice S1 4 4, .slice (some ⟨w2.heap.size, 0, none⟩) 1 1]
    have h' := h.below hb3 h.lt
    simp only [World.size_alloc] at h'
    exact h'
  have hw3 : Below w2.heap.size w2 w3 := bstep (((Below.refl w2.heap.size w2).alloc (Nat.le_refl _) _).alloc (by simp) _) (by simp; omega) hb3
  have h1 := one_rep bg (Rep.below hs1 hw3) bh (Rep.below hs2 hw3)
  have hbw3 := bstep hbw2 hbw2.size hw3
  clear bh bg hw3 hbw2 hs1 hs2 hb1 hb2 hb3
  go_wp2_with fail
  refine (square_any 5 0 3 _ (by omega) (by omega) (by omega)).mono ?_
  rintro e w4 ⟨S4, rfl, hs4, hb4⟩
  have h1 := Rep.below h1 hb4
  have hs3 := Rep.below hs3 hb4
  have hbw4 := bstep hbw3 hbw3.size hb4
  have hAW : AW (some ⟨w2.heap.size + 1, 0, none⟩) (some ⟨w4.heap.size, 0, none⟩) (w4.heap.size + 1) (w4.heap.size + 1 + 1) (((w4.alloc (.cells #[.slice S3 4 4, .slice none 0 0, .slice S4 4 4, .slice none 0 0] 44)).alloc (.cells #[.int .i64 0, .int .i64 1] 24)).alloc (.cells #[.int .i64 0, .int .i64 0] 24)) := by
    have e1 := (Below.refl w4.heap.size w4).alloc (Nat.le_refl _) (.cells #[.slice S3 4 4, .slice none 0 0, .slice S4 4 4, .slice none 0 0] 44)
    have e2 := e1.alloc e1.size (.cells #[.int .i64 0, .int .i64 1] 24)
    have e3 := e2.alloc e2.size (.cells #[.int .i64 0, .int .i64 0] 24)
    have b2 := ((Blk.new w4 44 #[.slice S3 4 4, .slice none 0 0, .slice S4 4 4, .slice none 0 0]).alloc (.cells #[.int .i64 0, .int .i64 1] 24)).alloc (.cells #[.int .i64 0, .int .i64 0] 24)
    have b3 := (Blk.new (w4.alloc (.cells #[.slice S3 4 4, .slice none 0 0, .slice S4 4 4, .slice none 0 0] 44)) 24 #[.int .i64 0, .int .i64 1]).alloc (.cells #[.int .i64 0, .int .i64 0] 24)
    have b4 := Blk.new ((w4.alloc (.cells #[.slice S3 4 4, .slice none 0 0, .slice S4 4 4, .slice none 0 0] 44)).alloc (.cells #[.int .i64 0, .int .i64 1] 24)) 24 #[.int .i64 0, .int .i64 0]
    simp only [World.size_alloc] at b3 b4
    exact ⟨Rep.below h1 e3, two_rep b2 (Rep.below hs3 e3) (Rep.below hs4 e3), b3, b4⟩
  have hbw5 : Below w.heap.size w (((w4.alloc (.cells #[.slice S3 4 4, .slice none 0 0, .slice S4 4 4, .slice none 0 0] 44)).alloc (.cells #[.int .i64 0, .int .i64 1] 24)).alloc (.cells #[.int .i64 0, .int .i64 0] 24)) :=
    ((hbw4.alloc hbw4.size _).alloc (by have := hbw4.size; simp; omega) _).alloc (by have := hbw4.size; simp; omega) _
  obtain ⟨wa, hwa⟩ : ∃ wa, wa = (((w4.alloc (.cells #[.slice S3 4 4, .slice none 0 0, .slice S4 4 4, .slice none 0 0] 44)).alloc (.cells #[.int .i64 0, .int .i64 1] 24)).alloc (.cells #[.int .i64 0, .int .i64 0] 24)) := ⟨_, rfl⟩
  rw [← hwa] at hAW hbw5
  have k3 := hAW.b3.c20
  have k31 := hAW.b3.c21
  rw [hwa] at k3 k31
  go_wp2_with fail
  rw [← hwa]
  clear hwa k3 k31 hs3 hs4 h1 hb4 hbw4 hbw3
  have hC4 := start_any _ _ _ oneS 0 1 _ hAW.one small_one
  rw [aw_st1] at hC4
  refine hC4.mono ?_
  clear hC4
  rintro e w5 ⟨he, hq⟩
  have he : e = .returned (.tuple #[.agg #[.int .i64 4, .int .i64 4], .bool true]) := he
  subst he
  have hA5 := (hAW.below hq).below ((Below.refl w5.heap.size w5).alloc (Nat.le_refl _) (.cells #[.int .i64 4, .int .i64 4] 28))
  have hb5 := (bstep hbw5 hbw5.size hq).alloc (bstep hbw5 hbw5.size hq).size (.cells #[.int .i64 4, .int .i64 4] 28)
  have bp5 := Blk.new w5 28 #[.int .i64 4, .int .i64 4]
  clear hAW hbw5 hq
  go_wp2_with fail
  have hC5 := start_any _ _ _ oneS 0 2 _ hA5.one small_one
  rw [aw_st2] at hC5
  refine hC5.mono ?_
  clear hC5
  rintro e w6 ⟨he, hq⟩
  have he : e = .returned (.tuple #[.agg #[.int .i64 0, .int .i64 0], .bool false]) := he
  subst he
  have hA6 := (hA5.below hq).below ((Below.refl w6.heap.size w6).alloc (Nat.le_refl _) (.cells #[.int .i64 0, .int .i64 0] 28))
  have hb6 := (bstep hb5 hb5.size hq).alloc (bstep hb5 hb5.size hq).size (.cells #[.int .i64 0, .int .i64 0] 28)
  have bp6 := (bp5.below hq bp5.lt).alloc (.cells #[.int .i64 0, .int .i64 0] 28)
  have k3 := hA6.b3.c20
  have k31 := hA6.b3.c21
  have k4 := hA6.b4.c20
  have k41 := hA6.b4.c21
  clear hA5 hb5 bp5 hq
  go_wp2_with fail
  have hT6 := hA6.below ((Below.refl (w6.alloc (.cells #[.int .i64 0, .int .i64 0] 28)).heap.size (w6.alloc (.cells #[.int .i64 0, .int .i64 0] 28))).alloc (Nat.le_refl _) (.cells #[.int .i64 0, .int .i64 1, .int .i64 0, .int .i64 0] 24))
  have hP6 := pr_two_rep (Blk.new (w6.alloc (.cells #[.int .i64 0, .int .i64 0] 28)) 24 #[.int .i64 0, .int .i64 1, .int .i64 0, .int .i64 0]) in0 in1 in0 in0
  simp only [World.size_alloc] at hP6
  have hC6 := travel_any _ _ oneS [(0, 1), (0, 0)] _ hT6.one hP6 small_one
  rw [aw_travel1] at hC6
  refine hC6.mono ?_
  rintro e w7 ⟨rfl, hq⟩
  have hA7 := hT6.below hq
  have hb7 := bstep (hb6.alloc hb6.size (.cells #[.int .i64 0, .int .i64 1, .int .i64 0, .int .i64 0] 24)) (hb6.alloc hb6.size (.cells #[.int .i64 0, .int .i64 1, .int .i64 0, .int .i64 0] 24)).size hq
  have bp7 := (bp6.alloc (.cells #[.int .i64 0, .int .i64 1, .int .i64 0, .int .i64 0] 24)).below hq (bp6.alloc (.cells #[.int .i64 0, .int .i64 1, .int .i64 0, .int .i64 0] 24)).lt
  clear hA6 hb6 bp6 hq k3 k31 k4 k41 hC6 hP6 hT6
  go_wp2_with fail
  have hC7 := best_any _ _ _ twoS _ hA7.two small_two
  rw [aw_best] at hC7
  refine hC7.mono ?_
  rintro e w8 ⟨v8, rfl, hv8, hq⟩
  have hA8 := hA7.below hq
  have hb8 := bstep hb7 hb7.size hq
  have bp8 := bp7.below hq bp7.lt
  obtain ⟨A8, c8, rfl, -, -⟩ := slice_inv hv8
  clear hA7 hb7 bp7 hq hC7
  go_wp2_with fail
  have hD8 := (Below.refl w8.heap.size w8).alloc (Nat.le_refl _) (.cells #[.int .i64 0, .int .i64 0, .int .i64 1, .int .i64 0] 24)
  have hT8 := hA8.below hD8
  have hP8 := pr_two_rep (Blk.new w8 24 #[.int .i64 0, .int .i64 0, .int .i64 1, .int .i64 0]) in0 in0 in1 in0
  have hC8 := travel_any _ _ twoS [(0, 0), (1, 0)] _ hT8.two hP8 small_two
  rw [aw_travel2] at hC8
  refine hC8.mono ?_
  rintro e w9 ⟨rfl, hq⟩
  have hA9 := hT8.below hq
  have hb9 := bstep (bstep hb8 hb8.size hD8) (bstep hb8 hb8.size hD8).size hq
  have bp9 := (bp8.below hD8 bp8.lt).below hq (bp8.below hD8 bp8.lt).lt
  have hv9 := Rep.below (Rep.below hv8 hD8) hq
  clear hA8 hb8 bp8 hq hv8 hD8 hT8 hP8 hC8
  have p0 := bp9.c20
  have p1 := bp9.c21
  have q1 := pt_neq44
  have q2 := pt_eqg
  go_wp2_with fail
  have hD9 := (Below.refl w9.heap.size w9).alloc (Nat.le_refl _) (.cells #[.int .i64 1, .int .i64 0, .int .i64 0, .int .i64 0] 24)
  have hC9 := same_any _ _ [(1, 0), (0, 0)] [(1, 0), (0, 0)] _ (Rep.below hv9 hD9) (pr_two_rep (Blk.new w9 24 #[.int .i64 1, .int .i64 0, .int .i64 0, .int .i64 0]) in1 in0 in0 in0)
  rw [same_eq] at hC9
  refine hC9.mono ?_
  rintro e wb ⟨rfl, hq⟩
  have hAb := (hA9.below hD9).below hq
  have hbb := bstep (bstep hb9 hb9.size hD9) (bstep hb9 hb9.size hD9).size hq
  have hvb := Rep.below (Rep.below hv9 hD9) hq
  clear hA9 hb9 bp9 hq hv9 hD9 hC9 p0 p1 q1 q2
  have k3 := hAb.b3.c20
  have k31 := hAb.b3.c21
  have k4 := hAb.b4.c20
  have k41 := hAb.b4.c21
  have HA := Lib.hid hAb
  have HV := Lib.hid hvb
  clear hAb hvb
  have HS : Hid (∀ W, Below wb.heap.size wb W → Below wb.heap.size wb W ∧ W.cell? ⟨w4.heap.size + 1, 0, none⟩ = some (.int .i64 0) ∧ W.cell? ⟨w4.heap.size + 1, 1, none⟩ = some (.int .i64 1) ∧ W.cell? ⟨w4.heap.size + 1 + 1, 0, none⟩ = some (.int .i64 0) ∧ W.cell? ⟨w4.heap.size + 1 + 1, 1, none⟩ = some (.int .i64 0)) := fun W h => ⟨h, bget h k3, bget h k31, bget h k4, bget h k41⟩
  have HAL : Hid (∀ (W : World) (o : Obj), Below wb.heap.size wb W → Below wb.heap.size wb (W.alloc o)) := fun W o h => h.alloc h.size o
  have HQ1 : Hid (∀ V g, Below wb.heap.size wb V → Blk V g 24 #[.int .i64 0, .int .i64 0, .int .i64 0, .int .i64 1] → Calls Try.prog 19 #[.slice (some ⟨w2.heap.size + 1, 0, none⟩) 1 1, .slice (some ⟨g, 0, none⟩) 2 2] V (Ret (.int .i64 11) V)) := fun V g h hb => by
    have hC := checkT_any _ _ oneS [(0, 0), (0, 1)] _ (HA.out.below h).one (pr_two_rep hb in0 in0 in0 in1) small_one
    rw [aw_check1] at hC
    exact hC
  have HQ2 : Hid (∀ V g, Below wb.heap.size wb V → Blk V g 24 #[.int .i64 0, .int .i64 1] → Calls Try.prog 19 #[.slice (some ⟨w2.heap.size + 1, 0, none⟩) 1 1, .slice (some ⟨g, 0, none⟩) 1 1] V (Ret (.int .i64 3) V)) := fun V g h hb => by
    have hC := checkT_any _ _ oneS [(0, 1)] _ (HA.out.below h).one (pr_one_rep hb in0 in1) small_one
    rw [aw_check2] at hC
    exact hC
  have HX1 : Hid (Below wb.heap.size wb (wb.alloc (.cells #[.int .i64 0, .int .i64 0, .int .i64 0, .int .i64 1] 24)).drew) := (HAL.out _ _ (Below.refl _ _)).drew
  have HX2 : Hid (Blk (wb.alloc (.cells #[.int .i64 0, .int .i64 0, .int .i64 0, .int .i64 1] 24)).drew wb.heap.size 24 #[.int .i64 0, .int .i64 0, .int .i64 0, .int .i64 1]) := Blk.new wb _ _
  have HQ3 : Hid (∀ W, Below wb.heap.size wb W → Calls Try.prog 15 #[.slice (some ⟨w2.heap.size + 1, 0, none⟩) 1 1] W (CtPost [(0, 0), (0, 1)] W)) := fun W h => by
    have hC := contours_any _ _ _ oneS _ (HA.out.below h).one small_one
    rw [aw_ct1] at hC
    exact hC
  have HQ4 : Hid (∀ V g v, Blk V g 24 #[.int .i64 0, .int .i64 0, .int .i64 0, .int .i64 1] → prR.slice.R V (Lt V) [(0, 0), (0, 1)] [v] → Calls Try.prog 14 #[v, .slice (some ⟨g, 0, none⟩) 2 2] V (Ret (.bool true) V)) := fun V g v hb hv => by
    have hC := same_any _ _ _ _ _ hv (pr_two_rep hb in0 in0 in0 in1)
    rw [same_eq] at hC
    exact hC
  have HQ5 : Hid (∀ W, Below wb.heap.size wb W → Calls Try.prog 23 #[.slice (some ⟨w4.heap.size, 0, none⟩) 2 2] W (GreedyTPost [(1, 0), (0, 0)] W)) := fun W h => by
    have hC := greedyT_any _ twoS _ (HA.out.below h).two small_two
    rw [aw_greedy] at hC
    exact hC
  have HQ6 : Hid (∀ W v, Below wb.heap.size wb W → prR.slice.R W (Lt W) [(1, 0), (0, 0)] [v] → Calls Try.prog 14 #[v, .slice A8 2 c8] W (Ret (.bool true) W)) := fun W v h hv => by
    have hC := same_any _ _ _ _ _ hv (Rep.below HV.out h)
    rw [same_eq] at hC
    exact hC
  have HQ7 : Hid (∀ W, Calls Try.prog 19 #[.slice none 0 0, .slice none 0 0] W (Ret (.int .i64 0) W)) := fun W => by
    have hC := checkT_any _ _ [] [] W (Rep.slice_nil _ _ _) (Rep.slice_nil _ _ _) ⟨by decide, by decide⟩
    rw [aw_check0] at hC
    exact hC
  have HB0 : Hid (∀ x ∈ [((0 : Int), (0 : Int)), (0, 1)], inI64 x.1 ∧ inI64 x.2) := by
    intro x hx
    simp at hx
    rcases hx with rfl | rfl
    · exact ⟨in0, in0⟩
    · exact ⟨in0, in1⟩
  go_wp2
  go_region_held3 (fun W => Below wb.heap.size wb W ∧ W.cell? ⟨w4.heap.size + 1, 0, none⟩ = some (.int .i64 0) ∧ W.cell? ⟨w4.heap.size + 1, 1, none⟩ = some (.int .i64 1) ∧ W.cell? ⟨w4.heap.size + 1 + 1, 0, none⟩ = some (.int .i64 0) ∧ W.cell? ⟨w4.heap.size + 1 + 1, 1, none⟩ = some (.int .i64 0))
    (first
      | exact HS.out _ ((Below.refl _ _).drew)
      | with_reducible exact HS.out _ HX1.out
      | with_reducible exact HS.out _ hSa
      | with_reducible exact HS.out _ (HAL.out _ _ hSa))
    (first
      | (go_at_call 19
         with_reducible refine (HQ1.out _ _ HX1.out HX2.out).mono ?_
         rintro e W1 ⟨rfl, hq⟩
         have hSa := bstep HX1.out HX1.out.size hq)
      | (go_at_call 19
         with_reducible refine (HQ2.out _ _ (HAL.out W1 _ hSa) (Blk.new W1 _ _)).mono ?_
         rintro e W2 ⟨rfl, hq⟩
         have hSa := bstep (HAL.out _ _ hSa) (HAL.out _ _ hSa).size hq)
      | (go_at_call 19
         with_reducible refine (HQ7.out W6).mono ?_
         rintro e W7 ⟨rfl, hq⟩
         have hSa := bstep hSa hSa.size hq)
      | (go_at_call 15
         with_reducible refine (HQ3.out W2 hSa).mono ?_
         rintro e W3 ⟨v3, rfl, hown3, hq⟩
         have hv3 := own_prs hown3 HB0.out
         obtain ⟨A3, c3, rfl⟩ := own_slice hown3
         have hv3 : prR.slice.R W3 (Lt W3) [(0, 0), (0, 1)] [.slice A3 2 c3] := hv3
         have hSa := bstep hSa hSa.size hq)
      | (go_at_call 15
         with_reducible refine (HQ3.out _ (HAL.out W2 _ hSa)).mono ?_
         rintro e W3 ⟨v3, rfl, hown3, hq⟩
         have hv3 := own_prs hown3 HB0.out
         obtain ⟨A3, c3, rfl⟩ := own_slice hown3
         have hv3 : prR.slice.R W3 (Lt W3) [(0, 0), (0, 1)] [.slice A3 2 c3] := hv3
         have hbx := (Blk.new W2 24 #[.int .i64 0, .int .i64 0, .int .i64 0, .int .i64 1]).below hq (Blk.new W2 24 #[.int .i64 0, .int .i64 0, .int .i64 0, .int .i64 1]).lt
         have hSa := bstep (HAL.out _ _ hSa) (HAL.out _ _ hSa).size hq)
      | (go_at_call 14
         with_reducible refine (HQ4.out _ _ _ (Blk.new W3 24 #[.int .i64 0, .int .i64 0, .int .i64 0, .int .i64 1]) (Rep.below hv3 ((Below.refl _ _).alloc (Nat.le_refl _) _))).mono ?_
         rintro e W4 ⟨rfl, hq⟩
         have hSa := bstep (HAL.out _ _ hSa) (HAL.out _ _ hSa).size hq)
      | (go_at_call 14
         with_reducible refine (HQ4.out _ _ _ hbx hv3).mono ?_
         rintro e W4 ⟨rfl, hq⟩
         have hSa := bstep hSa hSa.size hq)
      | (go_at_call 23
         with_reducible refine (HQ5.out W4 hSa).mono ?_
         rintro e W5 ⟨v5, rfl, hv5, hq⟩
         obtain ⟨A5, c5, rfl, -, -⟩ := slice_inv hv5
         have hv5 : prR.slice.R W5 (Lt W5) [(1, 0), (0, 0)] [.slice A5 2 c5] := hv5
         have hSa := bstep hSa hSa.size hq)
      | (go_at_call 14
         with_reducible refine (HQ6.out W5 _ hSa hv5).mono ?_
         rintro e W6 ⟨rfl, hq⟩
         have hSa := bstep hSa hSa.size hq))
  all_goals
    have hfin := bstep hbb hbb.size hSa
    go_wp2
    go_ret
    exact ⟨rfl, hfin⟩
end Go.Proofs.Ytpefmbjaolcapaa
