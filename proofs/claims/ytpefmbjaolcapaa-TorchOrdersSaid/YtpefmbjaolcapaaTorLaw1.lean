/- Chapter 26: the laws' arguments; the laws that compare Contours, Start, Check and Travel with the reference, by walking their text. -/
import Derived.Test.YtpefmbjaolcapaaTorZ3
import Derived.Test.YtpefmbjaolcapaaTorZ4
import Derived.Test.YtpefmbjaolcapaaOpenZ
namespace Go.Proofs.Ytpefmbjaolcapaa
open Go Go.RowKit

theorem opens_i : Opens Try.prog 3 Rep.int := opens_int Try.underlying3
theorem opens_pt : Opens Try.prog 28 prR := opens_struct Try.underlying28 (tot := 2) (by kernel_rfl) (opensF_cons rfl (by kernel_rfl) opens_i (opensF_last rfl (by kernel_rfl) opens_i))
theorem opens_pts : Opens Try.prog 41 ptsR := opens_slice Try.underlying41 (by kernel_rfl) (by decide) opens_pt
theorem opens_holes : Opens Try.prog 40 holesR := opens_slice Try.underlying40 (by kernel_rfl) (by decide) opens_pts
theorem opens_shape : Opens Try.prog 44 shR := opens_struct Try.underlying44 (tot := 2) (by kernel_rfl) (opensF_cons rfl (by kernel_rfl) opens_pts (opensF_last rfl (by kernel_rfl) opens_holes))
theorem opens_shapes : Opens Try.prog 22 shpsR := opens_slice Try.underlying22 (by kernel_rfl) (by decide) opens_shape
theorem opens_ct : Opens Try.prog 24 prR := opens_struct Try.underlying24 (tot := 2) (by kernel_rfl) (opensF_cons rfl (by kernel_rfl) opens_i (opensF_last rfl (by kernel_rfl) opens_i))
theorem opens_cts : Opens Try.prog 32 prR.slice := opens_slice Try.underlying32 (by kernel_rfl) (by decide) opens_ct
theorem opensZ_shapes : OpensZ Try.prog 22 shpsR (fun _ => True) := opensZ_of opens_shapes
theorem opensZ_ct : OpensZ Try.prog 24 prR (fun _ => True) := opensZ_of opens_ct
theorem opensZ_cts : OpensZ Try.prog 32 prR.slice (fun _ => True) := opensZ_of opens_cts
theorem pt_eql (x y x' y' : Int) (w : World) : (binOp .eql 28 (.agg #[.int .i64 x, .int .i64 y]) (.agg #[.int .i64 x', .int .i64 y'])).run Try.prog w = .ok (.bool (x == x' && y == y')) w := by
  have u3 := Try.underlying3
  have a3 := Try.isAgg3
  have z3 := Try.sizeOf3
  rw [run_eql_struct, show (10000 : Nat) = 9999 + 1 from rfl, run_equalIn_agg w 9999 28 _ _ pt_under pt_held]
  simp only [Program.fieldsOf, Try.underlying28]
  go_simp
  by_cases h1 : x = x' <;> by_cases h2 : y = y' <;> simp [h1, h2]
set_option maxRecDepth 100000 in
set_option maxHeartbeats 2000000 in
theorem contours_law (vs : Value) (a1 : Array Value) (shapes : List Shp) (c : Pt) (w : World) (hs : shpsR.R w (Lt w) shapes [vs]) (hc : prR.R w (Lt w) c a1.toList) :
    Calls Try.prog 3 #[vs, .agg a1] w (Ret (.bool true) w) := by
  obtain rfl := pr_cells hc
  obtain ⟨x, y⟩ := c
  clear hc
  show Calls Try.prog 3 #[vs, .agg #[.int .i64 x, .int .i64 y]] w (Ret (.bool true) w)
  obtain ⟨A, d, rfl, hm, -⟩ := slice_inv hs
  have hw0 : Below w.heap.size w (w.alloc (.cells #[.int .i64 x, .int .i64 y] 24)) := (Below.refl _ _).alloc (Nat.le_refl _) _
  have bk := Blk.new w 24 #[.int .i64 x, .int .i64 y]
  rcases Bool.eq_false_or_eq_true (fewF shapes) with hf | hf
  · have HF := Lib.hid hf
    have HSM := Lib.hid (few_small hf)
    obtain ⟨⟨⟨px, py⟩, ok⟩, hst⟩ : ∃ r, startF shapes (x, y) = r := ⟨_, rfl⟩
    have HST := Lib.hid hst
    clear hf hst
    go_enter Try.func3, Try.ntmps3
    go_wp2_with fail
    refine (few_any _ shapes _ (Rep.below hs hw0)).mono ?_
    rintro e w1 ⟨he, hq⟩
    rw [HF.out] at he
    subst he
    have hw1 := bstep hw0 hw0.size hq
    have bk1 := bk.below hq bk.lt
    have k0 := bk1.c20
    have k1 := bk1.c21
    clear hw0 bk hq
    go_wp2_with fail
    have hC := start_any _ _ _ shapes x y _ (Rep.below hs hw1) HSM.out
    rw [HST.out] at hC
    refine hC.mono ?_
    rintro e w2 ⟨he, hq⟩
    have he : e = .returned (.tuple #[.agg #[.int .i64 px, .int .i64 py], .bool ok]) := he
    subst he
    have hw2 := (bstep hw1 hw1.size hq).alloc (bstep hw1 hw1.size hq).size (.cells #[.int .i64 px, .int .i64 py] 28)
    have bk2 := (bk1.below hq bk1.lt).alloc (.cells #[.int .i64 px, .int .i64 py] 28)
    have bp2 := Blk.new w2 28 #[.int .i64 px, .int .i64 py]
    clear hq hC bk1 k0 k1 hw1
    have k0 := bk2.c20
    have k1 := bk2.c21
    go_wp2_with fail
    have hC := refStart_any _ _ _ shapes x y _ (Rep.below hs hw2) HSM.out
    rw [HST.out] at hC
    refine hC.mono ?_
    rintro e w3 ⟨he, hq⟩
    have he : e = .returned (.tuple #[.agg #[.int .i64 px, .int .i64 py], .bool ok]) := he
    subst he
    have hw3 := (bstep hw2 hw2.size hq).alloc (bstep hw2 hw2.size hq).size (.cells #[.int .i64 px, .int .i64 py] 28)
    have bp3 := (bp2.below hq bp2.lt).alloc (.cells #[.int .i64 px, .int .i64 py] 28)
    have bq3 := Blk.new w3 28 #[.int .i64 px, .int .i64 py]
    clear hq hC bk2 k0 k1 hw2 bp2
    have HBD := Lib.hid (ct_bd HSM.out)
    go_wp2_with fail
    refine (contours_any A _ d shapes _ (Rep.below hs hw3) HSM.out).mono ?_
    rintro e w4 ⟨v4, rfl, hown4, hq⟩
    have hv4 := own_prs hown4 HBD.out
    have hw4 := bstep hw3 hw3.size hq
    have bp4 := bp3.below hq bp3.lt
    have bq4 := bq3.below hq bq3.lt
    clear hown4 hq hw3 bp3 bq3
    go_wp2_with fail
    refine (refContours_any A _ d shapes _ (Rep.below hs hw4) HSM.out).mono ?_
    rintro e w5 ⟨v5, rfl, hown5, hq⟩
    have hv5 := own_prs hown5 HBD.out
    have hv4 := Rep.below hv4 hq
    have hw5 := bstep hw4 hw4.size hq
    have bp5 := bp4.below hq bp4.lt
    have bq5 := bq4.below hq bq4.lt
    clear hown5 hq hw4 bp4 bq4
    go_wp2_with fail
    have hC := same_any _ _ _ _ _ hv4 hv5
    rw [same_eq] at hC
    refine hC.mono ?_
    rintro e w6 ⟨rfl, hq⟩
    have hw6 := bstep hw5 hw5.size hq
    have bp6 := bp5.below hq bp5.lt
    have bq6 := bq5.below hq bq5.lt
    clear hC hv4 hv5 hq hw5 bp5 bq5
    have p0 := bp6.c20
    have p1 := bp6.c21
    have q0 := bq6.c20
    have q1 := bq6.c21
    have e1 := pt_eql
    have e2 := pt_eqg
    have e3 : (px == px && py == py) = true := by simp
    have e4 : (ok == ok) = true := by simp
    go_wp2_with fail
    refine (awake_any _).mono ?_
    rintro e w7 ⟨rfl, hq⟩
    have hw7 := bstep hw6 hw6.size hq
    clear e1 e2
    go_wp2
    go_ret
    exact ⟨rfl, hw7⟩
  · have HF := Lib.hid hf
    clear hf
    go_enter Try.func3, Try.ntmps3
    go_wp2_with fail
    refine (few_any _ shapes _ (Rep.below hs hw0)).mono ?_
    rintro e w1 ⟨he, hq⟩
    rw [HF.out] at he
    subst he
    have hw1 := bstep hw0 hw0.size hq
    go_wp2_with fail
    refine (awake_any _).mono ?_
    rintro e w7 ⟨rfl, hq⟩
    have hw7 := bstep hw1 hw1.size hq
    go_wp2
    go_ret
    exact ⟨rfl, hw7⟩
end Go.Proofs.Ytpefmbjaolcapaa
