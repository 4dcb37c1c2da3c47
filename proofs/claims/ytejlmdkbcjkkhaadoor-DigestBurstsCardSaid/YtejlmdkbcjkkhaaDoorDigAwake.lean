/- Chapter 06: awake, by walking its text: the chapter's examples. -/
import Derived.Test.YtejlmdkbcjkkhaaDoorDigTop
namespace Go.Proofs.YtejlmdkbcjkkhaaDoor
open Go Go.RowKit Go.ChangeShapes

theorem TabW.below {w w' : World} (h : TabW w) (hb : Below w.heap.size w w') : TabW w' := fun i hi => (hb.cell (p := ⟨0, i, none⟩) (lt_of_cell (h i hi))).trans (h i hi)
def sA : ByteArray := ⟨#[97]⟩
def sB : ByteArray := ⟨#[98]⟩
def sC : ByteArray := ⟨#[99]⟩
theorem aw1 : rootL [sA, sB, sC] = pairL (pairL (rootL [sA]) (rootL [sB])) (rootL [sC]) := by kernel_rfl
theorem aw2 : pathL [sA, sB, sC] 2 = [pairL (rootL [sA]) (rootL [sB])] := by kernel_rfl
theorem aw3 : verifyL (pairL (pairL (rootL [sA]) (rootL [sB])) (rootL [sC])) sC 2 3 [pairL (rootL [sA]) (rootL [sB])] = true := by kernel_rfl
theorem aw4 : verifyL (pairL (pairL (rootL [sA]) (rootL [sB])) (rootL [sC])) sC 2 4 [pairL (rootL [sA]) (rootL [sB])] = false := by kernel_rfl
theorem aw5 : verifyL (pairL (pairL (rootL [sA]) (rootL [sB])) (rootL [sC])) sB 2 3 [pairL (rootL [sA]) (rootL [sB])] = false := by kernel_rfl
theorem crc_a (w : World) (hT : TabW w) : Calls Tryd.prog 11 #[.string ⟨#[49, 50, 51, 52, 53, 54, 55, 56, 57]⟩] w fun e w' => e = .returned (.int .u32 3808858755) ∧ w = w' :=
  (crc_any _ w (by decide) hT).mono fun e w' h => ⟨h.1.trans (by kernel_rfl), h.2⟩
theorem crc_e (w : World) (hT : TabW w) : Calls Tryd.prog 11 #[.string ⟨#[]⟩] w fun e w' => e = .returned (.int .u32 0) ∧ w = w' :=
  (crc_any _ w (by decide) hT).mono fun e w' h => ⟨h.1.trans (by kernel_rfl), h.2⟩
theorem hash_e (w : World) : Calls Tryd.prog 14 #[.string ⟨#[]⟩] w fun e w' => e = .returned (.int .u64 14695981039346656037) ∧ w = w' :=
  (hash_any _ w (by decide)).mono fun e w' h => ⟨h.1.trans (by kernel_rfl), h.2⟩
theorem hash_a (w : World) : Calls Tryd.prog 14 #[.string ⟨#[97]⟩] w fun e w' => e = .returned (.int .u64 12638187200555641996) ∧ w = w' :=
  (hash_any _ w (by decide)).mono fun e w' h => ⟨h.1.trans (by kernel_rfl), h.2⟩
theorem abc_rep (w : World) : Rep.str.slice.R (w.alloc (.cells #[.string sA, .string sB, .string sC] 9)) (Lt (w.alloc (.cells #[.string sA, .string sB, .string sC] 9))) [sA, sB, sC] [.slice (some ⟨w.heap.size, 0, none⟩) 3 3] :=
  Blk.slice_enc (E := Rep.str) (enc := fun s => [.string s]) (fun _ => rfl) (Blk.new w _ _) rfl (fun x hx => ⟨rfl, by
    simp at hx; unfold maxLen; rcases hx with rfl | rfl | rfl <;> decide⟩) (Nat.le_refl _) (by decide)
theorem abc_sm : Sm [sA, sB, sC] := by intro x hx; simp at hx; rcases hx with rfl | rfl | rfl <;> decide

def rA : Int := rootL [sA]
def rB : Int := rootL [sB]
def rC : Int := rootL [sC]
def pAB : Int := pairL rA rB
def rT : Int := pairL pAB rC
theorem rA_c (g : Nat) (W : World) (h : Rep.str.slice.R W (Lt W) [sA] [.slice (some ⟨g, 0, none⟩) 1 3]) : Calls Tryd.prog 19 #[.slice (some ⟨g, 0, none⟩) 1 3] W (Ret (.int .u64 rA) W) := root_any 1 [sA] _ W (Nat.le_refl _) h (abc_sm.take 1)
theorem rB_c (g : Nat) (W : World) (h : Rep.str.slice.R W (Lt W) [sB] [.slice (some ⟨g, 1, none⟩) 1 2]) : Calls Tryd.prog 19 #[.slice (some ⟨g, 1, none⟩) 1 2] W (Ret (.int .u64 rB) W) := root_any 1 [sB] _ W (Nat.le_refl _) h ((abc_sm.drop 1).take 1)
theorem rC_c (g : Nat) (W : World) (h : Rep.str.slice.R W (Lt W) [sC] [.slice (some ⟨g, 2, none⟩) 1 1]) : Calls Tryd.prog 19 #[.slice (some ⟨g, 2, none⟩) 1 1] W (Ret (.int .u64 rC) W) := root_any 1 [sC] _ W (Nat.le_refl _) h (abc_sm.drop 2)
theorem rT_c (g : Nat) (W : World) (h : Rep.str.slice.R W (Lt W) [sA, sB, sC] [.slice (some ⟨g, 0, none⟩) 3 3]) : Calls Tryd.prog 19 #[.slice (some ⟨g, 0, none⟩) 3 3] W (Ret (.int .u64 rT) W) := by
  have := root_any 3 [sA, sB, sC] _ W (Nat.le_refl _) h abc_sm
  rw [aw1] at this; exact this
theorem pT_c (g : Nat) (W : World) (h : Rep.str.slice.R W (Lt W) [sA, sB, sC] [.slice (some ⟨g, 0, none⟩) 3 3]) : Calls Tryd.prog 21 #[.slice (some ⟨g, 0, none⟩) 3 3, .int .i64 2] W (PathRes W [pAB]) := by
  have := proof_any 3 [sA, sB, sC] _ 2 W (Nat.le_refl _) (by decide) h abc_sm (by decide)
  rw [aw2] at this; exact this
theorem pF_c (g : Nat) (W : World) (h : Rep.str.slice.R W (Lt W) [sA, sB, sC] [.slice (some ⟨g, 0, none⟩) 3 3]) : Calls Tryd.prog 21 #[.slice (some ⟨g, 0, none⟩) 3 3, .int .i64 3] W fun e w' => e = .returned (.tuple #[.slice none 0 0, .int .i64 9]) ∧ W = w' := proof_out [sA, sB, sC] _ 3 W h (.inr (by decide))
theorem nil_c (W : World) : Calls Tryd.prog 19 #[.slice none 0 0] W (Ret (.int .u64 14695981039346656037) W) := by
  have := root_any 0 [] (.slice none 0 0) W (Nat.le_refl _) (Rep.slice_nil _ _ _) (fun x hx => by cases hx)
  rw [show rootL [] = 14695981039346656037 by kernel_rfl] at this; exact this
theorem pAB_c (W : World) : Calls Tryd.prog 16 #[.int .u64 rA, .int .u64 rB] W (Ret (.int .u64 pAB) W) := pair_any _ _ W (rootL_bd _).1 (rootL_bd _).2 (rootL_bd _).1 (rootL_bd _).2
theorem rTp_c (W : World) : Calls Tryd.prog 16 #[.int .u64 pAB, .int .u64 rC] W (Ret (.int .u64 rT) W) := pair_any _ _ W (pairL_bd _ _).1 (pairL_bd _ _).2 (rootL_bd _).1 (rootL_bd _).2
theorem v1_c (v : Value) (W : World) (h : Rep.u64.slice.R W (Lt W) [pAB] [v]) : Calls Tryd.prog 24 #[.int .u64 rT, .string ⟨#[99]⟩, .int .i64 2, .int .i64 3, v] W (Ret (.bool true) W) := by
  have := verify_any rT sC 2 3 v [pAB] W h (by decide) (by decide)
  rw [show verifyL rT sC 2 3 [pAB] = true from aw3] at this; exact this
theorem v2_c (v : Value) (W : World) (h : Rep.u64.slice.R W (Lt W) [pAB] [v]) : Calls Tryd.prog 24 #[.int .u64 rT, .string ⟨#[99]⟩, .int .i64 2, .int .i64 4, v] W (Ret (.bool false) W) := by
  have := verify_any rT sC 2 4 v [pAB] W h (by decide) (by decide)
  rw [show verifyL rT sC 2 4 [pAB] = false from aw4] at this; exact this
theorem v3_c (v : Value) (W : World) (h : Rep.u64.slice.R W (Lt W) [pAB] [v]) : Calls Tryd.prog 24 #[.int .u64 rT, .string ⟨#[98]⟩, .int .i64 2, .int .i64 3, v] W (Ret (.bool false) W) := by
  have := verify_any rT sB 2 3 v [pAB] W h (by decide) (by decide)
  rw [show verifyL rT sB 2 3 [pAB] = false from aw5] at this; exact this
theorem pab_rep (w : World) (t : TypeId) : Rep.u64.slice.R (w.alloc (.cells #[.int .u64 pAB] t)) (Lt (w.alloc (.cells #[.int .u64 pAB] t))) [pAB] [.slice (some ⟨w.heap.size, 0, none⟩) 1 1] :=
  Blk.slice_enc (E := Rep.u64) (enc := fun s => [.int .u64 s]) (fun _ => rfl) (Blk.new w _ _) rfl (fun x hx => by rw [List.mem_singleton.1 hx]; exact ⟨rfl, pairL_bd _ _⟩) (Nat.le_refl _) (by decide)

set_option maxRecDepth 100000 in
set_option maxHeartbeats 4000000 in
theorem awake_any (w : World) (hT0 : TabW w) : Calls Tryd.prog 13 #[] w (Ret (.bool true) w) := by
  go_enter Tryd.func13, Tryd.ntmps13
  go_wp2_with fail
  have hr : Rep.str.slice.R (w.alloc (.cells #[.string ⟨#[97]⟩, .string ⟨#[98]⟩, .string ⟨#[99]⟩] 9)) (Lt (w.alloc (.cells #[.string ⟨#[97]⟩, .string ⟨#[98]⟩, .string ⟨#[99]⟩] 9))) [sA, sB, sC] [.slice (some ⟨w.heap.size, 0, none⟩) 3 3] := abc_rep w
  have hw : Below w.heap.size w (w.alloc (.cells #[.string ⟨#[97]⟩, .string ⟨#[98]⟩, .string ⟨#[99]⟩] 9)) := (Below.refl _ _).alloc (Nat.le_refl _) _
  have hT := Lib.hid (hT0.below hw)
  clear hT0
  generalize w.alloc (.cells #[.string ⟨#[97]⟩, .string ⟨#[98]⟩, .string ⟨#[99]⟩] 9) = w1 at *
  have hr1 : Rep.str.slice.R w1 (Lt w1) [sA] [.slice (some ⟨w.heap.size, 0, none⟩) 1 3] := Rep.slice_take hr (k := 1) (by decide)
  have hr23 : Rep.str.slice.R w1 (Lt w1) [sB, sC] [.slice (some ⟨w.heap.size, 1, none⟩) 2 2] := by
    have := Rep.slice_drop hr (k := 1) (by decide)
    rwa [show 0 + 1 * Rep.str.size = 1 from rfl] at this
  have hr2 : Rep.str.slice.R w1 (Lt w1) [sB] [.slice (some ⟨w.heap.size, 1, none⟩) 1 2] := Rep.slice_take hr23 (k := 1) (by decide)
  have hr3 : Rep.str.slice.R w1 (Lt w1) [sC] [.slice (some ⟨w.heap.size, 2, none⟩) 1 1] := by
    have := Rep.slice_drop hr (k := 2) (by decide)
    rwa [show 0 + 2 * Rep.str.size = 2 from rfl] at this
  clear hr23
  go_region_held3 (fun W => Below w1.heap.size w1 W)
    (first
      | exact (Below.refl _ _).drew
      | assumption)
    (first
      | (go_at_call 19
         first
          | ((with_reducible refine (rA_c _ _ (Rep.below hr1 (by assumption))).mono ?_)
             rintro e W1 ⟨rfl, hb⟩
             have hSa := bstep (B := w1.heap.size) (a := w1) (by assumption) (Below.size (by assumption)) hb)
          | ((with_reducible refine (rB_c _ _ (Rep.below hr2 (by assumption))).mono ?_)
             rintro e W1 ⟨rfl, hb⟩
             have hSb := bstep (B := w1.heap.size) (a := w1) (by assumption) (Below.size (by assumption)) hb)
          | ((with_reducible refine (rC_c _ _ (Rep.below hr3 (by assumption))).mono ?_)
             rintro e W1 ⟨rfl, hb⟩
             have hSc := bstep (B := w1.heap.size) (a := w1) (by assumption) (Below.size (by assumption)) hb)))
  have hb1 : Below w1.heap.size w1 W1 := by assumption
  clear hr1 hr2 hr3
  have hw1 := bstep hw hw.size hb1
  have hr' := Rep.below hr hb1
  have hT1 := Lib.hid (hT.out.below hb1)
  clear hr hw hT
  go_wp2_with fail
  refine (pT_c _ _ hr').mono ?_
  rintro e w2 ⟨v, rfl, hown, hb, -⟩
  have hw2 := bstep hw1 hw1.size hb
  have hp2 : Rep.u64.slice.R w2 (Lt w2) [pAB] [v] := own_u64 hown (fun x hx => by rw [List.mem_singleton.1 hx]; exact pairL_bd _ _)
  have hr2 := Rep.below hr' hb
  have hT2 := Lib.hid (hT1.out.below hb)
  clear hr' hT1 hown hb hw1
  go_wp2_with fail
  refine (pF_c _ _ hr2).mono ?_
  rintro e w' ⟨rfl, rfl⟩
  go_wp2_with fail
  refine (crc_a _ hT2.out).mono ?_
  rintro e w' ⟨rfl, rfl⟩
  go_wp2_with fail
  refine (crc_e _ hT2.out).mono ?_
  rintro e w' ⟨rfl, rfl⟩
  go_wp2_with fail
  refine (hash_e _).mono ?_
  rintro e w' ⟨rfl, rfl⟩
  go_wp2_with fail
  refine (hash_a _).mono ?_
  rintro e w' ⟨rfl, rfl⟩
  clear hT2
  go_wp2_with fail
  refine (pAB_c _).mono ?_
  rintro e w3 ⟨rfl, hb⟩
  have hp3 := Rep.below hp2 hb
  have hr3 := Rep.below hr2 hb
  have hw3 := bstep hw2 hw2.size hb
  clear hb hp2 hr2 hw2
  go_wp2_with fail
  refine (rTp_c _).mono ?_
  rintro e w4 ⟨rfl, hb⟩
  have hp4 := Rep.below hp3 hb
  have hr4 := Rep.below hr3 hb
  have hw4 := bstep hw3 hw3.size hb
  clear hb hp3 hr3 hw3
  go_wp2_with fail
  refine (rT_c _ _ hr4).mono ?_
  rintro e w5 ⟨rfl, hb⟩
  have hp5 := Rep.below hp4 hb
  have hw5 := bstep hw4 hw4.size hb
  clear hb hp4 hr4 hw4
  have ebT := beq_self_int rT
  go_wp2_with fail
  refine (nil_c _).mono ?_
  rintro e w6 ⟨rfl, hb⟩
  have hp6 := Rep.below hp5 hb
  have hw6 := bstep hw5 hw5.size hb
  clear hb hp5 hw5
  go_wp2_with fail
  refine (hash_e _).mono ?_
  rintro e w' ⟨rfl, rfl⟩
  go_wp2_with fail
  refine (pAB_c _).mono ?_
  rintro e w7 ⟨rfl, hb⟩
  have hp7 := Rep.below hp6 hb
  have hw7 := bstep hw6 hw6.size hb
  clear hb hp6 hw6
  have hbn : Below w7.heap.size w7 (w7.alloc (.cells #[.int .u64 pAB] 26)) := (Below.refl _ _).alloc (Nat.le_refl _) _
  have hp8 := Rep.below hp7 hbn
  have hpn := pab_rep w7 26
  have hw8 := bstep hw7 hw7.size hbn
  clear hbn hp7 hw7
  go_wp2_with fail
  refine (same_any _ _ _ _ _ hp8 hpn).mono ?_
  rintro e w9 ⟨he, hq⟩
  rw [decide_eq_true rfl] at he
  subst he
  have hp9 := hq.rep hp8
  have hb := hq.below (w7.alloc (.cells #[.int .u64 pAB] 26)).heap.size
  have hp9 := Rep.below hp8 hb
  have hw9 := bstep hw8 hw8.size hb
  clear hb hp8 hw8 hq hpn
  go_wp2_with fail
  refine (v1_c _ _ hp9).mono ?_
  rintro e w10 ⟨rfl, hb⟩
  have hp10 := Rep.below hp9 hb
  have hw10 := bstep hw9 hw9.size hb
  clear hb hp9 hw9
  go_wp2_with fail
  refine (v2_c _ _ hp10).mono ?_
  rintro e w11 ⟨rfl, hb⟩
  have hp11 := Rep.below hp10 hb
  have hw11 := bstep hw10 hw10.size hb
  clear hb hp10 hw10
  go_wp2_with fail
  refine (v3_c _ _ hp11).mono ?_
  rintro e w12 ⟨rfl, hb⟩
  have hw12 := bstep hw11 hw11.size hb
  clear hb hp11 hw11
  go_wp2_with fail
  go_ret
  exact ⟨rfl, hw12⟩
end Go.Proofs.YtejlmdkbcjkkhaaDoor
