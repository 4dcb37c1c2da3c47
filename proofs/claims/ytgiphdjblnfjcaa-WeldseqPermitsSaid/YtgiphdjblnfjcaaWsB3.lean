/- Chapter 34: awake: it returns true. -/
import Derived.Test.YtgiphdjblnfjcaaWsB2
namespace Go.Proofs.Ytgiphdjblnfjcaa
open Go Go.RowKit

def beadCells (b : Bead) : List Value := [.int .i64 b.pos, .int .i64 b.shr]
theorem lA_rep {w : World} {g : Nat} {t : TypeId} (h : Blk w g t #[.int .i64 0, .int .i64 100, .int .i64 10, .int .i64 90, .int .i64 20, .int .i64 100]) : beadR.slice.R w (Lt w) lA [.slice (some ⟨g, 0, none⟩) 3 3] :=
  Blk.slice_enc (E := beadR) (enc := beadCells) (fun _ => rfl) h rfl (fun x hx => by
    refine ⟨[.int .i64 x.pos], [.int .i64 x.shr], rfl, ⟨rfl, ?_⟩, ⟨rfl, ?_⟩⟩ <;> (simp [lA] at hx; rcases hx with rfl | rfl | rfl <;> decide)) (c := 3) (by decide) (by decide)
theorem ints3_rep {w : World} {g : Nat} {t : TypeId} {a b c : Int} (h : Blk w g t #[.int .i64 a, .int .i64 b, .int .i64 c]) (ha : inI64 a) (hb : inI64 b) (hc : inI64 c) : Rep.int.slice.R w (Lt w) [a, b, c] [.slice (some ⟨g, 0, none⟩) 3 3] :=
  Blk.ints (xs := [a, b, c]) h (fun x hx => by simp at hx; rcases hx with rfl | rfl | rfl <;> assumption) (c := 3) (by simp) (by decide)
def prCells (x : Int × Int) : List Value := [.int .i64 x.1, .int .i64 x.2]
theorem pair1_rep {w : World} {g : Nat} {t : TypeId} (h : Blk w g t #[.int .i64 2, .int .i64 0]) : prR.slice.R w (Lt w) [((2 : Int), (0 : Int))] [.slice (some ⟨g, 0, none⟩) 1 1] :=
  Blk.slice_enc (E := prR) (enc := prCells) (fun _ => rfl) h rfl (fun x hx => by
    refine ⟨[.int .i64 x.1], [.int .i64 x.2], rfl, ⟨rfl, ?_⟩, ⟨rfl, ?_⟩⟩ <;> (simp at hx; subst hx; decide)) (c := 1) (by decide) (by decide)
theorem same_eq (xs : List Int) : decide (xs = xs) = true := by simp
set_option maxHeartbeats 1000000 in
theorem awake_any (w : World) : Calls Try.prog 11 #[] w (Ret (.bool true) w) := by
  have bl := Blk.new w 45 #[.int .i64 0, .int .i64 100, .int .i64 10, .int .i64 90, .int .i64 20, .int .i64 100]
  have hw0 : Below w.heap.size w (w.alloc (.cells #[.int .i64 0, .int .i64 100, .int .i64 10, .int .i64 90, .int .i64 20, .int .i64 100] 45)) := (Below.refl _ _).alloc (Nat.le_refl _) _
  go_enter Try.func11, Try.ntmps11
  go_wp2_with fail
  refine (greedy_any _ _ lA 0 0 [] _ (lA_rep bl) (Rep.slice_nil _ _ _)).mono ?_
  rintro e w1 ⟨v1, he, hv1, hb⟩
  rw [awake_greedy] at he hv1
  subst he
  obtain ⟨A1, c1, rfl, -, -⟩ := slice_inv hv1
  have hw1 := bstep hw0 hw0.size hb
  have bl1 := bl.below hb bl.lt
  clear hb
  go_wp2_with fail
  refine (best_any _ _ lA 0 0 [] _ (lA_rep bl1) (Rep.slice_nil _ _ _)).mono ?_
  rintro e w2 ⟨v2, he, hv2, hb⟩
  rw [awake_best] at he hv2
  subst he
  obtain ⟨A2, c2, rfl, -, -⟩ := slice_inv hv2
  have hw2 := bstep hw1 hw1.size hb
  have bl2 := bl1.below hb bl1.lt
  have hv1' := Rep.below hv1 hb
  clear hb hv1 bl1
  go_wp2_with fail
  refine (best_any _ _ lA 0 0 [(2, 0)] _ (lA_rep (bl2.alloc _)) (pair1_rep (Blk.new w2 _ _))).mono ?_
  rintro e w3 ⟨v3, he, hv3, hb⟩
  rw [awake_best2] at he hv3
  subst he
  obtain ⟨A3, c3, rfl, -, -⟩ := slice_inv hv3
  have hw3 := bstep (hw2.alloc hw2.size _) (hw2.alloc hw2.size _).size hb
  have bl3 := (bl2.alloc _).below hb (bl2.alloc _).lt
  have hv1 := Rep.below (Rep.below hv1' ((Below.refl _ _).alloc (Nat.le_refl _) _)) hb
  have hv2' := Rep.below (Rep.below hv2 ((Below.refl _ _).alloc (Nat.le_refl _) _)) hb
  clear hb hv1' hv2 bl2
  go_wp2_with fail
  refine (same_any _ _ _ [1, 0, 2] _ (Rep.below hv1 ((Below.refl _ _).alloc (Nat.le_refl _) _)) (ints3_rep (Blk.new w3 _ _) (by constructor <;> decide) (by constructor <;> decide) (by constructor <;> decide))).mono ?_
  rintro e w4 ⟨he, hq⟩
  rw [same_eq] at he
  subst he
  have hw4 := (hw3.alloc hw3.size (.cells #[.int .i64 1, .int .i64 0, .int .i64 2] 3)).trans (hq.below w.heap.size)
  have bl4 := (bl3.alloc (.cells #[.int .i64 1, .int .i64 0, .int .i64 2] 3)).qt hq
  have hv2 := Rep.below (Rep.below hv2' ((Below.refl _ _).alloc (Nat.le_refl _) (.cells #[.int .i64 1, .int .i64 0, .int .i64 2] 3))) (hq.below _)
  have hv3' := Rep.below (Rep.below hv3 ((Below.refl _ _).alloc (Nat.le_refl _) (.cells #[.int .i64 1, .int .i64 0, .int .i64 2] 3))) (hq.below _)
  clear hq bl3 hv3 hv2' hw3 hv1
  go_wp2_with fail
  refine (same_any _ _ _ [0, 1, 2] _ (Rep.below hv2 ((Below.refl _ _).alloc (Nat.le_refl _) _)) (ints3_rep (Blk.new w4 _ _) (by constructor <;> decide) (by constructor <;> decide) (by constructor <;> decide))).mono ?_
  rintro e w5 ⟨he, hq⟩
  rw [same_eq] at he
  subst he
  have hw5 := (hw4.alloc hw4.size (.cells #[.int .i64 0, .int .i64 1, .int .i64 2] 3)).trans (hq.below w.heap.size)
  have bl5 := (bl4.alloc (.cells #[.int .i64 0, .int .i64 1, .int .i64 2] 3)).qt hq
  have hv2' := Rep.below (Rep.below hv2 ((Below.refl _ _).alloc (Nat.le_refl _) (.cells #[.int .i64 0, .int .i64 1, .int .i64 2] 3))) (hq.below _)
  have hv3 := Rep.below (Rep.below hv3' ((Below.refl _ _).alloc (Nat.le_refl _) (.cells #[.int .i64 0, .int .i64 1, .int .i64 2] 3))) (hq.below _)
  clear hq bl4 hv3' hv2 hw4
  go_wp2_with fail
  refine (same_any _ _ _ [1, 2, 0] _ (Rep.below hv3 ((Below.refl _ _).alloc (Nat.le_refl _) _)) (ints3_rep (Blk.new w5 _ _) (by constructor <;> decide) (by constructor <;> decide) (by constructor <;> decide))).mono ?_
  rintro e w6 ⟨he, hq⟩
  rw [same_eq] at he
  subst he
  have hw6 := (hw5.alloc hw5.size (.cells #[.int .i64 1, .int .i64 2, .int .i64 0] 3)).trans (hq.below w.heap.size)
  have bl6 := (bl5.alloc (.cells #[.int .i64 1, .int .i64 2, .int .i64 0] 3)).qt hq
  have hv2 := Rep.below (Rep.below hv2' ((Below.refl _ _).alloc (Nat.le_refl _) (.cells #[.int .i64 1, .int .i64 2, .int .i64 0] 3))) (hq.below _)
  clear hq bl5 hv3 hv2' hw5
  go_wp2_with fail
  refine (wsCheck_any _ _ _ lA 0 0 [(2, 0)] [0, 1, 2] _ (lA_rep (bl6.alloc _)) (pair1_rep (Blk.new w6 _ _)) (Rep.below hv2 ((Below.refl _ _).alloc (Nat.le_refl _) _))).mono ?_
  rintro e w7 ⟨he, hb⟩
  rw [awake_check] at he
  subst he
  have hw7 := bstep (hw6.alloc hw6.size _) (hw6.alloc hw6.size _).size hb
  have bl7 := (bl6.alloc _).below hb (bl6.alloc _).lt
  have hv2' := Rep.below (Rep.below hv2 ((Below.refl _ _).alloc (Nat.le_refl _) _)) hb
  clear hb hv2 bl6 hw6
  go_wp2_with fail
  refine (wsCheck_any _ _ _ lA 0 0 [] [0, 1, 2] _ (lA_rep bl7) (Rep.slice_nil _ _ _) hv2').mono ?_
  rintro e w8 ⟨he, hb⟩
  rw [awake_check2] at he
  subst he
  have hw8 := bstep hw7 hw7.size hb
  go_wp2
  go_ret
  exact ⟨rfl, hw8⟩
end Go.Proofs.Ytgiphdjblnfjcaa
