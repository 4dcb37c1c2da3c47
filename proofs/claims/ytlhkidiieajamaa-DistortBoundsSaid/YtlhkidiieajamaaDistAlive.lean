/- Chapter 33: the examples of the law's alive: it returns true. -/
import Derived.Test.YtlhkidiieajamaaDistOff
namespace Go.Proofs.Ytlhkidiieajamaa
open Go Go.RowKit

def beadCells (b : Bead) : List Value := [.int .i64 b.pos, .int .i64 b.shr]
def exBeads : List Bead := [⟨0, 90⟩, ⟨100, 90⟩, ⟨1000, 90⟩]
theorem exBeads_rep {w : World} {g : Nat} {t : TypeId} (h : Blk w g t #[.int .i64 0, .int .i64 90, .int .i64 100, .int .i64 90, .int .i64 1000, .int .i64 90]) : beadR.slice.R w (Lt w) exBeads [.slice (some ⟨g, 0, none⟩) 3 3] :=
  Blk.slice_enc (E := beadR) (enc := beadCells) (fun _ => rfl) h rfl (fun x hx => by
    refine ⟨[.int .i64 x.pos], [.int .i64 x.shr], rfl, ⟨rfl, ?_⟩, ⟨rfl, ?_⟩⟩ <;> (simp [exBeads] at hx; rcases hx with rfl | rfl | rfl <;> decide)) (c := 3) (by decide) (by decide)
theorem ints3_rep {w : World} {g : Nat} {t : TypeId} {a b c : Int} (h : Blk w g t #[.int .i64 a, .int .i64 b, .int .i64 c]) (ha : inI64 a) (hb : inI64 b) (hc : inI64 c) : Rep.int.slice.R w (Lt w) [a, b, c] [.slice (some ⟨g, 0, none⟩) 3 3] :=
  Blk.ints (xs := [a, b, c]) h (fun x hx => by simp at hx; rcases hx with rfl | rfl | rfl <;> assumption) (c := 3) (by simp) (by decide)

theorem ex_ints : decide ([(90 : Int), 60, 90] = [90, 60, 90]) = true := by decide
theorem ex_run1 : runF exBeads 200 50 [0, 1, 2] = ([90, 60, 90], 0) := by decide
theorem ex_run2 : runF exBeads 200 50 [0, 1, 1] = ([], 2) := by decide
theorem ex_uneven : unevF exBeads 200 50 [0, 1, 2] = (150, 0) := by decide
theorem ex_check : checkF exBeads 200 50 = 0 := by decide
theorem ex_off : offF exBeads [90, 60, 90] 1000 = 150 := by decide

set_option maxHeartbeats 1000000 in
theorem alive_any (w : World) : Calls Try.prog 9 #[] w (Ret (.bool true) w) := by
  go_enter Try.func9, Try.ntmps9
  go_wp2_with fail
  have b0 := ((Blk.new w 39 #[.int .i64 0, .int .i64 90, .int .i64 100, .int .i64 90, .int .i64 1000, .int .i64 90]).alloc (.cells #[.int .i64 200, .int .i64 50] 24)).alloc (.cells #[.int .i64 0, .int .i64 1, .int .i64 2] 3)
  have b1 := (Blk.new (w.alloc (.cells #[.int .i64 0, .int .i64 90, .int .i64 100, .int .i64 90, .int .i64 1000, .int .i64 90] 39)) 24 #[.int .i64 200, .int .i64 50]).alloc (.cells #[.int .i64 0, .int .i64 1, .int .i64 2] 3)
  refine (run_any _ _ _ _ _ _ _ (exBeads_rep b0) (ints3_rep (by simpa using Blk.new ((w.alloc _).alloc _) 3 #[.int .i64 0, .int .i64 1, .int .i64 2]) (by constructor <;> decide) (by constructor <;> decide) (by constructor <;> decide))).mono ?_
  rintro e w1 ⟨v, he, hv, hb⟩
  rw [ex_run1] at he hv
  subst he
  have hw1 : Below w.heap.size w w1 := bstep (by go_grown) (by simp; omega) hb
  have hz1 := hb.size
  have d0 := b0.below hb (by simp; omega)
  have d1 := b1.below hb (by simp)
  simp only [World.size_alloc] at hz1 d1
  clear hb b0 b1
  have k0 := d1.c20
  have k1 := d1.c21
  go_wp2_with fail
  have hv' := Rep.below hv ((Below.refl _ _).alloc (Nat.le_refl _) (.cells #[.int .i64 0, .int .i64 1, .int .i64 2] 3))
  refine (uneven_any _ _ _ _ _ _ _ (exBeads_rep (d0.alloc _)) (ints3_rep (by simpa using Blk.new w1 3 #[.int .i64 0, .int .i64 1, .int .i64 2]) (by constructor <;> decide) (by constructor <;> decide) (by constructor <;> decide))).mono ?_
  rintro e w2 ⟨he, hb⟩
  rw [ex_uneven] at he
  subst he
  have hw2 : Below w.heap.size w w2 := bstep (hw1.alloc hw1.size _) (by simp; omega) hb
  have hz2 := hb.size
  have d0' := (d0.alloc _).below hb (by simp; omega)
  have d1' := (d1.alloc _).below hb (by simp; omega)
  have hv2 := Rep.below hv' hb
  simp only [World.size_alloc] at hz2
  clear hb d0 d1 hw1 hv hv' k0 k1
  have k0 := d1'.c20
  have k1 := d1'.c21
  go_wp2_with fail
  have hv' := Rep.below hv2 ((Below.refl _ _).alloc (Nat.le_refl _) (.cells #[.int .i64 0, .int .i64 1, .int .i64 1] 3))
  refine (run_any _ _ _ _ _ _ _ (exBeads_rep (d0'.alloc _)) (ints3_rep (by simpa using Blk.new w2 3 #[.int .i64 0, .int .i64 1, .int .i64 1]) (by constructor <;> decide) (by constructor <;> decide) (by constructor <;> decide))).mono ?_
  rintro e w3 ⟨v3, he, -, hb⟩
  rw [ex_run2] at he
  subst he
  have hw3 : Below w.heap.size w w3 := bstep (hw2.alloc hw2.size _) (by simp; omega) hb
  have hz3 := hb.size
  have d0 := (d0'.alloc _).below hb (by simp; omega)
  have d1 := (d1'.alloc _).below hb (by simp; omega)
  have hv3 := Rep.below hv' hb
  simp only [World.size_alloc] at hz3
  clear hb d0' d1' hw2 hv2 hv' k0 k1
  have k0 := d1.c20
  have k1 := d1.c21
  go_wp2_with fail
  have hv' := Rep.below hv3 ((Below.refl _ _).alloc (Nat.le_refl _) (.cells #[.int .i64 90, .int .i64 60, .int .i64 90] 3))
  refine (ints_any _ _ _ _ _ hv' (ints3_rep (by simpa using Blk.new w3 3 #[.int .i64 90, .int .i64 60, .int .i64 90]) (by constructor <;> decide) (by constructor <;> decide) (by constructor <;> decide))).mono ?_
  rintro e w4 ⟨he, hq⟩
  rw [ex_ints] at he
  subst he
  have hb := hq.below (w3.alloc (.cells #[.int .i64 90, .int .i64 60, .int .i64 90] 3)).heap.size
  have hw4 : Below w.heap.size w w4 := bstep (hw3.alloc hw3.size _) (by simp; omega) hb
  have hz4 := hb.size
  have d0' := (d0.alloc _).below hb (by simp; omega)
  have d1' := (d1.alloc _).below hb (by simp; omega)
  have hv4 := Rep.below hv' hb
  simp only [World.size_alloc] at hz4
  clear hb hq d0 d1 hw3 hv3 hv' k0 k1
  go_wp2_with fail
  refine (offset_any _ _ _ _ _ _ (exBeads_rep d0') hv4 (by decide)).mono ?_
  rintro e w5 ⟨he, hb⟩
  rw [ex_off] at he
  subst he
  have hw5 : Below w.heap.size w w5 := bstep hw4 hw4.size hb
  have d0 := d0'.below hb (by omega)
  have d1 := d1'.below hb (by omega)
  clear hb d0' d1' hw4
  have k0 := d1.c20
  have k1 := d1.c21
  go_wp2_with fail
  refine (check_any _ _ _ _ _ (exBeads_rep d0)).mono ?_
  rintro e w6 ⟨he, hb⟩
  rw [ex_check] at he
  subst he
  have hw6 : Below w.heap.size w w6 := bstep hw5 hw5.size hb
  clear hb
  go_wp2
  go_ret
  exact ⟨rfl, hw6⟩
end Go.Proofs.Ytlhkidiieajamaa
