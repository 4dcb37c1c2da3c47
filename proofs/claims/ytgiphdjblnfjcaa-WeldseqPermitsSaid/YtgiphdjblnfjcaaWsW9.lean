/- Chapter 34: newPanel, by walking its text. -/
import Derived.Test.YtgiphdjblnfjcaaWsW8
namespace Go.Proofs.Ytgiphdjblnfjcaa
open Go Go.RowKit

theorem bead_field (x y : Value) (w : World) : (Instr.field 45 (.agg #[x, y]) 0).run Try.prog w = .ok x w := by
  simp [Instr.field, asAgg, part, go_sem, Try.isAgg3]
def midOf (l : List Bead) : Int := if l.length = 0 then 0 else lowTo l l.length + highTo l l.length
def PanelPost (vl vb : Value) (reach stiff tw : Int) (w : World) (e : Ending) (w' : World) : Prop :=
  ∃ g, e = .returned (.pointer (some ⟨g, 0, none⟩)) ∧ Blk w' g 68 (panelCells vl vb reach stiff tw) ∧ w.heap.size ≤ g ∧ Below w.heap.size w w'
set_option maxHeartbeats 400000 in
theorem newPanel_any (vl vb : Value) (l : List Bead) (reach stiff : Int) (before : List (Int × Int)) (w : World) (hl : beadR.slice.R w (Lt w) l [vl]) (hb : prR.slice.R w (Lt w) before [vb]) (hok : l.all okBead = true) :
    Calls Try.prog 26 #[vl, .agg #[.int .i64 reach, .int .i64 stiff], vb] w (PanelPost vl vb reach stiff (midOf l) w) := by
  obtain ⟨A, c, rfl, hm, -⟩ := slice_inv hl
  obtain ⟨B, d, rfl, hmb, -⟩ := slice_inv hb
  have HOK := Lib.hid hok
  clear hok
  by_cases h0 : 0 < l.length
  · have HL := Lib.hid (lowTo_bd HOK.out h0 l.length (Nat.le_refl _))
    have HH := Lib.hid (highTo_bd HOK.out h0 l.length (Nat.le_refl _))
    have HM : Hid (midOf l = lowTo l l.length + highTo l l.length) := by show midOf l = _; unfold midOf; rw [if_neg (by omega)]
    have l1 := HL.out.1
    have l2 := HL.out.2
    have l3 := HH.out.1
    have l4 := HH.out.2
    generalize hlo : lowTo l l.length = lo at *
    generalize hhi : highTo l l.length = hi at *
    have HLO := Lib.hid hlo
    have HHI := Lib.hid hhi
    clear hlo hhi
    have hfd := bead_field
    go_enter Try.func26, Try.ntmps26
    have b0 := Blk.new (w.alloc (.cells #[.int .i64 reach, .int .i64 stiff] 24)) 68 #[.slice A l.length c, .int .i64 reach, .int .i64 stiff, .slice B before.length d, .int .i64 0]
    have hw0 : Below w.heap.size w ((w.alloc (.cells #[.int .i64 reach, .int .i64 stiff] 24)).alloc (.cells #[.slice A l.length c, .int .i64 reach, .int .i64 stiff, .slice B before.length d, .int .i64 0] 68)) := ((Below.refl _ _).alloc (Nat.le_refl _) _).alloc (by simp) _
    simp only [World.size_alloc] at b0
    go_wp2_with fail
    refine (minFunc_any _ l _ (Rep.below hl hw0) HOK.out h0).mono ?_
    rintro e w1 ⟨s1, he, hb1⟩
    rw [HLO.out] at he
    subst he
    have hw1 := bstep hw0 hw0.size hb1
    have b1 := b0.below hb1 (by simp)
    have hz1 := hb1.size
    simp only [World.size_alloc] at hz1
    clear hb1 b0
    go_wp2_with fail
    refine (maxFunc_any _ l _ (Rep.below hl hw1) HOK.out h0).mono ?_
    rintro e w2 ⟨s2, he, hb2⟩
    rw [HHI.out] at he
    subst he
    have hw2 := bstep hw1 hw1.size hb2
    have b2 := b1.below hb2 (by omega)
    have hz2 := hb2.size
    clear hb2 b1
    have k4 := b2.cell 4
    simp only [List.getElem?_toArray, List.getElem?_cons_zero, List.getElem?_cons_succ] at k4
    have f4 := b2.free 4
    go_wp2
    go_ret
    refine ⟨w.heap.size + 1, rfl, ?_, by omega, hw2.setCell (p := ⟨w.heap.size + 1, 4, none⟩) (by show w.heap.size ≤ w.heap.size + 1; omega) _⟩
    rw [HM.out]
    exact b2.set_ 4 (.int .i64 (lo + hi))
  · have hz : l.length = 0 := by omega
    have HM : Hid (midOf l = 0) := by show midOf l = 0; unfold midOf; rw [if_pos hz]
    clear hz
    go_enter Try.func26, Try.ntmps26
    go_wp2
    go_ret
    refine ⟨w.heap.size + 1, rfl, ?_, by omega, ((Below.refl _ _).alloc (Nat.le_refl _) _).alloc (by simp) _⟩
    rw [HM.out]
    have b0 := Blk.new (w.alloc (.cells #[.int .i64 reach, .int .i64 stiff] 24)) 68 #[.slice A l.length c, .int .i64 reach, .int .i64 stiff, .slice B before.length d, .int .i64 0]
    simp only [World.size_alloc] at b0
    exact b0
end Go.Proofs.Ytgiphdjblnfjcaa
