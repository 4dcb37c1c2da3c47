/- Chapter 34: the laws' arguments, and the laws that compare with the reference, by walking their text. -/
import Derived.Test.YtgiphdjblnfjcaaWsB3
import Derived.Test.YtgiphdjblnfjcaaOpenZ
namespace Go.Proofs.Ytgiphdjblnfjcaa
open Go Go.RowKit

theorem opens_ints : Opens Try.prog 28 Rep.int.slice := opens_slice Try.underlying28 (by kernel_rfl) (by decide) (opens_int Try.underlying3)
theorem opens_bead : Opens Try.prog 45 beadR :=
  opens_iso (fun p => ⟨p.1, p.2⟩) (fun _ => rfl) (opens_struct Try.underlying45 (tot := 2) (by kernel_rfl) (opensF_cons rfl (by kernel_rfl) (opens_int Try.underlying3) (opensF_last rfl (by kernel_rfl) (opens_int Try.underlying3))))
theorem opens_beads : Opens Try.prog 22 beadR.slice := opens_slice Try.underlying22 (by kernel_rfl) (by decide) opens_bead
theorem opens_i : Opens Try.prog 3 Rep.int := opens_int Try.underlying3
theorem opens_restr : Opens Try.prog 24 (Rep.int.pair Rep.int) :=
  opens_struct Try.underlying24 (tot := 2) (by kernel_rfl) (opensF_cons rfl (by kernel_rfl) opens_i (opensF_last rfl (by kernel_rfl) opens_i))
theorem opens_pair : Opens Try.prog 46 prR := opens_array2 Try.underlying46 (by kernel_rfl) (by kernel_rfl) opens_i
theorem opens_pairs : Opens Try.prog 25 prR.slice := opens_slice Try.underlying25 (by kernel_rfl) (by decide) opens_pair
def panelR : Rep (List Bead × (Int × Int) × List (Int × Int)) := beadR.slice.pair ((Rep.int.pair Rep.int).pair prR.slice)
theorem opens_panel : Opens Try.prog 27 panelR :=
  opens_struct Try.underlying27 (tot := 4) (by kernel_rfl) (opensF_cons rfl (by kernel_rfl) opens_beads (opensF_cons rfl (by kernel_rfl) opens_restr (opensF_last rfl (by kernel_rfl) opens_pairs)))
theorem opensZ_panel : OpensZ Try.prog 27 panelR (fun _ => True) := opensZ_of opens_panel
theorem opensZ_ints : OpensZ Try.prog 28 Rep.int.slice (fun _ => True) := opensZ_of opens_ints
theorem panel_inv {w : World} {D : Nat → Prop} {x : List Bead × (Int × Int) × List (Int × Int)} {cs : Array Value} (h : panelR.R w D x cs.toList) :
    ∃ A c B d, cs = #[.slice A x.1.length c, .int .i64 x.2.1.1, .int .i64 x.2.1.2, .slice B x.2.2.length d] ∧ beadR.slice.R w D x.1 [.slice A x.1.length c] ∧ prR.slice.R w D x.2.2 [.slice B x.2.2.length d] ∧ x.1.length ≤ 9223372036854775807 ∧ x.2.2.length ≤ 9223372036854775807 := by
  obtain ⟨a, b, e, ha, ⟨c', d', rfl, ⟨_, _, rfl, ⟨rfl, _⟩, ⟨rfl, _⟩⟩, hd⟩⟩ := h
  obtain ⟨A, c, rfl, h1, h2, h3⟩ := id ha
  obtain ⟨B, d, rfl, h4, h5, h6⟩ := id hd
  unfold maxLen at h2 h5
  exact ⟨A, c, B, d, by apply Array.ext'; simpa using e, ha, hd, by omega, by omega⟩
set_option maxRecDepth 100000 in
set_option maxHeartbeats 2000000 in
theorem checks_law (a0 : Array Value) (vo : Value) (x : List Bead × (Int × Int) × List (Int × Int)) (order : List Int) (w : World) (hx : panelR.R w (Lt w) x a0.toList) (ho : Rep.int.slice.R w (Lt w) order [vo]) :
    Calls Try.prog 3 #[.agg a0, vo] w (Ret (.bool true) w) := by
  obtain ⟨A, c, B, d, rfl, hl, hb, hm, hmb⟩ := panel_inv hx
  obtain ⟨l, ⟨reach, stiff⟩, before⟩ := x
  simp only [] at hl hb hm hmb ⊢
  obtain ⟨F, cf, rfl, hmo, -⟩ := slice_inv ho
  have hw0 : Below w.heap.size w (w.alloc (.cells #[.slice A l.length c, .int .i64 reach, .int .i64 stiff, .slice B before.length d] 27)) := (Below.refl _ _).alloc (Nat.le_refl _) _
  have bk := Blk.new w 27 #[.slice A l.length c, .int .i64 reach, .int .i64 stiff, .slice B before.length d]
  by_cases hL : lightB l before 60 = true ∧ ¬ 100 < order.length
  · obtain ⟨hL1, hL2⟩ := hL
    have HL := Lib.hid hL1
    have he : (wsCheckF l reach stiff before order == wsCheckF l reach stiff before order) = true := by simp
    clear hL1
    go_enter Try.func3, Try.ntmps3
    go_wp2_with fail
    refine (light_any A B c d l before reach stiff 60 _).mono ?_
    rintro e w1 ⟨h1, hb1⟩
    rw [HL.out] at h1
    subst h1
    have hw1 := bstep hw0 hw0.size hb1
    have bk1 := bk.below hb1 bk.lt
    have k0 := bk1.cell 0
    have k1 := bk1.cell 1
    have k2 := bk1.cell 2
    have k3 := bk1.cell 3
    have hlt := bk1.lt
    simp only [List.getElem?_toArray, List.getElem?_cons_zero, List.getElem?_cons_succ] at k0 k1 k2 k3
    go_wp2
    go_region_held3 (fun W => Below w1.heap.size w1 W ∧ W.cell? ⟨w.heap.size, 0, none⟩ = some (.slice A l.length c) ∧ W.cell? ⟨w.heap.size, 1, none⟩ = some (.int .i64 reach) ∧ W.cell? ⟨w.heap.size, 2, none⟩ = some (.int .i64 stiff) ∧ W.cell? ⟨w.heap.size, 3, none⟩ = some (.slice B before.length d))
      (first
        | exact ⟨(Below.refl _ _).drew, k0, k1, k2, k3⟩
        | exact ⟨hSa, (hSa.cell (p := ⟨w.heap.size, 0, none⟩) hlt).trans k0, (hSa.cell (p := ⟨w.heap.size, 1, none⟩) hlt).trans k1, (hSa.cell (p := ⟨w.heap.size, 2, none⟩) hlt).trans k2, (hSa.cell (p := ⟨w.heap.size, 3, none⟩) hlt).trans k3⟩)
      (first
        | (go_at_call 12
           go_split_ands
           refine (wsCheck_any _ _ _ l reach stiff before order _ (Rep.below hl (bstep hw1 hw1.size (by assumption))) (Rep.below hb (bstep hw1 hw1.size (by assumption))) (Rep.below ho (bstep hw1 hw1.size (by assumption)))).mono ?_
           rintro e W1 ⟨rfl, hq⟩
           have hSa := bstep (B := w1.heap.size) (a := w1) (by assumption) (Below.size (by assumption)) hq)
        | (go_at_call 13
           go_split_ands
           refine (wsRefCheck_any _ _ _ l reach stiff before order _ (Rep.below hl (bstep hw1 hw1.size (by assumption))) (Rep.below hb (bstep hw1 hw1.size (by assumption))) (Rep.below ho (bstep hw1 hw1.size (by assumption)))).mono ?_
           rintro e W1 ⟨rfl, hq⟩
           have hSa := bstep (B := w1.heap.size) (a := w1) (by assumption) (Below.size (by assumption)) hq)
        | (go_at_call 11
           go_split_ands
           refine (awake_any _).mono ?_
           rintro e W1 ⟨rfl, hq⟩
           have hSa := bstep (B := w1.heap.size) (a := w1) (by assumption) (Below.size (by assumption)) hq))
    all_goals
      go_split_ands
      go_wp2
      go_ret
      exact ⟨rfl, bstep hw1 hw1.size (by assumption)⟩
  · have hL' : lightB l before 60 = false ∨ (lightB l before 60 = true ∧ 100 < order.length) := by
      rcases Bool.eq_false_or_eq_true (lightB l before 60) with h | h
      · right; exact ⟨h, by have : ¬ ¬ 100 < order.length := fun h2 => hL ⟨h, h2⟩; omega⟩
      · exact .inl h
    clear hL
    rcases hL' with h | ⟨h, h2⟩
    all_goals
      have HL := Lib.hid h
      clear h
      go_enter Try.func3, Try.ntmps3
      go_wp2_with fail
      refine (light_any A B c d l before reach stiff 60 _).mono ?_
      rintro e w1 ⟨h1, hb1⟩
      rw [HL.out] at h1
      subst h1
      have hw1 := bstep hw0 hw0.size hb1
      go_wp2_with fail
      refine (awake_any _).mono ?_
      rintro e w2 ⟨rfl, hb2⟩
      go_wp2
      go_ret
      exact ⟨rfl, bstep hw1 hw1.size hb2⟩
end Go.Proofs.Ytgiphdjblnfjcaa
