/- Chapter 33: the laws that compare with the reference, by walking their text. -/
import Derived.Test.YtlhkidiieajamaaDistAlive
namespace Go.Proofs.Ytlhkidiieajamaa
open Go Go.RowKit

theorem opens_ints : Opens Try.prog 25 Rep.int.slice := opens_slice Try.underlying25 (by kernel_rfl) (by decide) (opens_int Try.underlying3)
theorem opens_bead : Opens Try.prog 39 beadR :=
  opens_iso (fun p => ⟨p.1, p.2⟩) (fun _ => rfl) (opens_struct Try.underlying39 (tot := 2) (by kernel_rfl) (opensF_cons rfl (by kernel_rfl) (opens_int Try.underlying3) (opensF_last rfl (by kernel_rfl) (opens_int Try.underlying3))))
theorem opens_beads : Opens Try.prog 22 beadR.slice := opens_slice Try.underlying22 (by kernel_rfl) (by decide) opens_bead
theorem opens_i : Opens Try.prog 3 Rep.int := opens_int Try.underlying3
theorem opens_restr : Opens Try.prog 24 (Rep.int.pair Rep.int) :=
  opens_struct Try.underlying24 (tot := 2) (by kernel_rfl) (opensF_cons rfl (by kernel_rfl) opens_i (opensF_last rfl (by kernel_rfl) opens_i))
theorem int_inv {w : World} {D : Nat → Prop} {n : Int} {v : Value} (h : Rep.int.R w D n v.cells.toList) (hv : v.cells = #[v]) : v = .int .i64 n := by
  rw [hv] at h
  obtain ⟨e, _⟩ := h
  simpa using e
theorem pair_inv {w : World} {D : Nat → Prop} {x : Int × Int} {cs : Array Value} (h : (Rep.int.pair Rep.int).R w D x cs.toList) : cs = #[.int .i64 x.1, .int .i64 x.2] := by
  obtain ⟨a, b, e, ⟨rfl, _⟩, ⟨rfl, _⟩⟩ := h
  apply Array.ext'
  simpa using e

set_option maxHeartbeats 400000 in
theorem offsets_law (vl vs : Value) (a : Int) (l : List Bead) (shrink : List Int) (x : Int) (w : World) (hl : beadR.slice.R w (Lt w) l [vl]) (hs : Rep.int.slice.R w (Lt w) shrink [vs]) (_ : Rep.int.R w (Lt w) x [.int .i64 a]) :
    Calls Try.prog 4 #[vl, vs, .int .i64 a] w (Ret (.bool true) w) := by
  obtain ⟨A, c, rfl, hm, -⟩ := slice_inv hl
  obtain ⟨F, d, rfl, hm', -⟩ := slice_inv hs
  by_cases h1 : 60 < l.length
  · go_enter Try.func4, Try.ntmps4
    go_wp2_with (go_at_call 9; refine (alive_any _).mono ?_; rintro e w1 ⟨rfl, hb⟩)
    go_ret
    exact ⟨rfl, hb⟩
  · by_cases h2 : 60 < shrink.length
    · go_enter Try.func4, Try.ntmps4
      go_wp2_with (go_at_call 9; refine (alive_any _).mono ?_; rintro e w1 ⟨rfl, hb⟩)
      go_ret
      exact ⟨rfl, hb⟩
    · have he : (offF l shrink a == offF l shrink a) = true := by simp
      go_enter Try.func4, Try.ntmps4
      go_wp2_with fail
      refine (offset_any _ _ _ _ _ _ hl hs (by omega)).mono ?_
      rintro e w1 ⟨rfl, hb1⟩
      go_wp2_with fail
      refine (refOffset_any _ _ _ _ _ _ (Rep.below hl hb1) (Rep.below hs hb1) (by omega)).mono ?_
      rintro e w2 ⟨rfl, hb2⟩
      have hw2 := bstep hb1 hb1.size hb2
      go_wp2_with fail
      refine (alive_any _).mono ?_
      rintro e w3 ⟨rfl, hb3⟩
      have hw3 := bstep hw2 hw2.size hb3
      go_wp2
      go_ret
      exact ⟨rfl, hw3⟩
end Go.Proofs.Ytlhkidiieajamaa
