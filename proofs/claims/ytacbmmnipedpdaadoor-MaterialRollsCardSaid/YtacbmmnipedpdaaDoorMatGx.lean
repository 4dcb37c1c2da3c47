/- Chapter 15: a grade in its box, for the laws: no walk. -/
import Derived.Test.YtacbmmnipedpdaaDoorMatSt
namespace Go.Proofs.YtacbmmnipedpdaaDoor
open Go Go.RowKit

theorem few_lens {m : Mat} (h : fewM m = true) : ∀ g ∈ m.1, g.2.2.2.length ≤ 1000 := by
  intro g hg
  unfold fewM at h
  simp only [Bool.and_eq_true, List.all_eq_true, decide_eq_true_eq] at h
  have := (h.1.2 g hg).1
  omega
/-- a grade in its box. -/
structure GrBx (b : Nat) (g : Gr) (a : Array Value) (W : World) : Prop where
  hg : grR.R W (Lt W) g a.toList
  bx : Blk W b 32 a
theorem GrBx.below {W W' : World} {b : Nat} {g : Gr} {a : Array Value} (h : GrBx b g a W) (hb : Below W.heap.size W W') : GrBx b g a W' := ⟨Rep.below h.hg hb, h.bx.below hb h.bx.lt⟩
theorem gr_form {w : World} {D : Nat → Prop} {g : Gr} {a : Array Value} (h : grR.R w D g a.toList) : ∃ G n cg, a = #[.string (bA g.1), .int .i64 g.2.1, .int .i64 g.2.2.1, .slice G n cg] := by
  obtain ⟨G, cg, e, -⟩ := gr_inv h
  exact ⟨G, _, cg, Array.ext' (by simpa using e)⟩
end Go.Proofs.YtacbmmnipedpdaaDoor
