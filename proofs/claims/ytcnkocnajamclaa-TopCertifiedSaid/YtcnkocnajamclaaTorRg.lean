/- A region that draws its order, where two operations may come up at a time. -/
import Derived.Test.YtcnkocnajamclaaRegion
namespace Go.Proofs.Ytcnkocnajamclaa
open Go

section
variable {P : Program} {ops : Array Oper} {Q : Exit → Act → World → Prop} {md : Region.Mode} {S : World → Prop}
theorem take_two {i j : Nat} {fuel : Nat} {listed : Array Bool} {a : Act} {w : World} (hi : i < ops.size) (hj : j < ops.size) (hr : Region.ready md ops listed = [i, j])
    (h1 : ∀ K' : Act → World → Prop, Shut (∀ a w, S w → (S w → wpAnyH P md ops Q S fuel (listed.setIfInBounds i true) a w) → K' a w) → if Region.wanted ops[i] (yielded ops a.tmps) = true then Oper.wp P ops[i] a w K' Q else K' (a.put ops[i].dst undef) w)
    (h2 : ∀ K' : Act → World → Prop, Shut (∀ a w, S w → (S w → wpAnyH P md ops Q S fuel (listed.setIfInBounds j true) a w) → K' a w) → if Region.wanted ops[j] (yielded ops a.tmps) = true then Oper.wp P ops[j] a w K' Q else K' (a.put ops[j].dst undef) w) :
    wpAnyH P md ops Q S (fuel + 1) listed a w :=
  wpAnyH_ready hr (by simp) (AllReadyH.cons (Array.getElem?_eq_getElem hi) h1 (AllReadyH.cons (Array.getElem?_eq_getElem hj) h2 AllReadyH.nil))
end
end Go.Proofs.Ytcnkocnajamclaa
