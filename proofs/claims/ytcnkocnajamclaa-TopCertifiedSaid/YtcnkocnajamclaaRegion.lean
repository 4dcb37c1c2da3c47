/- A region that draws its order, walked operation by operation: what runs, what its guard leaves out, and a call. -/
import Derived.Test.YtcnkocnajamclaaCommon
import Derived.Deep.RegionHeld3
namespace Go.Proofs.Ytcnkocnajamclaa
open Go

section
variable {P : Program} {ops : Array Oper} {Q : Exit → Act → World → Prop} {md : Region.Mode} {S : World → Prop}
theorem take_run {i : Nat} {v : Value} {fuel : Nat} {listed : Array Bool} {a : Act} {w : World} (hi : i < ops.size)
    (hs : Region.noSelect ops = true) (hf : Region.free md ops listed i = true) (hr : (Region.ready md ops listed).contains i = true)
    (hQ : ∀ c a w v, Q (.panic c) (a.put ops[i].dst v) w → Q (.panic c) a w) (hS : S w) (hw : Region.wanted ops[i] (yielded ops a.tmps) = true) (hy : ∀ w, S w → (execOp a.eval ops[i]).run P w = .ok (.value v) w)
    (h : wpAnyH P md ops Q S fuel (listed.setIfInBounds i true) (a.put ops[i].dst v) w) : wpAnyH P md ops Q S (fuel + 1) listed a w :=
  wpAnyH_take (oi := ops[i]) (v := v) (Array.getElem?_eq_getElem hi) hs hf hr (fun c a w => hQ c a w _) (.inl ⟨hw, hy⟩) hS h
theorem take_skip {i : Nat} {fuel : Nat} {listed : Array Bool} {a : Act} {w : World} (hi : i < ops.size)
    (hs : Region.noSelect ops = true) (hf : Region.free md ops listed i = true) (hr : (Region.ready md ops listed).contains i = true)
    (hQ : ∀ c a w v, Q (.panic c) (a.put ops[i].dst v) w → Q (.panic c) a w) (hS : S w) (hw : Region.wanted ops[i] (yielded ops a.tmps) = false)
    (h : wpAnyH P md ops Q S fuel (listed.setIfInBounds i true) (a.put ops[i].dst undef) w) : wpAnyH P md ops Q S (fuel + 1) listed a w :=
  wpAnyH_take (oi := ops[i]) (v := undef) (Array.getElem?_eq_getElem hi) hs hf hr (fun c a w => hQ c a w _) (.inr ⟨hw, rfl⟩) hS h
theorem take_call {i : Nat} {fuel : Nat} {listed : Array Bool} {a : Act} {w : World} (hi : i < ops.size) (hr : Region.ready md ops listed = [i])
    (h : ∀ K' : Act → World → Prop, Shut (∀ a w, S w → (S w → wpAnyH P md ops Q S fuel (listed.setIfInBounds i true) a w) → K' a w) → if Region.wanted ops[i] (yielded ops a.tmps) = true then Oper.wp P ops[i] a w K' Q else K' (a.put ops[i].dst undef) w) :
    wpAnyH P md ops Q S (fuel + 1) listed a w :=
  wpAnyH_ready hr (by simp) (AllReadyH.cons (Array.getElem?_eq_getElem hi) h AllReadyH.nil)
end
end Go.Proofs.Ytcnkocnajamclaa
