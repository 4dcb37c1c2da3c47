/- Chapter 15: where Parse's two loops stand: no walk. -/
import Derived.Test.YtacbmmnipedpdaaDoorMatP8
namespace Go.Proofs.YtacbmmnipedpdaaDoor
open Go Go.RowKit

theorem own_encD {α : Type} {E : Rep α} {enc : α → List Value} (hlen : ∀ x, (enc x).length = E.size) (hpos : 0 < E.size) {w : World} {base : Nat} {e : TypeId} {v : Value} {n : Nat} {xs : List α} (h : w.ownsRow base e E.size v n (xs.flatMap enc)) {D : Nat → Prop} (hD : ∀ b, base ≤ b → b < w.heap.size → D b)
    (hR : ∀ x ∈ xs, E.R w D x (enc x)) : E.slice.R w D xs [v] := by
  have hfl : ∀ ys : List α, (ys.flatMap enc).length = ys.length * E.size := fun ys => by
    induction ys with
    | nil => simp
    | cons y ys ih => rw [List.flatMap_cons, List.length_append, hlen, ih, List.length_cons, Nat.add_mul]; omega
  have hn : xs.length = n := by
    have := h.1
    rw [hfl] at this
    exact Nat.eq_of_mul_eq_mul_right hpos this
  rcases h.2 with ⟨rfl, h0⟩ | ⟨g, cap, cur, rfl, hb, hh, hnc, hcm, hcs, ht⟩
  · have : xs = [] := List.eq_nil_of_length_eq_zero (by omega)
    subst this
    exact Rep.slice_nil _ _ _
  · have hB : Blk w g e cur := hh
    refine ⟨_, cap, by rw [hn], by omega, hcm, fun k hk => ⟨g, 0, _, rfl, hD g hb hB.lt, hR _ (List.getElem_mem hk), fun j hj => ?_⟩⟩
    rw [hB.cell, Nat.zero_add, ← flatMap_get hlen xs k hk j hj, ← ht]
    have : k * E.size + j < n * E.size := by
      have := Nat.mul_le_mul_right E.size (show k + 1 ≤ n from by omega)
      rw [Nat.add_mul] at this; omega
    rw [List.getElem?_take, if_pos this, Array.getElem?_toList]
theorem grs_repD {base : Nat} {v : Value} {ps : List GrV} {w : World} (h : GrsAt base v ps w) : grR.slice.R w (fun b => base ≤ b ∧ b < w.heap.size) (ps.map (·.1)) [v] := by
  refine iso_map (E := grR) (f := fun p : GrV => p.1) ?_
  refine own_encD (E := grR.iso (fun p : GrV => p.1)) (enc := grV) (fun _ => rfl) (by decide) h.1 (fun b h1 h2 => ⟨h1, h2⟩) (fun p hp => ?_)
  obtain ⟨h1, h2, h3, h4⟩ := h.2 p hp
  exact gr_mk (Rep.mono _ (fun b hb => ⟨hb.1, hb.2.1⟩) h1) h2 h3 h4
theorem PSt.drew {M gp : Nat} {L : List Lx} {w W : World} {k : Nat} {vg vs : Value} (h : PSt M gp L w k vg vs W) : PSt M gp L w k vg vs W.drew :=
  ⟨h.b0.drewN 1, h.b1.drewN 1, h.b2.drewN 1, by obtain ⟨A, n, c, h1, h2⟩ := h.rd; exact ⟨A, n, c, h1.drewN 1, h2⟩, h.lt, h.hb.drew, h.hM⟩
/-- the grades are being read. -/
def G1 (M gp : Nat) (L : List Lx) (w : World) (R : List Gr × Rd) (k : Nat) (W : World) : Prop :=
  ∃ (f : Nat) (vg : Value) (ps : List GrV), PSt M gp L w k vg (.slice none 0 0) W ∧ GrsAt (gp + 1) vg ps W ∧ ps.length ≤ k ∧ L.length ≤ f + k ∧ manyR L tGrade gradeR f (k, false) (ps.map (·.1)) = R
theorem sl_nil : IsSl (.slice none 0 0) := ⟨_, _, _, rfl⟩
theorem own_sl {w : World} {base size n : Nat} {e : TypeId} {v : Value} {xs : List Value} (h : w.ownsRow base e size v n xs) : IsSl v := by obtain ⟨A, c, h⟩ := own_form15 h; exact ⟨A, n, c, h⟩
theorem g1_next {M gp : Nat} {L : List Lx} {w W1 W2 : World} {R : List Gr × Rd} {k k' f : Nat} {vg v2 : Value} {ps : List GrV} {p : GrV} {o : Obj} (hst : PSt M gp L w k' vg (.slice none 0 0) W1) (hgr : GrsAt (gp + 1) vg ps W1) (hp : ps.length ≤ k) (hlf : L.length ≤ f + k) (hk : k < k')
    (hm : manyR L tGrade gradeR f (k, false) (ps.map (·.1)) = R) (hfit : fitB (lxN L k) 1 tGrade = true) (hq : gradeR L (k + 1, false) = (p.1, (k', false))) (hg : (W1.alloc o).grownBy W2 vg.ownBlock) (hown : W2.ownsRow (gp + 1) 32 4 v2 (ps.length + [p].length) (ps.flatMap grV ++ [p].flatMap grV))
    (hpI : Rep.int.slice.R W1 (fun b => gp + 1 ≤ b ∧ b < W1.heap.size ∧ IntB W1 b) p.1.2.2.2 [slV p.2]) (hf : p.1.1.length ≤ 9223372036854775807 ∧ inI64 p.1.2.1 ∧ inI64 p.1.2.2.1) : G1 M gp L w R k' (W2.setCell ⟨M, 0, none⟩ v2) := by
  have hk' := hst.lt
  have hM := hst.hM
  rw [List.flatMap_cons, List.flatMap_nil, List.append_nil] at hown
  obtain ⟨f, rfl⟩ : ∃ f', f = f' + 1 := ⟨f - 1, by omega⟩
  rw [many_yes hfit, hq] at hm
  have h2 := (hst.grow hgr.1 (Nat.lt_succ_self gp) hg).setg (own_sl hgr.1) sl_nil v2
  have h3 := grs_keep (grs_snoc hgr hg hown hpI hf) (w' := W2.setCell ⟨M, 0, none⟩ v2) (by simp) (fun b hb hlt => Below.heap_setCell W2 ⟨M, 0, none⟩ v2 b (by show b ≠ M; omega))
  exact ⟨f, v2, ps ++ [p], h2, h3, by simp; omega, by omega, by simpa using hm⟩
/-- the sections are being read. -/
def S1 (M gp B2 : Nat) (L : List Lx) (w : World) (vg : Value) (gs : List Gr) (R : List Sc × Rd) (k : Nat) (W : World) : Prop :=
  ∃ (f : Nat) (vs : Value) (ss : List Sc), PSt M gp L w k vg vs W ∧ grR.slice.R W (fun b => gp + 1 ≤ b ∧ b < B2) gs [vg] ∧ OwnSc B2 vs ss W ∧ B2 ≤ W.heap.size ∧ ss.length ≤ k ∧ L.length ≤ f + k ∧ manyR L tSection sectR f (k, false) ss = R
theorem s1_next {M gp B2 : Nat} {L : List Lx} {w W1 W2 : World} {gs : List Gr} {R : List Sc × Rd} {k k' f : Nat} {vg vs v2 : Value} {ss : List Sc} {p : Sc} {o : Obj} (hgB : gp < B2) (hsl : IsSl vg) (hst : PSt M gp L w k' vg vs W1) (hgr : grR.slice.R W1 (fun b => gp + 1 ≤ b ∧ b < B2) gs [vg]) (hsc : OwnSc B2 vs ss W1) (hB : B2 ≤ W1.heap.size) (hp : ss.length ≤ k) (hlf : L.length ≤ f + k) (hk : k < k')
    (hm : manyR L tSection sectR f (k, false) ss = R) (hfit : fitB (lxN L k) 1 tSection = true) (hq : sectR L (k + 1, false) = (p, (k', false))) (hg : (W1.alloc o).grownBy W2 vs.ownBlock) (hown : W2.ownsRow B2 36 4 v2 (ss.length + [p].length) (ss.flatMap scEnc ++ [p].flatMap scEnc))
    (hf : p.1.length ≤ 9223372036854775807 ∧ inI64 p.2.1 ∧ inI64 p.2.2.1 ∧ inI64 p.2.2.2) : S1 M gp B2 L w vg gs R k' (W2.setCell ⟨M, 1, none⟩ v2) := by
  have hk' := hst.lt
  have hM := hst.hM
  have hlt := World.ownsRow.lt hsc.1
  have hsz := hg.size
  rw [World.size_alloc] at hsz
  rw [List.flatMap_cons, List.flatMap_nil, List.append_nil] at hown
  obtain ⟨f, rfl⟩ : ∃ f', f = f' + 1 := ⟨f - 1, by omega⟩
  rw [many_yes hfit, hq] at hm
  have h2 := (hst.grow hsc.1 hgB hg).sets hsl (own_sl hsc.1) v2
  have h3 := own_far hown (g := M) (by omega) 1 v2
  refine ⟨f, v2, ss ++ [p], h2, ?_, ⟨by simpa using h3, fun q hq' => ?_⟩, by simp; omega, by simp; omega, by omega, hm⟩
  · refine Rep.keep _ (fun b (hb : gp + 1 ≤ b ∧ b < B2) => ?_) hgr
    refine (Below.heap_setCell W2 ⟨M, 1, none⟩ v2 b (by show b ≠ M; omega)).trans ?_
    exact (hg.block b (by simp; omega) (fun e => by have := (hlt b e.symm).1; omega)).trans (Below.heap_alloc _ _ b (by omega))
  · rcases List.mem_append.1 hq' with h4 | h4
    · exact hsc.2 q h4
    · rw [List.mem_singleton.1 h4]; exact hf
theorem g1_call {gp : Nat} {w w' : World} {vg : Value} {ps : List GrV} (h : GrsAt (gp + 1) vg ps w) (ho : w.grownBy w' (some gp)) : GrsAt (gp + 1) vg ps w' :=
  grs_keep h ho.size (fun b hb hlt => ho.block b hlt (fun e => by injection e with e; omega))
theorem gr_call {gp B2 : Nat} {w w' : World} {vg : Value} {gs : List Gr} (h : grR.slice.R w (fun b => gp + 1 ≤ b ∧ b < B2) gs [vg]) (hB : B2 ≤ w.heap.size) (ho : w.grownBy w' (some gp)) : grR.slice.R w' (fun b => gp + 1 ≤ b ∧ b < B2) gs [vg] :=
  Rep.keep _ (fun b (hb : gp + 1 ≤ b ∧ b < B2) => ho.block b (by omega) (fun e => by injection e with e; omega)) h
theorem own_call {gp B2 : Nat} {w w' : World} {vs : Value} {ss : List Sc} (h : OwnSc B2 vs ss w) (hg : gp < B2) (ho : w.grownBy w' (some gp)) : OwnSc B2 vs ss w' := ⟨own_only h.1 ho hg, h.2⟩
theorem s1_start {M gp : Nat} {L : List Lx} {w W : World} {R : List Sc × Rd} {k : Nat} {vg : Value} {ps : List GrV} (hst : PSt M gp L w k vg (.slice none 0 0) W) (hgr : GrsAt (gp + 1) vg ps W) (hm : manyR L tSection sectR L.length (k, false) [] = R) : S1 M gp W.heap.size L w vg (ps.map (·.1)) R k W :=
  ⟨L.length, .slice none 0 0, [], hst, grs_repD hgr, ⟨World.ownsRow_nil _ _ _ _, fun s hs => by cases hs⟩, Nat.le_refl _, by simp, by omega, hm⟩
end Go.Proofs.YtacbmmnipedpdaaDoor
