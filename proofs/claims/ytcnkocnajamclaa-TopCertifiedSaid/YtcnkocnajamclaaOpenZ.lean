/- Opening an argument with what the form's own reach says of it: a string's length and a slice's length are at most the reach. -/
import Derived.Test.YtcnkocnajamclaaCommon
import Derived.SizedLaws
namespace Go.Proofs.Ytcnkocnajamclaa
open Go Go.RowKit Go.ChangeShapes Go.WideShapes

def OpensZ {α : Type} (P : Program) (t : TypeId) (E : Rep α) (Z : α → Prop) : Prop :=
  ∀ (H : Type) (enc : TypeId × Value → H) (W : World) (sp : Nat → Bool) (held : Bool) (fuel : Nat) (cs : List Value) (x : DataW H × List MemPlace),
    DataW.trod enc P W 0 sp held fuel t cs = some x → (∀ n ∈ x.1.weights P t, n ≤ 140737488351232) → ∃ y, E.R W (Lt W) y cs ∧ Z y
section
variable {P : Program} {t : TypeId}
theorem opensZ_of {α : Type} {E : Rep α} (h : Opens P t E) : OpensZ P t E (fun _ => True) := by
  intro H enc W sp held fuel cs x hx _
  obtain ⟨y, hy⟩ := h H enc W sp held fuel cs x hx
  exact ⟨y, hy, trivial⟩
theorem opensZ_str (ht : P.underlying t = some .string) : OpensZ P t Rep.str (fun s => s.size ≤ 140737488351232) := by
  intro H enc W sp held fuel cs x h hz
  obtain ⟨s, rfl, rfl, hs⟩ := DataW.trod_string ht h
  refine ⟨s, ⟨rfl, hs⟩, ?_⟩
  have := hz s.size (by simp [DataW.weights])
  omega
theorem opensZ_iso {α β : Type} {E : Rep α} {Z : α → Prop} {f : β → α} (g : α → β) (hfg : ∀ a, f (g a) = a) (h : OpensZ P t E Z) : OpensZ P t (E.iso f) (fun b => Z (f b)) := by
  intro H enc W sp held fuel cs x hx hz
  obtain ⟨y, hy, hzy⟩ := h H enc W sp held fuel cs x hx hz
  exact ⟨g y, by show E.R _ _ (f (g y)) _; rw [hfg]; exact hy, by show Z (f (g y)); rw [hfg]; exact hzy⟩
theorem weightsAll_mem {H : Type} {e : TypeId} {n : Nat} : ∀ {ds : List (DataW H)} {d : DataW H}, d ∈ ds → n ∈ d.weights P e → n ∈ DataW.weightsAll P e ds
  | d0 :: ds, d, hd, hn => by
    simp only [DataW.weightsAll, List.mem_append]
    rcases List.mem_cons.1 hd with rfl | hd
    · exact .inl hn
    · exact .inr (weightsAll_mem hd hn)
  | [], _, hd, _ => by cases hd
def SliceZ {α : Type} (Z : α → Prop) (xs : List α) : Prop := xs.length ≤ 140737488351232 ∧ ∀ x ∈ xs, Z x
theorem opensZ_slice {α : Type} {e : TypeId} {E : Rep α} {Z : α → Prop} (ht : P.underlying t = some (.slice e)) (hsz : P.cellsOf e = E.size) (hpos : 0 < E.size) (hby : 0 < P.bytesOf e) (hE : OpensZ P e E Z) : OpensZ P t E.slice (SliceZ Z) := by
  intro H enc W sp held fuel cs x h hz
  rcases Go.Deep.open_slice ht h with ⟨rfl, _⟩ | ⟨a, len, cap, m, n, D, Pl, rfl, hb, hl, hm, hmm, rfl, hi⟩
  · exact ⟨[], E.slice_nil _ _, by simp, fun x hx => by cases hx⟩
  · have hlm : len ≤ m := by rw [hmm]; split <;> omega
    simp only [DataW.weights, ht] at hz
    obtain ⟨xs, hxl, hx⟩ := exists_list (α := α) len (fun k y => Z y ∧ ∃ es, E.R W (Lt W) y es ∧ ∀ j, j < E.size → W.cell? ((a.add (k * E.size)).add j) = es[j]?) (fun k hk => by
      obtain ⟨cs', hc, ht'⟩ := hi k (by omega)
      rw [hsz] at hc
      obtain ⟨_, hcl, hat⟩ := World.cells?_some hc
      obtain ⟨y, hy, hzy⟩ := hE H enc W sp held n cs' _ ht' (fun q hq => hz q (by
        refine List.mem_cons_of_mem _ (List.mem_append_left _ (weightsAll_mem (d := D k) ?_ hq))
        exact List.mem_map.2 ⟨k, List.mem_range.2 hk, rfl⟩))
      exact ⟨y, hzy, cs', hy, hat⟩)
    have hlz : len ≤ 140737488351232 := by
      have := hz _ (List.mem_cons_self ..)
      simp only [List.length_map, List.length_range] at this
      have h2 : len * 1 ≤ (len + (m - len)) * P.bytesOf e := Nat.mul_le_mul (by omega) hby
      omega
    refine ⟨xs, ⟨some a, cap, by rw [hxl], by omega, hm, fun k hk => ?_⟩, by rw [hxl]; exact hlz, fun y hy => ?_⟩
    · obtain ⟨_, es, hr, hc⟩ := hx k hk
      have hel := E.len hr
      have h0 : ((a.add (k * E.size)).add 0) = a.add (k * E.size) := by simp [Addr.add]
      have hc0 : W.cell? (a.add (k * E.size)) = some (es[0]'(by omega)) := by
        rw [← h0, hc 0 hpos]; exact List.getElem?_eq_getElem (by omega)
      have hsp0 : a.spot = none := by
        by_cases hk0 : k = 0
        · subst hk0
          have := spot_of_cell hc0
          simpa [Addr.add] using this
        · obtain ⟨_, es0, hr0, hcc⟩ := hx 0 (by omega)
          have hel0 := E.len hr0
          have := hcc 0 hpos
          rw [show ((a.add (0 * E.size)).add 0) = a from by simp [Addr.add], List.getElem?_eq_getElem (by omega)] at this
          exact spot_of_cell this
      obtain ⟨b, off, spt⟩ := a
      simp only at hsp0
      subst hsp0
      have hadd : ∀ i : Nat, (⟨b, off, none⟩ : Addr).add i = ⟨b, off + i, none⟩ := fun i => by unfold Addr.add; split <;> simp_all
      refine ⟨b, off, es, rfl, ?_, hr, fun j hj => ?_⟩
      · have := lt_of_cell hc0
        rw [hadd] at this
        exact this
      · have := hc j hj
        rw [hadd] at this
        rw [← this]
        unfold Addr.add
        split <;> simp_all
    · obtain ⟨k, hk, rfl⟩ := List.getElem_of_mem hy
      exact (hx k hk).1
/-- fields from 'off' on. -/
def OpensFZ {α : Type} (P : Program) (fs : List Field) (off tot : Nat) (E : Rep α) (Z : α → Prop) : Prop :=
  ∀ (H : Type) (enc : TypeId × Value → H) (W : World) (sp : Nat → Bool) (held : Bool) (fuel : Nat) (cs : List Value), cs.length = tot →
    (∀ f ∈ fs, ∃ x, DataW.trod enc P W 0 sp held fuel f.type ((cs.drop f.offset).take (P.cellsOf f.type)) = some x ∧ ∀ n ∈ x.1.weights P f.type, n ≤ 140737488351232) → ∃ y, E.R W (Lt W) y (cs.drop off) ∧ Z y
theorem opensFZ_last {α : Type} {E : Rep α} {Z : α → Prop} {f : Field} {off tot : Nat} (ho : f.offset = off) (hc : off + P.cellsOf f.type = tot) (hE : OpensZ P f.type E Z) : OpensFZ P [f] off tot E Z := by
  intro H enc W sp held fuel cs hl hf
  obtain ⟨x, hx, hz⟩ := hf f (by simp)
  obtain ⟨y, hy, hzy⟩ := hE H enc W sp held fuel _ x hx hz
  refine ⟨y, ?_, hzy⟩
  rw [ho, List.take_of_length_le (by rw [List.length_drop]; omega)] at hy
  exact hy
def PairZ {α β : Type} (Z : α → Prop) (Y : β → Prop) (x : α × β) : Prop := Z x.1 ∧ Y x.2
theorem opensFZ_cons {α β : Type} {E : Rep α} {F : Rep β} {Z : α → Prop} {Y : β → Prop} {f : Field} {fs : List Field} {off tot : Nat} (ho : f.offset = off) (hc : P.cellsOf f.type = E.size) (hE : OpensZ P f.type E Z)
    (hF : OpensFZ P fs (off + E.size) tot F Y) : OpensFZ P (f :: fs) off tot (E.pair F) (PairZ Z Y) := by
  intro H enc W sp held fuel cs hl hf
  obtain ⟨x, hx, hxz⟩ := hf f (by simp)
  obtain ⟨y, hy, hyz⟩ := hE H enc W sp held fuel _ x hx hxz
  obtain ⟨z, hz, hzz⟩ := hF H enc W sp held fuel cs hl fun g hg => hf g (by simp [hg])
  rw [ho, hc] at hy
  refine ⟨(y, z), ⟨_, _, ?_, hy, hz⟩, hyz, hzz⟩
  rw [← List.drop_drop, List.take_append_drop]
theorem opensZ_struct {α : Type} {E : Rep α} {Z : α → Prop} {fs : Array Field} (ht : P.underlying t = some (.struct fs)) {tot : Nat} (hC : P.cellsOf t = tot) (hF : OpensFZ P fs.toList 0 tot E Z) : OpensZ P t E Z := by
  intro H enc W sp held fuel cs x h hz
  obtain ⟨xs, n, _, rfl, hl, hxl, hf⟩ := DataW.trod_struct ht h
  simp only [DataW.weights, ht] at hz
  obtain ⟨y, hy, hzy⟩ := hF H enc W sp held n cs (hl.trans hC) fun f hf' => by
    obtain ⟨i, hi, e⟩ := List.getElem_of_mem hf'
    have h1 := hf i f (by rw [Array.getElem?_eq_getElem (by simpa using hi)]; simpa using e)
    have hi' : i < xs.length := by rw [hxl]; simpa using hi
    rw [List.getElem?_eq_getElem hi'] at h1
    exact ⟨_, h1, fun q hq => hz q (DataW.weights_mem_each (j := i) (t := f.type) (d := xs[i].1) (by rw [List.getElem?_map, List.getElem?_eq_getElem hi, e]; rfl) (by rw [List.getElem?_map, List.getElem?_eq_getElem hi']; rfl) q hq)⟩
  exact ⟨y, by simpa using hy, hzy⟩
theorem opensZ_array2 {α : Type} {e : TypeId} {E : Rep α} {Z : α → Prop} (ht : P.underlying t = some (.array 2 e)) (hsz : P.cellsOf e = E.size) (hC : P.cellsOf t = E.size + E.size) (hE : OpensZ P e E Z) : OpensZ P t (E.pair E) (PairZ Z Z) := by
  intro H enc W sp held fuel cs x h hz
  obtain ⟨xs, n, _, rfl, hl, hxl, hf⟩ := DataW.trod_array ht h
  simp only [DataW.weights, ht] at hz
  match xs, hxl with
  | [x0, x1], _ =>
    obtain ⟨y, hy, hzy⟩ := hE H enc W sp held n _ _ (hf 0 (by omega)) (fun q hq => hz q (weightsAll_mem (d := x0.1) (by simp) hq))
    obtain ⟨z, hzz, hzy'⟩ := hE H enc W sp held n _ _ (hf 1 (by omega)) (fun q hq => hz q (weightsAll_mem (d := x1.1) (by simp) hq))
    rw [hsz] at hy hzz
    refine ⟨(y, z), ⟨_, _, ?_, hy, hzz⟩, hzy, hzy'⟩
    rw [Nat.zero_mul, List.drop_zero, Nat.one_mul, List.take_of_length_le (l := cs.drop E.size) (by rw [List.length_drop, hl]; omega), List.take_append_drop]
theorem opensZ_array4 {α : Type} {e : TypeId} {E : Rep α} {Z : α → Prop} (ht : P.underlying t = some (.array 4 e)) (hsz : P.cellsOf e = E.size) (hC : P.cellsOf t = 4 * E.size) (hE : OpensZ P e E Z) : OpensZ P t (E.pair (E.pair (E.pair E))) (PairZ Z (PairZ Z (PairZ Z Z))) := by
  intro H enc W sp held fuel cs x h hz
  obtain ⟨xs, n, _, rfl, hl, hxl, hf⟩ := DataW.trod_array ht h
  simp only [DataW.weights, ht] at hz
  match xs, hxl with
  | [x0, x1, x2, x3], _ =>
    obtain ⟨y0, h0, z0⟩ := hE H enc W sp held n _ _ (hf 0 (by omega)) (fun q hq => hz q (weightsAll_mem (d := x0.1) (by simp) hq))
    obtain ⟨y1, h1, z1⟩ := hE H enc W sp held n _ _ (hf 1 (by omega)) (fun q hq => hz q (weightsAll_mem (d := x1.1) (by simp) hq))
    obtain ⟨y2, h2, z2⟩ := hE H enc W sp held n _ _ (hf 2 (by omega)) (fun q hq => hz q (weightsAll_mem (d := x2.1) (by simp) hq))
    obtain ⟨y3, h3, z3⟩ := hE H enc W sp held n _ _ (hf 3 (by omega)) (fun q hq => hz q (weightsAll_mem (d := x3.1) (by simp) hq))
    rw [hsz] at h0 h1 h2 h3
    rw [Nat.zero_mul, List.drop_zero] at h0
    rw [Nat.one_mul] at h1
    refine ⟨(y0, y1, y2, y3), ⟨_, cs.drop E.size, ?_, h0, _, cs.drop (2 * E.size), ?_, h1, _, _, ?_, h2, h3⟩, z0, z1, z2, z3⟩
    · rw [List.take_append_drop]
    · rw [show 2 * E.size = E.size + E.size from by omega, ← List.drop_drop, List.take_append_drop]
    · rw [List.take_of_length_le (l := cs.drop (3 * E.size)) (by rw [List.length_drop, hl]; omega), show 3 * E.size = 2 * E.size + E.size from by omega, ← List.drop_drop, List.take_append_drop]
/-- an argument of a law. -/
theorem opensZ_arg {α : Type} {E : Rep α} {Z : α → Prop} {H : Type} {enc : TypeId × Value → H} {W : World} {sp : Nat → Bool} {held : Bool} {v : Value} {d : DataW H} {p : List MemPlace} (hE : OpensZ P t E Z)
    (h : DataW.Trod enc P W 0 sp held t v d p) {ts : List TypeId} {ds : List (DataW H)} (hz : (DataW.weightsEach P ts ds).all (· ≤ reachBytes) = true) (j : Nat) (ht : ts[j]? = some t) (hd : ds[j]? = some d) : ∃ y, E.R W (Lt W) y v.cells.toList ∧ Z y := by
  obtain ⟨fuel, hf⟩ := h
  refine hE H enc W sp held fuel _ _ hf (fun n hn => ?_)
  have := List.all_eq_true.1 hz n (DataW.weights_mem_each ht hd n hn)
  exact (of_decide_eq_true this : n ≤ reachBytes)
end
end Go.Proofs.Ytcnkocnajamclaa
