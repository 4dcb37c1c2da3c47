/- Certificates: the library's sort of prefixes that are in order already: they stay as they are. -/
import Derived.Test.YtcnkocnajamclaaCtW5
import Derived.Test.YtcnkocnajamclaaCtShelf
namespace Go.Proofs.Ytcnkocnajamclaa
open Go Go.RowKit Go.Shelf Go.Lib
set_option linter.unusedSimpArgs false

set_option maxRecDepth 100000 in
theorem ctClosCmp_any (A B : Option Addr) (n c m d : Nat) (x y : List Int) (w : World) {D D' : Nat → Prop} (hx : Rep.int.slice.R w D x [.slice A n c]) (hy : Rep.int.slice.R w D' y [.slice B m d]) :
    Calls Try.prog 86 #[.slice A n c, .slice B m d] w fun e w' => e = .returned (.int .i64 (cmpL x y)) ∧ w' = w := by
  have C := Lib.hid (ctCmp_any A B n c m d x y w hx hy)
  obtain ⟨r, hr⟩ : ∃ r, r = cmpL x y := ⟨_, rfl⟩
  rw [← hr] at C ⊢
  clear hr hx hy
  go_enter Try.func86, Try.ntmps86
  go_wp2_with fail
  refine C.out.mono ?_
  rintro e w1 ⟨rfl, rfl⟩
  go_wp2
  go_ret
  exact ⟨rfl, rfl⟩
section
variable (L : List (List Int))
def cfL (i j : Fin L.length) : Int := cmpL L[i] L[j]
theorem swoL : Sort.SWO (ltOf (cfL L)) where
  irrefl x := by unfold ltOf cfL; rw [cmpL_self]; rfl
  trans x y z h1 h2 := by unfold ltOf cfL at *; rw [decide_eq_true_eq] at *; exact cmpL_trans _ _ _ h1 h2
  ntrans x y z h1 h2 := by unfold ltOf cfL at *; rw [decide_eq_false_iff_not] at *; exact cmpL_ntrans _ _ _ h1 h2
theorem totL (hs : L.Pairwise Behind) (x y : Fin L.length) (h1 : ltOf (cfL L) x y = false) (h2 : ltOf (cfL L) y x = false) : x = y := by
  unfold ltOf cfL at h1 h2
  rw [decide_eq_false_iff_not] at h1 h2
  have hp := List.pairwise_iff_getElem.1 hs
  rcases Nat.lt_trichotomy x.1 y.1 with h | h | h
  · have := behind_cmp (hp x.1 y.1 x.2 y.2 h)
    exact absurd (show cmpL L[x.1] L[y.1] < 0 by omega) h1
  · exact Fin.ext h
  · have := behind_cmp (hp y.1 x.1 y.2 x.2 h)
    exact absurd (show cmpL L[y.1] L[x.1] < 0 by omega) h2
theorem sortL (hs : L.Pairwise Behind) : (List.finRange L.length).mergeSort (fun x y => !(ltOf (cfL L)) y x) = List.finRange L.length := by
  refine List.mergeSort_of_pairwise ?_
  refine List.pairwise_iff_getElem.2 (fun i j hi hj hij => ?_)
  have hi' : i < L.length := by simpa using hi
  have hj' : j < L.length := by simpa using hj
  have hp := List.pairwise_iff_getElem.1 hs i j (by simpa using hi) (by simpa using hj) hij
  have h1 := behind_cmp hp
  rw [List.getElem_finRange, List.getElem_finRange]
  cases h : ltOf (cfL L) (Fin.cast (List.length_finRange ..) ⟨j, hj⟩) (Fin.cast (List.length_finRange ..) ⟨i, hi⟩) with
  | false => rfl
  | true =>
    exfalso
    unfold ltOf cfL at h
    rw [decide_eq_true_eq] at h
    have h2 : cmpL L[j] L[i] < 0 := h
    have h3 := cmpL_trans _ _ _ (show cmpL L[i] L[j] < 0 by omega) h2
    rw [cmpL_self] at h3
    omega
end
theorem sw_heap {α : Type} [Inhabited α] (enc : α → Value) (w : World) (blk off m : Nat) (dk : Array α) (os : Array Obj) {b : Nat} (hb : b < w.heap.size) (hne : b ≠ blk) : (sortWorld enc w blk off m dk os).heap[b]? = w.heap[b]? := by
  unfold sortWorld
  rw [Sort.heap_grow_old _ _ (by rw [size_putRow]; exact hb)]
  unfold Sort.putRow Sort.mapBlock
  show (w.heap.modify blk _)[b]? = w.heap[b]?
  rw [Array.getElem?_modify, if_neg (fun e => hne e.symm)]
set_option maxRecDepth 100000 in
theorem ctSort_any (L : List (List Int)) (hs : L.Pairwise Behind) (h0 : 0 < L.length) (h1 : L.length ≤ 1000) (w0 w : World) (blk cap : Nat) (xs : List V1) (hR : RowBlk w0 w L blk cap xs) :
    Calls Try.prog 85 #[.slice (some ⟨blk, 0, none⟩) L.length cap, .func (.func 86) #[] #[]] w fun e w' => e = .returned (.tuple #[]) ∧ Below w.heap.size w w' := by
  haveI : Inhabited (Fin L.length) := ⟨⟨0, h0⟩⟩
  obtain ⟨cur, hcur, hcx⟩ := hR.blk
  have hxl := hR.len
  let enc : Fin L.length → Value := fun i => (xs[i.1]'(by have := i.2; omega)).1
  let d : Array (Fin L.length) := (List.finRange L.length).toArray
  have hds : d.size = L.length := by show (List.finRange L.length).toArray.size = _; simp
  have hdj : ∀ j (hj : j < L.length), d[j]! = ⟨j, hj⟩ := fun j hj => by
    rw [getElem!_pos d j (by rw [hds]; exact hj)]
    show (List.finRange L.length).toArray[j]'_ = _
    simp
  have hone : OneCell enc := fun x => (xs[x.1]'(by have := x.2; omega)).2
  have hH : Sort.Holds enc w blk 0 d := fun j hj => by
    rw [hds] at hj
    rw [hdj j hj, Nat.zero_add]
    have h2 := hcx j (xs[j]'(by omega)) (List.getElem?_eq_getElem (by omega))
    exact ⟨by rw [hcur.cell, h2], hcur.free j⟩
  have hrd : ∀ (x : Fin L.length) (m : Nat) (os : Array Obj) (dk : Array (Fin L.length)), Rep.int.slice.R (sortWorld enc w blk 0 m dk os) (Lt w0) L[x] [enc x] := fun x m os dk => by
    have h2 := hR.rd x.1 L[x.1] (xs[x.1]'(by have := x.2; omega)) (List.getElem?_eq_getElem x.2) (List.getElem?_eq_getElem _)
    refine Rep.keep _ (fun b (hb : b < w0.heap.size) => ?_) h2
    rw [sw_heap enc w blk 0 m dk os (by have := hR.bel.size; omega) (by have := hR.new; omega)]
    exact hR.bel.block b hb
  have hcmp : CmpReads Try.prog 86 #[] enc (cfL L) blk 0 d.size w := fun m os dk _ x y => by
    obtain ⟨A, c, e1, -, -⟩ := slice_inv (hrd x m os dk)
    obtain ⟨B, c2, e2, -, -⟩ := slice_inv (hrd y m os dk)
    have hx := hrd x m os dk
    have hy := hrd y m os dk
    rw [e1] at hx
    rw [e2] at hy
    have C := ctClosCmp_any A B _ c _ c2 _ _ _ hx hy
    show Calls _ _ (#[enc x, enc y] ++ #[]) _ _
    rw [e1, e2]
    exact C.mono (fun e w' h => ⟨h.1, 0, h.2⟩)
  have eg : ∀ args w, (callFunc 86 args).run Try.prog w = .ok (.enter 86 args) w := enters_of Try.func86 (by kernel_rfl) rfl
  have hcon := Any.slices_SortFunc_total Try.sortRows enc hone (cfL L) (swoL L) 86 #[] blk 0 cap d w eg hcmp.lays hH hcur.lt (by rw [hds]; omega) (totL L hs)
  change Calls Try.prog 85 _ _ _ at hcon
  rw [hds] at hcon
  refine hcon.mono ?_
  rintro e w' ⟨rfl, n, os, rfl⟩
  refine ⟨rfl, ?_⟩
  have hd2 : ((d.toList.mergeSort fun x y => !(ltOf (cfL L)) y x).toArray) = d := by
    show (((List.finRange L.length).toArray.toList.mergeSort fun x y => !(ltOf (cfL L)) y x).toArray) = _
    rw [List.toList_toArray, sortL L hs]
  rw [hd2]
  unfold sortWorld
  rw [Sort.putRow_self enc (Sort.ahead w n) blk 0 d (fun j hj => hH j hj)]
  refine ⟨rfl, rfl, rfl, by rw [Sort.size_grow]; exact Nat.le_add_right _ _, fun b hb => ?_⟩
  rw [Sort.heap_grow_old (Sort.ahead w n) os hb]
  rfl
end Go.Proofs.Ytcnkocnajamclaa
