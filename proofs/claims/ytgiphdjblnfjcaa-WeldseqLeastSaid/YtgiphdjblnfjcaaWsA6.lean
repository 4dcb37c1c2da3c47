/- Chapter 34: the search of Best: what it keeps, in plain words of memory, and its steps in plain words. -/
import Derived.Test.YtgiphdjblnfjcaaWsA5
namespace Go.Proofs.Ytgiphdjblnfjcaa
open Go Go.RowKit

/-! ### the search, step by step -/
section
variable {U : List Int → Int} {before : List (Int × Int)} {n f : Nat} {s : Sr} {b : List Int} {so : Int}
def stepS (U : List Int → Int) (before : List (Int × Int)) (n f : Nat) (b : List Int) (so : Int) (s : Sr) (i : Nat) : Sr :=
  if freeB before b (i : Int) then searchF U before n f s (b ++ [(i : Int)]) (max so (U (b ++ [(i : Int)]))) else s
def foldTo (U : List Int → Int) (before : List (Int × Int)) (n f : Nat) (b : List Int) (so : Int) (s : Sr) (k : Nat) : Sr := (List.range k).foldl (stepS U before n f b so) s
theorem search_cut (h : (s.found && decide (s.least ≤ so)) = true) : searchF U before n (f + 1) s b so = s := by rw [searchF, if_pos h]
theorem search_end (h : (s.found && decide (s.least ≤ so)) = false) (hb : b.length = n) : searchF U before n (f + 1) s b so = ⟨true, so, b⟩ := by rw [searchF, if_neg (by rw [h]; decide), if_pos hb]
theorem search_fold (h : (s.found && decide (s.least ≤ so)) = false) (hb : b.length ≠ n) : searchF U before n (f + 1) s b so = foldTo U before n f b so s n := by rw [searchF, if_neg (by rw [h]; decide), if_neg hb]; rfl
theorem foldTo_zero : foldTo U before n f b so s 0 = s := rfl
theorem foldTo_free {k : Nat} (h : freeB before b (k : Int) = true) : foldTo U before n f b so s (k + 1) = searchF U before n f (foldTo U before n f b so s k) (b ++ [(k : Int)]) (max so (U (b ++ [(k : Int)]))) := by
  unfold foldTo; rw [List.range_succ, List.foldl_append]; show stepS U before n f b so _ k = _; rw [stepS, if_pos h]
theorem foldTo_no {k : Nat} (h : freeB before b (k : Int) = false) : foldTo U before n f b so s (k + 1) = foldTo U before n f b so s k := by
  unfold foldTo; rw [List.range_succ, List.foldl_append]; show stepS U before n f b so _ k = _; rw [stepS, if_neg (by rw [h]; decide)]
end

/-! ### three blocks that may change -/
def Ok3 (a b c : Nat) (w : World) (i : Nat) : Prop := i < w.heap.size ∧ i ≠ a ∧ i ≠ b ∧ i ≠ c
structure Kept (a b c : Nat) (w w' : World) : Prop where
  os : w'.os = w.os
  tape : w'.tape = w.tape
  output : w'.output = w.output
  size : w.heap.size ≤ w'.heap.size
  block : ∀ i, Ok3 a b c w i → w'.heap[i]? = w.heap[i]?
section
variable {a b c : Nat} {w w' w'' : World}
theorem Kept.refl (a b c : Nat) (w : World) : Kept a b c w w := ⟨rfl, rfl, rfl, Nat.le_refl _, fun _ _ => rfl⟩
theorem Kept.ok (h : Kept a b c w w') {i : Nat} (hi : Ok3 a b c w i) : Ok3 a b c w' i := ⟨Nat.lt_of_lt_of_le hi.1 h.size, hi.2⟩
theorem Kept.trans (h : Kept a b c w w') (h' : Kept a b c w' w'') : Kept a b c w w'' :=
  ⟨h'.os.trans h.os, h'.tape.trans h.tape, h'.output.trans h.output, Nat.le_trans h.size h'.size, fun i hi => (h'.block i (h.ok hi)).trans (h.block i hi)⟩
theorem Kept.of (h : Below w.heap.size w w') : Kept a b c w w' := ⟨h.os, h.tape, h.output, h.size, fun i hi => h.block i hi.1⟩
theorem Kept.set (h : Kept a b c w w') {p : Addr} (hp : p.block = a ∨ p.block = b ∨ p.block = c) (v : Value) : Kept a b c w (w'.setCell p v) :=
  ⟨h.os, h.tape, h.output, by simpa [World.setCell] using h.size, fun i hi => (Below.heap_setCell w' p v i (by
    obtain ⟨_, h1, h2, h3⟩ := hi
    rcases hp with hp | hp | hp <;> rw [hp] <;> assumption)).trans (h.block i hi)⟩
theorem Kept.rep {α : Type} {E : Rep α} {x : α} {cs : List Value} (h : Kept a b c w w') (hr : E.R w (Ok3 a b c w) x cs) : E.R w' (Ok3 a b c w') x cs :=
  E.mono (fun _ hi => h.ok hi) (E.keep (fun i hi => h.block i hi) hr)
theorem Kept.blk {g : Nat} {t : TypeId} {cs : Array Value} (h : Kept a b c w w') (hb : Blk w g t cs) (hg : g ≠ a ∧ g ≠ b ∧ g ≠ c) : Blk w' g t cs := (h.block g ⟨hb.lt, hg⟩).trans hb
theorem rep_lt {α : Type} {E : Rep α} {x : α} {cs : List Value} (hr : E.R w (Ok3 a b c w) x cs) : E.R w (Lt w) x cs := E.mono (fun _ h => h.1) hr
theorem rep_new {α : Type} {E : Rep α} {x : α} {cs : List Value} {B : Nat} (hr : E.R w (fun i => B ≤ i ∧ i < w.heap.size) x cs) (h : a < B ∧ b < B ∧ c < B) : E.R w (Ok3 a b c w) x cs :=
  E.mono (fun i hi => ⟨hi.2, by omega, by omega, by omega⟩) hr
/-- what the call owns lies above the base. -/
theorem own_intsD {base : Nat} {e : TypeId} {v : Value} {n : Nat} {xs : List Int} (h : w.ownsRow base e 1 v n (xs.map (Value.int .i64))) (hx : ∀ x ∈ xs, inI64 x) : Rep.int.slice.R w (fun i => base ≤ i ∧ i < w.heap.size) xs [v] := by
  have hlt := World.ownsRow.lt h
  obtain ⟨A, k, e1, h1, h2, h3⟩ := own_ints h hx
  refine ⟨A, k, e1, h1, h2, fun j hj => ?_⟩
  obtain ⟨b, off, es, e2, hb, hr, hc⟩ := h3 j hj
  refine ⟨b, off, es, e2, ?_, hr, hc⟩
  injection e1 with e1 _
  subst e1 e2
  exact hlt b rfl
end
/-- the state of the search. -/
structure St (pf pu pl po pp ps g : Nat) (vl vb : Value) (l : List Bead) (reach stiff : Int) (before : List (Int × Int)) (w : World) (s : Sr) : Prop where
  found : Blk w pf 4 #[.bool s.found]
  least : Blk w pu 3 #[.int .i64 s.least]
  ord : ∃ vo, Blk w po 28 #[vo] ∧ Rep.int.slice.R w (Ok3 pf pu po w) s.ord [vo]
  lcell : Blk w pl 22 #[vl]
  pcell : Blk w pp 51 #[.pointer (some ⟨g, 0, none⟩)]
  scell : Blk w ps 57 #[.func (.func 32) #[] #[.pointer (some ⟨pf, 0, none⟩), .pointer (some ⟨pu, 0, none⟩), .pointer (some ⟨pl, 0, none⟩), .pointer (some ⟨po, 0, none⟩), .pointer (some ⟨pp, 0, none⟩), .pointer (some ⟨ps, 0, none⟩)]]
  pan : Blk w g 68 (panelCells vl vb reach stiff (midOf l))
  rl : beadR.slice.R w (Ok3 pf pu po w) l [vl]
  rb : prR.slice.R w (Ok3 pf pu po w) before [vb]
def Apart (pf pu pl po pp ps g : Nat) : Prop := (pf ≠ pu ∧ pf ≠ po ∧ pu ≠ po) ∧ (pl ≠ pf ∧ pl ≠ pu ∧ pl ≠ po) ∧ (pp ≠ pf ∧ pp ≠ pu ∧ pp ≠ po) ∧ (ps ≠ pf ∧ ps ≠ pu ∧ ps ≠ po) ∧ (g ≠ pf ∧ g ≠ pu ∧ g ≠ po)
section
variable {pf pu pl po pp ps g : Nat} {vl vb : Value} {l : List Bead} {reach stiff : Int} {before : List (Int × Int)} {w w' : World} {s s' : Sr}
theorem St.next (h : St pf pu pl po pp ps g vl vb l reach stiff before w s) (ha : Apart pf pu pl po pp ps g) (hk : Kept pf pu po w w') (h1 : Blk w' pf 4 #[.bool s'.found]) (h2 : Blk w' pu 3 #[.int .i64 s'.least])
    (h3 : ∃ vo, Blk w' po 28 #[vo] ∧ Rep.int.slice.R w' (Ok3 pf pu po w') s'.ord [vo]) : St pf pu pl po pp ps g vl vb l reach stiff before w' s' :=
  ⟨h1, h2, h3, hk.blk h.lcell ha.2.1, hk.blk h.pcell ha.2.2.1, hk.blk h.scell ha.2.2.2.1, hk.blk h.pan ha.2.2.2.2, hk.rep h.rl, hk.rep h.rb⟩
theorem St.below (h : St pf pu pl po pp ps g vl vb l reach stiff before w s) (ha : Apart pf pu pl po pp ps g) (hb : Below w.heap.size w w') : St pf pu pl po pp ps g vl vb l reach stiff before w' s :=
  h.next ha (Kept.of hb) (h.found.below hb h.found.lt) (h.least.below hb h.least.lt) (by
    obtain ⟨vo, h1, h2⟩ := h.ord
    exact ⟨vo, h1.below hb h1.lt, (Kept.of hb).rep h2⟩)
end
set_option maxHeartbeats 400000 in
theorem with_own (v : Value) (xs : List Int) (i : Int) (w : World) (h : Rep.int.slice.R w (Lt w) xs [v]) (hn : xs.length ≤ 1000000) :
    Calls Try.prog 29 #[v, .int .i64 i] w fun e w' => ∃ v', e = .returned v' ∧ OwnI w' w.heap.size v' (xs ++ [i]) ∧ Below w.heap.size w w' := by
  obtain ⟨i0, hi, hz0, hz1, hz2⟩ := info_parts int_info
  go_enter Try.func29, Try.ntmps29
  go_wp2_with fail
  refine (clone_any v xs w h hn).mono ?_
  rintro e w1 ⟨v1, rfl, hown, hb1⟩
  have hz := hb1.size
  go_wp2_with (at_builtin; refine wpList_append_own _ rfl _ _ 28 rfl w.heap.size 3 i0 (.int .i64 0) 1 8 Try.underlying28 hi hz0 hz1 hz2 rfl (by decide) _ _ _ rfl (World.ownsRow.alloc hown _) ⟨w1.heap.size, 0, none⟩ 1 1 [.int .i64 i] rfl rfl (new1_cells _ _ _) (one_oneCell rfl) (by unfold maxLen; omega) (by omega) (by simp; omega) ?_; intro v2 w2 hown2 hg2 _)
  go_ret
  exact ⟨v2, rfl, ownI_snoc hown2, (hb1.alloc hz _).grown hg2 (by simp; omega) (fun j hj => (World.ownsRow.lt hown j hj).1)⟩
end Go.Proofs.Ytgiphdjblnfjcaa
