/- Rows that a call is listing: its own list of rows, and each row's integers in a block of its own: no walk. -/
import Derived.Test.YtcnkocnajamclaaFlInts
namespace Go.Proofs.Ytcnkocnajamclaa
open Go Go.RowKit

def IntBk (w : World) (b : Nat) : Prop := ∃ cs fr, w.heap[b]? = some (.cells cs 3 fr)
def RowsAt (base : Nat) (v : Value) (rs : List (List Int)) (w : World) : Prop :=
  ∃ ps : List (List Int × Value), rs = ps.map (·.1) ∧ w.ownsRow base 23 1 v ps.length (ps.map (·.2)) ∧ ∀ p ∈ ps, Rep.int.slice.R w (fun b => base ≤ b ∧ b < w.heap.size ∧ IntBk w b) p.1 [p.2]
theorem rowsAt_nil (base : Nat) (w : World) : RowsAt base (.slice none 0 0) [] w := ⟨[], rfl, World.ownsRow_nil _ _ _ _, fun p h => by cases h⟩
theorem RowsAt.below {base : Nat} {v : Value} {rs : List (List Int)} {w w' : World} (h : RowsAt base v rs w) (hb : Below w.heap.size w w') : RowsAt base v rs w' := by
  obtain ⟨ps, h1, h2, h3⟩ := h
  refine ⟨ps, h1, own_below h2 hb, fun p hp => ?_⟩
  refine Rep.mono _ (D := fun b => base ≤ b ∧ b < w.heap.size ∧ IntBk w b) (fun b hb' => ⟨hb'.1, Nat.lt_of_lt_of_le hb'.2.1 hb.size, ?_⟩) (Rep.keep _ (fun b hb' => hb.block b hb'.2.1) (h3 p hp))
  obtain ⟨cs, fr, he⟩ := hb'.2.2
  exact ⟨cs, fr, (hb.block b hb'.2.1).trans he⟩
theorem RowsAt.form {base : Nat} {v : Value} {rs : List (List Int)} {w : World} (h : RowsAt base v rs w) : ∃ A c, v = .slice A rs.length c := by
  obtain ⟨ps, rfl, h1, -⟩ := h
  rw [List.length_map]
  rcases h1.2 with ⟨rfl, h0⟩ | ⟨g, cap, cur, rfl, _⟩
  · exact ⟨_, _, by rw [h0]⟩
  · exact ⟨_, _, rfl⟩
/-- the list itself, and what its rows are: to be grown by an append. -/
theorem RowsAt.open_ {base : Nat} {v : Value} {rs : List (List Int)} {w1 : World} (h : RowsAt base v rs w1) : ∃ xs : List Value, w1.ownsRow base 23 1 v rs.length xs ∧
    ∀ (W2 : World) (o : Obj) (v2 u : Value) (r : List Int), (w1.alloc o).grownBy W2 v.ownBlock → W2.ownsRow base 23 1 v2 (rs.length + 1) (xs ++ [u]) → Rep.int.slice.R w1 (fun b => base ≤ b ∧ b < w1.heap.size ∧ IntBk w1 b) r [u] → RowsAt base v2 (rs ++ [r]) W2 := by
  obtain ⟨ps, rfl, hv, h3⟩ := h
  rw [List.length_map]
  refine ⟨_, hv, fun W2 o v2 u r hg hown hp => ?_⟩
  have hne : ∀ b, IntBk w1 b → some b ≠ v.ownBlock := fun b hb e => by
    obtain ⟨cs, fr, hb⟩ := hb
    rcases hv.2 with ⟨rfl, -⟩ | ⟨g, cap, cur, rfl, hb', hh, -⟩
    · cases e
    · have e : b = g := Option.some.inj e
      subst e
      rw [hh] at hb
      injection hb with hb
      injection hb with _ hb _
      exact absurd hb (by decide)
  have hsz := hg.size
  rw [World.size_alloc] at hsz
  have hk : ∀ b, b < w1.heap.size → IntBk w1 b → W2.heap[b]? = w1.heap[b]? := fun b hb hi => (hg.block b (by simp; omega) (hne b hi)).trans (Below.heap_alloc _ _ b hb)
  have hup : ∀ {xs : List Int} {s : Value}, Rep.int.slice.R w1 (fun b => base ≤ b ∧ b < w1.heap.size ∧ IntBk w1 b) xs [s] → Rep.int.slice.R W2 (fun b => base ≤ b ∧ b < W2.heap.size ∧ IntBk W2 b) xs [s] := fun h => by
    refine Rep.mono _ (D := fun b => base ≤ b ∧ b < w1.heap.size ∧ IntBk w1 b) (fun b hb => ⟨hb.1, by have := hb.2.1; omega, ?_⟩) (Rep.keep _ (fun b hb => hk b hb.2.1 hb.2.2) h)
    obtain ⟨cs, fr, he⟩ := hb.2.2
    exact ⟨cs, fr, (hk b hb.2.1 hb.2.2).trans he⟩
  refine ⟨ps ++ [(r, u)], by simp, by rw [List.length_append, List.map_append]; exact hown, fun p hp' => ?_⟩
  rcases List.mem_append.1 hp' with h4 | h4
  · exact hup (h3 p h4)
  · rw [List.mem_singleton.1 h4]; exact hup hp
theorem fl_iso_map {α β : Type} {E : Rep α} {f : β → α} {w : World} {D : Nat → Prop} {xs : List β} {cs : List Value} (h : (E.iso f).slice.R w D xs cs) : E.slice.R w D (xs.map f) cs := by
  obtain ⟨A, c, rfl, h1, h2, h3⟩ := h
  refine ⟨A, c, by rw [List.length_map], by rw [List.length_map]; exact h1, h2, fun k hk => ?_⟩
  obtain ⟨b, off, es, e, hb, hr, hc⟩ := h3 k (by simpa using hk)
  exact ⟨b, off, es, e, hb, by rw [List.getElem_map]; exact hr, hc⟩
theorem RowsAt.rep {base : Nat} {v : Value} {rs : List (List Int)} {w : World} (h : RowsAt base v rs w) : rowsR.R w (Lt w) rs [v] := by
  obtain ⟨ps, rfl, h1, h3⟩ := h
  refine fl_iso_map (E := Rep.int.slice) (f := fun p : List Int × Value => p.1) ?_
  refine own_enc (E := Rep.int.slice.iso (fun p : List Int × Value => p.1)) (enc := fun p => [p.2]) (fun _ => rfl) (by decide) (by rw [fm_one]; exact h1) (fun p hp => ?_)
  exact Rep.mono _ (fun b hb => hb.2.1) (h3 p hp)
/-- a row in a block of its own. -/
theorem row_new {w : World} {base g : Nat} {xs : List Int} (h : Blk w g 3 (intsArr xs)) (hg : base ≤ g) (hx : ∀ x ∈ xs, inI64 x) (hl : xs.length ≤ 9223372036854775807) : Rep.int.slice.R w (fun b => base ≤ b ∧ b < w.heap.size ∧ IntBk w b) xs [.slice (some ⟨g, 0, none⟩) xs.length xs.length] := by
  refine flInts_D (Blk.ints h hx (Nat.le_refl _) hl) (fun b off e => ?_)
  injection e with e
  injection e with e _ _
  subst e
  exact ⟨hg, h.lt, _, _, h⟩
end Go.Proofs.Ytcnkocnajamclaa
