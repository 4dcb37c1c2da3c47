/- The panel line: readings of panels; a row of its own among rows; what Jobs returns. No walk. -/
import Derived.Test.YtcnkocnajamclaaPnW4
import Derived.Test.YtcnkocnajamclaaFlRows
namespace Go.Proofs.Ytcnkocnajamclaa
open Go Go.RowKit

def pnR : Rep Pn := Rep.str.pair (Rep.int.pair (Rep.int.pair (Rep.int.pair (Rep.int.pair Rep.int))))
abbrev pnsR : Rep (List Pn) := pnR.slice
def lnR : Rep Ln := Rep.int.slice.pair (Rep.int.slice.pair (Rep.int.slice.pair Rep.int.slice))
/-- panel k of a list of panels. -/
theorem pn_at {w : World} {D : Nat → Prop} {l : List Pn} {A : Option Addr} {n c : Nat} (h : pnR.slice.R w D l [.slice A n c]) {k : Nat} (hk : k < l.length) :
    ∃ b off nm p1 p2 p3 p4 ms, A = some ⟨b, off, none⟩ ∧ Hid (l[k]? = some (nm, p1, p2, p3, p4, ms)) ∧ D b ∧ w.cell? ⟨b, off + k * 6, none⟩ = some (.string nm) ∧ w.cell? ⟨b, off + k * 6 + 1, none⟩ = some (.int .i64 p1) ∧ w.cell? ⟨b, off + k * 6 + 2, none⟩ = some (.int .i64 p2) ∧ w.cell? ⟨b, off + k * 6 + 3, none⟩ = some (.int .i64 p3) ∧ w.cell? ⟨b, off + k * 6 + 4, none⟩ = some (.int .i64 p4) ∧ w.cell? ⟨b, off + k * 6 + 5, none⟩ = some (.int .i64 ms) := by
  obtain ⟨A', c', e, _, _, h3⟩ := h
  injection e with e _
  injection e with e1 e2 e3
  subst e1
  obtain ⟨b, off, es, rfl, hb, ⟨c1, c2, rfl, ⟨rfl, -⟩, ⟨c3, c4, rfl, ⟨rfl, -⟩, ⟨c5, c6, rfl, ⟨rfl, -⟩, ⟨c7, c8, rfl, ⟨rfl, -⟩, ⟨c9, c10, rfl, ⟨rfl, -⟩, ⟨rfl, -⟩⟩⟩⟩⟩⟩, hc⟩ := h3 k hk
  exact ⟨b, off, _, _, _, _, _, _, rfl, List.getElem?_eq_getElem hk, hb, hc 0 (by decide), hc 1 (by decide), hc 2 (by decide), hc 3 (by decide), hc 4 (by decide), hc 5 (by decide)⟩
/-- a line's four cells. -/
theorem ln_inv {w : World} {x : Ln} {cs : Array Value} (h : lnR.R w (Lt w) x cs.toList) : ∃ A B C D a b c d, cs = lnA x A B C D a b c d ∧ LnAt w x A B C D a b c d := by
  obtain ⟨c1, c2, e, h1, ⟨c3, c4, rfl, h2, ⟨c5, c6, rfl, h3, h4⟩⟩⟩ := h
  obtain ⟨A, a, rfl, _⟩ := id h1
  obtain ⟨B, b, rfl, _⟩ := id h2
  obtain ⟨C, c, rfl, _⟩ := id h3
  obtain ⟨D, d, rfl, _⟩ := id h4
  refine ⟨A, B, C, D, a, b, c, d, ?_, ⟨h1, h2, h3, h4⟩⟩
  apply Array.ext'
  simpa using e
/-- a row of its own, among rows. -/
theorem own_row {w : World} {base B n : Nat} {v : Value} {xs : List Int} (h : w.ownsRow B 3 1 v n (xs.map (Value.int .i64))) (hx : ∀ x ∈ xs, inI64 x) (hB : base ≤ B) : Rep.int.slice.R w (fun b => base ≤ b ∧ b < w.heap.size ∧ IntBk w b) xs [v] := by
  have h1 := flOwn_new h hx
  rcases h.2 with ⟨rfl, h0⟩ | ⟨g, cap, cur, rfl, hb', hh, -⟩
  · exact flInts_D h1 (fun b off e => by cases e)
  · refine flInts_D h1 (fun b off e => ?_)
    injection e with e
    injection e with e5 e6 _
    subst e5
    exact ⟨by omega, by have := Array.getElem?_eq_some_iff.1 hh; exact this.1, _, _, hh⟩
theorem minutes_in {p : Pn} {x : Ln} (hp : panB p = true) (hx : LineOk x) : ∀ n ∈ minutesF p x, inI64 n := by
  intro n hn
  obtain ⟨s, -, rfl⟩ := List.mem_map.1 hn
  have := minT_bd hp hx s
  unfold inI64
  omega
def JobsPost (l : List Pn) (x : Ln) (w : World) (e : Ending) (w' : World) : Prop :=
  ∃ v n, e = .returned (.tuple #[v, .int .i64 n]) ∧ Below w.heap.size w w' ∧ if l.all panB = true then n = 0 ∧ (∃ B, w.heap.size ≤ B ∧ RowsAt B v (l.map fun p => minutesF p x) w') else n = 9 ∧ v = .slice none 0 0
theorem pan_bad {l : List Pn} {k : Nat} {p : Pn} (h : l[k]? = some p) (hp : panB p = false) : ¬ l.all panB = true := by
  intro ha
  have := List.all_eq_true.1 ha p (List.mem_of_getElem? h)
  rw [hp] at this
  cases this
theorem pan_next {l : List Pn} {k : Nat} {p : Pn} (h : l[k]? = some p) (hp : panB p = true) (ha : (l.take k).all panB = true) : (l.take (k + 1)).all panB = true := by
  rw [take_one h, List.all_append, ha]
  simp [hp]
theorem pan_rows {l : List Pn} {x : Ln} {k : Nat} {p : Pn} (h : l[k]? = some p) : (l.take (k + 1)).map (fun p => minutesF p x) = (l.take k).map (fun p => minutesF p x) ++ [minutesF p x] := by
  rw [take_one h, List.map_append]
  rfl
end Go.Proofs.Ytcnkocnajamclaa
