/- Chapter 26: exchanging two successive contours, as the law's text reckons it (plain); pairs that the call owns: read, written. -/
import Derived.Test.YtpefmbjaolcapaaTorSwap
import Derived.Test.YtpefmbjaolcapaaTorX4
import Derived.Laws.OwnMore
namespace Go.Proofs.Ytpefmbjaolcapaa
open Go Go.RowKit

theorem swap_split {α : Type} : ∀ {l : List α} {i : Nat} {x y : α}, l[i]? = some x → l[i + 1]? = some y →
    l = l.take i ++ x :: y :: l.drop (i + 2) ∧ (l.set i y).set (i + 1) x = l.take i ++ y :: x :: l.drop (i + 2)
  | [], i, x, y, hx, _ => by simp at hx
  | [a], 0, x, y, _, hy => by simp at hy
  | a :: b :: r, 0, x, y, hx, hy => by
    simp at hx hy
    subst hx hy
    exact ⟨rfl, rfl⟩
  | a :: r, i + 1, x, y, hx, hy => by
    obtain ⟨h1, h2⟩ := swap_split (l := r) (i := i) (x := x) (y := y) (by simpa using hx) (by simpa using hy)
    refine ⟨?_, ?_⟩
    · show a :: r = a :: (r.take i ++ x :: y :: r.drop (i + 2))
      rw [← h1]
    · show a :: ((r.set i y).set (i + 1) x) = a :: (r.take i ++ y :: x :: r.drop (i + 2))
      rw [h2]
theorem at_last {shapes : List Shp} : ∀ (order : List Pt) (a : Pt) (i : Nat), i ≤ order.length → (a :: order.map (beginF shapes))[i]? = some (lastB shapes a (order.take i))
  | _, a, 0, _ => by simp [lastB]
  | [], _, i + 1, h => by simp at h
  | c :: r, a, i + 1, h => by
    rw [List.map_cons, List.getElem?_cons_succ, List.take_succ_cons, lastB]
    exact at_last r (beginF shapes c) i (by simpa using h)
theorem at_succ {shapes : List Shp} {order : List Pt} {a c : Pt} {i : Nat} (h : order[i]? = some c) : (a :: order.map (beginF shapes))[i + 1]? = some (beginF shapes c) := by
  rw [List.getElem?_cons_succ, List.getElem?_map, h]; rfl
theorem lastB_near {shapes : List Shp} : ∀ (p : List Pt) (a : Pt), Near a → (∀ c ∈ p, c ∈ contoursF shapes) → Near (lastB shapes a p)
  | [], _, h, _ => h
  | c :: r, _, _, hp => by
    rw [lastB]
    exact lastB_near r _ (begin_near (hp c (by simp))) (fun d hd => hp d (by simp [hd]))
theorem travel_le {shapes : List Shp} : ∀ (r : List Pt) (a : Pt), Near a → (∀ c ∈ r, c ∈ contoursF shapes) → travelTo shapes a r ≤ r.length * 2199023255552
  | [], _, _, _ => by rw [travelTo]; simp
  | c :: r, a, h, hp => by
    have h1 := begin_near (hp c (by simp))
    have h2 := (move_bd h h1).2
    have h3 := travel_le r (beginF shapes c) h1 (fun d hd => hp d (by simp [hd]))
    rw [travelTo, List.length_cons]
    have h4 : ((r.length + 1 : Nat) : Int) * 2199023255552 = (r.length : Int) * 2199023255552 + 2199023255552 := by
      rw [Int.natCast_add, Int.add_mul]; omega
    rw [h4]; omega
/-- the exchanged order is permitted, with the travel that the law reckons, or it is not, and why. -/
theorem swap_check {shapes : List Shp} {order : List Pt} {i : Nat} {x y : Pt} (hc : checkT (contoursF shapes) order = 0) (hx : order[i]? = some x) (hy : order[i + 1]? = some y) :
    checkT (contoursF shapes) ((order.set i y).set (i + 1) x) = 0 ∨ (checkT (contoursF shapes) ((order.set i y).set (i + 1) x) = 11 ∧ x.1 = y.1 ∧ y.2 = 0) := by
  obtain ⟨h1, h2, h3⟩ := checkT_zero hc
  obtain ⟨e1, e2⟩ := swap_split hx hy
  have hl : ((order.set i y).set (i + 1) x).length = (contoursF shapes).length := by simp [h2]
  have hck : checkT (contoursF shapes) ((order.set i y).set (i + 1) x) = firstErr (contoursF shapes) [] ((order.set i y).set (i + 1) x) := by
    unfold checkT
    rw [if_neg (by omega), if_neg (by omega), if_neg (by omega)]
  rw [hck, e2]
  rw [e1] at h3
  exact first_swap (fun c hc => by
    obtain ⟨a, k, -, -, -, rfl⟩ := mem_contours.1 hc
    show (0 : Int) ≤ (k : Int)
    omega) h3
theorem swap_end {shapes : List Shp} {order : List Pt} {i : Nat} {x y a : Pt} (hx : order[i]? = some x) (hy : order[i + 1]? = some y) (hl : i + 2 = order.length) :
    travelTo shapes a ((order.set i y).set (i + 1) x) - travelTo shapes a order = moveF (lastB shapes a (order.take i)) (beginF shapes y) - moveF (lastB shapes a (order.take i)) (beginF shapes x) := by
  obtain ⟨e1, e2⟩ := swap_split hx hy
  have hd : order.drop (i + 2) = [] := List.drop_eq_nil_of_le (by omega)
  have h := travel_swap (shapes := shapes) (order.take i) (order.drop (i + 2)) x y a
  rw [← e1, ← e2, hd] at h
  exact h
theorem swap_mid {shapes : List Shp} {order : List Pt} {i : Nat} {x y z a : Pt} (hx : order[i]? = some x) (hy : order[i + 1]? = some y) (hz : order[i + 2]? = some z) :
    travelTo shapes a ((order.set i y).set (i + 1) x) - travelTo shapes a order =
      (moveF (lastB shapes a (order.take i)) (beginF shapes y) + moveF (beginF shapes x) (beginF shapes z)) - (moveF (lastB shapes a (order.take i)) (beginF shapes x) + moveF (beginF shapes y) (beginF shapes z)) := by
  obtain ⟨e1, e2⟩ := swap_split hx hy
  have hd : order.drop (i + 2) = z :: order.drop (i + 3) := by
    have hlt : i + 2 < order.length := (List.getElem?_eq_some_iff.1 hz).1
    rw [List.drop_eq_getElem_cons hlt]
    congr 1
    exact (List.getElem?_eq_some_iff.1 hz).2
  have h := travel_swap (shapes := shapes) (order.take i) (order.drop (i + 2)) x y a
  rw [← e1, ← e2, hd] at h
  exact h

/-! ### pairs that the call owns -/
theorem own_empty (w : World) (B : Nat) (e : TypeId) (hB : B ≤ w.heap.size) : OwnP (w.alloc (.cells #[] e)) B e (.slice (some ⟨w.heap.size, 0, none⟩) 0 0) [] :=
  ⟨rfl, .inr ⟨w.heap.size, 0, #[], rfl, hB, Blk.new w e #[], Nat.le_refl _, Nat.zero_le _, rfl, rfl⟩⟩
section
variable {w : World} {base : Nat} {e : TypeId}
theorem own_form {v : Value} {xs : List Pt} (h : OwnP w base e v xs) (hp : 0 < xs.length) : ∃ g cap, v = .slice (some ⟨g, 0, none⟩) xs.length cap ∧ base ≤ g ∧ g < w.heap.size := by
  have hlt := World.ownsRow.lt h
  rcases h.2 with ⟨rfl, h0⟩ | ⟨g, cap, cur, rfl, hb, hh, -⟩
  · omega
  · exact ⟨g, cap, rfl, hb, (hlt g rfl).2⟩
variable {g cap : Nat} {xs : List Pt}
theorem own_at (h : OwnP w base e (.slice (some ⟨g, 0, none⟩) xs.length cap) xs) {k : Nat} {p : Pt} (hk : xs[k]? = some p) :
    w.cell? ⟨g, k * 2, none⟩ = some (.int .i64 p.1) ∧ w.cell? ⟨g, k * 2 + 1, none⟩ = some (.int .i64 p.2) := by
  obtain ⟨hl, rfl⟩ := List.getElem?_eq_some_iff.1 hk
  have hlen : ∀ x : Pt, (prEnc x).length = 2 := fun _ => rfl
  constructor
  · rw [World.ownsRow.cellAt h _ (by omega)]
    exact flatMap_get hlen xs k hl 0 (by omega)
  · rw [World.ownsRow.cellAt h _ (by omega)]
    exact flatMap_get hlen xs k hl 1 (by omega)
theorem flat_set : ∀ (xs : List Pt) (k : Nat) (p : Pt), (xs.set k p).flatMap prEnc = ((xs.flatMap prEnc).set (k * 2) (.int .i64 p.1)).set (k * 2 + 1) (.int .i64 p.2)
  | [], _, _ => by simp
  | x :: xs, 0, p => by simp [prEnc]
  | x :: xs, k + 1, p => by
    rw [List.set_cons_succ, List.flatMap_cons, flat_set xs k p, List.flatMap_cons]
    simp [prEnc, Nat.add_mul]
theorem own_set (h : OwnP w base e (.slice (some ⟨g, 0, none⟩) xs.length cap) xs) (k : Nat) (p : Pt) :
    OwnP ((w.setCell ⟨g, k * 2, none⟩ (.int .i64 p.1)).setCell ⟨g, k * 2 + 1, none⟩ (.int .i64 p.2)) base e (.slice (some ⟨g, 0, none⟩) (xs.set k p).length cap) (xs.set k p) := by
  unfold OwnP
  rw [flat_set, List.length_set]
  exact (World.ownsRow.stored (World.ownsRow.stored h _ _).1 _ _).1
end
end Go.Proofs.Ytpefmbjaolcapaa
