/- Readings of points, contours and shapes. -/
import Derived.Test.YtcnkocnajamclaaTorPlain
import Derived.Test.YtcnkocnajamclaaAppend
namespace Go.Proofs.Ytcnkocnajamclaa
open Go Go.RowKit

def prR : Rep (Int × Int) := Rep.int.pair Rep.int
def prEnc (x : Int × Int) : List Value := [.int .i64 x.1, .int .i64 x.2]
def prArr (x : Int × Int) : Array Value := #[.int .i64 x.1, .int .i64 x.2]
theorem flat_pr : Flat prR prEnc := ⟨fun h => by obtain ⟨a, b, rfl, ⟨rfl, _⟩, ⟨rfl, _⟩⟩ := h; rfl, fun x u hu => by simp [prEnc] at hu; rcases hu with rfl | rfl <;> rfl, fun _ => rfl, by decide⟩
theorem pairs_at {w : World} {D : Nat → Prop} {l : List (Int × Int)} {A : Option Addr} {n c : Nat} (h : prR.slice.R w D l [.slice A n c]) {k : Nat} (hk : k < l.length) :
    ∃ b off p s, A = some ⟨b, off, none⟩ ∧ Hid (l[k]? = some (p, s)) ∧ D b ∧ w.cell? ⟨b, off + k * 2, none⟩ = some (.int .i64 p) ∧ w.cell? ⟨b, off + k * 2 + 1, none⟩ = some (.int .i64 s) ∧
      -9223372036854775808 ≤ p ∧ p ≤ 9223372036854775807 ∧ -9223372036854775808 ≤ s ∧ s ≤ 9223372036854775807 := by
  obtain ⟨A', c', e, _, _, h3⟩ := h
  injection e with e _
  injection e with e1 e2 e3
  subst e1
  obtain ⟨b, off, es, rfl, hb, ⟨c1, c2, rfl, ⟨rfl, h1, h1'⟩, ⟨rfl, h2, h2'⟩⟩, hc⟩ := h3 k hk
  exact ⟨b, off, _, _, rfl, List.getElem?_eq_getElem hk, hb, hc 0 (by decide), hc 1 (by decide), h1, h1', h2, h2'⟩
theorem prs_bd {w : World} {D : Nat → Prop} {l : List (Int × Int)} {v : Value} (h : prR.slice.R w D l [v]) : ∀ x ∈ l, inI64 x.1 ∧ inI64 x.2 := by
  intro x hx
  obtain ⟨k, hk, rfl⟩ := List.getElem_of_mem hx
  obtain ⟨A, c, rfl, -, -⟩ := slice_inv h
  obtain ⟨b, off, p, s, -, hxk, -, -, -, h1, h2, h3, h4⟩ := pairs_at h hk
  have e := hxk.out
  rw [List.getElem?_eq_getElem hk] at e
  injection e with e
  rw [e]
  exact ⟨⟨h1, h2⟩, ⟨h3, h4⟩⟩
theorem own_prs {w : World} {base n : Nat} {e : TypeId} {v : Value} {xs : List (Int × Int)} (h : w.ownsRow base e 2 v n (xs.flatMap prEnc)) (hR : ∀ x ∈ xs, inI64 x.1 ∧ inI64 x.2) : prR.slice.R w (Lt w) xs [v] :=
  own_enc (E := prR) (enc := prEnc) (fun _ => rfl) (by decide) h (fun x hx => ⟨[.int .i64 x.1], [.int .i64 x.2], rfl, ⟨rfl, (hR x hx).1⟩, ⟨rfl, (hR x hx).2⟩⟩)
theorem pr_cells {w : World} {D : Nat → Prop} {x : Int × Int} {cs : Array Value} (h : prR.R w D x cs.toList) : cs = prArr x := by
  obtain ⟨a, b, e, ⟨rfl, _⟩, ⟨rfl, _⟩⟩ := h
  apply Array.ext'
  simpa [prArr] using e
def ptsR : Rep (List Pt) := prR.slice
def holesR : Rep (List (List Pt)) := ptsR.slice
def shR : Rep Shp := ptsR.pair holesR
def shpsR : Rep (List Shp) := shR.slice
/-- shape k of a list of shapes. -/
theorem shape_at {w : World} {D : Nat → Prop} {l : List Shp} {A : Option Addr} {n c : Nat} (h : shpsR.R w D l [.slice A n c]) {k : Nat} (hk : k < l.length) :
    ∃ b off s O no co H nh ch, A = some ⟨b, off, none⟩ ∧ Hid (l[k]? = some s) ∧ D b ∧ w.cell? ⟨b, off + k * 2, none⟩ = some (.slice O no co) ∧ w.cell? ⟨b, off + k * 2 + 1, none⟩ = some (.slice H nh ch) ∧
      Hid (no = s.1.length) ∧ Hid (nh = s.2.length) ∧ ptsR.R w D s.1 [.slice O no co] ∧ holesR.R w D s.2 [.slice H nh ch] ∧ no ≤ 9223372036854775807 ∧ nh ≤ 9223372036854775807 := by
  obtain ⟨A', c', e, _, _, h3⟩ := h
  injection e with e _
  injection e with e1 e2 e3
  subst e1
  obtain ⟨b, off, es, rfl, hb, ⟨c1, c2, rfl, hO, hH⟩, hc⟩ := h3 k hk
  obtain ⟨O, co, rfl, h1, h2, h4⟩ := id hO
  obtain ⟨H, ch, rfl, h5, h6, h7⟩ := id hH
  unfold maxLen at h2 h6
  exact ⟨b, off, _, O, _, co, H, _, ch, rfl, List.getElem?_eq_getElem hk, hb, hc 0 (by decide), hc 1 (by decide), rfl, rfl, hO, hH, by omega, by omega⟩
/-- hole k of a list of holes. -/
theorem hole_at {w : World} {D : Nat → Prop} {l : List (List Pt)} {A : Option Addr} {n c : Nat} (h : holesR.R w D l [.slice A n c]) {k : Nat} (hk : k < l.length) :
    ∃ b off p O no co, A = some ⟨b, off, none⟩ ∧ Hid (l[k]? = some p) ∧ D b ∧ w.cell? ⟨b, off + k, none⟩ = some (.slice O no co) ∧ Hid (no = p.length) ∧ ptsR.R w D p [.slice O no co] ∧ no ≤ 9223372036854775807 := by
  obtain ⟨b, off, v, rfl, hb, hr, hc⟩ := Rep.cell1 (E := ptsR) rfl h hk
  obtain ⟨O, co, e, h1, h2, h4⟩ := id hr
  injection e with e _
  subst e
  unfold maxLen at h2
  exact ⟨b, off, _, O, _, co, rfl, List.getElem?_eq_getElem hk, hb, hc, rfl, hr, by omega⟩
theorem new_pr (w : World) (x y : Int) (e : TypeId) : ∀ j u, [Value.int .i64 x, Value.int .i64 y][j]? = some u → (w.alloc (.cells #[.int .i64 x, .int .i64 y] e)).cell? ((⟨w.heap.size, 0, none⟩ : Addr).add j) = some u := by
  intro j u hu
  have h := Blk.new w e #[.int .i64 x, .int .i64 y]
  rw [addr_add, Nat.zero_add, h.cell]
  simpa using hu
theorem pr_one (x y : Int) : ∀ u ∈ [Value.int .i64 x, Value.int .i64 y], u.oneCell' = true := by
  intro u hu; simp at hu; rcases hu with rfl | rfl <;> rfl
def OwnP (w : World) (base : Nat) (e : TypeId) (v : Value) (xs : List (Int × Int)) : Prop := w.ownsRow base e 2 v xs.length (xs.flatMap prEnc)
theorem ownP_snoc {w : World} {base : Nat} {e : TypeId} {v : Value} {xs : List (Int × Int)} {x y : Int} (h : w.ownsRow base e 2 v (xs.length + 1) (xs.flatMap prEnc ++ [.int .i64 x, .int .i64 y])) : OwnP w base e v (xs ++ [(x, y)]) := by
  unfold OwnP
  rw [List.length_append, List.flatMap_append]
  exact h
theorem ret_agg {x y : Int × Int} (h : x = y) : Ending.returned (.agg (prArr x)) = .returned (.agg (prArr y)) := by rw [h]
theorem getD_at {α : Type} [Inhabited α] {l : List α} {k : Nat} {x : α} (h : l[k]? = some x) : l.getD k default = x := getD_of h
theorem own_slice {w : World} {base size n : Nat} {e : TypeId} {v : Value} {xs : List Value} (h : w.ownsRow base e size v n xs) : ∃ A c, v = .slice A n c := by
  rcases h.2 with ⟨rfl, rfl⟩ | ⟨g, cap, cur, rfl, _⟩
  · exact ⟨_, _, rfl⟩
  · exact ⟨_, _, rfl⟩
def sliceLen : Value → Nat
  | .slice _ n _ => n
  | _ => 0
theorem run_load_one {P : Program} {ty : TypeId} {a : Addr} {w : World} {v : Value} (hn : ∀ w, (isAgg ty).run P w = .ok false w) (h : w.cell? a = some v) : (loadVar ty a).run P w = .ok v w := by
  simp [loadVar, Sem.run_bind, hn, go_sem, h]
theorem slice_len {α : Type} {E : Rep α} {w : World} {D : Nat → Prop} {l : List α} {A : Option Addr} {n c : Nat} (h : E.slice.R w D l [.slice A n c]) : n = l.length ∧ n ≤ 9223372036854775807 := by
  obtain ⟨_, _, e, h1, h2, _⟩ := h
  injection e with e _
  injection e with _ e1 e2
  unfold maxLen at h2
  exact ⟨e1, by omega⟩
/-- max of four integers: a rule for the walk. -/
@[go_sem] theorem run_max_int4 {P : Program} {w : World} (ts : Array TypeId) (t : TypeId) (k k' k'' k3 : IntKind) (x y z u : Int) : (Builtin.max_ ts t #[.int k x, .int k' y, .int k'' z, .int k3 u]).run P w = .ok (.int k (max (max (max x y) z) u)) w := by
  have h1 : max x y = if y > x then y else x := by split <;> omega
  have h2 : max (max x y) z = if z > max x y then z else max x y := by split <;> omega
  have h3 : max (max (max x y) z) u = if u > max (max x y) z then u else max (max x y) z := by split <;> omega
  rw [h3, h2, h1]
  simp [Builtin.max_, Builtin.max2]
end Go.Proofs.Ytcnkocnajamclaa
