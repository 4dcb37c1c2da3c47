/- 'append(own, xs...)' where xs reads as a list of flat elements, nil or not: one law for the walk. No program in sight. -/
/- Readings of points, contours and shapes. -/
/- Chapter 26: far, ring, move, and the search for a far point, by walking their text. -/
/- A region that draws its order, walked operation by operation: what runs, what its guard leaves out, and a call. -/
/- A region that draws its order, where two operations may come up at a time. -/
import Derived.Test.YthfnncnmggkfaaaDoorTorPlainM
import Derived.Laws.AppendOwn
import Derived.Laws.OwnMore
import Derived.RegionTactic
import Derived.Test.YthfnncnmggkfaaaDoorChecked
import Derived.Deep.RegionHeld3
namespace Go.Proofs.YthfnncnmggkfaaaDoor
open Go Go.RowKit

/-- a reading whose cells are a function of what is read. -/
structure Flat {α : Type} (E : Rep α) (enc : α → List Value) : Prop where
  rd : ∀ {w D x cs}, E.R w D x cs → cs = enc x
  one : ∀ x, ∀ u ∈ enc x, u.oneCell' = true
  len : ∀ x, (enc x).length = E.size
  pos : 0 < E.size
def intEnc (n : Int) : List Value := [.int .i64 n]
theorem flat_int : Flat Rep.int intEnc := ⟨fun h => h.1, fun x u hu => by simp [intEnc] at hu; subst hu; rfl, fun _ => rfl, by decide⟩
theorem fm_int (xs : List Int) : xs.flatMap intEnc = xs.map (Value.int .i64) := fm_one _ _
theorem flat_length {α : Type} {E : Rep α} {enc : α → List Value} (hF : Flat E enc) : ∀ xs : List α, (xs.flatMap enc).length = xs.length * E.size
  | [] => by simp
  | x :: xs => by rw [List.flatMap_cons, List.length_append, hF.len, flat_length hF xs, List.length_cons, Nat.add_mul]; omega
theorem flat_one {α : Type} {E : Rep α} {enc : α → List Value} (hF : Flat E enc) (xs : List α) : ∀ u ∈ xs.flatMap enc, u.oneCell' = true := by
  intro u hu
  obtain ⟨x, _, h⟩ := List.mem_flatMap.1 hu
  exact hF.one x u h
theorem addr_add (b off j : Nat) : (⟨b, off, none⟩ : Addr).add j = ⟨b, off + j, none⟩ := by unfold Addr.add; split <;> simp_all
theorem flat_cells {α : Type} {E : Rep α} {enc : α → List Value} (hF : Flat E enc) {w : World} {D : Nat → Prop} {xs : List α} {b off n c : Nat} (h : E.slice.R w D xs [.slice (some ⟨b, off, none⟩) n c]) :
    ∀ j u, (xs.flatMap enc)[j]? = some u → w.cell? ((⟨b, off, none⟩ : Addr).add j) = some u := by
  intro j u hu
  have hj := lt_of_get hu
  rw [flat_length hF] at hj
  have hdm := Nat.div_add_mod j E.size
  have hm := Nat.mod_lt j hF.pos
  have hk : j / E.size < xs.length := by
    rw [Nat.div_lt_iff_lt_mul hF.pos]; exact hj
  obtain ⟨A', c', e, h1, h2, h3⟩ := h
  injection e with e _
  injection e with e1 e2 e3
  subst e1
  obtain ⟨b', off', es, e, hb, hr, hc⟩ := h3 (j / E.size) hk
  injection e with e
  injection e with e5 e6 _
  subst e5 e6
  have h4 := hc (j % E.size) hm
  have h5 := hF.rd hr
  subst h5
  have h6 := flatMap_get (enc := enc) hF.len xs (j / E.size) hk (j % E.size) hm
  rw [show j / E.size * E.size + j % E.size = j from by rw [Nat.mul_comm]; exact hdm] at h6
  rw [addr_add, ← hu, h6, ← h4]
  congr 2
  rw [Nat.add_assoc, Nat.mul_comm, hdm]
theorem run_append_owned_none' {P : Program} {w : World} (base : Nat) (t ty e : TypeId) (i : TypeInfo) (size : Nat) (ht : P.underlying t = some (.slice e)) (hi : P.info? e = some i)
    (v : Value) (n : Nat) (xs : List Value) (c : Nat) (hown : w.ownsRow base e size v n xs) :
    (Builtin.append_ #[t, t] ty #[v, .slice none 0 c]).run P w = .ok v w := by
  rcases hown.2 with ⟨rfl, rfl⟩ | ⟨g, cap, cur, rfl, _, _, hnc, _⟩
  · simp [Builtin.append_, run_underlying ht, sizeOf, typeInfo, hi, Builtin.lenOf, Builtin.firstCells]
  · simp [Builtin.append_, run_underlying ht, sizeOf, typeInfo, hi, Builtin.lenOf, Builtin.firstCells, hnc, storeCells]
theorem slice_none {α : Type} {E : Rep α} {w : World} {D : Nat → Prop} {xs : List α} {n c : Nat} (h : E.slice.R w D xs [.slice none n c]) : xs = [] ∧ n = 0 := by
  obtain ⟨A', c', e, h1, h2, h3⟩ := h
  injection e with e _
  injection e with e1 e2 e3
  subst e1
  have : xs = [] := by
    cases xs with
    | nil => rfl
    | cons x xs =>
      obtain ⟨b, off, es, e, _⟩ := h3 0 (by simp)
      cases e
  subst this
  exact ⟨rfl, e2⟩
theorem wpList_append_flat {α : Type} {E : Rep α} {enc : α → List Value} (hF : Flat E enc) {P : Program} {w : World} {ops : Array Oper} {rest : List Oper} {o : Oper} {a : Act} {Q : Exit → Act → World → Prop} (hgd : o.guard = none) (s x : Operand) (t : TypeId)
    (ho : o.op = .call { callee := .builtin .append, args := #[s, x], argTypes := #[t, t] })
    (base : Nat) (e : TypeId) (i : TypeInfo) (z : Value) (bytes : Nat) (ht : P.underlying t = some (.slice e)) (hi : P.info? e = some i) (hz : i.zero = some z)
    (hsize : i.size = E.size) (hby : i.bytes = bytes) (hzs : z.cells.size = E.size)
    (v : Value) (n : Nat) (xs : List Value) (hs : a.eval s = v) (hown : w.ownsRow base e E.size v n xs)
    (ys : List α) {D : Nat → Prop} {vx : Value} (hx : a.eval x = vx) (hr : E.slice.R w D ys [vx])
    (h63 : n + ys.length ≤ 1000000000) (hbytes : (n + ys.length) * bytes ≤ 140737488355328) (hbase : base ≤ w.heap.size)
    (h : ∀ v' w', w'.ownsRow base e E.size v' (n + ys.length) (xs ++ ys.flatMap enc) → w.grownBy w' v.ownBlock → wpList P ops Q rest (a.put o.dst v') w') : wpList P ops Q (o :: rest) a w := by
  obtain ⟨A, c, rfl, hm, hc⟩ := slice_inv hr
  cases A with
  | none =>
    obtain ⟨rfl, h0⟩ := slice_none hr
    refine wpList_plain hgd fun K hK => ?_
    have hrun := run_append_owned_none' (P := P) (w := w) base t o.type e i E.size ht hi v n xs c hown
    unfold Oper.wp
    simp [execOp, ho, resolve, invoke, builtin, hs, hx, hrun, Result.andThen]
    exact hK _ _ (h v w (by simpa using hown) (only_refl _ _))
  | some ad =>
    refine wpList_append_own w hgd s x t ho base e i z E.size bytes ht hi hz hsize hby hzs hF.pos v n xs hs hown ad ys.length c (ys.flatMap enc) hx (flat_length hF ys) ?_ (flat_one hF ys) (by unfold maxLen; omega) hbytes hbase fun v' w' h1 h2 _ => h v' w' h1 h2
    by_cases hp : 0 < ys.length
    · obtain ⟨A', c', e1, h1, h2, h3⟩ := id hr
      injection e1 with e1 _
      injection e1 with e1 _ _
      subst e1
      obtain ⟨b, off, es, e2, -⟩ := h3 0 hp
      injection e2 with e2
      subst e2
      exact flat_cells hF hr
    · have : ys = [] := List.eq_nil_of_length_eq_zero (by omega)
      subst this
      intro j u hu
      cases hu
/-- the run of 'append(own, xs...)', nil or not. -/
theorem run_append_flat {α : Type} {E : Rep α} {enc : α → List Value} (hF : Flat E enc) {P : Program} {w : World} (t ty : TypeId)
    (base : Nat) (e : TypeId) (i : TypeInfo) (z : Value) (bytes : Nat) (ht : P.underlying t = some (.slice e)) (hi : P.info? e = some i) (hz : i.zero = some z)
    (hsize : i.size = E.size) (hby : i.bytes = bytes) (hzs : z.cells.size = E.size)
    (v : Value) (n : Nat) (xs : List Value) (hown : w.ownsRow base e E.size v n xs)
    (ys : List α) {D : Nat → Prop} {vx : Value} (hr : E.slice.R w D ys [vx])
    (h63 : n + ys.length ≤ 1000000000) (hbytes : (n + ys.length) * bytes ≤ 140737488355328) (hbase : base ≤ w.heap.size) :
    ∃ v' w', (Builtin.append_ #[t, t] ty #[v, vx]).run P w = .ok v' w' ∧ w'.ownsRow base e E.size v' (n + ys.length) (xs ++ ys.flatMap enc) ∧ w.grownBy w' v.ownBlock := by
  obtain ⟨A, c, rfl, hm, hc⟩ := slice_inv hr
  cases A with
  | none =>
    obtain ⟨rfl, h0⟩ := slice_none hr
    exact ⟨v, w, run_append_owned_none' (P := P) (w := w) base t ty e i E.size ht hi v n xs c hown, by simpa using hown, only_refl _ _⟩
  | some ad =>
    obtain ⟨v', w', h1, h2, h3, -⟩ := run_append_own (P := P) w base t ty e i z E.size bytes ht hi hz hsize hby hzs hF.pos v n xs hown ad ys.length c (ys.flatMap enc) (flat_length hF ys) (by
      by_cases hp : 0 < ys.length
      · obtain ⟨A', c', e1, h1, h2, h3⟩ := id hr
        injection e1 with e1 _
        injection e1 with e1 _ _
        subst e1
        obtain ⟨b, off, es, e2, -⟩ := h3 0 hp
        injection e2 with e2
        subst e2
        exact flat_cells hF hr
      · have : ys = [] := List.eq_nil_of_length_eq_zero (by omega)
        subst this
        intro j u hu
        cases hu) (flat_one hF ys) (by unfold maxLen; omega) hbytes hbase
    exact ⟨v', w', h1, h2, h3⟩
/-- at a step of a region that draws its order. -/
theorem step_append_flat {α : Type} {E : Rep α} {enc : α → List Value} (hF : Flat E enc) {P : Program} {w : World} {ops : Array Oper} {o : Oper} {a : Act} {K : Act → World → Prop} {Q : Exit → Act → World → Prop} {E' : Prop} (hgd : o.guard = none) (s x : Operand) (t : TypeId)
    (ho : o.op = .call { callee := .builtin .append, args := #[s, x], argTypes := #[t, t] })
    (base : Nat) (e : TypeId) (i : TypeInfo) (z : Value) (bytes : Nat) (ht : P.underlying t = some (.slice e)) (hi : P.info? e = some i) (hz : i.zero = some z)
    (hsize : i.size = E.size) (hby : i.bytes = bytes) (hzs : z.cells.size = E.size)
    (v : Value) (n : Nat) (xs : List Value) (hs : a.eval s = v) (hown : w.ownsRow base e E.size v n xs)
    (ys : List α) {D : Nat → Prop} {vx : Value} (hx : a.eval x = vx) (hr : E.slice.R w D ys [vx])
    (h63 : n + ys.length ≤ 1000000000) (hbytes : (n + ys.length) * bytes ≤ 140737488355328) (hbase : base ≤ w.heap.size)
    (h : ∀ v' w', w'.ownsRow base e E.size v' (n + ys.length) (xs ++ ys.flatMap enc) → w.grownBy w' v.ownBlock → K (a.put o.dst v') w') :
    if Region.wanted o (yielded ops a.tmps) = true then Oper.wp P o a w K Q else E' := by
  have hw : Region.wanted o (yielded ops a.tmps) = true := by simp [Region.wanted, hgd]
  rw [if_pos hw]
  obtain ⟨v', w', h1, h2, h3⟩ := run_append_flat hF (P := P) (w := w) t o.type base e i z bytes ht hi hz hsize hby hzs v n xs hown ys hr h63 hbytes hbase
  unfold Oper.wp execOp
  simp only [ho, resolve, invoke, builtin, Sem.run_bind, Sem.run_pure, Result.andThen_ok, List.map_toArray, List.map_cons, List.map_nil, hs, hx, h1]
  exact h v' w' h2 h3
end Go.Proofs.YthfnncnmggkfaaaDoor

namespace Go.Proofs.YthfnncnmggkfaaaDoor
open Go Go.RowKit

def prR : Rep (Int × Int) := Rep.int.pair Rep.int
def prEnc (x : Int × Int) : List Value := [.int .i64 x.1, .int .i64 x.2]
def prArr (x : Int × Int) : Array Value := #[.int .i64 x.1, .int .i64 x.2]
theorem flat_pr : Flat prR prEnc := ⟨fun h => by obtain ⟨a, b, rfl, ⟨rfl, _⟩, ⟨rfl, _⟩⟩ := h; rfl, fun x u hu => by simp [prEnc] at hu; rcases hu with rfl | rfl <;> rfl, fun _ => rfl, by decide⟩
theorem pairs_at {w : World} {D : Nat → Prop} {l : List (Int × Int)} {A : Option Addr} {n c : Nat} (h : prR.slice.R w D l [.slice A n c]) {k : Nat} (hk : k < l.length) :
    ∃ b off p s, A = some ⟨b, off, none⟩ ∧ Hid (l[k]? = some (p, s)) ∧ D b ∧ w.cell? ⟨b, off + k * 2, none⟩ = some (.int .i64 p) ∧ w.cell? ⟨b, off + k * 2 + 1, none⟩ = some (.int .i64 s) ∧
      -9223372036854775808 ≤ p ∧ p ≤ 9223372036854775807 ∧ -9223372036854775808 ≤ s ∧ s ≤ 9223372036854775807 := by
  obtain ⟨A', c', e, _, _, h3⟩ := h
  injection e with e _
  injection e with e1 e2 e3
  subst e1
  obtain ⟨b, off, es, rfl, hb, ⟨c1, c2, rfl, ⟨rfl, h1, h1'⟩, ⟨rfl, h2, h2'⟩⟩, hc⟩ := h3 k hk
  exact ⟨b, off, _, _, rfl, List.getElem?_eq_getElem hk, hb, hc 0 (by decide), hc 1 (by decide), h1, h1', h2, h2'⟩
theorem prs_bd {w : World} {D : Nat → Prop} {l : List (Int × Int)} {v : Value} (h : prR.slice.R w D l [v]) : ∀ x ∈ l, inI64 x.1 ∧ inI64 x.2 := by
  intro x hx
  obtain ⟨k, hk, rfl⟩ := List.getElem_of_mem hx
  obtain ⟨A, c, rfl, -, -⟩ := slice_inv h
  obtain ⟨b, off, p, s, -, hxk, -, -, -, h1, h2, h3, h4⟩ := pairs_at h hk
  have e := hxk.out
  rw [List.getElem?_eq_getElem hk] at e
  injection e with e
  rw [e]
  exact ⟨⟨h1, h2⟩, ⟨h3, h4⟩⟩
theorem own_prs {w : World} {base n : Nat} {e : TypeId} {v : Value} {xs : List (Int × Int)} (h : w.ownsRow base e 2 v n (xs.flatMap prEnc)) (hR : ∀ x ∈ xs, inI64 x.1 ∧ inI64 x.2) : prR.slice.R w (Lt w) xs [v] :=
  own_enc (E := prR) (enc := prEnc) (fun _ => rfl) (by decide) h (fun x hx => ⟨[.int .i64 x.1], [.int .i64 x.2], rfl, ⟨rfl, (hR x hx).1⟩, ⟨rfl, (hR x hx).2⟩⟩)
theorem pr_cells {w : World} {D : Nat → Prop} {x : Int × Int} {cs : Array Value} (h : prR.R w D x cs.toList) : cs = prArr x := by
  obtain ⟨a, b, e, ⟨rfl, _⟩, ⟨rfl, _⟩⟩ := h
  apply Array.ext'
  simpa [prArr] using e
def ptsR : Rep (List Pt) := prR.slice
def holesR : Rep (List (List Pt)) := ptsR.slice
def shR : Rep Shp := ptsR.pair holesR
def shpsR : Rep (List Shp) := shR.slice
/-- shape k of a list of shapes. -/
theorem shape_at {w : World} {D : Nat → Prop} {l : List Shp} {A : Option Addr} {n c : Nat} (h : shpsR.R w D l [.slice A n c]) {k : Nat} (hk : k < l.length) :
    ∃ b off s O no co H nh ch, A = some ⟨b, off, none⟩ ∧ Hid (l[k]? = some s) ∧ D b ∧ w.cell? ⟨b, off + k * 2, none⟩ = some (.slice O no co) ∧ w.cell? ⟨b, off + k * 2 + 1, none⟩ = some (.slice H nh ch) ∧
      Hid (no = s.1.length) ∧ Hid (nh = s.2.length) ∧ ptsR.R w D s.1 [.slice O no co] ∧ holesR.R w D s.2 [.slice H nh ch] ∧ no ≤ 9223372036854775807 ∧ nh ≤ 9223372036854775807 := by
  obtain ⟨A', c', e, _, _, h3⟩ := h
  injection e with e _
  injection e with e1 e2 e3
  subst e1
  obtain ⟨b, off, es, rfl, hb, ⟨c1, c2, rfl, hO, hH⟩, hc⟩ := h3 k hk
  obtain ⟨O, co, rfl, h1, h2, h4⟩ := id hO
  obtain ⟨H, ch, rfl, h5, h6, h7⟩ := id hH
  unfold maxLen at h2 h6
  exact ⟨b, off, _, O, _, co, H, _, ch, rfl, List.getElem?_eq_getElem hk, hb, hc 0 (by decide), hc 1 (by decide), rfl, rfl, hO, hH, by omega, by omega⟩
/-- hole k of a list of holes. -/
theorem hole_at {w : World} {D : Nat → Prop} {l : List (List Pt)} {A : Option Addr} {n c : Nat} (h : holesR.R w D l [.slice A n c]) {k : Nat} (hk : k < l.length) :
    ∃ b off p O no co, A = some ⟨b, off, none⟩ ∧ Hid (l[k]? = some p) ∧ D b ∧ w.cell? ⟨b, off + k, none⟩ = some (.slice O no co) ∧ Hid (no = p.length) ∧ ptsR.R w D p [.slice O no co] ∧ no ≤ 9223372036854775807 := by
  obtain ⟨b, off, v, rfl, hb, hr, hc⟩ := Rep.cell1 (E := ptsR) rfl h hk
  obtain ⟨O, co, e, h1, h2, h4⟩ := id hr
  injection e with e _
  subst e
  unfold maxLen at h2
  exact ⟨b, off, _, O, _, co, rfl, List.getElem?_eq_getElem hk, hb, hc, rfl, hr, by omega⟩
theorem new_pr (w : World) (x y : Int) (e : TypeId) : ∀ j u, [Value.int .i64 x, Value.int .i64 y][j]? = some u → (w.alloc (.cells #[.int .i64 x, .int .i64 y] e)).cell? ((⟨w.heap.size, 0, none⟩ : Addr).add j) = some u := by
  intro j u hu
  have h := Blk.new w e #[.int .i64 x, .int .i64 y]
  rw [addr_add, Nat.zero_add, h.cell]
  simpa using hu
theorem pr_one (x y : Int) : ∀ u ∈ [Value.int .i64 x, Value.int .i64 y], u.oneCell' = true := by
  intro u hu; simp at hu; rcases hu with rfl | rfl <;> rfl
def OwnP (w : World) (base : Nat) (e : TypeId) (v : Value) (xs : List (Int × Int)) : Prop := w.ownsRow base e 2 v xs.length (xs.flatMap prEnc)
theorem ownP_snoc {w : World} {base : Nat} {e : TypeId} {v : Value} {xs : List (Int × Int)} {x y : Int} (h : w.ownsRow base e 2 v (xs.length + 1) (xs.flatMap prEnc ++ [.int .i64 x, .int .i64 y])) : OwnP w base e v (xs ++ [(x, y)]) := by
  unfold OwnP
  rw [List.length_append, List.flatMap_append]
  exact h
theorem ret_agg {x y : Int × Int} (h : x = y) : Ending.returned (.agg (prArr x)) = .returned (.agg (prArr y)) := by rw [h]
theorem getD_at {α : Type} [Inhabited α] {l : List α} {k : Nat} {x : α} (h : l[k]? = some x) : l.getD k default = x := getD_of h
theorem own_slice {w : World} {base size n : Nat} {e : TypeId} {v : Value} {xs : List Value} (h : w.ownsRow base e size v n xs) : ∃ A c, v = .slice A n c := by
  rcases h.2 with ⟨rfl, rfl⟩ | ⟨g, cap, cur, rfl, _⟩
  · exact ⟨_, _, rfl⟩
  · exact ⟨_, _, rfl⟩
def sliceLen : Value → Nat
  | .slice _ n _ => n
  | _ => 0
theorem run_load_one {P : Program} {ty : TypeId} {a : Addr} {w : World} {v : Value} (hn : ∀ w, (isAgg ty).run P w = .ok false w) (h : w.cell? a = some v) : (loadVar ty a).run P w = .ok v w := by
  simp [loadVar, Sem.run_bind, hn, go_sem, h]
theorem slice_len {α : Type} {E : Rep α} {w : World} {D : Nat → Prop} {l : List α} {A : Option Addr} {n c : Nat} (h : E.slice.R w D l [.slice A n c]) : n = l.length ∧ n ≤ 9223372036854775807 := by
  obtain ⟨_, _, e, h1, h2, _⟩ := h
  injection e with e _
  injection e with _ e1 e2
  unfold maxLen at h2
  exact ⟨e1, by omega⟩
/-- max of four integers: a rule for the walk. -/
@[go_sem] theorem run_max_int4 {P : Program} {w : World} (ts : Array TypeId) (t : TypeId) (k k' k'' k3 : IntKind) (x y z u : Int) : (Builtin.max_ ts t #[.int k x, .int k' y, .int k'' z, .int k3 u]).run P w = .ok (.int k (max (max (max x y) z) u)) w := by
  have h1 : max x y = if y > x then y else x := by split <;> omega
  have h2 : max (max x y) z = if z > max x y then z else max x y := by split <;> omega
  have h3 : max (max (max x y) z) u = if u > max (max x y) z then u else max (max x y) z := by split <;> omega
  rw [h3, h2, h1]
  simp [Builtin.max_, Builtin.max2]
end Go.Proofs.YthfnncnmggkfaaaDoor

namespace Go.Proofs.YthfnncnmggkfaaaDoor
open Go Go.RowKit

theorem far_le {x y : Int} (h : x ≤ y) : farB (x, y) = (decide (1099511627776 < y) || decide (x < -1099511627776)) := by
  simp only [farB]; rw [Int.max_eq_right h, Int.min_eq_left h]
theorem far_gt {x y : Int} (h : ¬ x ≤ y) : farB (x, y) = (decide (1099511627776 < x) || decide (y < -1099511627776)) := by
  simp only [farB]; rw [Int.max_eq_left (by omega), Int.min_eq_right (by omega)]
set_option maxHeartbeats 400000 in
theorem far_any (x y : Int) (w : World) :
    Calls Tryd.prog 70 #[.agg #[.int .i64 x, .int .i64 y]] w (Ret (.bool (farB (x, y))) w) := by
  rcases Int.lt_trichotomy x y with h | h | h
  · have HF := Lib.hid (far_le (Int.le_of_lt h))
    have h2 : ¬ y < x := by omega
    go_enter Tryd.func70, Tryd.ntmps70
    go_wp2
    all_goals
      go_ret
      refine ⟨ret_bool ?_, (Below.refl _ _).alloc (Nat.le_refl _) _⟩
      rw [HF.out]
      try simp [*]
  · subst h
    have HF := Lib.hid (far_le (Int.le_refl x))
    go_enter Tryd.func70, Tryd.ntmps70
    go_wp2
    all_goals
      go_ret
      refine ⟨ret_bool ?_, (Below.refl _ _).alloc (Nat.le_refl _) _⟩
      rw [HF.out]
      try simp [*]
  · have HF := Lib.hid (far_gt (show ¬ x ≤ y by omega))
    have h2 : ¬ x < y := by omega
    go_enter Tryd.func70, Tryd.ntmps70
    go_wp2
    all_goals
      go_ret
      refine ⟨ret_bool ?_, (Below.refl _ _).alloc (Nat.le_refl _) _⟩
      rw [HF.out]
      try simp [*]
/-- a contour of a shape. -/
def RingPost (p : List Pt) (D : Nat → Prop) (w : World) (e : Ending) (w' : World) : Prop := ∃ O no co, e = .returned (.slice O no co) ∧ no = p.length ∧ ptsR.R w D p [.slice O no co] ∧ Below w.heap.size w w'
set_option maxHeartbeats 400000 in
theorem ring_any (O H : Option Addr) (no co nh ch n : Nat) (s : Shp) (D : Nat → Prop) (w : World) (hO : ptsR.R w D s.1 [.slice O no co]) (hH : holesR.R w D s.2 [.slice H nh ch]) (hD : ∀ b, D b → b < w.heap.size) (hn : n ≤ s.2.length) :
    Calls Tryd.prog 67 #[.agg #[.slice O no co, .slice H nh ch], .int .i64 n] w (RingPost (ringOf s n) D w) := by
  by_cases h0 : n = 0
  · have hb : ((n : Int) == 0) = true := by simp [h0]
    have HR : Hid (ringOf s n = s.1) := by show ringOf s n = s.1; unfold ringOf; rw [if_pos h0]
    clear h0
    go_enter Tryd.func67, Tryd.ntmps67
    go_wp2
    go_ret
    rw [HR.out]
    obtain ⟨_, _, e, _⟩ := id hO
    injection e with e _
    injection e with _ e _
    exact ⟨O, no, co, rfl, e, hO, (Below.refl _ _).alloc (Nat.le_refl _) _⟩
  · have hb : ((n : Int) == 0) = false := by simp [h0]
    obtain ⟨k, rfl⟩ : ∃ k, n = k + 1 := ⟨n - 1, by omega⟩
    have hk : k < s.2.length := by omega
    obtain ⟨eH, hnm⟩ := slice_len hH
    subst eH
    have hkm : (k : Int) ≤ 9223372036854775806 := by omega
    obtain ⟨b, off, p, O', no', co', rfl, hp, hD', hc, hno, hr, hm⟩ := hole_at hH hk
    have hbl := hD b hD'
    have HR : Hid (ringOf s (k + 1) = p) := by
      show ringOf s (k + 1) = p
      unfold ringOf
      rw [if_neg h0, Nat.add_sub_cancel, getD_of' hp.out]
    have hc' : (w.alloc (.cells #[.slice O no co, .slice (some ⟨b, off, none⟩) s.2.length ch] 60)).cell? ⟨b, off + k, none⟩ = some (.slice O' no' co') := by
      rw [((Below.refl w.heap.size w).alloc (Nat.le_refl _) _).cell (p := ⟨b, off + k, none⟩) hbl]; exact hc
    have hne : ¬ b = w.heap.size := by omega
    have hk1 : ((k + 1 : Nat) : Int) - 1 = (k : Int) := by omega
    go_enter Tryd.func67, Tryd.ntmps67
    go_wp2
    go_ret
    rw [HR.out]
    exact ⟨O', no', co', rfl, hno.out, hr, (Below.refl _ _).alloc (Nat.le_refl _) _⟩
set_option maxHeartbeats 400000 in
theorem move_any (a b : Pt) (w : World) (h1 : -1099511627776 ≤ a.1 ∧ a.1 ≤ 1099511627776) (h2 : -1099511627776 ≤ a.2 ∧ a.2 ≤ 1099511627776) (h3 : -1099511627776 ≤ b.1 ∧ b.1 ≤ 1099511627776) (h4 : -1099511627776 ≤ b.2 ∧ b.2 ≤ 1099511627776) :
    Calls Tryd.prog 49 #[.agg (prArr a), .agg (prArr b)] w (Ret (.int .i64 (moveF a b)) w) := by
  obtain ⟨x, y⟩ := a
  obtain ⟨x', y'⟩ := b
  simp only [prArr, moveF] at h1 h2 h3 h4 ⊢
  obtain ⟨a1, a2⟩ := h1
  obtain ⟨b1, b2⟩ := h2
  obtain ⟨c1, c2⟩ := h3
  obtain ⟨d1, d2⟩ := h4
  go_enter Tryd.func49, Tryd.ntmps49
  go_wp2
  all_goals
    go_ret
    exact ⟨ret_int (by omega), ((Below.refl _ _).alloc (Nat.le_refl _) _).alloc (by simp) _⟩
end Go.Proofs.YthfnncnmggkfaaaDoor

namespace Go.Proofs.YthfnncnmggkfaaaDoor
open Go

section
variable {P : Program} {ops : Array Oper} {Q : Exit → Act → World → Prop} {md : Region.Mode} {S : World → Prop}
theorem take_run {i : Nat} {v : Value} {fuel : Nat} {listed : Array Bool} {a : Act} {w : World} (hi : i < ops.size)
    (hs : Region.noSelect ops = true) (hf : Region.free md ops listed i = true) (hr : (Region.ready md ops listed).contains i = true)
    (hQ : ∀ c a w v, Q (.panic c) (a.put ops[i].dst v) w → Q (.panic c) a w) (hS : S w) (hw : Region.wanted ops[i] (yielded ops a.tmps) = true) (hy : ∀ w, S w → (execOp a.eval ops[i]).run P w = .ok (.value v) w)
    (h : wpAnyH P md ops Q S fuel (listed.setIfInBounds i true) (a.put ops[i].dst v) w) : wpAnyH P md ops Q S (fuel + 1) listed a w :=
  wpAnyH_take (oi := ops[i]) (v := v) (Array.getElem?_eq_getElem hi) hs hf hr (fun c a w => hQ c a w _) (.inl ⟨hw, hy⟩) hS h
theorem take_skip {i : Nat} {fuel : Nat} {listed : Array Bool} {a : Act} {w : World} (hi : i < ops.size)
    (hs : Region.noSelect ops = true) (hf : Region.free md ops listed i = true) (hr : (Region.ready md ops listed).contains i = true)
    (hQ : ∀ c a w v, Q (.panic c) (a.put ops[i].dst v) w → Q (.panic c) a w) (hS : S w) (hw : Region.wanted ops[i] (yielded ops a.tmps) = false)
    (h : wpAnyH P md ops Q S fuel (listed.setIfInBounds i true) (a.put ops[i].dst undef) w) : wpAnyH P md ops Q S (fuel + 1) listed a w :=
  wpAnyH_take (oi := ops[i]) (v := undef) (Array.getElem?_eq_getElem hi) hs hf hr (fun c a w => hQ c a w _) (.inr ⟨hw, rfl⟩) hS h
theorem take_call {i : Nat} {fuel : Nat} {listed : Array Bool} {a : Act} {w : World} (hi : i < ops.size) (hr : Region.ready md ops listed = [i])
    (h : ∀ K' : Act → World → Prop, Shut (∀ a w, S w → (S w → wpAnyH P md ops Q S fuel (listed.setIfInBounds i true) a w) → K' a w) → if Region.wanted ops[i] (yielded ops a.tmps) = true then Oper.wp P ops[i] a w K' Q else K' (a.put ops[i].dst undef) w) :
    wpAnyH P md ops Q S (fuel + 1) listed a w :=
  wpAnyH_ready hr (by simp) (AllReadyH.cons (Array.getElem?_eq_getElem hi) h AllReadyH.nil)
end
end Go.Proofs.YthfnncnmggkfaaaDoor

namespace Go.Proofs.YthfnncnmggkfaaaDoor
open Go

section
variable {P : Program} {ops : Array Oper} {Q : Exit → Act → World → Prop} {md : Region.Mode} {S : World → Prop}
theorem take_two {i j : Nat} {fuel : Nat} {listed : Array Bool} {a : Act} {w : World} (hi : i < ops.size) (hj : j < ops.size) (hr : Region.ready md ops listed = [i, j])
    (h1 : ∀ K' : Act → World → Prop, Shut (∀ a w, S w → (S w → wpAnyH P md ops Q S fuel (listed.setIfInBounds i true) a w) → K' a w) → if Region.wanted ops[i] (yielded ops a.tmps) = true then Oper.wp P ops[i] a w K' Q else K' (a.put ops[i].dst undef) w)
    (h2 : ∀ K' : Act → World → Prop, Shut (∀ a w, S w → (S w → wpAnyH P md ops Q S fuel (listed.setIfInBounds j true) a w) → K' a w) → if Region.wanted ops[j] (yielded ops a.tmps) = true then Oper.wp P ops[j] a w K' Q else K' (a.put ops[j].dst undef) w) :
    wpAnyH P md ops Q S (fuel + 1) listed a w :=
  wpAnyH_ready hr (by simp) (AllReadyH.cons (Array.getElem?_eq_getElem hi) h1 (AllReadyH.cons (Array.getElem?_eq_getElem hj) h2 AllReadyH.nil))
end
end Go.Proofs.YthfnncnmggkfaaaDoor
