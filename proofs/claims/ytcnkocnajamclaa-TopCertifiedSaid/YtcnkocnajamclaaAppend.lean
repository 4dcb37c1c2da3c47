/- 'append(own, xs...)' where xs reads as a list of flat elements, nil or not: one law for the walk. No program in sight. -/
import Derived.Test.YtcnkocnajamclaaCommon
import Derived.Laws.AppendOwn
import Derived.Laws.OwnMore
import Derived.RegionTactic
namespace Go.Proofs.Ytcnkocnajamclaa
open Go Go.RowKit

/-- a reading whose cells are a function of what is read. -/
structure Flat {α : Type} (E : Rep α) (enc : α → List Value) : Prop where
  rd : ∀ {w D x cs}, E.R w D x cs → cs = enc x
  one : ∀ x, ∀ u ∈ enc x, u.oneCell' = true
  len : ∀ x, (enc x).length = E.size
  pos : 0 < E.size
def intEnc (n : Int) : List Value := [.int .i64 n]
theorem flat_int : Flat Rep.int intEnc := ⟨fun h => h.1, fun x u hu => by simp [intEnc] at hu; subst hu; rfl, fun _ => rfl, by decide⟩
theorem fm_int (xs : List Int) : xs.flatMap intEnc = xs.map (Value.int .i64) := fm_one _ _
theorem flat_length {α : Type} {E : Rep α} {enc : α → List Value} (hF : Flat E enc) : ∀ xs : List α, (xs.flatMap enc).length = xs.length * E.size
  | [] => by simp
  | x :: xs => by rw [List.flatMap_cons, List.length_append, hF.len, flat_length hF xs, List.length_cons, Nat.add_mul]; omega
theorem flat_one {α : Type} {E : Rep α} {enc : α → List Value} (hF : Flat E enc) (xs : List α) : ∀ u ∈ xs.flatMap enc, u.oneCell' = true := by
  intro u hu
  obtain ⟨x, _, h⟩ := List.mem_flatMap.1 hu
  exact hF.one x u h
theorem addr_add (b off j : Nat) : (⟨b, off, none⟩ : Addr).add j = ⟨b, off + j, none⟩ := by unfold Addr.add; split <;> simp_all
theorem flat_cells {α : Type} {E : Rep α} {enc : α → List Value} (hF : Flat E enc) {w : World} {D : Nat → Prop} {xs : List α} {b off n c : Nat} (h : E.slice.R w D xs [.slice (some ⟨b, off, none⟩) n c]) :
    ∀ j u, (xs.flatMap enc)[j]? = some u → w.cell? ((⟨b, off, none⟩ : Addr).add j) = some u := by
  intro j u hu
  have hj := lt_of_get hu
  rw [flat_length hF] at hj
  have hdm := Nat.div_add_mod j E.size
  have hm := Nat.mod_lt j hF.pos
  have hk : j / E.size < xs.length := by
    rw [Nat.div_lt_iff_lt_mul hF.pos]; exact hj
  obtain ⟨A', c', e, h1, h2, h3⟩ := h
  injection e with e _
  injection e with e1 e2 e3
  subst e1
  obtain ⟨b', off', es, e, hb, hr, hc⟩ := h3 (j / E.size) hk
  injection e with e
  injection e with e5 e6 _
  subst e5 e6
  have h4 := hc (j % E.size) hm
  have h5 := hF.rd hr
  subst h5
  have h6 := flatMap_get (enc := enc) hF.len xs (j / E.size) hk (j % E.size) hm
  rw [show j / E.size * E.size + j % E.size = j from by rw [Nat.mul_comm]; exact hdm] at h6
  rw [addr_add, ← hu, h6, ← h4]
  congr 2
  rw [Nat.add_assoc, Nat.mul_comm, hdm]
theorem run_append_owned_none' {P : Program} {w : World} (base : Nat) (t ty e : TypeId) (i : TypeInfo) (size : Nat) (ht : P.underlying t = some (.slice e)) (hi : P.info? e = some i)
    (v : Value) (n : Nat) (xs : List Value) (c : Nat) (hown : w.ownsRow base e size v n xs) :
    (Builtin.append_ #[t, t] ty #[v, .slice none 0 c]).run P w = .ok v w := by
  rcases hown.2 with ⟨rfl, rfl⟩ | ⟨g, cap, cur, rfl, _, _, hnc, _⟩
  · simp [Builtin.append_, run_underlying ht, sizeOf, typeInfo, hi, Builtin.lenOf, Builtin.firstCells]
  · simp [Builtin.append_, run_underlying ht, sizeOf, typeInfo, hi, Builtin.lenOf, Builtin.firstCells, hnc, storeCells]
theorem slice_none {α : Type} {E : Rep α} {w : World} {D : Nat → Prop} {xs : List α} {n c : Nat} (h : E.slice.R w D xs [.slice none n c]) : xs = [] ∧ n = 0 := by
  obtain ⟨A', c', e, h1, h2, h3⟩ := h
  injection e with e _
  injection e with e1 e2 e3
  subst e1
  have : xs = [] := by
    cases xs with
    | nil => rfl
    | cons x xs =>
      obtain ⟨b, off, es, e, _⟩ := h3 0 (by simp)
      cases e
  subst this
  exact ⟨rfl, e2⟩
theorem wpList_append_flat {α : Type} {E : Rep α} {enc : α → List Value} (hF : Flat E enc) {P : Program} {w : World} {ops : Array Oper} {rest : List Oper} {o : Oper} {a : Act} {Q : Exit → Act → World → Prop} (hgd : o.guard = none) (s x : Operand) (t : TypeId)
    (ho : o.op = .call { callee := .builtin .append, args := #[s, x], argTypes := #[t, t] })
    (base : Nat) (e : TypeId) (i : TypeInfo) (z : Value) (bytes : Nat) (ht : P.underlying t = some (.slice e)) (hi : P.info? e = some i) (hz : i.zero = some z)
    (hsize : i.size = E.size) (hby : i.bytes = bytes) (hzs : z.cells.size = E.size)
    (v : Value) (n : Nat) (xs : List Value) (hs : a.eval s = v) (hown : w.ownsRow base e E.size v n xs)
    (ys : List α) {D : Nat → Prop} {vx : Value} (hx : a.eval x = vx) (hr : E.slice.R w D ys [vx])
    (h63 : n + ys.length ≤ 1000000000) (hbytes : (n + ys.length) * bytes ≤ 140737488355328) (hbase : base ≤ w.heap.size)
    (h : ∀ v' w', w'.ownsRow base e E.size v' (n + ys.length) (xs ++ ys.flatMap enc) → w.grownBy w' v.ownBlock → wpList P ops Q rest (a.put o.dst v') w') : wpList P ops Q (o :: rest) a w := by
  obtain ⟨A, c, rfl, hm, hc⟩ := slice_inv hr
  cases A with
  | none =>
    obtain ⟨rfl, h0⟩ := slice_none hr
    refine wpList_plain hgd fun K hK => ?_
    have hrun := run_append_owned_none' (P := P) (w := w) base t o.type e i E.size ht hi v n xs c hown
    unfold Oper.wp
    simp [execOp, ho, resolve, invoke, builtin, hs, hx, hrun, Result.andThen]
    exact hK _ _ (h v w (by simpa using hown) (only_refl _ _))
  | some ad =>
    refine wpList_append_own w hgd s x t ho base e i z E.size bytes ht hi hz hsize hby hzs hF.pos v n xs hs hown ad ys.length c (ys.flatMap enc) hx (flat_length hF ys) ?_ (flat_one hF ys) (by unfold maxLen; omega) hbytes hbase fun v' w' h1 h2 _ => h v' w' h1 h2
    by_cases hp : 0 < ys.length
    · obtain ⟨A', c', e1, h1, h2, h3⟩ := id hr
      injection e1 with e1 _
      injection e1 with e1 _ _
      subst e1
      obtain ⟨b, off, es, e2, -⟩ := h3 0 hp
      injection e2 with e2
      subst e2
      exact flat_cells hF hr
    · have : ys = [] := List.eq_nil_of_length_eq_zero (by omega)
      subst this
      intro j u hu
      cases hu
/-- the run of 'append(own, xs...)', nil or not. -/
theorem run_append_flat {α : Type} {E : Rep α} {enc : α → List Value} (hF : Flat E enc) {P : Program} {w : World} (t ty : TypeId)
    (base : Nat) (e : TypeId) (i : TypeInfo) (z : Value) (bytes : Nat) (ht : P.underlying t = some (.slice e)) (hi : P.info? e = some i) (hz : i.zero = some z)
    (hsize : i.size = E.size) (hby : i.bytes = bytes) (hzs : z.cells.size = E.size)
    (v : Value) (n : Nat) (xs : List Value) (hown : w.ownsRow base e E.size v n xs)
    (ys : List α) {D : Nat → Prop} {vx : Value} (hr : E.slice.R w D ys [vx])
    (h63 : n + ys.length ≤ 1000000000) (hbytes : (n + ys.length) * bytes ≤ 140737488355328) (hbase : base ≤ w.heap.size) :
    ∃ v' w', (Builtin.append_ #[t, t] ty #[v, vx]).run P w = .ok v' w' ∧ w'.ownsRow base e E.size v' (n + ys.length) (xs ++ ys.flatMap enc) ∧ w.grownBy w' v.ownBlock := by
  obtain ⟨A, c, rfl, hm, hc⟩ := slice_inv hr
  cases A with
  | none =>
    obtain ⟨rfl, h0⟩ := slice_none hr
    exact ⟨v, w, run_append_owned_none' (P := P) (w := w) base t ty e i E.size ht hi v n xs c hown, by simpa using hown, only_refl _ _⟩
  | some ad =>
    obtain ⟨v', w', h1, h2, h3, -⟩ := run_append_own (P := P) w base t ty e i z E.size bytes ht hi hz hsize hby hzs hF.pos v n xs hown ad ys.length c (ys.flatMap enc) (flat_length hF ys) (by
      by_cases hp : 0 < ys.length
      · obtain ⟨A', c', e1, h1, h2, h3⟩ := id hr
        injection e1 with e1 _
        injection e1 with e1 _ _
        subst e1
        obtain ⟨b, off, es, e2, -⟩ := h3 0 hp
        injection e2 with e2
        subst e2
        exact flat_cells hF hr
      · have : ys = [] := List.eq_nil_of_length_eq_zero (by omega)
        subst this
        intro j u hu
        cases hu) (flat_one hF ys) (by unfold maxLen; omega) hbytes hbase
    exact ⟨v', w', h1, h2, h3⟩
/-- at a step of a region that draws its order. -/
theorem step_append_flat {α : Type} {E : Rep α} {enc : α → List Value} (hF : Flat E enc) {P : Program} {w : World} {ops : Array Oper} {o : Oper} {a : Act} {K : Act → World → Prop} {Q : Exit → Act → World → Prop} {E' : Prop} (hgd : o.guard = none) (s x : Operand) (t : TypeId)
    (ho : o.op = .call { callee := .builtin .append, args := #[s, x], argTypes := #[t, t] })
    (base : Nat) (e : TypeId) (i : TypeInfo) (z : Value) (bytes : Nat) (ht : P.underlying t = some (.slice e)) (hi : P.info? e = some i) (hz : i.zero = some z)
    (hsize : i.size = E.size) (hby : i.bytes = bytes) (hzs : z.cells.size = E.size)
    (v : Value) (n : Nat) (xs : List Value) (hs : a.eval s = v) (hown : w.ownsRow base e E.size v n xs)
    (ys : List α) {D : Nat → Prop} {vx : Value} (hx : a.eval x = vx) (hr : E.slice.R w D ys [vx])
    (h63 : n + ys.length ≤ 1000000000) (hbytes : (n + ys.length) * bytes ≤ 140737488355328) (hbase : base ≤ w.heap.size)
    (h : ∀ v' w', w'.ownsRow base e E.size v' (n + ys.length) (xs ++ ys.flatMap enc) → w.grownBy w' v.ownBlock → K (a.put o.dst v') w') :
    if Region.wanted o (yielded ops a.tmps) = true then Oper.wp P o a w K Q else E' := by
  have hw : Region.wanted o (yielded ops a.tmps) = true := by simp [Region.wanted, hgd]
  rw [if_pos hw]
  obtain ⟨v', w', h1, h2, h3⟩ := run_append_flat hF (P := P) (w := w) t o.type base e i z bytes ht hi hz hsize hby hzs v n xs hown ys hr h63 hbytes hbase
  unfold Oper.wp execOp
  simp only [ho, resolve, invoke, builtin, Sem.run_bind, Sem.run_pure, Result.andThen_ok, List.map_toArray, List.map_cons, List.map_nil, hs, hx, h1]
  exact h v' w' h2 h3
end Go.Proofs.Ytcnkocnajamclaa
