/- Chapter 13: the contours and the area of a shape, by walking the reference's text. -/
import Derived.Test.YtcnkocnajamclaaTopW9
namespace Go.Proofs.Ytcnkocnajamclaa
open Go Go.RowKit

theorem holes_cells {w : World} {D : Nat → Prop} {l : List (List Pt)} {A : Option Addr} {n c : Nat} (h : holesR.R w D l [.slice A n c]) :
    ∃ vs : List Value, vs.length = l.length ∧ (∀ (k : Nat) (u : Value) (r : List Pt), vs[k]? = some u → l[k]? = some r → ptsR.R w D r [u]) ∧ (∀ ad, A = some ad → ∀ (j : Nat) (u : Value), vs[j]? = some u → w.cell? (ad.add j) = some u) ∧ (∀ u ∈ vs, u.oneCell' = true) := by
  obtain ⟨vs, hl, hv⟩ := exists_list (α := Value) l.length (fun k u => ∃ r, l[k]? = some r ∧ ptsR.R w D r [u] ∧ (∀ ad, A = some ad → w.cell? (ad.add k) = some u) ∧ u.oneCell' = true) (fun k hk => by
    obtain ⟨b, off, p, O, no, co, rfl, hp, -, hc, -, hr, -⟩ := hole_at h hk
    refine ⟨.slice O no co, p, hp.out, hr, fun ad e => ?_, rfl⟩
    injection e with e
    subst e
    rw [addr_add]
    exact hc)
  refine ⟨vs, hl, fun k u r hu hr => ?_, fun ad e j u hu => ?_, fun u hu => ?_⟩
  · obtain ⟨hk, rfl⟩ := List.getElem?_eq_some_iff.1 hu
    obtain ⟨r', h1, h2, -⟩ := hv k hk
    rw [Option.some.inj (hr.symm.trans h1)]
    exact h2
  · obtain ⟨hk, rfl⟩ := List.getElem?_eq_some_iff.1 hu
    obtain ⟨r', -, -, h3, -⟩ := hv j hk
    exact h3 ad e
  · obtain ⟨k, hk, rfl⟩ := List.getElem_of_mem hu
    obtain ⟨r', -, -, -, h4⟩ := hv k hk
    exact h4
/-- what is owned reads as a list of lists. -/
theorem own_rows {w : World} {base : Nat} {e : TypeId} {v : Value} {vs : List Value} {D : Nat → Prop} {l : List (List Pt)} (h : w.ownsRow base e 1 v vs.length vs) (hl : vs.length = l.length) (hr : ∀ (k : Nat) (u : Value) (r : List Pt), vs[k]? = some u → l[k]? = some r → ptsR.R w D r [u]) (hD : ∀ b, D b → b < w.heap.size) : holesR.R w (Lt w) l [v] := by
  rcases h.2 with ⟨rfl, h0⟩ | ⟨g, cap, cur, rfl, hB, hh, hnc, hcm, hcs, ht⟩
  · have : l = [] := List.eq_nil_of_length_eq_zero (by omega)
    subst this
    exact Rep.slice_nil _ _ _
  · have hg := (World.ownsRow.lt h g rfl).2
    refine ⟨some ⟨g, 0, none⟩, cap, by rw [hl], by omega, hcm, fun k hk => ?_⟩
    have hkv : k < vs.length := by omega
    have hu : vs[k]? = some vs[k] := List.getElem?_eq_getElem hkv
    refine ⟨g, 0, [vs[k]], rfl, hg, Rep.mono _ hD (hr k _ _ hu (List.getElem?_eq_getElem hk)), fun j hj => ?_⟩
    have hj0 : j = 0 := by have : j < 1 := hj; omega
    subst hj0
    have hc := World.ownsRow.cellAt h k (by omega)
    rw [show 0 + k * ptsR.size + 0 = k by show 0 + k * 1 + 0 = k; omega, hc, hu]
    rfl
def RowsIs (l : List (List Pt)) (w : World) (e : Ending) (w' : World) : Prop := ∃ v, e = .returned v ∧ holesR.R w' (Lt w') l [v] ∧ Below w.heap.size w w'
theorem own_one (w : World) (e : TypeId) (u : Value) : (w.alloc (.cells #[u] e)).ownsRow w.heap.size e 1 (.slice (some ⟨w.heap.size, 0, none⟩) 1 1) 1 [u] :=
  ⟨by simp, .inr ⟨w.heap.size, 1, #[u], rfl, Nat.le_refl _, heap_alloc_new w _, Nat.le_refl _, by unfold maxLen; omega, by simp, by simp⟩⟩
theorem rows_all {w' : World} {D' : Nat → Prop} {o : List Pt} {l : List (List Pt)} {u : Value} {vs : List Value} (ho : ptsR.R w' D' o [u]) (hr : ∀ (k : Nat) (u : Value) (r : List Pt), vs[k]? = some u → l[k]? = some r → ptsR.R w' D' r [u]) : ∀ (k : Nat) (x : Value) (r : List Pt), ([u] ++ vs)[k]? = some x → (o :: l)[k]? = some r → ptsR.R w' D' r [x] := by
  intro k x r hx hr'
  cases k with
  | zero =>
    simp at hx hr'
    subst hx hr'
    exact ho
  | succ k =>
    simp at hx hr'
    exact hr k x r hx hr'
/-- the run of 'append(own, xs...)' where the cells of xs are known, nil or not. -/
theorem run_append_vals {P : Program} {w : World} (t ty : TypeId) (base : Nat) (e : TypeId) (i : TypeInfo) (z : Value) (bytes : Nat) (ht : P.underlying t = some (.slice e)) (hi : P.info? e = some i) (hz : i.zero = some z)
    (hsize : i.size = 1) (hby : i.bytes = bytes) (hzs : z.cells.size = 1) (v : Value) (n : Nat) (xs : List Value) (hown : w.ownsRow base e 1 v n xs)
    (A : Option Addr) (m c : Nat) (vs : List Value) (hl : vs.length = m) (hn : A = none → m = 0) (hc : ∀ ad, A = some ad → ∀ (j : Nat) (u : Value), vs[j]? = some u → w.cell? (ad.add j) = some u) (h1 : ∀ u ∈ vs, u.oneCell' = true)
    (h63 : n + m ≤ 1000000000) (hbytes : (n + m) * bytes ≤ 140737488355328) (hbase : base ≤ w.heap.size) :
    ∃ v' w', (Builtin.append_ #[t, t] ty #[v, .slice A m c]).run P w = .ok v' w' ∧ w'.ownsRow base e 1 v' (n + m) (xs ++ vs) ∧ w.grownBy w' v.ownBlock := by
  cases A with
  | none =>
    obtain rfl := hn rfl
    have : vs = [] := List.eq_nil_of_length_eq_zero hl
    subst this
    exact ⟨v, w, run_append_owned_none' (P := P) (w := w) base t ty e i 1 ht hi v n xs c hown, by simpa using hown, only_refl _ _⟩
  | some ad =>
    obtain ⟨v', w', h1', h2, h3, -⟩ := run_append_own (P := P) w base t ty e i z 1 bytes ht hi hz hsize hby hzs (by decide) v n xs hown ad m c vs (by omega) (hc ad rfl) h1 (by unfold maxLen; omega) hbytes hbase
    exact ⟨v', w', h1', h2, h3⟩
theorem wpList_append_run {P : Program} {w w' : World} {ops : Array Oper} {rest : List Oper} {o : Oper} {a : Act} {Q : Exit → Act → World → Prop} (hgd : o.guard = none) (s x : Operand) (t : TypeId)
    (ho : o.op = .call { callee := .builtin .append, args := #[s, x], argTypes := #[t, t] }) (v vx v' : Value) (hs : a.eval s = v) (hx : a.eval x = vx)
    (hrun : (Builtin.append_ #[t, t] o.type #[v, vx]).run P w = .ok v' w') (h : wpList P ops Q rest (a.put o.dst v') w') : wpList P ops Q (o :: rest) a w := by
  refine wpList_plain hgd fun K hK => ?_
  unfold Oper.wp
  simp [execOp, ho, resolve, invoke, builtin, hs, hx, hrun, Result.andThen]
  exact hK _ _ h
set_option maxRecDepth 100000 in
set_option maxHeartbeats 1000000 in
theorem contours13_any (O : Option Addr) (sn sc : Nat) (H : Option Addr) (nh ch : Nat) (s : Shp) (w : World) (hso : ptsR.R w (Lt w) s.1 [.slice O sn sc]) (hsh : holesR.R w (Lt w) s.2 [.slice H nh ch]) (h8 : s.2.length ≤ 8) :
    Calls Try.prog 32 #[.agg #[.slice O sn sc, .slice H nh ch]] w (RowsIs (s.1 :: s.2) w) := by
  obtain ⟨rfl, hm'⟩ := slice_len hsh
  have hw0 : Below w.heap.size w (w.alloc (.cells #[.slice O sn sc, .slice H s.2.length ch] 42)) := (Below.refl _ _).alloc (Nat.le_refl _) _
  have hw1 := hw0.alloc hw0.size (.cells #[.slice O sn sc] 39)
  have hown := own_one (w.alloc (.cells #[.slice O sn sc, .slice H s.2.length ch] 42)) 39 (.slice O sn sc)
  obtain ⟨vs, hvl, hvr, hvc, hv1⟩ := holes_cells (Rep.at_ hsh hw1)
  obtain ⟨i0, hinf, hz0, hz1, hz2⟩ := info_parts nc_pts_info
  obtain ⟨v', w', hr, hown', hg⟩ := run_append_vals (P := Try.prog) 40 40 _ 39 i0 _ 24 Try.underlying40 hinf hz0 hz1 hz2 rfl _ _ _ hown H s.2.length ch vs hvl (fun e => by subst e; exact (slice_none hsh).2) hvc hv1 (by omega) (by omega) (by simp)
  have hbw : Below w.heap.size w w' := by
    refine hw1.grown hg (by simp; omega) (fun j hj => ?_)
    have := (World.ownsRow.lt hown j hj).1
    simp at this
    omega
  have hres : Hid (holesR.R w' (Lt w') (s.1 :: s.2) [v']) := by
    refine own_rows (vs := [.slice O sn sc] ++ vs) (D := Lt w) (by simpa [hvl, Nat.add_comm] using hown') (by simp [hvl]) ?_ (fun b hb => Nat.lt_of_lt_of_le hb hbw.size)
    refine rows_all (D' := Lt w) (Rep.at_ hso hbw) (fun k u r hu hr' => ?_)
    exact Rep.keep _ (fun b hb => (hbw.block b hb).trans (hw1.block b hb).symm) (hvr k u r hu hr')
  simp only [World.size_alloc] at hr
  have HB := Lib.hid hbw
  have HR := Lib.hid hr
  clear hr hvl hvr hvc hv1 hown hown' hg hbw hw1 hw0 h8 hinf hz0 hz1 hz2
  go_enter Try.func32, Try.ntmps32
  go_wp2_with (at_builtin; refine wpList_append_run rfl _ _ 40 rfl _ _ _ rfl rfl HR.out ?_)
  go_ret
  exact ⟨_, rfl, hres.out, HB.out⟩
end Go.Proofs.Ytcnkocnajamclaa
