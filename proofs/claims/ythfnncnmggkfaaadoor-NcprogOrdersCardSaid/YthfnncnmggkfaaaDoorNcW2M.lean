/- Chapter 27: how a torch that has executed steps lies in memory. -/
/- Chapter 27: a step that a torch refuses, by walking the program's text. -/
import Derived.Test.YthfnncnmggkfaaaDoorNcW1M
import Derived.Test.YthfnncnmggkfaaaDoorTorRgM
namespace Go.Proofs.YthfnncnmggkfaaaDoor
open Go Go.RowKit

theorem own_keep {w w' : World} {base size n : Nat} {e : TypeId} {v : Value} {xs : List Value} (h : w.ownsRow base e size v n xs) (hk : ∀ g, v.ownBlock = some g → w'.heap[g]? = w.heap[g]?) : w'.ownsRow base e size v n xs := by
  refine ⟨h.1, ?_⟩
  rcases h.2 with h0 | ⟨g, cap, cur, rfl, hb', hh, r⟩
  · exact .inl h0
  · exact .inr ⟨g, cap, cur, rfl, hb', (hk g rfl).trans hh, r⟩
section
variable {w : World} {base : Nat} {e : TypeId}
theorem nc_own_form {v : Value} {xs : List Pt} (h : OwnP w base e v xs) (hp : 0 < xs.length) : ∃ g cap, v = .slice (some ⟨g, 0, none⟩) xs.length cap ∧ base ≤ g ∧ g < w.heap.size := by
  have hlt := World.ownsRow.lt h
  rcases h.2 with ⟨rfl, h0⟩ | ⟨g, cap, cur, rfl, hb, hh, -⟩
  · omega
  · exact ⟨g, cap, rfl, hb, (hlt g rfl).2⟩
variable {g cap : Nat} {xs : List Pt}
theorem nc_own_at (h : OwnP w base e (.slice (some ⟨g, 0, none⟩) xs.length cap) xs) {k : Nat} {p : Pt} (hk : xs[k]? = some p) :
    w.cell? ⟨g, k * 2, none⟩ = some (.int .i64 p.1) ∧ w.cell? ⟨g, k * 2 + 1, none⟩ = some (.int .i64 p.2) := by
  obtain ⟨hl, rfl⟩ := List.getElem?_eq_some_iff.1 hk
  have hlen : ∀ x : Pt, (prEnc x).length = 2 := fun _ => rfl
  constructor
  · rw [World.ownsRow.cellAt h _ (by omega)]
    exact flatMap_get hlen xs k hl 0 (by omega)
  · rw [World.ownsRow.cellAt h _ (by omega)]
    exact flatMap_get hlen xs k hl 1 (by omega)
end
def IsPt (w : World) (b : Nat) : Prop := ∃ cs, Blk w b 47 cs
structure RingsAt (B base : Nat) (v : Value) (rings : List (List Pt)) (w : World) : Prop where
  ex : ∃ vs : List Value, w.ownsRow B 54 1 v vs.length vs ∧ vs.length = rings.length ∧ ∀ (k : Nat) (u : Value) (r : List Pt), vs[k]? = some u → rings[k]? = some r → ptsR.R w (fun b => B ≤ b ∧ b < base ∧ IsPt w b) r [u]
  lt : ∀ g, v.ownBlock = some g → g < base
section
variable {B base base' gm : Nat} {v : Value} {rings : List (List Pt)} {w w' : World} {m : Mc}
theorem RingsAt.keep (h : RingsAt B base v rings w) (hk : ∀ i, B ≤ i → i < base → w'.heap[i]? = w.heap[i]?) : RingsAt B base v rings w' := by
  obtain ⟨vs, h1, h2, h3⟩ := h.ex
  refine ⟨⟨vs, own_keep h1 (fun g hg => hk g (World.ownsRow.lt h1 g hg).1 (h.lt g hg)), h2, fun k u r hu hr => ?_⟩, h.lt⟩
  refine Rep.mono _ (D := fun b => B ≤ b ∧ b < base ∧ IsPt w b) (fun b hb => ⟨hb.1, hb.2.1, ?_⟩) (Rep.keep _ (fun i hi => hk i hi.1 hi.2.1) (h3 k u r hu hr))
  obtain ⟨cs, hc⟩ := hb.2.2
  exact ⟨cs, (hk b hb.1 hb.2.1).trans hc⟩
theorem RingsAt.up (h : RingsAt B base v rings w) (hle : base ≤ base') : RingsAt B base' v rings w := by
  obtain ⟨vs, h1, h2, h3⟩ := h.ex
  exact ⟨⟨vs, h1, h2, fun k u r hu hr => Rep.mono _ (fun b hb => ⟨hb.1, Nat.lt_of_lt_of_le hb.2.1 hle, hb.2.2⟩) (h3 k u r hu hr)⟩, fun g hg => Nat.lt_of_lt_of_le (h.lt g hg) hle⟩
theorem RingsAt.nil (B base : Nat) (w : World) : RingsAt B base (.slice none 0 0) [] w :=
  ⟨⟨[], World.ownsRow_nil _ _ _ _, rfl, fun k u r hu => by cases hu⟩, fun g hg => by cases hg⟩
/-- what was cut reads as a list of lists. -/
theorem RingsAt.rep (h : RingsAt B base v rings w) (hb : base ≤ w.heap.size) : holesR.R w (Lt w) rings [v] := by
  obtain ⟨vs, h1, h2, h3⟩ := h.ex
  rcases h1.2 with ⟨rfl, h0⟩ | ⟨g, cap, cur, rfl, hB, hh, hnc, hcm, hcs, ht⟩
  · have : rings = [] := List.eq_nil_of_length_eq_zero (by omega)
    subst this
    exact Rep.slice_nil _ _ _
  · have hg := (World.ownsRow.lt h1 g rfl).2
    refine ⟨some ⟨g, 0, none⟩, cap, by rw [h2], by omega, hcm, fun k hk => ?_⟩
    have hkv : k < vs.length := by omega
    have hu : vs[k]? = some vs[k] := List.getElem?_eq_getElem hkv
    have hr : rings[k]? = some rings[k] := List.getElem?_eq_getElem hk
    refine ⟨g, 0, [vs[k]], rfl, hg, Rep.mono _ (fun b hb' => Nat.lt_of_lt_of_le hb'.2.1 hb) (h3 k _ _ hu hr), fun j hj => ?_⟩
    have hj0 : j = 0 := by have : j < 1 := hj; omega
    subst hj0
    have hc := World.ownsRow.cellAt h1 k (by omega)
    rw [show 0 + k * ptsR.size + 0 = k by show 0 + k * 1 + 0 = k; omega, hc, hu]
    rfl
structure MAt (gm : Nat) (m : Mc) (w : World) : Prop where
  ex : ∃ (rv rsv : Value) (base : Nat), Blk w gm 97 #[.int .i64 m.tr, .int .i64 m.bu, .int .i64 m.pi, .int .i64 m.at_.1, .int .i64 m.at_.2, .bool m.lit, rv, rsv] ∧ gm < base ∧ base ≤ w.heap.size ∧ RingsAt (gm + 1) base rsv m.rings w ∧ (m.lit = true → OwnP w base 47 rv m.ring)
theorem MAt.below (h : MAt gm m w) (hb : Below w.heap.size w w') : MAt gm m w' := by
  obtain ⟨rv, rsv, base, h1, h2, h3, h4, h5⟩ := h.ex
  exact ⟨rv, rsv, base, h1.below hb h1.lt, h2, Nat.le_trans h3 hb.size, h4.keep (fun i _ hi => hb.block i (by omega)), fun hl => own_below (h5 hl) hb⟩
end
theorem mat_mk {gm : Nat} {m m' : Mc} {w w' : World} {rv rsv : Value} {base : Nat} (h2 : gm < base) (h3 : base ≤ w.heap.size) (h4 : RingsAt (gm + 1) base rsv m.rings w)
    (hB : Blk w' gm 97 #[.int .i64 m'.tr, .int .i64 m'.bu, .int .i64 m'.pi, .int .i64 m'.at_.1, .int .i64 m'.at_.2, .bool m'.lit, rv, rsv]) (hk : ∀ i, gm < i → i < w.heap.size → w'.heap[i]? = w.heap[i]?) (hs : w.heap.size ≤ w'.heap.size)
    (hr : m'.rings = m.rings) (hl : m'.lit = true → OwnP w base 47 rv m'.ring) : MAt gm m' w' :=
  ⟨rv, rsv, base, hB, h2, Nat.le_trans h3 hs, by rw [hr]; exact h4.keep (fun i hi hib => hk i (by omega) (by omega)), fun h => own_keep (hl h) (fun g hg => hk g (by have := (World.ownsRow.lt (hl h) g hg).1; omega) (World.ownsRow.lt (hl h) g hg).2)⟩
theorem heap3 (w : World) (g a b c : Nat) (x y z : Value) (i : Nat) (h : i ≠ g) : (((w.setCell ⟨g, a, none⟩ x).setCell ⟨g, b, none⟩ y).setCell ⟨g, c, none⟩ z).heap[i]? = w.heap[i]? :=
  (Below.heap_setCell _ ⟨g, c, none⟩ z i h).trans ((Below.heap_setCell _ ⟨g, b, none⟩ y i h).trans (Below.heap_setCell w ⟨g, a, none⟩ x i h))
theorem size3 (w : World) (g a b c : Nat) (x y z : Value) : (((w.setCell ⟨g, a, none⟩ x).setCell ⟨g, b, none⟩ y).setCell ⟨g, c, none⟩ z).heap.size = w.heap.size := by simp [World.setCell]
theorem as_move (v : Value) (w : World) : (Instr.typeAssert (.iface 80 v) 69 80 true).run Tryd.prog w = .ok (.tuple #[v, .bool true]) w := by kernel_rfl
theorem as_move_pierce (v : Value) (w : World) : (Instr.typeAssert (.iface 80 v) 69 72 true).run Tryd.prog w = .ok (.tuple #[.agg #[], .bool false]) w := by kernel_rfl
theorem as_move_cut (v : Value) (w : World) : (Instr.typeAssert (.iface 80 v) 69 81 true).run Tryd.prog w = .ok (.tuple #[.agg #[.int .i64 0, .int .i64 0], .bool false]) w := by kernel_rfl
theorem as_move_off (v : Value) (w : World) : (Instr.typeAssert (.iface 80 v) 69 73 true).run Tryd.prog w = .ok (.tuple #[.agg #[], .bool false]) w := by kernel_rfl
theorem as_pierce_move (v : Value) (w : World) : (Instr.typeAssert (.iface 72 v) 69 80 true).run Tryd.prog w = .ok (.tuple #[.agg #[.int .i64 0, .int .i64 0], .bool false]) w := by kernel_rfl
theorem as_pierce (v : Value) (w : World) : (Instr.typeAssert (.iface 72 v) 69 72 true).run Tryd.prog w = .ok (.tuple #[v, .bool true]) w := by kernel_rfl
theorem as_pierce_cut (v : Value) (w : World) : (Instr.typeAssert (.iface 72 v) 69 81 true).run Tryd.prog w = .ok (.tuple #[.agg #[.int .i64 0, .int .i64 0], .bool false]) w := by kernel_rfl
theorem as_pierce_off (v : Value) (w : World) : (Instr.typeAssert (.iface 72 v) 69 73 true).run Tryd.prog w = .ok (.tuple #[.agg #[], .bool false]) w := by kernel_rfl
theorem as_cut_move (v : Value) (w : World) : (Instr.typeAssert (.iface 81 v) 69 80 true).run Tryd.prog w = .ok (.tuple #[.agg #[.int .i64 0, .int .i64 0], .bool false]) w := by kernel_rfl
theorem as_cut_pierce (v : Value) (w : World) : (Instr.typeAssert (.iface 81 v) 69 72 true).run Tryd.prog w = .ok (.tuple #[.agg #[], .bool false]) w := by kernel_rfl
theorem as_cut (v : Value) (w : World) : (Instr.typeAssert (.iface 81 v) 69 81 true).run Tryd.prog w = .ok (.tuple #[v, .bool true]) w := by kernel_rfl
theorem as_cut_off (v : Value) (w : World) : (Instr.typeAssert (.iface 81 v) 69 73 true).run Tryd.prog w = .ok (.tuple #[.agg #[], .bool false]) w := by kernel_rfl
theorem as_off_move (v : Value) (w : World) : (Instr.typeAssert (.iface 73 v) 69 80 true).run Tryd.prog w = .ok (.tuple #[.agg #[.int .i64 0, .int .i64 0], .bool false]) w := by kernel_rfl
theorem as_off_pierce (v : Value) (w : World) : (Instr.typeAssert (.iface 73 v) 69 72 true).run Tryd.prog w = .ok (.tuple #[.agg #[], .bool false]) w := by kernel_rfl
theorem as_off_cut (v : Value) (w : World) : (Instr.typeAssert (.iface 73 v) 69 81 true).run Tryd.prog w = .ok (.tuple #[.agg #[.int .i64 0, .int .i64 0], .bool false]) w := by kernel_rfl
theorem as_off (v : Value) (w : World) : (Instr.typeAssert (.iface 73 v) 69 73 true).run Tryd.prog w = .ok (.tuple #[v, .bool true]) w := by kernel_rfl
theorem step_append_cells {P : Program} {w : World} {ops : Array Oper} {o : Oper} {a : Act} {K : Act → World → Prop} {Q : Exit → Act → World → Prop} {E' : Prop} (hgd : o.guard = none) (s x : Operand) (t : TypeId)
    (ho : o.op = .call { callee := .builtin .append, args := #[s, x], argTypes := #[t, t] })
    (base : Nat) (e : TypeId) (i : TypeInfo) (z : Value) (size bytes : Nat) (ht : P.underlying t = some (.slice e)) (hi : P.info? e = some i) (hz : i.zero = some z)
    (hsize : i.size = size) (hby : i.bytes = bytes) (hzs : z.cells.size = size) (hpos : 0 < size)
    (v : Value) (n : Nat) (xs : List Value) (hs : a.eval s = v) (hown : w.ownsRow base e size v n xs)
    (ad : Addr) (m c : Nat) (news : List Value) (hx : a.eval x = .slice (some ad) m c) (hl : news.length = m * size) (hnews : ∀ j u, news[j]? = some u → w.cell? (ad.add j) = some u) (h1 : ∀ u ∈ news, u.oneCell' = true)
    (h63 : n + m ≤ maxLen) (hbytes : (n + m) * bytes ≤ 140737488355328) (hbase : base ≤ w.heap.size)
    (h : ∀ v' w', w'.ownsRow base e size v' (n + m) (xs ++ news) → w.grownBy w' v.ownBlock → K (a.put o.dst v') w') :
    if Region.wanted o (yielded ops a.tmps) = true then Oper.wp P o a w K Q else E' := by
  have hw : Region.wanted o (yielded ops a.tmps) = true := by simp [Region.wanted, hgd]
  rw [if_pos hw]
  obtain ⟨v', w', h1', h2, h3, -⟩ := run_append_own (P := P) w base t o.type e i z size bytes ht hi hz hsize hby hzs hpos v n xs hown ad m c news hl hnews h1 h63 hbytes hbase
  unfold Oper.wp execOp
  simp only [ho, resolve, invoke, builtin, Sem.run_bind, Sem.run_pure, Result.andThen_ok, List.map_toArray, List.map_cons, List.map_nil, hs, hx, h1']
  exact h v' w' h2 h3
/-- a slice cut out of a row that is owned. -/
theorem own_cut {w : World} {base g cap n : Nat} {e : TypeId} {L : Nat} {xs : List Pt} (h : OwnP w base e (.slice (some ⟨g, 0, none⟩) L cap) xs) (hR : ∀ x ∈ xs, inI64 x.1 ∧ inI64 x.2) (hn : n ≤ xs.length) :
    ptsR.R w (fun b => b = g) (xs.take n) [.slice (some ⟨g, 0, none⟩) n n] := by
  have h1 := Rep.slice_take (own_prs h hR) hn
  obtain ⟨A, c, e1, l1, l2, h3⟩ := h1
  injection e1 with e1 _
  injection e1 with e2 e3 e4
  subst e2
  have hl : (xs.take n).length = n := by rw [List.length_take]; omega
  have hm : n ≤ maxLen := by omega
  refine ⟨some ⟨g, 0, none⟩, n, by rw [hl], by rw [hl]; exact Nat.le_refl _, hm, fun k hk => ?_⟩
  obtain ⟨b, off, es, e5, hb, hr, hc⟩ := h3 k hk
  have e6 := e5
  injection e6 with e6
  injection e6 with e7 _ _
  exact ⟨b, off, es, e5, e7.symm, hr, hc⟩
theorem nc_pts_info : (Tryd.prog.info? 54).map (fun i => (i.zero, i.size, i.bytes)) = some (some (.slice none 0 0), 1, 24) := by kernel_rfl
theorem nc_pt_under : Tryd.prog.underlying 47 = some (.struct (Tryd.prog.fieldsOf 47)) := by kernel_rfl
theorem nc_pt_held : Tryd.prog.stoodInHeld 47 = false := by kernel_rfl
theorem nc_pt_guard : Tryd.prog.eqGuardType Tryd.prog.depth 47 = false := by kernel_rfl
theorem nc_pt_eql (x y x' y' : Int) (w : World) : (binOp .eql 47 (.agg #[.int .i64 x, .int .i64 y]) (.agg #[.int .i64 x', .int .i64 y'])).run Tryd.prog w = .ok (.bool (x == x' && y == y')) w := by
  have u3 := Tryd.underlying3
  have a3 := Tryd.isAgg3
  have z3 := Tryd.sizeOf3
  rw [run_eql_struct, show (10000 : Nat) = 9999 + 1 from rfl, run_equalIn_agg w 9999 47 _ _ nc_pt_under nc_pt_held]
  simp only [Program.fieldsOf, Tryd.underlying47]
  go_simp
  by_cases h1 : x = x' <;> by_cases h2 : y = y' <;> simp [h1, h2]
theorem nc_pt_eqg (op : BinOp) (p q : Operand) (xs ys : Array Value) (w : World) : (eqGuard op 47 p q (.agg xs) (.agg ys)).run Tryd.prog w = .ok () w := run_eqGuard_agg w op _ p q xs ys nc_pt_guard
/-- one contour more. -/
theorem RingsAt.snoc {B base base' : Nat} {v v' u : Value} {vs : List Value} {rings : List (List Pt)} {r : List Pt} {w w' : World} (_h1 : w.ownsRow B 54 1 v vs.length vs) (h2 : vs.length = rings.length)
    (h3 : ∀ (k : Nat) (u : Value) (r : List Pt), vs[k]? = some u → rings[k]? = some r → ptsR.R w (fun b => B ≤ b ∧ b < base ∧ IsPt w b) r [u])
    (hown : w'.ownsRow B 54 1 v' (vs.length + 1) (vs ++ [u])) (hk : ∀ i, B ≤ i → i < base → IsPt w i → w'.heap[i]? = w.heap[i]?) (hle : base ≤ base') (hlt : ∀ g, v'.ownBlock = some g → g < base')
    (hu : ptsR.R w' (fun b => B ≤ b ∧ b < base' ∧ IsPt w' b) r [u]) : RingsAt B base' v' (rings ++ [r]) w' := by
  refine ⟨⟨vs ++ [u], by rw [List.length_append]; exact hown, by rw [List.length_append, List.length_append, h2]; rfl, fun k u' r' hu' hr' => ?_⟩, hlt⟩
  by_cases hkl : k < vs.length
  · rw [List.getElem?_append_left hkl] at hu'
    rw [List.getElem?_append_left (by omega)] at hr'
    refine Rep.mono _ (D := fun b => B ≤ b ∧ b < base ∧ IsPt w b) (fun b hb => ⟨hb.1, Nat.lt_of_lt_of_le hb.2.1 hle, ?_⟩) (Rep.keep _ (fun i hi => hk i hi.1 hi.2.1 hi.2.2) (h3 k u' r' hu' hr'))
    obtain ⟨cs, hc⟩ := hb.2.2
    exact ⟨cs, (hk b hb.1 hb.2.1 hb.2.2).trans hc⟩
  · have hk0 : k = vs.length := by
      have := lt_of_get hu'
      rw [List.length_append] at this
      simp at this
      omega
    subst hk0
    rw [List.getElem?_append_right (Nat.le_refl _), Nat.sub_self] at hu'
    rw [h2, List.getElem?_append_right (Nat.le_refl _), Nat.sub_self] at hr'
    simp at hu' hr'
    subst hu' hr'
    exact hu
theorem own_isPt {w : World} {base g L cap : Nat} {xs : List Pt} (h : OwnP w base 47 (.slice (some ⟨g, 0, none⟩) L cap) xs) : IsPt w g := by
  rcases h.2 with ⟨h0, _⟩ | ⟨g', cap', cur, h0, _, hh, _⟩
  · cases h0
  · injection h0 with h1 _ _
    injection h1 with h1
    injection h1 with h2 _ _
    subst h2
    exact ⟨cur, hh⟩
theorem row_ne {w : World} {B b n : Nat} {v : Value} {vs : List Value} (h : w.ownsRow B 54 1 v n vs) (hp : IsPt w b) : some b ≠ v.ownBlock := by
  intro e
  obtain ⟨cs, hc⟩ := hp
  rcases h.2 with ⟨rfl, _⟩ | ⟨g, cap, cur, rfl, _, hh, _⟩
  · cases e
  · have e : some b = some g := e
    injection e with e
    subst e
    have hc2 : w.heap[b]? = some (.cells cs 47 (0, 0)) := hc
    rw [hc2] at hh
    injection hh with hh
    injection hh with _ h2 _
    exact absurd h2 (by decide)
def DoPost (gm : Nat) (r : Int × Mc) (w : World) (e : Ending) (w' : World) : Prop := e = .returned (.int .i64 r.1) ∧ MAt gm r.2 w' ∧ Below gm w w'
end Go.Proofs.YthfnncnmggkfaaaDoor

set_option linter.unusedSimpArgs false
set_option linter.unusedVariables false
namespace Go.Proofs.YthfnncnmggkfaaaDoor
open Go Go.RowKit

attribute [local simp] as_move as_pierce as_cut as_off as_move_pierce as_move_cut as_move_off as_pierce_move as_pierce_cut as_pierce_off as_cut_move as_cut_pierce as_cut_off as_off_move as_off_pierce as_off_cut
set_option maxRecDepth 100000 in
set_option maxHeartbeats 2000000 in
theorem nc_do_none (gm : Nat) (m : Mc) (w : World) (h : MAt gm m w) : Calls Tryd.prog 42 #[.pointer (some ⟨gm, 0, none⟩), .nilIface] w (DoPost gm (10, m) w) := by
  go_enter Tryd.func42, Tryd.ntmps42
  go_wp2
  go_ret
  exact ⟨rfl, h, Below.refl _ _⟩
set_option maxRecDepth 100000 in
set_option maxHeartbeats 2000000 in
theorem nc_move_far (gm k : Nat) (m : Mc) (x y : Int) (w : World) (h : MAt gm m w) (hf : farB (x, y) = true)  : Calls Tryd.prog 42 #[.pointer (some ⟨gm, 0, none⟩), .iface 80 (.agg #[.int .i64 x, .int .i64 y])] w (DoPost gm (9, m) w) := by
  have hC := ncfar_any x y
  rw [hf] at hC
  have HC := Lib.hid hC
  clear hC hf
  obtain ⟨rv, rsv, base, h1, h2, h3, -⟩ := h.ex
  have hgm : gm ≤ w.heap.size := by omega
  have hgl := h1.lt
  have hgn : ¬ gm = w.heap.size := by omega
  have hb := (Below.refl w.heap.size w).alloc (Nat.le_refl _) (.cells #[.int .i64 x, .int .i64 y] 80)
  have bp := Blk.new w 80 #[.int .i64 x, .int .i64 y]
  have c0 := bp.c20
  have c1 := bp.c21
  clear h1 h2 h3
  go_enter Tryd.func42, Tryd.ntmps42
  go_wp2_with fail
  refine (HC.out _).mono ?_
  rintro e w1 ⟨rfl, hq⟩
  have hb2 := bstep hb hb.size hq
  go_wp2
  go_ret
  exact ⟨rfl, h.below hb2, hb2.mono hgm⟩
set_option maxRecDepth 100000 in
set_option maxHeartbeats 2000000 in
theorem nc_move_lit (gm k : Nat) (m : Mc) (x y : Int) (w : World) (h : MAt gm m w) (hf : farB (x, y) = false) (hl : m.lit = true) : Calls Tryd.prog 42 #[.pointer (some ⟨gm, 0, none⟩), .iface 80 (.agg #[.int .i64 x, .int .i64 y])] w (DoPost gm (14, m) w) := by
  have hC := ncfar_any x y
  rw [hf] at hC
  have HC := Lib.hid hC
  clear hC hf
  obtain ⟨rv, rsv, base, h1, h2, h3, -⟩ := h.ex
  have hgm : gm ≤ w.heap.size := by omega
  have hgl := h1.lt
  have hgn : ¬ gm = w.heap.size := by omega
  have hb := (Below.refl w.heap.size w).alloc (Nat.le_refl _) (.cells #[.int .i64 x, .int .i64 y] 80)
  have bp := Blk.new w 80 #[.int .i64 x, .int .i64 y]
  have c0 := bp.c20
  have c1 := bp.c21
  rw [hl] at h1
  have hg1 := h1.alloc (.cells #[.int .i64 x, .int .i64 y] 80)
  have c5 : (w.alloc (.cells #[.int .i64 x, .int .i64 y] 80)).cell? ⟨gm, 5, none⟩ = some (.bool true) := hg1.cell 5
  clear h1 h2 h3
  go_enter Tryd.func42, Tryd.ntmps42
  go_wp2_with fail
  refine (HC.out _).mono ?_
  rintro e w1 ⟨rfl, hq⟩
  have c5 : w1.cell? ⟨gm, 5, none⟩ = some (.bool true) := (hg1.below hq hg1.lt).cell 5
  have hb2 := bstep hb hb.size hq
  go_wp2
  go_ret
  exact ⟨rfl, h.below hb2, hb2.mono hgm⟩
set_option maxRecDepth 100000 in
set_option maxHeartbeats 2000000 in
theorem nc_pierce_lit (gm k : Nat) (m : Mc) (x y : Int) (w : World) (h : MAt gm m w) (hl : m.lit = true) : Calls Tryd.prog 42 #[.pointer (some ⟨gm, 0, none⟩), .iface 72 (.agg #[])] w (DoPost gm (14, m) w) := by
  obtain ⟨rv, rsv, base, h1, h2, h3, -⟩ := h.ex
  have hgm : gm ≤ w.heap.size := by omega
  have hgl := h1.lt
  have hgn : ¬ gm = w.heap.size := by omega
  have hb := (Below.refl w.heap.size w).alloc (Nat.le_refl _) (.cells #[] 72)
  rw [hl] at h1
  have hg1 := h1.alloc (.cells #[] 72)
  have c5 : (w.alloc (.cells #[] 72)).cell? ⟨gm, 5, none⟩ = some (.bool true) := hg1.cell 5
  clear h1 h2 h3
  go_enter Tryd.func42, Tryd.ntmps42
  have hb2 := hb
  go_wp2
  go_ret
  exact ⟨rfl, h.below hb2, hb2.mono hgm⟩
set_option maxRecDepth 100000 in
set_option maxHeartbeats 2000000 in
theorem nc_cut_far (gm k : Nat) (m : Mc) (x y : Int) (w : World) (h : MAt gm m w) (hf : farB (x, y) = true)  : Calls Tryd.prog 42 #[.pointer (some ⟨gm, 0, none⟩), .iface 81 (.agg #[.int .i64 x, .int .i64 y])] w (DoPost gm (9, m) w) := by
  have hC := ncfar_any x y
  rw [hf] at hC
  have HC := Lib.hid hC
  clear hC hf
  obtain ⟨rv, rsv, base, h1, h2, h3, -⟩ := h.ex
  have hgm : gm ≤ w.heap.size := by omega
  have hgl := h1.lt
  have hgn : ¬ gm = w.heap.size := by omega
  have hb := (Below.refl w.heap.size w).alloc (Nat.le_refl _) (.cells #[.int .i64 x, .int .i64 y] 81)
  have bp := Blk.new w 81 #[.int .i64 x, .int .i64 y]
  have c0 := bp.c20
  have c1 := bp.c21
  clear h1 h2 h3
  go_enter Tryd.func42, Tryd.ntmps42
  go_wp2_with fail
  refine (HC.out _).mono ?_
  rintro e w1 ⟨rfl, hq⟩
  have hb2 := bstep hb hb.size hq
  go_wp2
  go_ret
  exact ⟨rfl, h.below hb2, hb2.mono hgm⟩
set_option maxRecDepth 100000 in
set_option maxHeartbeats 2000000 in
theorem nc_cut_off (gm k : Nat) (m : Mc) (x y : Int) (w : World) (h : MAt gm m w) (hf : farB (x, y) = false) (hl : m.lit = false) : Calls Tryd.prog 42 #[.pointer (some ⟨gm, 0, none⟩), .iface 81 (.agg #[.int .i64 x, .int .i64 y])] w (DoPost gm (14, m) w) := by
  have hC := ncfar_any x y
  rw [hf] at hC
  have HC := Lib.hid hC
  clear hC hf
  obtain ⟨rv, rsv, base, h1, h2, h3, -⟩ := h.ex
  have hgm : gm ≤ w.heap.size := by omega
  have hgl := h1.lt
  have hgn : ¬ gm = w.heap.size := by omega
  have hb := (Below.refl w.heap.size w).alloc (Nat.le_refl _) (.cells #[.int .i64 x, .int .i64 y] 81)
  have bp := Blk.new w 81 #[.int .i64 x, .int .i64 y]
  have c0 := bp.c20
  have c1 := bp.c21
  rw [hl] at h1
  have hg1 := h1.alloc (.cells #[.int .i64 x, .int .i64 y] 81)
  have c5 : (w.alloc (.cells #[.int .i64 x, .int .i64 y] 81)).cell? ⟨gm, 5, none⟩ = some (.bool false) := hg1.cell 5
  clear h1 h2 h3
  go_enter Tryd.func42, Tryd.ntmps42
  go_wp2_with fail
  refine (HC.out _).mono ?_
  rintro e w1 ⟨rfl, hq⟩
  have c5 : w1.cell? ⟨gm, 5, none⟩ = some (.bool false) := (hg1.below hq hg1.lt).cell 5
  have hb2 := bstep hb hb.size hq
  go_wp2
  go_ret
  exact ⟨rfl, h.below hb2, hb2.mono hgm⟩
set_option maxRecDepth 100000 in
set_option maxHeartbeats 2000000 in
theorem nc_off_off (gm k : Nat) (m : Mc) (x y : Int) (w : World) (h : MAt gm m w) (hl : m.lit = false) : Calls Tryd.prog 42 #[.pointer (some ⟨gm, 0, none⟩), .iface 73 (.agg #[])] w (DoPost gm (14, m) w) := by
  obtain ⟨rv, rsv, base, h1, h2, h3, -⟩ := h.ex
  have hgm : gm ≤ w.heap.size := by omega
  have hgl := h1.lt
  have hgn : ¬ gm = w.heap.size := by omega
  have hb := (Below.refl w.heap.size w).alloc (Nat.le_refl _) (.cells #[] 73)
  rw [hl] at h1
  have hg1 := h1.alloc (.cells #[] 73)
  have c5 : (w.alloc (.cells #[] 73)).cell? ⟨gm, 5, none⟩ = some (.bool false) := hg1.cell 5
  clear h1 h2 h3
  go_enter Tryd.func42, Tryd.ntmps42
  have hb2 := hb
  go_wp2
  go_ret
  exact ⟨rfl, h.below hb2, hb2.mono hgm⟩
end Go.Proofs.YthfnncnmggkfaaaDoor
