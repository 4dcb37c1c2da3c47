/- Lists of rows of integers in memory; Clone, Index, Contains of the library at integers, by walking their text. -/
import Derived.Test.YtcnkocnajamclaaCommon
import Derived.Test.YtcnkocnajamclaaAppend
import Derived.Test.YtcnkocnajamclaaChecked
import Derived.Test.YtcnkocnajamclaaKept
import Derived.Lib.SliceRun
import Derived.Deep.LoopGhost
import Derived.Deep.RegionHeld3
import Derived.Deep.DeepCutAuto
namespace Go.Proofs.Ytcnkocnajamclaa
open Go Go.RowKit

abbrev rowsR : Rep (List (List Int)) := Rep.int.slice.slice
theorem rows_at {w : World} {D : Nat → Prop} {l : List (List Int)} {A : Option Addr} {n c : Nat} (h : rowsR.R w D l [.slice A n c]) {k : Nat} (hk : k < l.length) :
    ∃ b off r R cr, A = some ⟨b, off, none⟩ ∧ Hid (l[k]? = some r) ∧ D b ∧ w.cell? ⟨b, off + k, none⟩ = some (.slice R r.length cr) ∧ Rep.int.slice.R w D r [.slice R r.length cr] ∧ r.length ≤ 9223372036854775807 := by
  obtain ⟨b, off, v, rfl, hb, hv, hc⟩ := Rep.cell1 (E := Rep.int.slice) rfl h hk
  obtain ⟨R, cr, rfl, h1, -⟩ := slice_inv hv
  exact ⟨b, off, _, R, cr, rfl, List.getElem?_eq_getElem hk, hb, hc, hv, h1⟩
theorem flSlice_ln {α : Type} {E : Rep α} {w : World} {D : Nat → Prop} {l : List α} {A : Option Addr} {n c : Nat} (h : E.slice.R w D l [.slice A n c]) : n = l.length ∧ n ≤ 9223372036854775807 := by
  obtain ⟨A', c', e, h1, -⟩ := slice_inv h
  injection e with _ e _
  exact ⟨e, by omega⟩
theorem fl_int_info : (Try.prog.info? 3).map (fun i => (i.zero, i.size, i.bytes)) = some (some (.int .i64 0), 1, 8) := by kernel_rfl
theorem fl_row_info : (Try.prog.info? 23).map (fun i => (i.zero, i.size, i.bytes)) = some (some (.slice none 0 0), 1, 24) := by kernel_rfl
theorem fl_made (w : World) : (w.alloc (.cells #[] 3)).ownsRow w.heap.size 3 1 (.slice (some ⟨w.heap.size, 0, none⟩) 0 0) 0 [] := World.ownsRow_made _ _ _ (Nat.le_refl _) (by unfold maxLen; omega) rfl
theorem flInts_D {w : World} {D D' : Nat → Prop} {xs : List Int} {A : Option Addr} {n c : Nat} (h : Rep.int.slice.R w D xs [.slice A n c]) (hA : ∀ b off, A = some ⟨b, off, none⟩ → D' b) : Rep.int.slice.R w D' xs [.slice A n c] := by
  obtain ⟨A', c', e, h1, h2, h3⟩ := h
  injection e with e _
  injection e with e1 e2 e3
  subst e1 e2 e3
  refine ⟨A, c, rfl, h1, h2, fun k hk => ?_⟩
  obtain ⟨b, off, es, e4, hb, hr, hc⟩ := h3 k hk
  exact ⟨b, off, es, e4, hA b off e4, hr, hc⟩
theorem flOwn_new {w : World} {base : Nat} {e : TypeId} {v : Value} {n : Nat} {xs : List Int} (h : w.ownsRow base e 1 v n (xs.map (Value.int .i64))) (hx : ∀ x ∈ xs, inI64 x) : Rep.int.slice.R w (fun b => base ≤ b ∧ b < w.heap.size) xs [v] := by
  have h1 := own_ints h hx
  obtain ⟨A, c, rfl, -, -⟩ := slice_inv h1
  refine flInts_D h1 (fun b off eA => ?_)
  subst eA
  exact World.ownsRow.lt h b rfl
/-- integers in a new block. -/
def flIntsPost (ts : List Int) (w : World) (e : Ending) (w' : World) : Prop := ∃ v, e = .returned v ∧ Rep.int.slice.R w' (fun b => w.heap.size ≤ b ∧ b < w'.heap.size) ts [v] ∧ Below w.heap.size w w'
set_option maxRecDepth 100000 in
set_option maxHeartbeats 800000 in
theorem flCloneInts_any (G : Option Addr) (n c : Nat) (ts : List Int) (w : World) (hG : Rep.int.slice.R w (Lt w) ts [.slice G n c]) (h3 : ts.length ≤ 1000) :
    Calls Try.prog 53 #[.slice G n c] w (flIntsPost ts w) := by
  obtain ⟨hn, hnm⟩ := flSlice_ln hG
  have q22 : ∀ (w : World) (a : Option Addr) (n c n' c' : Nat), (binOp .eql 23 (.slice a n c) (.slice none n' c')).run Try.prog w = .ok (.bool a.isNone) w := fun w a n c n' c' => Lib.run_eql_slice_nil w _ _ a n c n' c' Try.underlying23
  cases G with
  | none =>
    obtain ⟨rfl, rfl⟩ := slice_none hG
    clear hnm h3 hn
    go_enter Try.func53, Try.ntmps53
    go_wp2
    go_ret
    exact ⟨_, rfl, Rep.slice_nil _ _ _, Below.refl _ _⟩
  | some a =>
    obtain ⟨i0, hi, hz0, hz1, hz2⟩ := info_parts fl_int_info
    have hbd := ints_bd hG
    have hG1 := Rep.below hG ((Below.refl _ _).alloc (Nat.le_refl _) (.cells #[] 3))
    go_enter Try.func53, Try.ntmps53
    go_wp2_with (at_builtin; refine wpList_append_flat flat_int rfl _ _ 23 rfl w.heap.size 3 i0 (.int .i64 0) 8 Try.underlying23 hi hz0 hz1 hz2 rfl _ _ _ rfl (fl_made w) ts rfl hG1 (by omega) (by omega) (by simp) ?_; intro v1 w1 hown hg1)
    go_wp2
    go_ret
    simp only [Nat.zero_add, List.nil_append, fm_int] at hown
    exact ⟨_, rfl, flOwn_new hown hbd, ((Below.refl _ _).alloc (Nat.le_refl _) _).grown hg1 (by simp) (fun j hj => by have e : w.heap.size = j := Option.some.inj hj; omega)⟩
/-- a row of its own. -/
def flOwnPost (ts : List Int) (w : World) (e : Ending) (w' : World) : Prop := ∃ v, e = .returned v ∧ w'.ownsRow w.heap.size 3 1 v ts.length (ts.map (Value.int .i64)) ∧ Below w.heap.size w w'
set_option maxRecDepth 100000 in
set_option maxHeartbeats 800000 in
theorem flCloneOwn_any (G : Option Addr) (n c : Nat) (ts : List Int) (w : World) (hG : Rep.int.slice.R w (Lt w) ts [.slice G n c]) (h3 : ts.length ≤ 1000) :
    Calls Try.prog 53 #[.slice G n c] w (flOwnPost ts w) := by
  obtain ⟨hn, hnm⟩ := flSlice_ln hG
  have q22 : ∀ (w : World) (a : Option Addr) (n c n' c' : Nat), (binOp .eql 23 (.slice a n c) (.slice none n' c')).run Try.prog w = .ok (.bool a.isNone) w := fun w a n c n' c' => Lib.run_eql_slice_nil w _ _ a n c n' c' Try.underlying23
  cases G with
  | none =>
    obtain ⟨rfl, rfl⟩ := slice_none hG
    clear hnm h3 hn
    go_enter Try.func53, Try.ntmps53
    go_wp2
    go_ret
    exact ⟨_, rfl, World.ownsRow_nil _ _ _ _, Below.refl _ _⟩
  | some a =>
    obtain ⟨i0, hi, hz0, hz1, hz2⟩ := info_parts fl_int_info
    have hG1 := Rep.below hG ((Below.refl _ _).alloc (Nat.le_refl _) (.cells #[] 3))
    go_enter Try.func53, Try.ntmps53
    go_wp2_with (at_builtin; refine wpList_append_flat flat_int rfl _ _ 23 rfl w.heap.size 3 i0 (.int .i64 0) 8 Try.underlying23 hi hz0 hz1 hz2 rfl _ _ _ rfl (fl_made w) ts rfl hG1 (by omega) (by omega) (by simp) ?_; intro v1 w1 hown hg1)
    go_wp2
    go_ret
    simp only [Nat.zero_add, List.nil_append, fm_int] at hown
    exact ⟨_, rfl, hown, ((Below.refl _ _).alloc (Nat.le_refl _) _).grown hg1 (by simp) (fun j hj => by have e : w.heap.size = j := Option.some.inj hj; omega)⟩
/-- 'append(own, xs...)' at an operation. -/
theorem oper_append_flat {α : Type} {E : Rep α} {enc : α → List Value} (hF : Flat E enc) {P : Program} {w : World} {o : Oper} {a : Act} {K : Act → World → Prop} {Q : Exit → Act → World → Prop} (s x : Operand) (t : TypeId)
    (ho : o.op = .call { callee := .builtin .append, args := #[s, x], argTypes := #[t, t] })
    (base : Nat) (e : TypeId) (i : TypeInfo) (z : Value) (bytes : Nat) (ht : P.underlying t = some (.slice e)) (hi : P.info? e = some i) (hz : i.zero = some z)
    (hsize : i.size = E.size) (hby : i.bytes = bytes) (hzs : z.cells.size = E.size)
    (v : Value) (n : Nat) (xs : List Value) (hs : a.eval s = v) (hown : w.ownsRow base e E.size v n xs)
    (ys : List α) {D : Nat → Prop} {vx : Value} (hx : a.eval x = vx) (hr : E.slice.R w D ys [vx])
    (h63 : n + ys.length ≤ 1000000000) (hbytes : (n + ys.length) * bytes ≤ 140737488355328) (hbase : base ≤ w.heap.size)
    (h : ∀ v' w', w'.ownsRow base e E.size v' (n + ys.length) (xs ++ ys.flatMap enc) → w.grownBy w' v.ownBlock → K (a.put o.dst v') w') :
    Oper.wp P o a w K Q := by
  obtain ⟨v', w', h1, h2, h3⟩ := run_append_flat hF (P := P) (w := w) t o.type base e i z bytes ht hi hz hsize hby hzs v n xs hown ys hr h63 hbytes hbase
  unfold Oper.wp execOp
  simp only [ho, resolve, invoke, builtin, Sem.run_bind, Sem.run_pure, Result.andThen_ok, List.map_toArray, List.map_cons, List.map_nil, hs, hx, h1]
  exact h v' w' h2 h3
def flIxPost (b : Bool) (w : World) (e : Ending) (w' : World) : Prop := ∃ n : Int, e = .returned (.int .i64 n) ∧ Hid (decide (0 ≤ n) = b) ∧ w' = w
set_option maxHeartbeats 400000 in
theorem flIndexInt_any (v : Value) (l : List Int) (x : Int) (w : World) (hl : Rep.int.slice.R w (Lt w) l [v]) :
    Calls Try.prog 92 #[v, .int .i64 x] w (flIxPost (l.contains x) w) := by
  obtain ⟨A, c, rfl, hm, -⟩ := slice_inv hl
  obtain ⟨b, hb⟩ : ∃ b, b = l.contains x := ⟨_, rfl⟩
  rw [← hb]
  have HB := Lib.hid hb
  clear hb
  go_enter Try.func92, Try.ntmps92
  go_wp2
  go_loop [8] (fun i => ∃ k : Nat, k ≤ l.length ∧ i = .int .i64 k ∧ Hid (x ∉ l.take k)) (fun i => l.length - (intOf i).toNat)
  case atStart => exact ⟨0, Nat.zero_le _, rfl, by show x ∉ l.take 0; simp⟩
  case round =>
    obtain ⟨k, hk, rfl, hno⟩ := hrel
    by_cases hlt : k < l.length
    · have hki : (k : Int) < (l.length : Int) := by omega
      obtain ⟨b', off, y, rfl, hy, -, c0, -, -⟩ := ints_at hl hlt
      by_cases hxy : x = y
      · subst hxy
        have e1 : b = true := by rw [HB.out]; simp [List.mem_of_getElem? hy.out]
        subst e1
        have q := beq_self_int x
        go_wp2
        go_ret
        exact ⟨k, rfl, by show decide _ = _; simp, rfl⟩
      · have q : (x == y) = false := ieq_f hxy
        have HN : Hid (x ∉ l.take (k + 1)) := by
          show x ∉ l.take (k + 1)
          rw [take_one hy.out]
          have := hno.out
          simp [this, hxy]
        clear hxy
        go_wp2
        go_round
        case rel => exact ⟨k + 1, by omega, by go_num, HN.out⟩
        case measure => simp [intOf]; omega
    · have hki : ¬ (k : Int) < (l.length : Int) := by omega
      have e1 : b = false := by
        have := hno.out
        rw [List.take_of_length_le (by omega)] at this
        rw [HB.out]
        simpa using this
      subst e1
      go_wp2
      go_ret
      exact ⟨-1, rfl, by show decide _ = _; decide, rfl⟩
theorem flContainsInt_any (v : Value) (l : List Int) (x : Int) (w : World) (hl : Rep.int.slice.R w (Lt w) l [v]) :
    Calls Try.prog 55 #[v, .int .i64 x] w fun e w' => e = .returned (.bool (l.contains x)) ∧ w' = w := by
  have C := flIndexInt_any v l x w hl
  generalize l.contains x = b at *
  go_enter Try.func55, Try.ntmps55
  go_wp2_with fail
  refine C.mono ?_
  rintro e w1 ⟨i, rfl, hi, rfl⟩
  go_wp2
  go_ret
  exact ⟨ret_bool hi.out, rfl⟩
end Go.Proofs.Ytcnkocnajamclaa
