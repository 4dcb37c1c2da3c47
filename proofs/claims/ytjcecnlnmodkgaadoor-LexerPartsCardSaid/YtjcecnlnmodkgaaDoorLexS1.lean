/- Chapter 07: Same of the reference, by walking its text. -/
import Derived.Test.YtjcecnlnmodkgaaDoorLexW8
import Derived.Test.YtjcecnlnmodkgaaDoorLexLawsB
import Derived.Laws.StructEq
import Derived.Deep.QuietTactic
namespace Go.Proofs.YtjcecnlnmodkgaaDoor
open Go Go.RowKit

theorem lx_at {w : World} {D : Nat → Prop} {l : List Lx} {A : Option Addr} {n c : Nat} (h : Rep.lx.slice.R w D l [.slice A n c]) {k : Nat} (hk : k < l.length) :
    ∃ (b off : Nat) (x1 : Int) (x2 : List UInt8) (x3 x4 : Int), A = some ⟨b, off, none⟩ ∧ Hid (l[k]? = some (x1, x2, x3, x4)) ∧ D b ∧ w.cell? ⟨b, off + k * 4, none⟩ = some (.int .i64 x1) ∧ w.cell? ⟨b, off + k * 4 + 1, none⟩ = some (.string ⟨x2.toArray⟩) ∧ w.cell? ⟨b, off + k * 4 + 2, none⟩ = some (.int .i64 x3) ∧ w.cell? ⟨b, off + k * 4 + 3, none⟩ = some (.int .i64 x4) := by
  obtain ⟨A', c', e, h1, h2, h3⟩ := h
  injection e with e _
  injection e with e1 e2 e3
  subst e1
  obtain ⟨b, off, es, rfl, hb, hr, hc⟩ := h3 k hk
  have hr' : es = lxC l[k] := hr
  subst hr'
  have hg : l[k]? = some l[k] := List.getElem?_eq_getElem hk
  generalize l[k] = x at *
  obtain ⟨x1, x2, x3, x4⟩ := x
  exact ⟨b, off, x1, x2, x3, x4, rfl, hg, hb, hc 0 (by decide), hc 1 (by decide), hc 2 (by decide), hc 3 (by decide)⟩
theorem eq_lx (k : Int) (t : ByteArray) (n a a2 : Int) (W : World) :
    (binOp .eql 35 (.agg #[.int .i64 k, .string t, .int .i64 n, .int .i64 a]) (.agg #[.int .i64 k, .string t, .int .i64 n, .int .i64 a2])).run Tryd.prog W = .ok (.bool (a == a2)) W := by
  have hs := Tryd.underlying35
  have hfs : Tryd.prog.underlying 35 = some (.struct (Tryd.prog.fieldsOf 35)) := by kernel_rfl
  rw [run_eql_struct, run_equalIn_agg W 9999 _ _ _ hfs (by kernel_rfl)]
  unfold Program.fieldsOf
  rw [hs]
  simp [Op.eqFields, go_sem, Tryd.underlying3, Tryd.underlying9]
  by_cases h : a = a2 <;> simp [h]
theorem neq_lx (k : Int) (t : ByteArray) (n a a2 : Int) (W : World) :
    (binOp .neq 35 (.agg #[.int .i64 k, .string t, .int .i64 n, .int .i64 a]) (.agg #[.int .i64 k, .string t, .int .i64 n, .int .i64 a2])).run Tryd.prog W = .ok (.bool (!(a == a2))) W := by
  have hs := Tryd.underlying35
  have hfs : Tryd.prog.underlying 35 = some (.struct (Tryd.prog.fieldsOf 35)) := by kernel_rfl
  rw [run_neq_struct, run_equalIn_agg W 9999 _ _ _ hfs (by kernel_rfl)]
  unfold Program.fieldsOf
  rw [hs]
  simp [Op.eqFields, go_sem, Tryd.underlying3, Tryd.underlying9]
  by_cases h : a = a2 <;> simp [h]
def SamePost (la lb : List Lx) (w : World) (e : Ending) (w' : World) : Prop := ∃ b, e = .returned (.tuple #[.bool b, .bool true]) ∧ (la = lb → b = true) ∧ Qt w w'
set_option maxRecDepth 100000 in
set_option maxHeartbeats 4000000 in
theorem same_any (va vb : Value) (la lb : List Lx) (w : World) (ha : Rep.lx.slice.R w (Lt w) la [va]) (hb : Rep.lx.slice.R w (Lt w) lb [vb]) (hst : la.map strip = lb.map strip) :
    Calls Tryd.prog 14 #[va, vb] w (SamePost la lb w) := by
  have hlen : lb.length = la.length := by have := congrArg List.length hst; simpa using this.symm
  obtain ⟨Aa, ca, rfl, hma, -⟩ := slice_inv ha
  obtain ⟨Ab, cb, rfl, hmb, -⟩ := slice_inv hb
  have HST := Lib.hid hst
  have HL := Lib.hid hlen
  rw [hlen] at hb
  rw [hlen]
  clear hst hlen
  go_enter Tryd.func14, Tryd.ntmps14
  go_wp2_with fail
  go_loopw [6, 7, 8] (fun x y i wr => ∃ (k : Nat) (b : Bool), k ≤ la.length ∧ i = .int .i64 k ∧ x = .bool b ∧ y = .bool true ∧ Hid (la = lb → b = true) ∧ Qt w wr) (fun _ _ i _ => la.length - (intOf i).toNat)
  case atStart => exact ⟨0, true, by omega, rfl, rfl, rfl, fun _ => rfl, Qt.refl _⟩
  case round =>
    obtain ⟨k, b, hk, rfl, rfl, rfl, hB, hq⟩ := hrel
    by_cases hlt : k < la.length
    · obtain ⟨ba, oa, x1, x2, x3, x4, rfl, hx, -, a0, a1, a2, a3⟩ := lx_at (hq.rep ha) hlt
      obtain ⟨bb, ob, y1, y2, y3, y4, rfl, hy, -, b0, b1, b2, b3⟩ := lx_at (hq.rep hb) (k := k) (by rw [HL.out]; exact hlt)
      have hxy : (x1, x2, x3) = (y1, y2, y3) := by
        have e1 : (la.map strip)[k]? = some (x1, x2, x3) := by rw [List.getElem?_map, hx.out]; rfl
        have e2 : (lb.map strip)[k]? = some (y1, y2, y3) := by rw [List.getElem?_map, hy.out]; rfl
        rw [HST.out, e2] at e1
        injection e1 with e1
        exact e1.symm
      injection hxy with h1 h2
      injection h2 with h2 h3
      subst h1 h2 h3
      have HB2 : Hid (la = lb → (x4 == y4) = true) := fun e => by
        have := hx.out
        rw [e, hy.out] at this
        injection this with this
        injection this with _ this
        injection this with _ this
        injection this with _ this
        simp [this]
      have q1 := beq_self_int x1
      have q3 := beq_self_int x3
      generalize hT : (⟨x2.toArray⟩ : ByteArray) = T at *
      have q2 : (T.toList == T.toList) = true := by simp
      clear hT
      have HE := fun W => eq_lx x1 T x3 x4 y4 W
      cases b
      · go_wp2_with fail
        go_quiet (fail)
        go_wp2_with fail
        go_quiet (fail)
        go_wp2_with fail
        go_roundw
        case rel => exact ⟨k + 1, false, by omega, by go_num, rfl, rfl, hB, hq.drewN _⟩
        case measure => simp [intOf] <;> omega
      · go_wp2_with fail
        go_quiet (fail)
        go_wp2_with fail
        go_quiet (fail)
        go_wp2_with fail
        go_roundw
        case rel => exact ⟨k + 1, _, by omega, by go_num, rfl, rfl, HB2, hq.drewN _⟩
        case measure => simp [intOf] <;> omega
    · obtain rfl : k = la.length := by omega
      go_wp2_with fail
      go_ret2
      exact ⟨b, rfl, hB.out, hq⟩
theorem same_eq (va vb : Value) (la : List Lx) (w : World) (ha : Rep.lx.slice.R w (Lt w) la [va]) (hb : Rep.lx.slice.R w (Lt w) la [vb]) :
    Calls Tryd.prog 14 #[va, vb] w fun e w' => e = .returned (.tuple #[.bool true, .bool true]) ∧ Qt w w' :=
  (same_any va vb la la w ha hb rfl).mono fun e w' ⟨b, h1, h2, h3⟩ => ⟨by rw [h1, h2 rfl], h3⟩
end Go.Proofs.YtjcecnlnmodkgaaDoor
