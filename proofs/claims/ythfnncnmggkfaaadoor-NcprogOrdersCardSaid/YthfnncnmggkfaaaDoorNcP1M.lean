/- Chapter 27: whether two programs, and two lists of contours, are equal, by walking the reference's text. -/
/- Chapter 27: a coordinate, by walking the program's text. -/
import Derived.Test.YthfnncnmggkfaaaDoorNcW2M
import Derived.Test.YthfnncnmggkfaaaDoorNcMkM
import Derived.Test.YthfnncnmggkfaaaDoorNcParM
import Derived.Test.YthfnncnmggkfaaaDoorNcNum
import Derived.Deep.RegionHeld3
namespace Go.Proofs.YthfnncnmggkfaaaDoor
open Go Go.RowKit

theorem st_under : Tryd.prog.underlying 49 = some (.struct (Tryd.prog.fieldsOf 49)) := by kernel_rfl
theorem st_held : Tryd.prog.stoodInHeld 49 = false := by kernel_rfl
theorem st_guard : Tryd.prog.eqGuardType Tryd.prog.depth 49 = false := by kernel_rfl
def stB (o x y o' x' y' : Int) : Bool := o == o' && (x == x' && y == y')
theorem stB_yes (o x y : Int) : stB o x y o x y = true := by simp [stB]
theorem stB_no {o x y o' x' y' : Int} (h : (o, (x, y)) ≠ (o', (x', y'))) : stB o x y o' x' y' = false := by
  rcases Bool.eq_false_or_eq_true (stB o x y o' x' y') with h1 | h1
  · exfalso
    apply h
    unfold stB at h1
    simp only [Bool.and_eq_true, beq_iff_eq] at h1
    rw [h1.1, h1.2.1, h1.2.2]
  · exact h1
theorem st_neq (o x y o' x' y' : Int) (w : World) : (binOp .neq 49 (.agg #[.int .i64 o, .int .i64 x, .int .i64 y]) (.agg #[.int .i64 o', .int .i64 x', .int .i64 y'])).run Tryd.prog w = .ok (.bool (!stB o x y o' x' y')) w := by
  have u3 := Tryd.underlying3
  have a3 := Tryd.isAgg3
  have z3 := Tryd.sizeOf3
  have u4 := Tryd.underlying47
  unfold stB
  rw [run_neq_struct, show (10000 : Nat) = 9999 + 1 from rfl, run_equalIn_agg w 9999 49 _ _ st_under st_held]
  simp only [Program.fieldsOf, Tryd.underlying49]
  go_simp
  by_cases h0 : o = o' <;> by_cases h1 : x = x' <;> by_cases h2 : y = y' <;> simp [h0, h1, h2]
theorem st_eqg (op : BinOp) (p q : Operand) (xs ys : Array Value) (w : World) : (eqGuard op 49 p q (.agg xs) (.agg ys)).run Tryd.prog w = .ok () w := run_eqGuard_agg w op _ p q xs ys st_guard
set_option maxHeartbeats 800000 in
theorem same27_any (vx vy : Value) (xs ys : List Stp) (w : World) (hx : stR.slice.R w (Lt w) xs [vx]) (hy : stR.slice.R w (Lt w) ys [vy]) :
    Calls Tryd.prog 15 #[vx, vy] w (Ret (.bool (decide (xs = ys))) w) := by
  obtain ⟨A, c, rfl, hm, _⟩ := slice_inv hx
  obtain ⟨B, d, rfl, hm', _⟩ := slice_inv hy
  have q1 := st_neq
  have q2 := st_eqg
  by_cases hl : xs.length = ys.length
  · have hne : ((xs.length : Int) != (ys.length : Int)) = false := by simp [hl]
    have HL := Lib.hid hl
    clear hl
    go_enter Tryd.func15, Tryd.ntmps15
    go_wp2
    clear hne
    go_loopw [5] (fun i wr => ∃ k : Nat, k ≤ xs.length ∧ i = .int .i64 k ∧ Hid (xs.take k = ys.take k) ∧ Below w.heap.size w wr) (fun i _ => xs.length - (intOf i).toNat)
    case atStart => exact ⟨0, Nat.zero_le _, rfl, rfl, Below.refl _ _⟩
    case round =>
      obtain ⟨k, hk, rfl, HT, hb⟩ := hrel
      by_cases hlt : k < xs.length
      · have hki : (k : Int) < (xs.length : Int) := by omega
        have hki' : (k : Int) < (ys.length : Int) := by have := HL.out; omega
        obtain ⟨b, off, o, p, q, rfl, hxk, -, c0, c1, c2, -⟩ := steps_at (Rep.at_ hx hb) hlt
        obtain ⟨b', off', o', p', q', rfl, hyk, -, d0, d1, d2, -⟩ := steps_at (Rep.at_ hy hb) (k := k) (by have := HL.out; omega)
        by_cases he : (o, (p, q)) = (o', (p', q'))
        · injection he with e0 e1
          injection e1 with e1 e2
          subst e0 e1 e2
          have e3 := stB_yes o p q
          go_wp2
          go_quiet (fail)
          go_wp2
          go_roundw
          case rel => exact ⟨k + 1, by omega, by go_num, take_ext HT.out hxk.out hyk.out, below_drewN hb _⟩
          case measure => simp [intOf]; omega
        · have HE := Lib.hid he
          have e3 := stB_no he
          clear he
          go_wp2
          go_quiet (fail)
          go_wp2
          go_ret
          refine ⟨?_, below_drewN hb _⟩
          have hne : ¬ xs = ys := by
            rintro rfl
            exact HE.out (by have := hxk.out.symm.trans hyk.out; injection this)
          simp [hne]
      · have hki : ¬ (k : Int) < (xs.length : Int) := by omega
        go_wp2
        go_ret
        refine ⟨?_, hb⟩
        have h1 := HT.out
        rw [List.take_of_length_le (by omega), List.take_of_length_le (by have := HL.out; omega)] at h1
        simp [h1]
  · have hne : ((xs.length : Int) != (ys.length : Int)) = true := by simp; omega
    have hxy : ¬ xs = ys := fun e => hl (by rw [e])
    go_enter Tryd.func15, Tryd.ntmps15
    go_wp2
    go_ret
    exact ⟨by simp [hxy], Below.refl _ _⟩
theorem nc_pt_neq (x y x' y' : Int) (w : World) : (binOp .neq 47 (.agg #[.int .i64 x, .int .i64 y]) (.agg #[.int .i64 x', .int .i64 y'])).run Tryd.prog w = .ok (.bool (!(x == x' && y == y'))) w := by
  have u3 := Tryd.underlying3
  have a3 := Tryd.isAgg3
  have z3 := Tryd.sizeOf3
  rw [run_neq_struct, show (10000 : Nat) = 9999 + 1 from rfl, run_equalIn_agg w 9999 47 _ _ nc_pt_under nc_pt_held]
  simp only [Program.fieldsOf, Tryd.underlying47]
  go_simp
  by_cases h1 : x = x' <;> by_cases h2 : y = y' <;> simp [h1, h2]
theorem take_ne {α : Type} {xs ys : List α} {k : Nat} {x y : α} (hx : xs[k]? = some x) (hy : ys[k]? = some y) (h : x ≠ y) : ¬ xs = ys := by
  rintro rfl
  exact h (Option.some.inj (hx.symm.trans hy))
set_option maxRecDepth 100000 in
set_option maxHeartbeats 2000000 in
theorem rings27_any (vx vy : Value) (xs ys : List (List Pt)) (w : World) (hx : holesR.R w (Lt w) xs [vx]) (hy : holesR.R w (Lt w) ys [vy]) :
    Calls Tryd.prog 22 #[vx, vy] w (Ret (.bool (decide (xs = ys))) w) := by
  obtain ⟨A, c, rfl, hm, _⟩ := slice_inv hx
  obtain ⟨B, d, rfl, hm', _⟩ := slice_inv hy
  have q1 := nc_pt_neq
  have q2 := nc_pt_eqg
  by_cases hl : xs.length = ys.length
  · have hne : ((xs.length : Int) != (ys.length : Int)) = false := by simp [hl]
    have HL := Lib.hid hl
    clear hl
    go_enter Tryd.func22, Tryd.ntmps22
    go_wp2
    clear hne
    go_loopw [5] (fun i wr => ∃ k : Nat, k ≤ xs.length ∧ i = .int .i64 k ∧ Hid (xs.take k = ys.take k) ∧ Below w.heap.size w wr) (fun i _ => xs.length - (intOf i).toNat)
    case atStart => exact ⟨0, Nat.zero_le _, rfl, rfl, Below.refl _ _⟩
    case round =>
      obtain ⟨k, hk, rfl, HT, hb⟩ := hrel
      by_cases hlt : k < xs.length
      · have hki : (k : Int) < (xs.length : Int) := by omega
        have hki' : (k : Int) < (ys.length : Int) := by have := HL.out; omega
        obtain ⟨b, off, p, O, no, co, rfl, hp, hbD, c0, hno, hpr, hno2⟩ := hole_at (Rep.at_ hx hb) hlt
        obtain ⟨b', off', q, O', no', co', rfl, hq, hbD', d0, hno', hqr, hno2'⟩ := hole_at (Rep.at_ hy hb) (k := k) (by have := HL.out; omega)
        have HLT := Lib.hid hlt
        have hpw : Hid (ptsR.R w (Lt w) p [.slice O no co]) := Rep.keep _ (fun b h => (hb.block b h).symm) hpr
        have hqw : Hid (ptsR.R w (Lt w) q [.slice O' no' co']) := Rep.keep _ (fun b h => (hb.block b h).symm) hqr
        clear hlt hpr hqr
        by_cases hle : p.length = q.length
        · have hle2 : ((no : Int) != (no' : Int)) = false := by rw [hno.out, hno'.out, hle]; simp
          have hle3 : (no != no') = false := by rw [hno.out, hno'.out, hle]; simp
          have HLE := Lib.hid hle
          have HNO := Lib.hid (And.intro hno.out hno'.out)
          have C0 : Hid (w.cell? ⟨b, off + k, none⟩ = some (.slice O no co)) := (hb.cell (p := ⟨b, off + k, none⟩) hbD).symm.trans c0
          have D0 : Hid (w.cell? ⟨b', off' + k, none⟩ = some (.slice O' no' co')) := (hb.cell (p := ⟨b', off' + k, none⟩) hbD').symm.trans d0
          have hbq := below_drewN hb
          clear hle
          go_wp2
          go_quiet (fail)
          go_wp2
          go_loopw [6] (fun jv wr => ∃ j : Nat, j ≤ no ∧ jv = .int .i64 j ∧ Hid (p.take j = q.take j) ∧ Below w.heap.size w wr) (fun jv _ => no - (intOf jv).toNat)
          case atStart => exact ⟨0, Nat.zero_le _, rfl, rfl, hbq _⟩
          case round =>
            clear hbq c0 d0 hb hle2 hle3
            obtain ⟨j, hj, rfl, HPT, hb⟩ := hrel
            have c0 := (hb.cell (p := ⟨b, off + k, none⟩) hbD).trans C0.out
            have d0 := (hb.cell (p := ⟨b', off' + k, none⟩) hbD').trans D0.out
            by_cases hlt : j < no
            · have hji : (j : Int) < (no : Int) := by omega
              have hji' : (j : Int) < (no' : Int) := by have := HLE.out; have := HNO.out; omega
              obtain ⟨r, o2, x, y, rfl, hpx, -, e0, e1⟩ := pairs_at (Rep.at_ hpw.out hb) (k := j) (by have := HNO.out; omega)
              obtain ⟨r', o2', x', y', rfl, hqx, -, f0, f1⟩ := pairs_at (Rep.at_ hqw.out hb) (k := j) (by have := HLE.out; have := HNO.out; omega)
              by_cases he : (x, y) = (x', y')
              · injection he with g0 g1
                subst g0 g1
                have e3 : (x == x && y == y) = true := by simp
                have HTX := Lib.hid (take_ext HPT.out hpx.out hqx.out)
                go_wp2
                go_quiet (fail)
                go_wp2
                go_roundw
                case rel => exact ⟨j + 1, by omega, by go_num, HTX.out, below_drewN hb _⟩
                case measure => simp [intOf]; omega
              · have HNE := Lib.hid (take_ne hp.out hq.out (fun e => take_ne hpx.out hqx.out he (by rw [e])))
                have e3 := pr_ne he
                clear he
                go_wp2
                go_quiet (fail)
                go_wp2
                go_ret
                exact ⟨by simp [HNE.out], below_drewN hb _⟩
            · have hji : ¬ (j : Int) < (no : Int) := by omega
              have HTX : Hid (xs.take (k + 1) = ys.take (k + 1)) := by
                have h1 := HPT.out
                have h2 := HNO.out
                have h3 := HLE.out
                rw [List.take_of_length_le (by omega), List.take_of_length_le (by omega)] at h1
                exact take_ext HT.out hp.out (by rw [h1]; exact hq.out)
              clear hlt
              go_wp2
              go_roundw
              case rel => exact ⟨k + 1, by have := HLT.out; omega, by go_num, HTX.out, hb⟩
              case measure => have := HLT.out; simp [intOf]; omega
        · have hle2 : ((no : Int) != (no' : Int)) = true := by rw [hno.out, hno'.out]; simp; omega
          have hle3 : (no != no') = true := by rw [hno.out, hno'.out]; simp; exact hle
          have hne : ¬ xs = ys := take_ne hp.out hq.out (fun e => hle (by rw [e]))
          have HNE := Lib.hid hne
          clear hle hne
          go_wp2
          go_quiet (fail)
          go_wp2
          go_ret
          exact ⟨by simp [HNE.out], below_drewN hb _⟩
      · have hki : ¬ (k : Int) < (xs.length : Int) := by omega
        go_wp2
        go_ret
        refine ⟨?_, hb⟩
        have h1 := HT.out
        rw [List.take_of_length_le (by omega), List.take_of_length_le (by have := HL.out; omega)] at h1
        simp [h1]
  · have hne : ((xs.length : Int) != (ys.length : Int)) = true := by simp; omega
    have hxy : ¬ xs = ys := fun e => hl (by rw [e])
    go_enter Tryd.func22, Tryd.ntmps22
    go_wp2
    go_ret
    exact ⟨by simp [hxy], Below.refl _ _⟩
end Go.Proofs.YthfnncnmggkfaaaDoor

namespace Go.Proofs.YthfnncnmggkfaaaDoor
open Go Go.RowKit

theorem nlx_at {w : World} {D : Nat → Prop} {l : List Lx} {A : Option Addr} {n c : Nat} (h : Rep.lx.slice.R w D l [.slice A n c]) {k : Nat} (hk : k < l.length) :
    ∃ (b off : Nat) (x1 : Int) (x2 : List UInt8) (x3 x4 : Int), A = some ⟨b, off, none⟩ ∧ Hid (lxAt l k = (x1, x2, x3, x4)) ∧ D b ∧ w.cell? ⟨b, off + k * 4, none⟩ = some (.int .i64 x1) ∧ w.cell? ⟨b, off + k * 4 + 1, none⟩ = some (.string ⟨x2.toArray⟩) ∧ w.cell? ⟨b, off + k * 4 + 2, none⟩ = some (.int .i64 x3) ∧ w.cell? ⟨b, off + k * 4 + 3, none⟩ = some (.int .i64 x4) := by
  obtain ⟨A', c', e, h1, h2, h3⟩ := h
  injection e with e _
  injection e with e1 e2 e3
  subst e1
  obtain ⟨b, off, es, rfl, hb, hr, hc⟩ := h3 k hk
  have hr' : es = lxC l[k] := hr
  subst hr'
  have hg : lxAt l k = l[k] := by unfold lxAt; rw [List.getD_eq_getElem?_getD, List.getElem?_eq_getElem hk]; rfl
  generalize l[k] = x at *
  obtain ⟨x1, x2, x3, x4⟩ := x
  exact ⟨b, off, x1, x2, x3, x4, rfl, hg, hb, hc 0 (by decide), hc 1 (by decide), hc 2 (by decide), hc 3 (by decide)⟩
theorem six_two {w W : World} {b b' o0 o1 o2 o3 o4 o5 : Nat} {v0 v1 v2 v3 v4 v5 : Option Value} (hb : b < w.heap.size) (hb' : b' < w.heap.size) (k0 : w.cell? ⟨b, o0, none⟩ = v0) (k1 : w.cell? ⟨b, o1, none⟩ = v1) (k2 : w.cell? ⟨b', o2, none⟩ = v2) (k3 : w.cell? ⟨b', o3, none⟩ = v3)
    (k4 : w.cell? ⟨b', o4, none⟩ = v4) (k5 : w.cell? ⟨b', o5, none⟩ = v5) (h : Below w.heap.size w W) :
    W.cell? ⟨b, o0, none⟩ = v0 ∧ W.cell? ⟨b, o1, none⟩ = v1 ∧ W.cell? ⟨b', o2, none⟩ = v2 ∧ W.cell? ⟨b', o3, none⟩ = v3 ∧ W.cell? ⟨b', o4, none⟩ = v4 ∧ W.cell? ⟨b', o5, none⟩ = v5 :=
  ⟨((bcell h).1 b o0 hb).trans k0, ((bcell h).1 b o1 hb).trans k1, ((bcell h).1 b' o2 hb').trans k2, ((bcell h).1 b' o3 hb').trans k3, ((bcell h).1 b' o4 hb').trans k4, ((bcell h).1 b' o5 hb').trans k5⟩
/-- a reader at a place of its lexemes. -/
def ParAt (gp : Nat) (L : Option Addr) (n cp i : Nat) (w : World) : Prop := Blk w gp 88 #[.slice L n cp, .int .i64 (i : Int)]
def CoPost (r : Int × Int) (gp : Nat) (L : Option Addr) (n cp i : Nat) (w : World) (e : Ending) (w' : World) : Prop :=
  e = .returned (.tuple #[.int .i64 r.1, .int .i64 r.2]) ∧ ParAt gp L n cp (if r.2 = 0 then i + 1 else i) w' ∧ w.grownBy w' (some gp)
theorem pre_yes {c : UInt8} {t : List UInt8} : Lib.hasPrefix (c :: t) [c] = true ∧ Lib.trimPrefix (c :: t) [c] = t := by
  have h : Lib.hasPrefix (c :: t) [c] = true := by unfold Lib.hasPrefix; simp [List.isPrefixOf]
  refine ⟨h, ?_⟩
  unfold Lib.trimPrefix
  rw [if_pos h]
  rfl
theorem pre_no {c : UInt8} {x : List UInt8} (h : x.head? ≠ some c) : Lib.hasPrefix x [c] = false := by
  unfold Lib.hasPrefix
  cases x with
  | nil => rfl
  | cons d t =>
    have : ¬ c = d := fun e => h (by rw [e]; rfl)
    simp [List.isPrefixOf, this]
set_option maxRecDepth 100000 in
set_option maxHeartbeats 2000000 in
theorem coord_any (c : UInt8) (gp : Nat) (L : Option Addr) (n cp : Nat) (l : List Lx) (i : Nat) (w : World) (hP : ParAt gp L n cp i w) (hl : Rep.lx.slice.R w (fun b => b < gp) l [.slice L n cp]) (hi : i < l.length) (hE : Ends l) :
    Calls Tryd.prog 82 #[.pointer (some ⟨gp, 0, none⟩), .string ⟨#[c]⟩] w (CoPost (coF c (lxAt l i)) gp L n cp i w) := by
  obtain ⟨rfl, hm⟩ := slice_len hl
  unfold ParAt at hP
  have p0 := hP.c20
  have p1 := hP.c21
  have hgp := hP.lt
  have hpf := hP.free 1
  obtain ⟨b, off, x1, x2, x3, x4, rfl, hx, hbD, c0, c1, c2, c3⟩ := nlx_at hl hi
  have hbg : b < gp := hbD
  have hbl : b < w.heap.size := by omega
  have hiI : (i : Int) < (l.length : Int) := by omega
  have HCF : Hid (coF c (lxAt l i) = coF c (x1, x2, x3, x4)) := by show _ = _; rw [hx.out]
  rw [HCF.out]
  have HP := Lib.hid hP
  have HB := Lib.hid (Blk.new w 90 #[.int .i64 x1, .string ⟨x2.toArray⟩, .int .i64 x3, .int .i64 x4])
  have HCP := Lib.hid (fun W => Tryd.strings_CutPrefix ⟨x2.toArray⟩ ⟨#[c]⟩ W)
  have HE := Lib.hid (show x1 = 1 → x2 ≠ [] ∧ x2.length ≤ 16 from fun h => by
    have := hE.name i hi (by rw [hx.out]; exact h)
    rw [hx.out] at this
    exact this)
  have HG := Lib.hid (only_alloc (only_refl w (some gp)) (.cells #[.int .i64 x1, .string ⟨x2.toArray⟩, .int .i64 x3, .int .i64 x4] 90))
  clear hP hE
  go_enter Tryd.func82, Tryd.ntmps82
  go_wp2
  go_region_held3 (fun W => W.cell? ⟨gp, 0, none⟩ = some (.slice (some ⟨b, off, none⟩) l.length cp) ∧ W.cell? ⟨gp, 1, none⟩ = some (.int .i64 (i : Int)) ∧ W.cell? ⟨b, off + i * 4, none⟩ = some (.int .i64 x1) ∧ W.cell? ⟨b, off + i * 4 + 1, none⟩ = some (.string ⟨x2.toArray⟩) ∧ W.cell? ⟨b, off + i * 4 + 2, none⟩ = some (.int .i64 x3) ∧ W.cell? ⟨b, off + i * 4 + 3, none⟩ = some (.int .i64 x4))
    (first
      | exact ⟨p0, p1, c0, c1, c2, c3⟩
      | exact six_two hgp hbl p0 p1 c0 c1 c2 c3 (by (repeat (first | exact Below.refl _ _ | refine Below.drew ?_ | refine Below.alloc ?_ (by simp <;> omega) _ | refine Below.setCell ?_ (by simp <;> omega) _))))
    (fail)
  go_wp2_with fail
  have BX : Blk (w.alloc (.cells #[.int .i64 x1, .string ⟨x2.toArray⟩, .int .i64 x3, .int .i64 x4] 90)).drew w.heap.size 90 #[.int .i64 x1, .string ⟨x2.toArray⟩, .int .i64 x3, .int .i64 x4] := HB.out
  have HP1 : ParAt gp (some ⟨b, off, none⟩) l.length cp i (w.alloc (.cells #[.int .i64 x1, .string ⟨x2.toArray⟩, .int .i64 x3, .int .i64 x4] 90)).drew := HP.out.alloc _
  have HG1 : w.grownBy (w.alloc (.cells #[.int .i64 x1, .string ⟨x2.toArray⟩, .int .i64 x3, .int .i64 x4] 90)).drew (some gp) := only_drewN HG.out 1
  refine (HCP.out _).mono ?_
  rintro e w1 ⟨rfl, hw1⟩
  rw [← hw1] at BX HP1 HG1
  have y0 := BX.c40
  have y1 := BX.c41
  have HP1 := Lib.hid HP1
  have HG1 := Lib.hid HG1
  clear hw1 BX c0 c1 c2 c3 p0 p1 hpf
  by_cases hk : x1 = 1
  · have k1 : (x1 != 1) = false := ine_f hk
    have hlen := (HE.out hk).2
    by_cases hh : x2.head? = some c
    · obtain ⟨t, rfl⟩ : ∃ t, x2 = c :: t := by
        cases x2 with
        | nil => cases hh
        | cons d t => injection hh with hh; exact ⟨t, by rw [hh]⟩
      rw [pre_yes.1, pre_yes.2]
      obtain ⟨⟨v, er⟩, hv⟩ : ∃ r, parseL t = r := ⟨_, rfl⟩
      have HV := Lib.hid hv
      have HC : Hid (coF c (x1, c :: t, x3, x4) = if er = 9 then (0, 9) else if er ≠ 0 then (0, 5) else (v, 0)) := by
        show _ = _
        unfold coF
        rw [if_pos ⟨hk, rfl⟩, show (c :: t).tail = t from rfl, hv]
      have hsz : (⟨t.toArray⟩ : ByteArray).size ≤ 1000000000 := by
        show t.toArray.size ≤ _
        rw [List.size_toArray]
        simp at hlen
        omega
      have HPS := Lib.hid (fun W => parse_any ⟨t.toArray⟩ W hsz)
      rw [show (⟨t.toArray⟩ : ByteArray).data.toList = t from rfl, hv] at HPS
      clear hk hh hv hlen hsz HV
      go_wp2_with fail
      refine (HPS.out _).mono ?_
      rintro e w2 ⟨rfl, rfl⟩
      by_cases h9 : er = 9
      · have hb9 : (er == 9) = true := ieq_t h9
        have HC2 : Hid (coF c (x1, c :: t, x3, x4) = (0, 9)) := by show _ = _; rw [HC.out, if_pos h9]
        subst h9
        go_wp2
        go_ret2
        rw [HC2.out]
        exact ⟨rfl, HP1.out, HG1.out⟩
      · have hb9 : (er == 9) = false := ieq_f h9
        by_cases h0 : er = 0
        · have hb0 : (er != 0) = false := ine_f h0
          have HC2 : Hid (coF c (x1, c :: t, x3, x4) = (v, 0)) := by show _ = _; rw [HC.out, if_neg h9, if_neg (by simp [h0])]
          have p0 := HP1.out.c20
          have p1 := HP1.out.c21
          have pf := HP1.out.free 1
          have hiw : IntKind.i64.wrap ((i : Int) + 1) = (i : Int) + 1 := IntWalk.i64_in _ (by omega)
          clear h9
          go_wp2
          go_ret2
          rw [HC2.out]
          refine ⟨rfl, ?_, only_setCell HG1.out (.inl rfl) _⟩
          have h := Blk.set_ HP1.out 1 (.int .i64 ((i : Int) + 1))
          exact h
        · have hb0 : (er != 0) = true := ine_t h0
          have HC2 : Hid (coF c (x1, c :: t, x3, x4) = (0, 5)) := by show _ = _; rw [HC.out, if_neg h9, if_pos h0]
          clear h9 h0
          go_wp2
          go_ret2
          rw [HC2.out]
          exact ⟨rfl, HP1.out, HG1.out⟩
    · have hpn := pre_no hh
      have HC2 : Hid (coF c (x1, x2, x3, x4) = (0, 5)) := by show _ = _; unfold coF; rw [if_neg (fun h => hh h.2)]
      rw [hpn]
      clear hk hh hpn hlen
      go_wp2
      go_ret2
      rw [HC2.out]
      exact ⟨rfl, HP1.out, HG1.out⟩
  · have k1 : (x1 != 1) = true := ine_t hk
    have HC2 : Hid (coF c (x1, x2, x3, x4) = (0, 5)) := by show _ = _; unfold coF; rw [if_neg (fun h => hk h.1)]
    clear hk
    go_wp2
    go_ret2
    rw [HC2.out]
    exact ⟨rfl, HP1.out, HG1.out⟩
end Go.Proofs.YthfnncnmggkfaaaDoor
