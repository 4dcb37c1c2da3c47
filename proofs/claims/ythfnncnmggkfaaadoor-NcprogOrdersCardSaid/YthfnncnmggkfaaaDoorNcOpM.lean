/- Chapter 27: Run, by walking the program's text. -/
/- Chapter 07: the functions on one character, of the program and of the references, and the text's character at an offset, by walking their text. -/
/- Chapter 27: arguments of the laws, opened. -/
import Derived.Test.YthfnncnmggkfaaaDoorNcW2M
import Derived.Test.YthfnncnmggkfaaaDoorNcW5
import Derived.Test.YthfnncnmggkfaaaDoorChecked
import Derived.Test.YthfnncnmggkfaaaDoorLexPlainM
import Derived.BigQuiet
import Derived.Test.YthfnncnmggkfaaaDoorNcW1M
import Derived.Test.YthfnncnmggkfaaaDoorOpenZ
set_option linter.unusedVariables false
namespace Go.Proofs.YthfnncnmggkfaaaDoor
open Go Go.RowKit

def opV (o x y : Int) : Value :=
  if o = 1 then .iface 80 (.agg #[.int .i64 x, .int .i64 y]) else if o = 2 then .iface 72 (.agg #[])
  else if o = 3 then .iface 81 (.agg #[.int .i64 x, .int .i64 y]) else if o = 4 then .iface 73 (.agg #[]) else .nilIface
theorem op_any (o x y : Int) (w : World) : Calls Tryd.prog 32 #[.agg #[.int .i64 o, .int .i64 x, .int .i64 y]] w (Ret (opV o x y) w) := by
  unfold opV
  by_cases h1 : o = 1
  · rw [if_pos h1, h1]; exact op_move x y w
  · rw [if_neg h1]
    by_cases h2 : o = 2
    · rw [if_pos h2, h2]; exact op_pierce x y w
    · rw [if_neg h2]
      by_cases h3 : o = 3
      · rw [if_pos h3, h3]; exact op_cut x y w
      · rw [if_neg h3]
        by_cases h4 : o = 4
        · rw [if_pos h4, h4]; exact op_off x y w
        · rw [if_neg h4]; exact op_none x y w o (ieq_f h1) (ieq_f h2) (ieq_f h3) (ieq_f h4)
theorem do_any (gm k : Nat) (m : Mc) (o x y : Int) (w : World) (h : MAt gm m w) (hfit : Fit m k) (hk : k ≤ 20000) :
    Calls Tryd.prog 42 #[.pointer (some ⟨gm, 0, none⟩), opV o x y] w (DoPost gm (doF m (o, (x, y))) w) := by
  unfold opV
  by_cases h1 : o = 1
  · subst h1
    rw [if_pos rfl]
    rcases Bool.eq_false_or_eq_true (farB (x, y)) with hf | hf
    · rw [do_move_far hf]; exact nc_move_far gm k m x y w h hf
    · rcases Bool.eq_false_or_eq_true m.lit with hl | hl
      · rw [do_move_lit hf hl]; exact nc_move_lit gm k m x y w h hf hl
      · exact nc_move gm k m x y w h hf hl hfit hk
  · rw [if_neg h1]
    by_cases h2 : o = 2
    · subst h2
      rw [if_pos rfl]
      rcases Bool.eq_false_or_eq_true m.lit with hl | hl
      · rw [do_pierce_lit hl]; exact nc_pierce_lit gm k m x y w h hl
      · exact nc_pierce gm k m x y w h hl hfit hk
    · rw [if_neg h2]
      by_cases h3 : o = 3
      · subst h3
        rw [if_pos rfl]
        rcases Bool.eq_false_or_eq_true (farB (x, y)) with hf | hf
        · rw [do_cut_far hf]; exact nc_cut_far gm k m x y w h hf
        · rcases Bool.eq_false_or_eq_true m.lit with hl | hl
          · exact nc_cut gm k m x y w h hf hl hfit hk
          · rw [do_cut_off hf hl]; exact nc_cut_off gm k m x y w h hf hl
      · rw [if_neg h3]
        by_cases h4 : o = 4
        · subst h4
          rw [if_pos rfl]
          rcases Bool.eq_false_or_eq_true m.lit with hl | hl
          · obtain ⟨n, hn⟩ : ∃ n, m.ring.length = n + 1 := ⟨m.ring.length - 1, by have := hfit.rp hl; omega⟩
            by_cases hn0 : n = 0
            · exact nc_off_one gm k n m x y w h hl hfit hk hn hn0
            · obtain ⟨p, hp⟩ : ∃ p, m.ring[n]? = some p := ⟨_, List.getElem?_eq_getElem (by omega)⟩
              obtain ⟨q, hq⟩ : ∃ q, m.ring[0]? = some q := ⟨_, List.getElem?_eq_getElem (by omega)⟩
              by_cases he : p = q
              · exact nc_off_eq gm k n m x y w h hl hfit hk hn (by omega) (fun p' q' hp' hq' => by rw [hp] at hp'; rw [hq] at hq'; injection hp' with e1; injection hq' with e2; rw [← e1, ← e2]; exact he)
              · exact nc_off_ne gm k n m x y w h hl hfit hk hn (by omega) (fun p' q' hp' hq' => by rw [hp] at hp'; rw [hq] at hq'; injection hp' with e1; injection hq' with e2; rw [← e1, ← e2]; exact he)
          · rw [do_off_off hl]; exact nc_off_off gm k m x y w h hl
        · rw [if_neg h4, do_none h1 h2 h3 h4]; exact nc_do_none gm m w h
theorem run_next {m : Mc} {l : List Stp} {k : Nat} {s : Stp} (h : l[k]? = some s) (h0 : (doF m s).1 = 0) : runTo m (l.drop k) = runTo (doF m s).2 (l.drop (k + 1)) := by
  rw [drop_of h, runTo, if_neg (by simpa using h0)]
theorem run_stop {m : Mc} {l : List Stp} {k : Nat} {s : Stp} (h : l[k]? = some s) (h0 : (doF m s).1 ≠ 0) : runTo m (l.drop k) = doF m s := by
  rw [drop_of h, runTo, if_pos h0]
theorem runF_long {l : List Stp} (h : 20000 < l.length) : runF l = (Mc.start, 4) := if_pos h
theorem runF_bad {l : List Stp} (h : ¬ 20000 < l.length) (h1 : (runTo Mc.start l).1 ≠ 0) : runF l = (Mc.start, (runTo Mc.start l).1) := by unfold runF; rw [if_neg h, if_pos h1]
theorem runF_lit {l : List Stp} {m : Mc} (h : ¬ 20000 < l.length) (h1 : runTo Mc.start l = (0, m)) (h2 : m.lit = true) : runF l = (Mc.start, 14) := by unfold runF; rw [if_neg h, h1, if_neg (by simp), if_pos h2]
theorem runF_ok {l : List Stp} {m : Mc} (h : ¬ 20000 < l.length) (h1 : runTo Mc.start l = (0, m)) (h2 : m.lit = false) : runF l = (m, 0) := by unfold runF; rw [if_neg h, h1, if_neg (by simp), if_neg (by rw [h2]; decide)]
def RunPost (r : Mc × Int) (w : World) (e : Ending) (w' : World) : Prop :=
  ∃ v, e = .returned (.tuple #[.agg #[.int .i64 r.1.tr, .int .i64 r.1.bu, .int .i64 r.1.pi], v, .int .i64 r.2]) ∧ holesR.R w' (Lt w') r.1.rings [v] ∧ Below w.heap.size w w'
theorem results_cell_tmp2 {fn : Func} {p u v : Tmp} {ty : TypeId} (h : fn.results = #[.cell p ty, .tmp u, .tmp v]) (tmps : Array Value) (P : Program) (w : World) :
    (results fn tmps).run P w =
      ((asAddr (tmps.getD p undef)).run P w).andThen fun a w₁ => ((loadVar ty a).run P w₁).andThen fun x w₂ => .ok (.tuple #[x, tmps.getD u undef, tmps.getD v undef]) w₂ := by
  simp only [results, h]
  simp [Sem.run_bind, Result.andThen]
theorem results_rtt {P : Program} {fn : Func} {p u v : Tmp} {ty : TypeId} (h : fn.results = #[.cell p ty, .tmp u, .tmp v]) (tmps : Array Value) (w : World) (g : Nat) (t : TypeId) (cs : Array Value) (fr : Nat × Nat) (d : TypeDesc) {vu vv : Value}
    (hp : tmps.getD p undef = .pointer (some ⟨g, 0, none⟩)) (hu : tmps.getD u undef = vu) (hv : tmps.getD v undef = vv) (hg : w.heap[g]? = some (.cells cs t fr))
    (hd : P.underlying ty = some d) (ha : (match d with | .struct _ | .array _ _ => true | _ => false) = true) (hi : (P.info? ty).map (·.size) = some cs.size) :
    (results fn tmps).run P w = .ok (.tuple #[.agg cs, vu, vv]) w := by
  rw [results_cell_tmp2 h, hp]
  simp [asAddr, run_loadVar_row w g t ty cs fr d hg hd ha hi, Result.andThen, hu, hv]
theorem tot_size : (Tryd.prog.info? 38).map (·.size) = some 3 := by kernel_rfl
set_option maxRecDepth 100000 in
set_option maxHeartbeats 2000000 in
theorem run_any (vl : Value) (l : List Stp) (w : World) (hl : stR.slice.R w (Lt w) l [vl]) : Calls Tryd.prog 20 #[vl] w (RunPost (runF l) w) := by
  obtain ⟨A, c, rfl, hm, -⟩ := slice_inv hl
  by_cases h2 : 20000 < l.length
  · have HR := Lib.hid (runF_long h2)
    have h2' : (20000 : Int) < (l.length : Int) := by omega
    have hb := (Below.refl w.heap.size w).alloc (Nat.le_refl _) (.cells #[.int .i64 0, .int .i64 0, .int .i64 0] 38)
    have g0 := Blk.new w 38 #[.int .i64 0, .int .i64 0, .int .i64 0]
    clear h2
    go_enter Tryd.func20, Tryd.ntmps20
    go_wp2
    exact bodyPost_ret (results_rtt (p := 2) (u := 3) (v := 4) (ty := 38) (vu := .slice none 0 0) (vv := .int .i64 4) rfl _ _ w.heap.size 38 #[.int .i64 0, .int .i64 0, .int .i64 0] (0, 0) _ rfl rfl rfl g0 Tryd.underlying38 rfl tot_size) rfl (by rw [HR.out]; exact ⟨_, rfl, Rep.slice_nil _ _ _, hb⟩)
  · have h2' : ¬ (20000 : Int) < (l.length : Int) := by omega
    have HN := Lib.hid h2
    obtain ⟨GT, hGT⟩ : ∃ g, g = w.heap.size := ⟨_, rfl⟩
    obtain ⟨w0, hw0⟩ : ∃ W, W = (w.alloc (.cells #[.int .i64 0, .int .i64 0, .int .i64 0] 38)).alloc (.cells #[.int .i64 0, .int .i64 0, .int .i64 0, .int .i64 0, .int .i64 0, .bool false, .slice none 0 0, .slice none 0 0] 97) := ⟨_, rfl⟩
    have g0 := (Blk.new w 38 #[.int .i64 0, .int .i64 0, .int .i64 0]).alloc (.cells #[.int .i64 0, .int .i64 0, .int .i64 0, .int .i64 0, .int .i64 0, .bool false, .slice none 0 0, .slice none 0 0] 97)
    have m0 := Blk.new (w.alloc (.cells #[.int .i64 0, .int .i64 0, .int .i64 0] 38)) 97 #[.int .i64 0, .int .i64 0, .int .i64 0, .int .i64 0, .int .i64 0, .bool false, .slice none 0 0, .slice none 0 0]
    rw [World.size_alloc] at m0
    have hb0 := ((Below.refl w.heap.size w).alloc (Nat.le_refl _) (.cells #[.int .i64 0, .int .i64 0, .int .i64 0] 38)).alloc (by simp) (.cells #[.int .i64 0, .int .i64 0, .int .i64 0, .int .i64 0, .int .i64 0, .bool false, .slice none 0 0, .slice none 0 0] 97)
    have hsz : w0.heap.size = w.heap.size + 2 := by rw [hw0]; simp
    rw [← hw0, ← hGT] at g0 m0
    rw [← hw0] at hb0
    have hM0 : MAt (GT + 1) Mc.start w0 := ⟨.slice none 0 0, .slice none 0 0, GT + 2, m0, by omega, by omega, RingsAt.nil _ _ _, fun h => by cases h⟩
    have HW0 := Lib.hid hw0
    have HGT := Lib.hid hGT
    have hgl0 : GT < w0.heap.size := by omega
    clear hw0 hsz m0 h2 hGT
    go_enter Tryd.func20, Tryd.ntmps20
    go_wp2
    rw [← HW0.out, ← HGT.out]
    go_loopw [17] (fun iv wr => ∃ (k : Nat) (m : Mc), k ≤ l.length ∧ iv = .int .i64 k ∧ Hid (runTo Mc.start l = runTo m (l.drop k)) ∧ Hid (Fit m k) ∧ MAt (GT + 1) m wr ∧ Blk wr GT 38 #[.int .i64 0, .int .i64 0, .int .i64 0] ∧ Below w.heap.size w wr) (fun iv _ => l.length - (intOf iv).toNat)
    case atStart => exact ⟨0, Mc.start, Nat.zero_le _, rfl, by show _ = _; rw [List.drop_zero], Fit.start, hM0, g0, hb0⟩
    case round =>
      obtain ⟨k, m, hk, rfl, hrun, hfit, hM, hg, hb⟩ := hrel
      have hz := hb.size
      have hgl := hg.lt
      by_cases hlt : k < l.length
      · obtain ⟨b, off, o, x, y, rfl, hx, hbD, c0, c1, c2, -⟩ := steps_at (Rep.at_ hl hb) hlt
        have hki : (k : Int) < (l.length : Int) := by omega
        have hC := op_any o x y
        have hD := fun W hM => do_any (GT + 1) k m o x y W hM hfit.out (by have := HN.out; omega)
        obtain ⟨⟨er, m'⟩, hdo⟩ : ∃ r, doF m (o, (x, y)) = r := ⟨_, rfl⟩
        rw [hdo] at hD
        have HC := Lib.hid hC
        have HD := Lib.hid hD
        have HDO := Lib.hid hdo
        have hwA := (Below.refl wr.heap.size wr).alloc (Nat.le_refl _) (.cells #[.int .i64 o, .int .i64 x, .int .i64 y] 49)
        have hMA := hM.below hwA
        have hgA := hg.below hwA hgl
        have hbA := bstep hb hz hwA
        have hbA' := hbA
        clear hC hD hdo
        go_wp2_with fail
        refine (HC.out _).mono ?_
        rintro e w1 ⟨rfl, hq⟩
        have hM1 := hMA.below hq
        have hg1 := hgA.below hq hgA.lt
        have hb1 := bstep hbA hbA.size hq
        clear hMA hgA hbA hwA hq c0 c1 c2
        go_wp2_with fail
        refine (HD.out _ hM1).mono ?_
        rintro e w2 ⟨rfl, hM2, hq2⟩
        have hg2 : Blk w2 GT 38 #[.int .i64 0, .int .i64 0, .int .i64 0] := hg1.below hq2 (Nat.lt_succ_self _)
        have hb2 : Below w.heap.size w w2 := hb1.trans (hq2.mono (by have := HGT.out; omega))
        clear hM1 hg1 hb1 hq2 hbA' hM hg hb
        by_cases he : er = 0
        · subst he
          have HF : Hid (Fit m' (k + 1)) := by have h := hfit.out.do (o, (x, y)); rw [HDO.out] at h; exact h
          have HR : Hid (runTo Mc.start l = runTo m' (l.drop (k + 1))) := by
            show _ = _
            rw [hrun.out, run_next hx.out (by rw [HDO.out]), HDO.out]
          go_wp2
          go_roundw
          case rel => exact ⟨k + 1, m', by omega, by go_num, HR.out, HF.out, hM2, hg2, hb2⟩
          case measure => simp [intOf]; omega
        · have hne : (er != 0) = true := ine_t he
          have HR : Hid (runF l = (Mc.start, er)) := by
            show _ = _
            have h := hrun.out.trans (run_stop hx.out (by rw [HDO.out]; exact he))
            rw [HDO.out] at h
            rw [runF_bad HN.out (by rw [h]; exact he), h]
          have j0 := hg2.cell 0
          have j1 := hg2.cell 1
          have j2 := hg2.cell 2
          have f0 := hg2.free 0
          have f1 := hg2.free 1
          have f2 := hg2.free 2
          go_wp2
          have hg3 := ((hg2.set_ 0 (.int .i64 0)).set_ 1 (.int .i64 0)).set_ 2 (.int .i64 0)
          have hb3 := ((hb2.setCell (p := ⟨GT, 0, none⟩) (by rw [HGT.out]; exact Nat.le_refl _) (.int .i64 0)).setCell (p := ⟨GT, 1, none⟩) (by rw [HGT.out]; exact Nat.le_refl _) (.int .i64 0)).setCell (p := ⟨GT, 2, none⟩) (by rw [HGT.out]; exact Nat.le_refl _) (.int .i64 0)
          exact bodyPost_ret (results_rtt (p := 2) (u := 3) (v := 4) (ty := 38) (vu := .slice none 0 0) (vv := .int .i64 er) rfl _ _ GT 38 #[.int .i64 0, .int .i64 0, .int .i64 0] (0, 0) _ rfl rfl rfl hg3 Tryd.underlying38 rfl tot_size) rfl (by rw [HR.out]; exact ⟨_, rfl, Rep.slice_nil _ _ _, hb3⟩)
      · have hkl : k = l.length := by omega
        have hki : ¬ (k : Int) < (l.length : Int) := by omega
        have hfin : runTo Mc.start l = (0, m) := by rw [hrun.out, hkl, List.drop_length, runTo]
        obtain ⟨rv, rsv, base, hB, hp1, hp2, hRi, -⟩ := hM.ex
        have HRI := Lib.hid hRi
        have e5 : wr.cell? ⟨GT + 1, 5, none⟩ = some (.bool m.lit) := hB.cell 5
        have j0 := hg.cell 0
        have j1 := hg.cell 1
        have j2 := hg.cell 2
        have f0 := hg.free 0
        have f1 := hg.free 1
        have f2 := hg.free 2
        clear hkl
        rcases Bool.eq_false_or_eq_true m.lit with hli | hli
        · rw [hli] at e5
          have HR := Lib.hid (runF_lit HN.out hfin hli)
          clear hfin hli
          go_wp2
          have hg3 := ((hg.set_ 0 (.int .i64 0)).set_ 1 (.int .i64 0)).set_ 2 (.int .i64 0)
          have hb3 := ((hb.setCell (p := ⟨GT, 0, none⟩) (by rw [HGT.out]; exact Nat.le_refl _) (.int .i64 0)).setCell (p := ⟨GT, 1, none⟩) (by rw [HGT.out]; exact Nat.le_refl _) (.int .i64 0)).setCell (p := ⟨GT, 2, none⟩) (by rw [HGT.out]; exact Nat.le_refl _) (.int .i64 0)
          exact bodyPost_ret (results_rtt (p := 2) (u := 3) (v := 4) (ty := 38) (vu := .slice none 0 0) (vv := .int .i64 14) rfl _ _ GT 38 #[.int .i64 0, .int .i64 0, .int .i64 0] (0, 0) _ rfl rfl rfl hg3 Tryd.underlying38 rfl tot_size) rfl (by rw [HR.out]; exact ⟨_, rfl, Rep.slice_nil _ _ _, hb3⟩)
        · rw [hli] at e5
          have HR := Lib.hid (runF_ok HN.out hfin hli)
          have e0 : wr.cell? ⟨GT + 1, 0, none⟩ = some (.int .i64 m.tr) := hB.cell 0
          have e1 : wr.cell? ⟨GT + 1, 1, none⟩ = some (.int .i64 m.bu) := hB.cell 1
          have e2 : wr.cell? ⟨GT + 1, 2, none⟩ = some (.int .i64 m.pi) := hB.cell 2
          have e7 : wr.cell? ⟨GT + 1, 7, none⟩ = some rsv := hB.cell 7
          clear hfin hli
          go_wp2
          go_region
          all_goals
            go_wp2
            have hg3 := (((hg.set_ 0 (.int .i64 m.tr)).set_ 1 (.int .i64 m.bu)).set_ 2 (.int .i64 m.pi)).drewN 1
            have hb3 := (((hb.setCell (p := ⟨GT, 0, none⟩) (by rw [HGT.out]; exact Nat.le_refl _) (.int .i64 m.tr)).setCell (p := ⟨GT, 1, none⟩) (by rw [HGT.out]; exact Nat.le_refl _) (.int .i64 m.bu)).setCell (p := ⟨GT, 2, none⟩) (by rw [HGT.out]; exact Nat.le_refl _) (.int .i64 m.pi)).drew
            have hR3 : RingsAt (GT + 1 + 1) base rsv m.rings (((wr.setCell ⟨GT, 0, none⟩ (.int .i64 m.tr)).setCell ⟨GT, 1, none⟩ (.int .i64 m.bu)).setCell ⟨GT, 2, none⟩ (.int .i64 m.pi)).drew := HRI.out.keep (fun i hi _ => heap3 wr GT 0 1 2 _ _ _ i (by omega))
            have hrep := hR3.rep (by show base ≤ (((wr.setCell ⟨GT, 0, none⟩ (.int .i64 m.tr)).setCell ⟨GT, 1, none⟩ (.int .i64 m.bu)).setCell ⟨GT, 2, none⟩ (.int .i64 m.pi)).heap.size; rw [size3]; exact hp2)
            exact bodyPost_ret (results_rtt (p := 2) (u := 3) (v := 4) (ty := 38) (vu := rsv) (vv := .int .i64 0) rfl _ _ GT 38 #[.int .i64 m.tr, .int .i64 m.bu, .int .i64 m.pi] (0, 0) _ rfl rfl rfl hg3 Tryd.underlying38 rfl tot_size) rfl (by rw [HR.out]; exact ⟨_, rfl, hrep, hb3⟩)
end Go.Proofs.YthfnncnmggkfaaaDoor

namespace Go.Proofs.YthfnncnmggkfaaaDoor
open Go Go.RowKit

theorem isLetter_any (c : UInt8) (w : World) : Calls Tryd.prog 75 #[.int .i32 (c.toNat : Int)] w fun e w' => e = .returned (.bool (lxLet c)) ∧ w = w' := by
  have hb := UInt8.toNat_lt c
  go_enter Tryd.func75, Tryd.ntmps75
  go_wp2
  all_goals
    go_ret
    exact ⟨ret_bool (by rw [Bool.eq_iff_iff]; simp [lxLet] <;> omega), by first | exact rfl | exact True.intro⟩
theorem isDigit_any (c : UInt8) (w : World) : Calls Tryd.prog 77 #[.int .i32 (c.toNat : Int)] w fun e w' => e = .returned (.bool (isDig c)) ∧ w = w' := by
  have hb := UInt8.toNat_lt c
  go_enter Tryd.func77, Tryd.ntmps77
  go_wp2
  all_goals
    go_ret
    exact ⟨ret_bool (by rw [Bool.eq_iff_iff]; simp [isDig] <;> omega), by first | exact rfl | exact True.intro⟩
theorem u8eq (c : UInt8) (k : Nat) (hk : k < 256) : (c == UInt8.ofNat k) = ((c.toNat : Int) == (k : Int)) := by
  rw [Bool.eq_iff_iff, beq_iff_eq, beq_iff_eq]
  constructor
  · rintro rfl; rw [UInt8.toNat_ofNat_of_lt' hk]
  · intro h; exact UInt8.toNat_inj.1 (by rw [UInt8.toNat_ofNat_of_lt' hk]; omega)
theorem lxBl_int (c : UInt8) : lxBl c = ((c.toNat : Int) == 32 || (c.toNat : Int) == 9 || (c.toNat : Int) == 10 || (c.toNat : Int) == 13) := by
  unfold lxBl
  rw [show (32 : UInt8) = UInt8.ofNat 32 from rfl, show (9 : UInt8) = UInt8.ofNat 9 from rfl, show (10 : UInt8) = UInt8.ofNat 10 from rfl, show (13 : UInt8) = UInt8.ofNat 13 from rfl, u8eq c 32 (by decide), u8eq c 9 (by decide), u8eq c 10 (by decide), u8eq c 13 (by decide)]
  rfl
theorem isBlank_any (c : UInt8) (w : World) : Calls Tryd.prog 73 #[.int .i32 (c.toNat : Int)] w fun e w' => e = .returned (.bool (lxBl c)) ∧ w = w' := by
  have hb := UInt8.toNat_lt c
  have he := Lib.hid (lxBl_int c)
  go_enter Tryd.func73, Tryd.ntmps73
  go_wp2
  all_goals
    go_ret
    exact ⟨ret_bool (by first | exact he.out.symm | (rw [Bool.eq_iff_iff, he.out]; simp <;> omega)), by first | exact rfl | exact True.intro⟩
theorem lxPl_int (c : UInt8) : lxPl c = (decide ((32 : Int) ≤ (c.toNat : Int)) && decide ((c.toNat : Int) ≤ 126) && !((c.toNat : Int) == 34) && !((c.toNat : Int) == 92)) := by
  unfold lxPl
  rw [bne, bne, show (34 : UInt8) = UInt8.ofNat 34 from rfl, show (92 : UInt8) = UInt8.ofNat 92 from rfl, u8eq c 34 (by decide), u8eq c 92 (by decide)]
  rw [Bool.eq_iff_iff]; simp <;> omega
theorem plain_any (c : UInt8) (w : World) : Calls Tryd.prog 92 #[.int .i32 (c.toNat : Int)] w fun e w' => e = .returned (.bool (lxPl c)) ∧ w = w' := by
  have hb := UInt8.toNat_lt c
  have he := Lib.hid (lxPl_int c)
  go_enter Tryd.func92, Tryd.ntmps92
  go_wp2
  all_goals
    go_ret
    exact ⟨ret_bool (by first | exact he.out.symm | (rw [Bool.eq_iff_iff, he.out]; simp <;> omega)), by first | exact rfl | exact True.intro⟩
theorem refLetter_any (c : UInt8) (w : World) : Calls Tryd.prog 83 #[.int .u8 (c.toNat : Int)] w fun e w' => e = .returned (.bool (lxLet c)) ∧ w = w' := by
  have hb := UInt8.toNat_lt c
  go_enter Tryd.func83, Tryd.ntmps83
  go_wp2
  all_goals
    go_ret
    exact ⟨ret_bool (by rw [Bool.eq_iff_iff]; simp [lxLet] <;> omega), by first | exact rfl | exact True.intro⟩
theorem refDigit_any (c : UInt8) (w : World) : Calls Tryd.prog 86 #[.int .u8 (c.toNat : Int)] w fun e w' => e = .returned (.bool (isDig c)) ∧ w = w' := by
  have hb := UInt8.toNat_lt c
  go_enter Tryd.func86, Tryd.ntmps86
  go_wp2
  all_goals
    go_ret
    exact ⟨ret_bool (by rw [Bool.eq_iff_iff]; simp [isDig] <;> omega), by first | exact rfl | exact True.intro⟩
theorem r4Letter_any (c : UInt8) (w : World) : Calls Tryd.prog 98 #[.int .u8 (c.toNat : Int)] w fun e w' => e = .returned (.bool (lxLet c)) ∧ w = w' := by
  have hb := UInt8.toNat_lt c
  go_enter Tryd.func98, Tryd.ntmps98
  go_wp2
  all_goals
    go_ret
    exact ⟨ret_bool (by rw [Bool.eq_iff_iff]; simp [lxLet] <;> omega), by first | exact rfl | exact True.intro⟩
theorem r4Digit_any (c : UInt8) (w : World) : Calls Tryd.prog 99 #[.int .u8 (c.toNat : Int)] w fun e w' => e = .returned (.bool (isDig c)) ∧ w = w' := by
  have hb := UInt8.toNat_lt c
  go_enter Tryd.func99, Tryd.ntmps99
  go_wp2
  all_goals
    go_ret
    exact ⟨ret_bool (by rw [Bool.eq_iff_iff]; simp [isDig] <;> omega), by first | exact rfl | exact True.intro⟩
/-- the character at an offset. -/
theorem at_lt (s : ByteArray) (k : Nat) (c : UInt8) (w : World) (_ : s.size ≤ 9223372036854775807) (hc : s.data.toList[k]? = some c) :
    Calls Tryd.prog 74 #[.string s, .int .i64 (k : Int)] w fun e w' => e = .returned (.int .i32 (c.toNat : Int)) ∧ w = w' := by
  have hlt : k < s.size := by have := lt_of_get hc; simpa using this
  have hk : s[k] = c := by
    rw [List.getElem?_eq_getElem (by simpa using hlt)] at hc
    injection hc
  have hb := UInt8.toNat_lt c
  clear hc
  go_enter Tryd.func74, Tryd.ntmps74
  go_wp2
  go_ret
  exact ⟨rfl, by first | exact rfl | exact True.intro⟩
theorem at_end (s : ByteArray) (k : Nat) (w : World) (hs : s.size ≤ k) (_ : k ≤ 9223372036854775807) :
    Calls Tryd.prog 74 #[.string s, .int .i64 (k : Int)] w fun e w' => e = .returned (.int .i32 0) ∧ w = w' := by
  go_enter Tryd.func74, Tryd.ntmps74
  go_wp2
  go_ret
  exact ⟨rfl, by first | exact rfl | exact True.intro⟩
end Go.Proofs.YthfnncnmggkfaaaDoor

namespace Go.Proofs.YthfnncnmggkfaaaDoor
open Go Go.RowKit Go.ChangeShapes

theorem nc_opens_i : Opens Tryd.prog 3 Rep.int := opens_int Tryd.underlying3
theorem nc_opens_pt : Opens Tryd.prog 47 prR := opens_struct Tryd.underlying47 (tot := 2) (by kernel_rfl) (opensF_cons rfl (by kernel_rfl) nc_opens_i (opensF_last rfl (by kernel_rfl) nc_opens_i))
theorem nc_opens_pts : Opens Tryd.prog 54 ptsR := opens_slice Tryd.underlying54 (by kernel_rfl) (by decide) nc_opens_pt
theorem nc_opens_holes : Opens Tryd.prog 39 holesR := opens_slice Tryd.underlying39 (by kernel_rfl) (by decide) nc_opens_pts
theorem nc_opens_shape : Opens Tryd.prog 60 shR := opens_struct Tryd.underlying60 (tot := 2) (by kernel_rfl) (opensF_cons rfl (by kernel_rfl) nc_opens_pts (opensF_last rfl (by kernel_rfl) nc_opens_holes))
theorem nc_opens_shapes : Opens Tryd.prog 22 shpsR := opens_slice Tryd.underlying22 (by kernel_rfl) (by decide) nc_opens_shape
theorem nc_opens_ct : Opens Tryd.prog 57 prR := opens_struct Tryd.underlying57 (tot := 2) (by kernel_rfl) (opensF_cons rfl (by kernel_rfl) nc_opens_i (opensF_last rfl (by kernel_rfl) nc_opens_i))
theorem nc_opens_cts : Opens Tryd.prog 23 prR.slice := opens_slice Tryd.underlying23 (by kernel_rfl) (by decide) nc_opens_ct
theorem nc_opens_step : Opens Tryd.prog 49 stR := opens_struct Tryd.underlying49 (tot := 3) (by kernel_rfl) (opensF_cons rfl (by kernel_rfl) nc_opens_i (opensF_last rfl (by kernel_rfl) nc_opens_pt))
theorem nc_opens_steps : Opens Tryd.prog 26 stR.slice := opens_slice Tryd.underlying26 (by kernel_rfl) (by decide) nc_opens_step
theorem opensZ_nshapes : OpensZ Tryd.prog 22 shpsR (fun _ => True) := opensZ_of nc_opens_shapes
theorem opensZ_ncts : OpensZ Tryd.prog 23 prR.slice (fun _ => True) := opensZ_of nc_opens_cts
theorem opensZ_steps : OpensZ Tryd.prog 26 stR.slice (fun _ => True) := opensZ_of nc_opens_steps
theorem opensZ_ni : OpensZ Tryd.prog 3 Rep.int (fun _ => True) := opensZ_of nc_opens_i
def StrN (s : ByteArray) : Prop := s.size ≤ 140737488351232
theorem opensZ_ns : OpensZ Tryd.prog 9 Rep.str StrN := opensZ_str Tryd.underlying9
end Go.Proofs.YthfnncnmggkfaaaDoor
