/- Chapter 15: Parse of the reference, by walking its text. -/
import Derived.Test.YtacbmmnipedpdaaDoorMatRa
import Derived.Test.YtacbmmnipedpdaaDoorMatP9
import Derived.Test.YtacbmmnipedpdaaDoorMatW5
import Derived.Test.YtacbmmnipedpdaaDoorLexRa
namespace Go.Proofs.YtacbmmnipedpdaaDoor
open Go Go.RowKit
set_option linter.unusedSimpArgs false

/-- where the reference's Parse stands: its reader's box and its catalog's box. -/
structure PR (w1 : World) (A : Option Addr) (n c : Nat) (k : Nat) (bd : Bool) (vg vs : Value) (W : World) : Prop where
  rd : Blk W w1.heap.size 84 #[.slice A n c, .int .i64 k, .bool bd]
  mb : Blk W (w1.heap.size + 1) 25 #[vg, vs]
  hb : Below w1.heap.size w1 W
section
variable {w1 W W' X : World} {A : Option Addr} {n c k : Nat} {bd : Bool} {vg vs : Value}
theorem PR.below (h : PR w1 A n c k bd vg vs W) (hb : Below W.heap.size W W') : PR w1 A n c k bd vg vs W' := ⟨h.rd.below hb h.rd.lt, h.mb.below hb h.mb.lt, bstep h.hb h.hb.size hb⟩
theorem PR.inc (h : PR w1 A n c k bd vg vs W) (k' : Nat) : PR w1 A n c k' bd vg vs (W.setCell ⟨w1.heap.size, 1, none⟩ (.int .i64 k')) := by
  have := h.rd.set_ 1 (.int .i64 k')
  exact ⟨by simpa using this, h.mb.far (p := ⟨w1.heap.size, 1, none⟩) (by show w1.heap.size + 1 ≠ w1.heap.size; omega) _, h.hb.setCell (p := ⟨w1.heap.size, 1, none⟩) (Nat.le_refl _) _⟩
theorem PR.setR {k' : Nat} {bd' : Bool} (h : PR w1 A n c k bd vg vs W) : PR w1 A n c k' bd' vg vs (((W.setCell ⟨w1.heap.size, 0, none⟩ (.slice A n c)).setCell ⟨w1.heap.size, 1, none⟩ (.int .i64 k')).setCell ⟨w1.heap.size, 2, none⟩ (.bool bd')) :=
  ⟨three_set h.rd, three_far h.mb (by omega), three_below h.hb (Nat.le_refl _)⟩
theorem PR.grow {base size m : Nat} {e : TypeId} {v : Value} {xs : List Value} {o : Obj} (h : PR w1 A n c k bd vg vs X) (ho : X.ownsRow base e size v m xs) (hbase : w1.heap.size + 1 < base) (h1 : 84 ≠ e) (h2 : 25 ≠ e) (hg : (X.alloc o).grownBy W v.ownBlock) : PR w1 A n c k bd vg vs W :=
  ⟨box_grown15 h.rd ho hg h1, box_grown15 h.mb ho hg h2, (h.hb.alloc h.hb.size o).grown hg (by have := h.hb.size; simp; omega) (fun j hj => by have := (World.ownsRow.lt ho j hj).1; omega)⟩
theorem PR.setM0 (h : PR w1 A n c k bd vg vs W) (v : Value) : PR w1 A n c k bd v vs (W.setCell ⟨w1.heap.size + 1, 0, none⟩ v) := by
  have := h.mb.set_ 0 v
  exact ⟨h.rd.far (p := ⟨w1.heap.size + 1, 0, none⟩) (by show w1.heap.size ≠ w1.heap.size + 1; omega) _, by simpa using this, h.hb.setCell (p := ⟨w1.heap.size + 1, 0, none⟩) (by show w1.heap.size ≤ w1.heap.size + 1; omega) _⟩
theorem PR.setM1 (h : PR w1 A n c k bd vg vs W) (v : Value) : PR w1 A n c k bd vg v (W.setCell ⟨w1.heap.size + 1, 1, none⟩ v) := by
  have := h.mb.set_ 1 v
  exact ⟨h.rd.far (p := ⟨w1.heap.size + 1, 1, none⟩) (by show w1.heap.size ≠ w1.heap.size + 1; omega) _, by simpa using this, h.hb.setCell (p := ⟨w1.heap.size + 1, 1, none⟩) (by show w1.heap.size ≤ w1.heap.size + 1; omega) _⟩
end
theorem mat_set15 {W : World} {g : Nat} {a b u v : Value} (h : Blk W g 25 #[a, b]) : Blk ((W.setCell ⟨g, 0, none⟩ u).setCell ⟨g, 1, none⟩ v) g 25 #[u, v] := by
  have := (h.set_ 0 u).set_ 1 v
  simpa using this
theorem results_ctt15 {P : Program} {fn : Func} {p q u : Tmp} {ty : TypeId} (h : fn.results = #[.cell p ty, .tmp q, .tmp u]) (tmps : Array Value) (w : World) {a : Addr} {va vq vu : Value}
    (hp : tmps.getD p undef = .pointer (some a)) (hq : tmps.getD q undef = vq) (hu : tmps.getD u undef = vu) (ha : (loadVar ty a).run P w = .ok va w) :
    (results fn tmps).run P w = .ok (.tuple #[va, vq, vu]) w := by
  have hp' : tmps[p]?.getD undef = .pointer (some a) := by simpa using hp
  have hq' : tmps[q]?.getD undef = vq := by simpa using hq
  have hu' : tmps[u]?.getD undef = vu := by simpa using hu
  simp [results, h, hp', hq', hu', asAddr, ha, Sem.run_bind, Result.andThen]
theorem load_mat {W : World} {g : Nat} {a b : Value} (h : Blk W g 25 #[a, b]) : (loadVar 25 ⟨g, 0, none⟩).run Tryd.prog W = .ok (.agg #[a, b]) W :=
  run_loadVar_row W g 25 25 #[a, b] (0, 0) _ h Tryd.underlying25 rfl mat_size2
theorem ParseP15.of {r : Mat × Int × Int} {m : Mat} {e a : Int} {w w' : World} {vg vs : Value} (h : r = (m, e, a)) (hm : matR.R w' (Lt w') m [vg, vs]) (hb : Below w.heap.size w w') : ParseP15 r w (.returned (.tuple #[.agg #[vg, vs], .int .i64 e, .int .i64 a])) w' := by
  subst h; exact ⟨vg, vs, rfl, hm, hb⟩
theorem sc_info5 : (Tryd.prog.info? 36).map (fun i => (i.zero, i.size, i.bytes)) = some (some (.agg #[.string ⟨#[]⟩, .int .i64 0, .int .i64 0, .int .i64 0]), 4, 40) := by kernel_rfl
/-- the grades and the sections so far, where the sections are being read. -/
def S2 (g B2 : Nat) (gs : List Gr) (vg vs : Value) (ss : List Sc) (W : World) : Prop := grR.slice.R W (fun b => g + 1 + 1 ≤ b ∧ b < B2) gs [vg] ∧ OwnSc B2 vs ss W ∧ B2 ≤ W.heap.size
theorem s2_below {g B2 : Nat} {gs : List Gr} {vg vs : Value} {ss : List Sc} {W W' : World} (h : S2 g B2 gs vg vs ss W) (hb : Below W.heap.size W W') : S2 g B2 gs vg vs ss W' :=
  ⟨Rep.keep _ (fun b (h1 : g + 1 + 1 ≤ b ∧ b < B2) => hb.block b (Nat.lt_of_lt_of_le h1.2 h.2.2)) h.1, ⟨own_below h.2.1.1 hb, h.2.1.2⟩, Nat.le_trans h.2.2 hb.size⟩
theorem s2_set {g B2 x i : Nat} {gs : List Gr} {vg vs u : Value} {ss : List Sc} {W : World} (h : S2 g B2 gs vg vs ss W) (hx : x < g + 1 + 1) (hB : x < B2) : S2 g B2 gs vg vs ss (W.setCell ⟨x, i, none⟩ u) :=
  ⟨Rep.keep _ (fun b (h1 : g + 1 + 1 ≤ b ∧ b < B2) => Below.heap_setCell W ⟨x, i, none⟩ u b (by show b ≠ x; omega)) h.1, ⟨own_far15 h.2.1.1 hB, h.2.1.2⟩, by simpa [World.setCell] using h.2.2⟩
theorem s2_next {g B2 : Nat} {gs : List Gr} {vg vs v2 u1 u2 u3 : Value} {ss : List Sc} {p : Sc} {X W : World} {o : Obj} (h : S2 g B2 gs vg vs ss X) (hgB : g + 1 < B2) (hf : p.1.length ≤ 9223372036854775807 ∧ inI64 p.2.1 ∧ inI64 p.2.2.1 ∧ inI64 p.2.2.2) (hg : (X.alloc o).grownBy W vs.ownBlock) (hown : W.ownsRow B2 36 4 v2 (ss.length + [p].length) (ss.flatMap scEnc ++ [p].flatMap scEnc)) :
    S2 g B2 gs vg v2 (ss ++ [p]) ((((W.setCell ⟨g + 1, 1, none⟩ v2).setCell ⟨g, 0, none⟩ u1).setCell ⟨g, 1, none⟩ u2).setCell ⟨g, 2, none⟩ u3) := by
  have hlt := World.ownsRow.lt h.2.1.1
  have hsz := hg.size
  rw [World.size_alloc] at hsz
  refine s2_set (s2_set (s2_set (s2_set ⟨Rep.keep _ (fun b (h1 : g + 1 + 1 ≤ b ∧ b < B2) => ?_) h.1, ⟨?_, fun q hq => ?_⟩, by have := h.2.2; omega⟩ (by omega) (by omega)) (by omega) (by omega)) (by omega) (by omega)) (by omega) (by omega)
  · have := h.2.2
    exact (hg.block b (by simp; omega) (fun e => by have := (hlt b e.symm).1; omega)).trans (Below.heap_alloc _ _ b (by omega))
  · rw [List.length_append, List.flatMap_append]; exact hown
  · rcases List.mem_append.1 hq with h4 | h4
    · exact h.2.1.2 q h4
    · rw [List.mem_singleton.1 h4]; exact hf
theorem s2_mat {g B2 x : Nat} {gs : List Gr} {vg vs u0 u1 : Value} {ss : List Sc} {W : World} (h : S2 g B2 gs vg vs ss W) (hx : x < g + 1 + 1) (hB : x < B2) : matR.R ((W.setCell ⟨x, 0, none⟩ u0).setCell ⟨x, 1, none⟩ u1) (Lt ((W.setCell ⟨x, 0, none⟩ u0).setCell ⟨x, 1, none⟩ u1)) (gs, ss) [vg, vs] := by
  have h2 := s2_set (i := 1) (u := u1) (s2_set (i := 0) (u := u0) h hx hB) hx hB
  exact mat_mk (Rep.mono _ (fun b hb => Nat.lt_of_lt_of_le hb.2 h2.2.2) h2.1) (ownSc_rep h2.2.1)
theorem grs_set4 {g : Nat} {v u0 u1 u2 u3 : Value} {ps : List GrV} {W : World} (h : GrsAt (g + 1 + 1) v ps W) : GrsAt (g + 1 + 1) v ps ((((W.setCell ⟨g + 1, 0, none⟩ u0).setCell ⟨g, 0, none⟩ u1).setCell ⟨g, 1, none⟩ u2).setCell ⟨g, 2, none⟩ u3) :=
  grs_keep h (by simp) (fun b h1 h2 => by
    rw [Below.heap_setCell _ _ _ _ (by show b ≠ g; omega), Below.heap_setCell _ _ _ _ (by show b ≠ g; omega), Below.heap_setCell _ _ _ _ (by show b ≠ g; omega), Below.heap_setCell _ _ _ _ (by show b ≠ g + 1; omega)])
theorem gauges_lt {L : List Lx} (hE : Ends15 L) : ∀ (f : Nat) (x : Rd) (acc : List Int), x.1 < L.length → (gaugesR L f x acc).2.1 < L.length
  | 0, x, acc, h => h
  | f + 1, x, acc, h => by
    rw [gaugesR]
    split
    · exact h
    · rename_i h2
      rw [not_or] at h2
      exact gauges_lt hE f _ _ (fit_next hE h (kd := 2) (by decide) (by simpa using h2.2))
theorem grade_lt {L : List Lx} (hE : Ends15 L) {x : Rd} (h : x.1 < L.length) : (gradeR L x).2.1 < L.length := by
  rw [gradeR_eq]
  exact take_lt hE (gauges_lt hE _ _ _ (num_lt hE (num_lt hE (num_lt hE (take_lt hE h (kd := 1) (by decide) []) _) _) _)) (kd := 4) (by decide) _
theorem sect_lt {L : List Lx} (hE : Ends15 L) {x : Rd} (h : x.1 < L.length) : (sectR L x).2.1 < L.length := by
  rw [sectR_eq]
  exact take_lt hE (num_lt hE (num_lt hE (num_lt hE (take_lt hE h (kd := 1) (by decide) []) _) _) _) (kd := 4) (by decide) _
theorem mat_nil (w : World) (D : Nat → Prop) : matR.R w D (([], []) : Mat) [.slice none 0 0, .slice none 0 0] := mat_mk (Rep.slice_nil _ _ _) (Rep.slice_nil _ _ _)
set_option maxRecDepth 100000 in
set_option maxHeartbeats 16000000 in
theorem refParse15_any (s : ByteArray) (w : World) (hz : s.size ≤ 140737488350000) : Calls Tryd.prog 25 #[.string s] w (ParseP15 (parseM s.data.toList) w) := by
  obtain ⟨⟨L, er, at_⟩, hsc⟩ : ∃ r, scanS s.data.toList = r := ⟨_, rfl⟩
  have hb0 := (Below.refl w.heap.size w).alloc (Nat.le_refl _) (.cells #[.slice none 0 0, .slice none 0 0] 25)
  have b0 := Blk.new w 25 #[.slice none 0 0, .slice none 0 0]
  have CS := Lib.hid (refScan_any s (w.alloc (.cells #[.slice none 0 0, .slice none 0 0] 25)) hz)
  obtain ⟨Pm, hPm⟩ : ∃ Pm, parseM s.data.toList = Pm := ⟨_, rfl⟩
  have HPM := Lib.hid hPm
  rw [hPm]
  have HSC := Lib.hid hsc
  have HB0 := Lib.hid (And.intro hb0 b0)
  clear hPm hb0 b0 hz
  by_cases he : er = 0
  · subst he
    obtain ⟨hlx, hD⟩ := scan_ok_of hsc
    have HE := Lib.hid (lexes_ends hlx)
    have HI := Lib.hid (lexes_nums hlx)
    have HN := Lib.hid (lexes_names hlx hD)
    have hcl := lexes_cnt hlx
    have hLL : L.length ≤ 100000 := by omega
    have hL0 : 0 < L.length := by cases hlx <;> simp
    obtain ⟨i0, hi0, hz0, hz1, hz2⟩ := info_parts gr_info
    obtain ⟨j0, hj0, hy0, hy1, hy2⟩ := info_parts sc_info5
    clear hsc hlx hD hcl
    go_enter Tryd.func25, Tryd.ntmps25
    go_wp2_with fail
    refine CS.out.mono ?_
    rintro e w1 ⟨v, rfl, hl, hb⟩
    rw [HSC.out] at hl
    rw [HSC.out]
    dsimp only at hl ⊢
    obtain ⟨A, c, rfl, -, -⟩ := slice_inv hl
    have hbw := bstep HB0.out.1 HB0.out.1.size hb
    have HBW := Lib.hid hbw
    have hbx := HB0.out.2.below hb HB0.out.2.lt
    have HBX := Lib.hid hbx
    have hwl := hbx.lt
    have HLr : Hid (LxOld w1 L (.slice A L.length c)) := hl
    have hpr : PR w1 A L.length c 0 false (.slice none 0 0) (.slice none 0 0) ((w1.alloc (.cells #[.slice A L.length c, .int .i64 0, .bool false] 84)).alloc (.cells #[.slice none 0 0, .slice none 0 0] 25)) := ⟨(Blk.new w1 _ _).alloc _, by have := Blk.new (w1.alloc (.cells #[.slice A L.length c, .int .i64 0, .bool false] 84)) 25 #[.slice none 0 0, .slice none 0 0]; simpa using this, ((Below.refl _ _).alloc (Nat.le_refl _) _).alloc (by simp) _⟩
    have HP := Lib.hid hpr
    obtain ⟨R1, hR1⟩ : ∃ R1, manyR L tGrade gradeR L.length (0, false) [] = R1 := ⟨_, rfl⟩
    have HR1 := Lib.hid hR1
    clear hpr hl hb hbw hbx CS hR1 HB0
    go_wp2_with fail
    go_loopg [] L.length (fun gh wr => ∃ (k : Nat) (bd : Bool) (vg : Value) (ps : List GrV), Hid (PR w1 A L.length c k bd vg (.slice none 0 0) wr) ∧ Hid (GrsAt (w1.heap.size + 1 + 1) vg ps wr) ∧ Hid (k < L.length ∧ L.length ≤ gh + k ∧ ps.length ≤ k ∧ manyR L tGrade gradeR gh (k, bd) (ps.map (·.1)) = R1))
    case atStart => exact ⟨0, false, _, [], HP.out, grs_nil _ _, hL0, by omega, Nat.le_refl _, HR1.out⟩
    case round =>
      clear HP
      obtain ⟨k, bd, vg, ps, HP, HG, hfu⟩ := hrel
      have hk : k < L.length := hfu.out.1
      have z0 : wr.cell? ⟨w1.heap.size, 0, none⟩ = some (.slice A L.length c) := HP.out.rd.cell 0
      have z1 : wr.cell? ⟨w1.heap.size, 1, none⟩ = some (.int .i64 k) := HP.out.rd.cell 1
      have z2 : wr.cell? ⟨w1.heap.size, 2, none⟩ = some (.bool bd) := HP.out.rd.cell 2
      cases bd with
      | true =>
        have hRR : R1 = (ps.map (·.1), (k, true)) := by rw [← hfu.out.2.2.2, many_bad]
        subst hRR
        clear hfu
        go_wp2_with fail
        clear z0 z1 z2
        obtain ⟨VG, vgc, rfl⟩ := own_form15 HG.out.1
        have hgr := grs_repD HG.out
        obtain ⟨gs, hgs⟩ : ∃ gs, gs = ps.map (·.1) := ⟨_, rfl⟩
        have hgl : gs.length = ps.length := by rw [hgs, List.length_map]
        rw [← hgs] at hgr HR1
        rw [← hgl] at HP hgr
        obtain ⟨⟨ss2, k9, b9⟩, hR2⟩ : ∃ R2, manyR L tSection sectR L.length (k, true) [] = R2 := ⟨_, rfl⟩
        have HRD : Hid (readM L = ((gs, ss2), (k9, b9))) := by show readM L = _; unfold readM; simp only [HR1.out, hR2]
        have HR2 := Lib.hid hR2
        obtain ⟨B2, hB2⟩ : ∃ B2, B2 = wr.heap.size := ⟨_, rfl⟩
        rw [← hB2] at hgr
        have hgB : w1.heap.size + 1 < B2 := by have := HP.out.mb.lt; omega
        have HGR := Lib.hid hgr
        have HB2 : Hid (B2 ≤ wr.heap.size) := Nat.le_of_eq hB2
        clear hgr hgs hR2 HG hB2 hgl HR1
        go_loopg [] L.length (fun gh wr => ∃ (k : Nat) (bd : Bool) (vs : Value) (ss : List Sc), Hid (PR w1 A L.length c k bd (.slice VG gs.length vgc) vs wr) ∧ Hid (grR.slice.R wr (fun b => w1.heap.size + 1 + 1 ≤ b ∧ b < B2) gs [.slice VG gs.length vgc] ∧ OwnSc B2 vs ss wr ∧ B2 ≤ wr.heap.size) ∧ Hid (k < L.length ∧ L.length ≤ gh + k ∧ ss.length ≤ k ∧ manyR L tSection sectR gh (k, bd) ss = (ss2, (k9, b9))))
        case atStart => exact ⟨k, true, _, [], HP.out, ⟨HGR.out, ⟨World.ownsRow_nil _ _ _ _, fun s hs => by cases hs⟩, HB2.out⟩, hk, by omega, Nat.zero_le _, HR2.out⟩
        case round =>
          clear HP HGR HB2 HR2 hk
          obtain ⟨k, bd, vs, ss, HP, HT, hfu⟩ := hrel
          have hk : k < L.length := hfu.out.1
          have z0 : wr.cell? ⟨w1.heap.size, 0, none⟩ = some (.slice A L.length c) := HP.out.rd.cell 0
          have z1 : wr.cell? ⟨w1.heap.size, 1, none⟩ = some (.int .i64 k) := HP.out.rd.cell 1
          have z2 : wr.cell? ⟨w1.heap.size, 2, none⟩ = some (.bool bd) := HP.out.rd.cell 2
          cases bd with
          | true =>
            have hRR := hfu.out.2.2.2
            rw [many_bad] at hRR
            injection hRR with e1 e2
            injection e2 with e2 e3
            subst e1 e2 e3
            clear hfu
            have hbx : Blk wr w.heap.size 25 #[.slice none 0 0, .slice none 0 0] := (HP.out.hb.block _ hwl).trans HBX.out
            have hbf := HBW.out.trans (HP.out.hb.mono (Nat.le_of_lt hwl))
            have HF := Lib.hid (And.intro hbx hbf)
            have m0 := hbx.c20
            have m1 := hbx.c21
            have mf0 := hbx.free 0
            have mf1 := hbx.free 1
            clear hbx hbf
            obtain ⟨lb, lo, y1, y2, y3, y4, rfl, hy, -, d0, d1, d2, d3⟩ := lx15_at (HLr.out.below6 HP.out.hb) hk
            have HRR : Hid (Pm = (([], []), 5, y4)) := by show _ = _; rw [← HPM.out, parse_syn HSC.out HRD.out, hy.out]
            have hkI : (k : Int) < (L.length : Int) := by omega
            clear d0 d1 d2 hy
            go_wp2
            go_region
            go_wp2
            have h2 := mat_set15 (u := .slice none 0 0) (v := .slice none 0 0) HF.out.1
            exact bodyPost_ret (results_ctt15 (p := 2) (q := 3) (u := 4) rfl _ _ rfl rfl rfl (load_mat (h2.drewN 1))) rfl (ParseP15.of HRR.out (mat_nil _ _) (below_drewN ((HF.out.2.setCell (p := ⟨w.heap.size, 0, none⟩) (Nat.le_refl _) _).setCell (p := ⟨w.heap.size, 1, none⟩) (Nat.le_refl _) _) 1))
          | false =>
            have CI := Lib.hid (refIs_any A L.length c L k false 1 tSection wr (HLr.out.below6 HP.out.hb) hk)
            obtain ⟨ft, hft⟩ : ∃ ft, fitB (lxN L k) 1 tSection = ft := ⟨_, rfl⟩
            rw [hft] at CI
            cases ft with
            | false =>
              have hRR := hfu.out.2.2.2
              rw [many_no hft] at hRR
              injection hRR with e1 e2
              injection e2 with e2 e3
              subst e1 e2 e3
              clear hfu hft
              go_wp2_with fail
              refine CI.out.mono ?_
              rintro e w2 ⟨rfl, hb⟩
              have HP := Lib.hid (HP.out.below hb)
              have HT := Lib.hid (s2_below HT.out hb)
              clear CI hb z0 z1 z2
              have z0 : w2.cell? ⟨w1.heap.size, 0, none⟩ = some (.slice A L.length c) := HP.out.rd.cell 0
              have z1 : w2.cell? ⟨w1.heap.size, 1, none⟩ = some (.int .i64 k) := HP.out.rd.cell 1
              have z2 : w2.cell? ⟨w1.heap.size, 2, none⟩ = some (.bool false) := HP.out.rd.cell 2
              have C0 := Lib.hid (refIs_any A L.length c L k false 0 [] w2 (HLr.out.below6 HP.out.hb) hk)
              obtain ⟨f0, hf0⟩ : ∃ f0, fitB (lxN L k) 0 [] = f0 := ⟨_, rfl⟩
              rw [hf0] at C0
              go_wp2_with fail
              cases f0 with
              | false =>
                refine C0.out.mono ?_
                rintro e w3 ⟨rfl, hb⟩
                have HP := Lib.hid (HP.out.below hb)
                clear C0 hb z0 z1 z2
                have z0 : w3.cell? ⟨w1.heap.size, 0, none⟩ = some (.slice A L.length c) := HP.out.rd.cell 0
                have z1 : w3.cell? ⟨w1.heap.size, 1, none⟩ = some (.int .i64 k) := HP.out.rd.cell 1
                have z2 : w3.cell? ⟨w1.heap.size, 2, none⟩ = some (.bool false) := HP.out.rd.cell 2
                have hbx : Blk w3 w.heap.size 25 #[.slice none 0 0, .slice none 0 0] := (HP.out.hb.block _ hwl).trans HBX.out
                have hbf := HBW.out.trans (HP.out.hb.mono (Nat.le_of_lt hwl))
                have HF := Lib.hid (And.intro hbx hbf)
                have m0 := hbx.c20
                have m1 := hbx.c21
                have mf0 := hbx.free 0
                have mf1 := hbx.free 1
                clear hbx hbf
                obtain ⟨lb, lo, y1, y2, y3, y4, rfl, hy, -, d0, d1, d2, d3⟩ := lx15_at (HLr.out.below6 HP.out.hb) hk
                have HRR : Hid (Pm = (([], []), 5, y4)) := by show _ = _; rw [← HPM.out, parse_syn2 HSC.out HRD.out hf0, hy.out]
                have hkI : (k : Int) < (L.length : Int) := by omega
                clear d0 d1 d2 hy
                go_wp2
                go_region
                go_wp2
                have h2 := mat_set15 (u := .slice none 0 0) (v := .slice none 0 0) HF.out.1
                exact bodyPost_ret (results_ctt15 (p := 2) (q := 3) (u := 4) rfl _ _ rfl rfl rfl (load_mat (h2.drewN 1))) rfl (ParseP15.of HRR.out (mat_nil _ _) (below_drewN ((HF.out.2.setCell (p := ⟨w.heap.size, 0, none⟩) (Nat.le_refl _) _).setCell (p := ⟨w.heap.size, 1, none⟩) (Nat.le_refl _) _) 1))
              | true =>
                refine C0.out.mono ?_
                rintro e w3 ⟨rfl, hb⟩
                have HP := Lib.hid (HP.out.below hb)
                have HT := Lib.hid (s2_below HT.out hb)
                clear C0 hb z0 z1 z2
                obtain ⟨VS, vsc, rfl⟩ := own_form15 HT.out.2.1.1
                have n0 : w3.cell? ⟨w1.heap.size + 1, 0, none⟩ = some (.slice VG gs.length vgc) := HP.out.mb.cell 0
                have n1 : w3.cell? ⟨w1.heap.size + 1, 1, none⟩ = some (.slice VS ss.length vsc) := HP.out.mb.cell 1
                go_wp2_with fail
                refine (refCheck15_any _ _ _ _ _ _ (gs, ss) _ (Rep.mono _ (fun b hb => Nat.lt_of_lt_of_le hb.2 HT.out.2.2) HT.out.1) (ownSc_rep HT.out.2.1)).mono ?_
                rintro e w6 ⟨rfl, hb⟩
                have HT := Lib.hid (s2_below HT.out hb)
                have HP := Lib.hid (HP.out.below hb)
                clear hb n0 n1
                have hbx : Blk w6 w.heap.size 25 #[.slice none 0 0, .slice none 0 0] := (HP.out.hb.block _ hwl).trans HBX.out
                have hbf := HBW.out.trans (HP.out.hb.mono (Nat.le_of_lt hwl))
                have HF := Lib.hid (And.intro hbx hbf)
                have m0 := hbx.c20
                have m1 := hbx.c21
                have mf0 := hbx.free 0
                have mf1 := hbx.free 1
                clear hbx hbf
                have n0 : w6.cell? ⟨w1.heap.size + 1, 0, none⟩ = some (.slice VG gs.length vgc) := HP.out.mb.cell 0
                have n1 : w6.cell? ⟨w1.heap.size + 1, 1, none⟩ = some (.slice VS ss.length vsc) := HP.out.mb.cell 1
                obtain ⟨ce, hce⟩ : ∃ ce, checkM (gs, ss) = ce := ⟨_, rfl⟩
                rw [hce]
                by_cases hc0 : ce = 0
                · subst hc0
                  have HRR : Hid (Pm = ((gs, ss), 0, 0)) := by show _ = _; rw [← HPM.out, parse_okM HSC.out HRD.out hf0 hce]
                  clear hce
                  go_wp2
                  have h2 := mat_set15 (u := .slice VG gs.length vgc) (v := .slice VS ss.length vsc) HF.out.1
                  exact bodyPost_ret (results_ctt15 (p := 2) (q := 3) (u := 4) rfl _ _ rfl rfl rfl (load_mat h2)) rfl (ParseP15.of HRR.out (s2_mat HT.out (by omega) (by omega)) ((HF.out.2.setCell (p := ⟨w.heap.size, 0, none⟩) (Nat.le_refl _) _).setCell (p := ⟨w.heap.size, 1, none⟩) (Nat.le_refl _) _))
                · have HRR : Hid (Pm = (([], []), ce, 0)) := by show _ = _; rw [← HPM.out, parse_chk HSC.out HRD.out hf0 (by rw [hce]; exact hc0), hce]
                  have q := ine_t hc0
                  clear hce hc0
                  go_wp2
                  have h2 := mat_set15 (u := .slice none 0 0) (v := .slice none 0 0) HF.out.1
                  exact bodyPost_ret (results_ctt15 (p := 2) (q := 3) (u := 4) rfl _ _ rfl rfl rfl (load_mat h2)) rfl (ParseP15.of HRR.out (mat_nil _ _) ((HF.out.2.setCell (p := ⟨w.heap.size, 0, none⟩) (Nat.le_refl _) _).setCell (p := ⟨w.heap.size, 1, none⟩) (Nat.le_refl _) _))
            | true =>
              have hfn := fit_next HE.out hk (by decide) hft
              have hgk : 0 < gk := by have := hfu.out.2.1; omega
              obtain ⟨gk1, hgk1⟩ : ∃ gk1, gk = gk1 + 1 := ⟨gk - 1, by omega⟩
              obtain ⟨k1, hk1⟩ : ∃ k1, k1 = k + 1 := ⟨_, rfl⟩
              have hkc : (k : Int) + 1 = (k1 : Int) := by omega
              rw [← hk1] at hfn
              have HN1 : Hid (manyR L tSection sectR gk1 (sectR L (k1, false)).2 (ss ++ [(sectR L (k1, false)).1]) = (ss2, (k9, b9))) := by have h := hfu.out.2.2.2; rw [hgk1, many_yes hft, ← hk1] at h; exact h
              have hpk := hfu.out.2.2.1
              have hfl := hfu.out.2.1
              have hkk : k < k1 := by omega
              clear hk1
              have hge : k1 ≤ (sectR L (k1, false)).2.1 := sect_ge L (k1, false)
              have hgn := sect_nm HN.out (k1, false)
              have hgi := sect_i64 HI.out (k1, false)
              have hlt2 := sect_lt HE.out (x := (k1, false)) hfn
              go_wp2_with fail
              refine CI.out.mono ?_
              rintro e w2 ⟨rfl, hb⟩
              have HP := Lib.hid (HP.out.below hb)
              have HT := Lib.hid (s2_below HT.out hb)
              clear CI hb z0 z1 z2 hfu
              have z0 : w2.cell? ⟨w1.heap.size, 0, none⟩ = some (.slice A L.length c) := HP.out.rd.cell 0
              have z1 : w2.cell? ⟨w1.heap.size, 1, none⟩ = some (.int .i64 k) := HP.out.rd.cell 1
              have z2 : w2.cell? ⟨w1.heap.size, 2, none⟩ = some (.bool false) := HP.out.rd.cell 2
              have zf0 := HP.out.rd.free 0
              have zf1 := HP.out.rd.free 1
              have zf2 := HP.out.rd.free 2
              go_wp2_with fail
              have HP := Lib.hid (HP.out.inc k1)
              have HT := Lib.hid (s2_set (u := .int .i64 k1) (i := 1) HT.out (Nat.lt_succ_of_lt (Nat.lt_succ_self _)) (by omega))
              clear z0 z1 z2 zf0 zf1 zf2
              generalize w2.setCell ⟨w1.heap.size, 1, none⟩ (.int .i64 k1) = W3 at *
              have CC := Lib.hid (refSect_any A L.length c L HE.out k1 false W3 (HLr.out.below6 HP.out.hb) hfn)
              generalize sectR L (k1, false) = q at *
              obtain ⟨g, k2, bd2⟩ := q
              have hgn : g.1.length ≤ 16384 := hgn
              have hge : k1 ≤ k2 := hge
              have hlt2 : k2 < L.length := hlt2
              have HGF : Hid (g.1.length ≤ 9223372036854775807 ∧ inI64 g.2.1 ∧ inI64 g.2.2.1 ∧ inI64 g.2.2.2) := ⟨by omega, hgi⟩
              refine CC.out.mono ?_
              rintro e w4 ⟨rfl, hb⟩
              simp only [rdA]
              rw [show scC g = #[.string (bA g.1), .int .i64 g.2.1, .int .i64 g.2.2.1, .int .i64 g.2.2.2] from rfl]
              have hbW3 := HP.out.mb.lt
              have HP := Lib.hid (HP.out.below hb)
              have HT := Lib.hid (s2_below HT.out hb)
              have hba := (Below.refl w4.heap.size w4).alloc (Nat.le_refl _) (.cells #[.string (bA g.1), .int .i64 g.2.1, .int .i64 g.2.2.1, .int .i64 g.2.2.2] 36)
              have hbb := (Below.refl (w4.alloc (.cells #[.string (bA g.1), .int .i64 g.2.1, .int .i64 g.2.2.1, .int .i64 g.2.2.2] 36)).heap.size (w4.alloc (.cells #[.string (bA g.1), .int .i64 g.2.1, .int .i64 g.2.2.1, .int .i64 g.2.2.2] 36))).alloc (Nat.le_refl _) (.cells #[.slice A L.length c, .int .i64 k2, .bool bd2] 84)
              have h10 := Blk.new (w4.alloc (.cells #[.string (bA g.1), .int .i64 g.2.1, .int .i64 g.2.2.1, .int .i64 g.2.2.2] 36)) 84 #[.slice A L.length c, .int .i64 k2, .bool bd2]
              rw [World.size_alloc] at h10
              have h9 := (Blk.new w4 36 #[.string (bA g.1), .int .i64 g.2.1, .int .i64 g.2.2.1, .int .i64 g.2.2.2]).alloc (.cells #[.slice A L.length c, .int .i64 k2, .bool bd2] 84)
              have HP := Lib.hid ((HP.out.below hba).below hbb)
              have HT := Lib.hid (s2_below (s2_below HT.out hba) hbb)
              have hgx1 : w1.heap.size + 1 < w4.heap.size := by have := hb.size; omega
              clear CC hb hgi
              go_upto_region 14 with fail
              have HX10 := Lib.hid h10
              have HX9 := Lib.hid h9
              clear h9 h10 hba hbb
              generalize hX : (w4.alloc (.cells #[.string (bA g.1), .int .i64 g.2.1, .int .i64 g.2.2.1, .int .i64 g.2.2.2] 36)).alloc (.cells #[.slice A L.length c, .int .i64 k2, .bool bd2] 84) = X at *
              clear hX
              generalize w4.heap.size = gx at *
              have x3 : X.cell? ⟨w1.heap.size + 1, 1, none⟩ = some vs := HP.out.mb.cell 1
              have xg0 : X.cell? ⟨gx, 0, none⟩ = some (.string (bA g.1)) := HX9.out.cell 0
              have xg1 : X.cell? ⟨gx, 1, none⟩ = some (.int .i64 g.2.1) := HX9.out.cell 1
              have xg2 : X.cell? ⟨gx, 2, none⟩ = some (.int .i64 g.2.2.1) := HX9.out.cell 2
              have xg3 : X.cell? ⟨gx, 3, none⟩ = some (.int .i64 g.2.2.2) := HX9.out.cell 3
              have hne1 : gx + 1 ≠ w1.heap.size + 1 := by omega
              have hne2 : gx + 1 ≠ w1.heap.size := by omega
              have hBX := HT.out.2.2
              go_wp2_with (at_builtin; refine wpList_append_flat flat_sc rfl _ _ 23 rfl B2 36 j0 (.agg #[.string ⟨#[]⟩, .int .i64 0, .int .i64 0, .int .i64 0]) 40 Tryd.underlying23 hj0 hy0 hy1 hy2 rfl _ _ _ rfl (World.ownsRow.alloc HT.out.2.1.1 _) [g] rfl (flat1 flat_sc (Blk.new X 36 #[.string (bA g.1), .int .i64 g.2.1, .int .i64 g.2.2.1, .int .i64 g.2.2.2]) rfl (sc_mk HGF.out)) (by simp; omega) (by simp; omega) (by simp; omega) ?_; intro vn w5 hown2 hg2; obtain ⟨VA, vc, rfl⟩ := own_form15 hown2; have h10 := box_grown15 HX10.out HT.out.2.1.1 hg2 (by decide); have hp5 := HP.out.grow HT.out.2.1.1 hgB (by decide) (by decide) hg2; have e3 : w5.cell? ⟨w1.heap.size + 1, 1, none⟩ = some vs := hp5.mb.cell 1; have ef3 := hp5.mb.free 1; have t0 : w5.cell? ⟨gx + 1, 0, none⟩ = some (.slice A L.length c) := h10.cell 0; have t1 : w5.cell? ⟨gx + 1, 1, none⟩ = some (.int .i64 k2) := h10.cell 1; have t2 : w5.cell? ⟨gx + 1, 2, none⟩ = some (.bool bd2) := h10.cell 2; have z0 : w5.cell? ⟨w1.heap.size, 0, none⟩ = some (.slice A L.length c) := hp5.rd.cell 0; have z1 : w5.cell? ⟨w1.heap.size, 1, none⟩ = some (.int .i64 k1) := hp5.rd.cell 1; have z2 : w5.cell? ⟨w1.heap.size, 2, none⟩ = some (.bool false) := hp5.rd.cell 2; have zf0 := hp5.rd.free 0; have zf1 := hp5.rd.free 1; have zf2 := hp5.rd.free 2)
              go_wp2
              go_roundg gk1
              case measure => omega
              case rel => exact ⟨k2, bd2, _, ss ++ [g], (hp5.setM1 _).setR (k' := k2) (bd' := bd2), s2_next HT.out hgB HGF.out hg2 hown2, hlt2, by omega, by simp; omega, HN1.out⟩
      | false =>
        have CI := Lib.hid (refIs_any A L.length c L k false 1 tGrade wr (HLr.out.below6 HP.out.hb) hk)
        obtain ⟨ft, hft⟩ : ∃ ft, fitB (lxN L k) 1 tGrade = ft := ⟨_, rfl⟩
        rw [hft] at CI
        cases ft with
        | false =>
          have hRR : R1 = (ps.map (·.1), (k, false)) := by rw [← hfu.out.2.2.2, many_no hft]
          subst hRR
          clear hfu
          go_wp2_with fail
          refine CI.out.mono ?_
          rintro e w2 ⟨rfl, hb⟩
          have HP := Lib.hid (HP.out.below hb)
          have HG := Lib.hid (grs_keep HG.out hb.size (fun b _ h => hb.block b h))
          clear CI hb z0 z1 z2
          go_wp2_with fail
          obtain ⟨VG, vgc, rfl⟩ := own_form15 HG.out.1
          have hgr := grs_repD HG.out
          obtain ⟨gs, hgs⟩ : ∃ gs, gs = ps.map (·.1) := ⟨_, rfl⟩
          have hgl : gs.length = ps.length := by rw [hgs, List.length_map]
          rw [← hgs] at hgr HR1
          rw [← hgl] at HP hgr
          obtain ⟨⟨ss2, k9, b9⟩, hR2⟩ : ∃ R2, manyR L tSection sectR L.length (k, false) [] = R2 := ⟨_, rfl⟩
          have HRD : Hid (readM L = ((gs, ss2), (k9, b9))) := by show readM L = _; unfold readM; simp only [HR1.out, hR2]
          have HR2 := Lib.hid hR2
          obtain ⟨B2, hB2⟩ : ∃ B2, B2 = w2.heap.size := ⟨_, rfl⟩
          rw [← hB2] at hgr
          have hgB : w1.heap.size + 1 < B2 := by have := HP.out.mb.lt; omega
          have HGR := Lib.hid hgr
          have HB2 : Hid (B2 ≤ w2.heap.size) := Nat.le_of_eq hB2
          clear hgr hgs hR2 HG hB2 hgl HR1
          go_loopg [] L.length (fun gh wr => ∃ (k : Nat) (bd : Bool) (vs : Value) (ss : List Sc), Hid (PR w1 A L.length c k bd (.slice VG gs.length vgc) vs wr) ∧ Hid (grR.slice.R wr (fun b => w1.heap.size + 1 + 1 ≤ b ∧ b < B2) gs [.slice VG gs.length vgc] ∧ OwnSc B2 vs ss wr ∧ B2 ≤ wr.heap.size) ∧ Hid (k < L.length ∧ L.length ≤ gh + k ∧ ss.length ≤ k ∧ manyR L tSection sectR gh (k, bd) ss = (ss2, (k9, b9))))
          case atStart => exact ⟨k, false, _, [], HP.out, ⟨HGR.out, ⟨World.ownsRow_nil _ _ _ _, fun s hs => by cases hs⟩, HB2.out⟩, hk, by omega, Nat.zero_le _, HR2.out⟩
          case round =>
            clear HP HGR HB2 HR2 hk
            obtain ⟨k, bd, vs, ss, HP, HT, hfu⟩ := hrel
            have hk : k < L.length := hfu.out.1
            have z0 : wr.cell? ⟨w1.heap.size, 0, none⟩ = some (.slice A L.length c) := HP.out.rd.cell 0
            have z1 : wr.cell? ⟨w1.heap.size, 1, none⟩ = some (.int .i64 k) := HP.out.rd.cell 1
            have z2 : wr.cell? ⟨w1.heap.size, 2, none⟩ = some (.bool bd) := HP.out.rd.cell 2
            cases bd with
            | true =>
              have hRR := hfu.out.2.2.2
              rw [many_bad] at hRR
              injection hRR with e1 e2
              injection e2 with e2 e3
              subst e1 e2 e3
              clear hfu
              have hbx : Blk wr w.heap.size 25 #[.slice none 0 0, .slice none 0 0] := (HP.out.hb.block _ hwl).trans HBX.out
              have hbf := HBW.out.trans (HP.out.hb.mono (Nat.le_of_lt hwl))
              have HF := Lib.hid (And.intro hbx hbf)
              have m0 := hbx.c20
              have m1 := hbx.c21
              have mf0 := hbx.free 0
              have mf1 := hbx.free 1
              clear hbx hbf
              obtain ⟨lb, lo, y1, y2, y3, y4, rfl, hy, -, d0, d1, d2, d3⟩ := lx15_at (HLr.out.below6 HP.out.hb) hk
              have HRR : Hid (Pm = (([], []), 5, y4)) := by show _ = _; rw [← HPM.out, parse_syn HSC.out HRD.out, hy.out]
              have hkI : (k : Int) < (L.length : Int) := by omega
              clear d0 d1 d2 hy
              go_wp2
              go_region
              go_wp2
              have h2 := mat_set15 (u := .slice none 0 0) (v := .slice none 0 0) HF.out.1
              exact bodyPost_ret (results_ctt15 (p := 2) (q := 3) (u := 4) rfl _ _ rfl rfl rfl (load_mat (h2.drewN 1))) rfl (ParseP15.of HRR.out (mat_nil _ _) (below_drewN ((HF.out.2.setCell (p := ⟨w.heap.size, 0, none⟩) (Nat.le_refl _) _).setCell (p := ⟨w.heap.size, 1, none⟩) (Nat.le_refl _) _) 1))
            | false =>
              have CI := Lib.hid (refIs_any A L.length c L k false 1 tSection wr (HLr.out.below6 HP.out.hb) hk)
              obtain ⟨ft, hft⟩ : ∃ ft, fitB (lxN L k) 1 tSection = ft := ⟨_, rfl⟩
              rw [hft] at CI
              cases ft with
              | false =>
                have hRR := hfu.out.2.2.2
                rw [many_no hft] at hRR
                injection hRR with e1 e2
                injection e2 with e2 e3
                subst e1 e2 e3
                clear hfu hft
                go_wp2_with fail
                refine CI.out.mono ?_
                rintro e w2 ⟨rfl, hb⟩
                have HP := Lib.hid (HP.out.below hb)
                have HT := Lib.hid (s2_below HT.out hb)
                clear CI hb z0 z1 z2
                have z0 : w2.cell? ⟨w1.heap.size, 0, none⟩ = some (.slice A L.length c) := HP.out.rd.cell 0
                have z1 : w2.cell? ⟨w1.heap.size, 1, none⟩ = some (.int .i64 k) := HP.out.rd.cell 1
                have z2 : w2.cell? ⟨w1.heap.size, 2, none⟩ = some (.bool false) := HP.out.rd.cell 2
                have C0 := Lib.hid (refIs_any A L.length c L k false 0 [] w2 (HLr.out.below6 HP.out.hb) hk)
                obtain ⟨f0, hf0⟩ : ∃ f0, fitB (lxN L k) 0 [] = f0 := ⟨_, rfl⟩
                rw [hf0] at C0
                go_wp2_with fail
                cases f0 with
                | false =>
                  refine C0.out.mono ?_
                  rintro e w3 ⟨rfl, hb⟩
                  have HP := Lib.hid (HP.out.below hb)
                  clear C0 hb z0 z1 z2
                  have z0 : w3.cell? ⟨w1.heap.size, 0, none⟩ = some (.slice A L.length c) := HP.out.rd.cell 0
                  have z1 : w3.cell? ⟨w1.heap.size, 1, none⟩ = some (.int .i64 k) := HP.out.rd.cell 1
                  have z2 : w3.cell? ⟨w1.heap.size, 2, none⟩ = some (.bool false) := HP.out.rd.cell 2
                  have hbx : Blk w3 w.heap.size 25 #[.slice none 0 0, .slice none 0 0] := (HP.out.hb.block _ hwl).trans HBX.out
                  have hbf := HBW.out.trans (HP.out.hb.mono (Nat.le_of_lt hwl))
                  have HF := Lib.hid (And.intro hbx hbf)
                  have m0 := hbx.c20
                  have m1 := hbx.c21
                  have mf0 := hbx.free 0
                  have mf1 := hbx.free 1
                  clear hbx hbf
                  obtain ⟨lb, lo, y1, y2, y3, y4, rfl, hy, -, d0, d1, d2, d3⟩ := lx15_at (HLr.out.below6 HP.out.hb) hk
                  have HRR : Hid (Pm = (([], []), 5, y4)) := by show _ = _; rw [← HPM.out, parse_syn2 HSC.out HRD.out hf0, hy.out]
                  have hkI : (k : Int) < (L.length : Int) := by omega
                  clear d0 d1 d2 hy
                  go_wp2
                  go_region
                  go_wp2
                  have h2 := mat_set15 (u := .slice none 0 0) (v := .slice none 0 0) HF.out.1
                  exact bodyPost_ret (results_ctt15 (p := 2) (q := 3) (u := 4) rfl _ _ rfl rfl rfl (load_mat (h2.drewN 1))) rfl (ParseP15.of HRR.out (mat_nil _ _) (below_drewN ((HF.out.2.setCell (p := ⟨w.heap.size, 0, none⟩) (Nat.le_refl _) _).setCell (p := ⟨w.heap.size, 1, none⟩) (Nat.le_refl _) _) 1))
                | true =>
                  refine C0.out.mono ?_
                  rintro e w3 ⟨rfl, hb⟩
                  have HP := Lib.hid (HP.out.below hb)
                  have HT := Lib.hid (s2_below HT.out hb)
                  clear C0 hb z0 z1 z2
                  obtain ⟨VS, vsc, rfl⟩ := own_form15 HT.out.2.1.1
                  have n0 : w3.cell? ⟨w1.heap.size + 1, 0, none⟩ = some (.slice VG gs.length vgc) := HP.out.mb.cell 0
                  have n1 : w3.cell? ⟨w1.heap.size + 1, 1, none⟩ = some (.slice VS ss.length vsc) := HP.out.mb.cell 1
                  go_wp2_with fail
                  refine (refCheck15_any _ _ _ _ _ _ (gs, ss) _ (Rep.mono _ (fun b hb => Nat.lt_of_lt_of_le hb.2 HT.out.2.2) HT.out.1) (ownSc_rep HT.out.2.1)).mono ?_
                  rintro e w6 ⟨rfl, hb⟩
                  have HT := Lib.hid (s2_below HT.out hb)
                  have HP := Lib.hid (HP.out.below hb)
                  clear hb n0 n1
                  have hbx : Blk w6 w.heap.size 25 #[.slice none 0 0, .slice none 0 0] := (HP.out.hb.block _ hwl).trans HBX.out
                  have hbf := HBW.out.trans (HP.out.hb.mono (Nat.le_of_lt hwl))
                  have HF := Lib.hid (And.intro hbx hbf)
                  have m0 := hbx.c20
                  have m1 := hbx.c21
                  have mf0 := hbx.free 0
                  have mf1 := hbx.free 1
                  clear hbx hbf
                  have n0 : w6.cell? ⟨w1.heap.size + 1, 0, none⟩ = some (.slice VG gs.length vgc) := HP.out.mb.cell 0
                  have n1 : w6.cell? ⟨w1.heap.size + 1, 1, none⟩ = some (.slice VS ss.length vsc) := HP.out.mb.cell 1
                  obtain ⟨ce, hce⟩ : ∃ ce, checkM (gs, ss) = ce := ⟨_, rfl⟩
                  rw [hce]
                  by_cases hc0 : ce = 0
                  · subst hc0
                    have HRR : Hid (Pm = ((gs, ss), 0, 0)) := by show _ = _; rw [← HPM.out, parse_okM HSC.out HRD.out hf0 hce]
                    clear hce
                    go_wp2
                    have h2 := mat_set15 (u := .slice VG gs.length vgc) (v := .slice VS ss.length vsc) HF.out.1
                    exact bodyPost_ret (results_ctt15 (p := 2) (q := 3) (u := 4) rfl _ _ rfl rfl rfl (load_mat h2)) rfl (ParseP15.of HRR.out (s2_mat HT.out (by omega) (by omega)) ((HF.out.2.setCell (p := ⟨w.heap.size, 0, none⟩) (Nat.le_refl _) _).setCell (p := ⟨w.heap.size, 1, none⟩) (Nat.le_refl _) _))
                  · have HRR : Hid (Pm = (([], []), ce, 0)) := by show _ = _; rw [← HPM.out, parse_chk HSC.out HRD.out hf0 (by rw [hce]; exact hc0), hce]
                    have q := ine_t hc0
                    clear hce hc0
                    go_wp2
                    have h2 := mat_set15 (u := .slice none 0 0) (v := .slice none 0 0) HF.out.1
                    exact bodyPost_ret (results_ctt15 (p := 2) (q := 3) (u := 4) rfl _ _ rfl rfl rfl (load_mat h2)) rfl (ParseP15.of HRR.out (mat_nil _ _) ((HF.out.2.setCell (p := ⟨w.heap.size, 0, none⟩) (Nat.le_refl _) _).setCell (p := ⟨w.heap.size, 1, none⟩) (Nat.le_refl _) _))
              | true =>
                have hfn := fit_next HE.out hk (by decide) hft
                have hgk : 0 < gk := by have := hfu.out.2.1; omega
                obtain ⟨gk1, hgk1⟩ : ∃ gk1, gk = gk1 + 1 := ⟨gk - 1, by omega⟩
                obtain ⟨k1, hk1⟩ : ∃ k1, k1 = k + 1 := ⟨_, rfl⟩
                have hkc : (k : Int) + 1 = (k1 : Int) := by omega
                rw [← hk1] at hfn
                have HN1 : Hid (manyR L tSection sectR gk1 (sectR L (k1, false)).2 (ss ++ [(sectR L (k1, false)).1]) = (ss2, (k9, b9))) := by have h := hfu.out.2.2.2; rw [hgk1, many_yes hft, ← hk1] at h; exact h
                have hpk := hfu.out.2.2.1
                have hfl := hfu.out.2.1
                have hkk : k < k1 := by omega
                clear hk1
                have hge : k1 ≤ (sectR L (k1, false)).2.1 := sect_ge L (k1, false)
                have hgn := sect_nm HN.out (k1, false)
                have hgi := sect_i64 HI.out (k1, false)
                have hlt2 := sect_lt HE.out (x := (k1, false)) hfn
                go_wp2_with fail
                refine CI.out.mono ?_
                rintro e w2 ⟨rfl, hb⟩
                have HP := Lib.hid (HP.out.below hb)
                have HT := Lib.hid (s2_below HT.out hb)
                clear CI hb z0 z1 z2 hfu
                have z0 : w2.cell? ⟨w1.heap.size, 0, none⟩ = some (.slice A L.length c) := HP.out.rd.cell 0
                have z1 : w2.cell? ⟨w1.heap.size, 1, none⟩ = some (.int .i64 k) := HP.out.rd.cell 1
                have z2 : w2.cell? ⟨w1.heap.size, 2, none⟩ = some (.bool false) := HP.out.rd.cell 2
                have zf0 := HP.out.rd.free 0
                have zf1 := HP.out.rd.free 1
                have zf2 := HP.out.rd.free 2
                go_wp2_with fail
                have HP := Lib.hid (HP.out.inc k1)
                have HT := Lib.hid (s2_set (u := .int .i64 k1) (i := 1) HT.out (Nat.lt_succ_of_lt (Nat.lt_succ_self _)) (by omega))
                clear z0 z1 z2 zf0 zf1 zf2
                generalize w2.setCell ⟨w1.heap.size, 1, none⟩ (.int .i64 k1) = W3 at *
                have CC := Lib.hid (refSect_any A L.length c L HE.out k1 false W3 (HLr.out.below6 HP.out.hb) hfn)
                generalize sectR L (k1, false) = q at *
                obtain ⟨g, k2, bd2⟩ := q
                have hgn : g.1.length ≤ 16384 := hgn
                have hge : k1 ≤ k2 := hge
                have hlt2 : k2 < L.length := hlt2
                have HGF : Hid (g.1.length ≤ 9223372036854775807 ∧ inI64 g.2.1 ∧ inI64 g.2.2.1 ∧ inI64 g.2.2.2) := ⟨by omega, hgi⟩
                refine CC.out.mono ?_
                rintro e w4 ⟨rfl, hb⟩
                simp only [rdA]
                rw [show scC g = #[.string (bA g.1), .int .i64 g.2.1, .int .i64 g.2.2.1, .int .i64 g.2.2.2] from rfl]
                have hbW3 := HP.out.mb.lt
                have HP := Lib.hid (HP.out.below hb)
                have HT := Lib.hid (s2_below HT.out hb)
                have hba := (Below.refl w4.heap.size w4).alloc (Nat.le_refl _) (.cells #[.string (bA g.1), .int .i64 g.2.1, .int .i64 g.2.2.1, .int .i64 g.2.2.2] 36)
                have hbb := (Below.refl (w4.alloc (.cells #[.string (bA g.1), .int .i64 g.2.1, .int .i64 g.2.2.1, .int .i64 g.2.2.2] 36)).heap.size (w4.alloc (.cells #[.string (bA g.1), .int .i64 g.2.1, .int .i64 g.2.2.1, .int .i64 g.2.2.2] 36))).alloc (Nat.le_refl _) (.cells #[.slice A L.length c, .int .i64 k2, .bool bd2] 84)
                have h10 := Blk.new (w4.alloc (.cells #[.string (bA g.1), .int .i64 g.2.1, .int .i64 g.2.2.1, .int .i64 g.2.2.2] 36)) 84 #[.slice A L.length c, .int .i64 k2, .bool bd2]
                rw [World.size_alloc] at h10
                have h9 := (Blk.new w4 36 #[.string (bA g.1), .int .i64 g.2.1, .int .i64 g.2.2.1, .int .i64 g.2.2.2]).alloc (.cells #[.slice A L.length c, .int .i64 k2, .bool bd2] 84)
                have HP := Lib.hid ((HP.out.below hba).below hbb)
                have HT := Lib.hid (s2_below (s2_below HT.out hba) hbb)
                have hgx1 : w1.heap.size + 1 < w4.heap.size := by have := hb.size; omega
                clear CC hb hgi
                go_upto_region 14 with fail
                have HX10 := Lib.hid h10
                have HX9 := Lib.hid h9
                clear h9 h10 hba hbb
                generalize hX : (w4.alloc (.cells #[.string (bA g.1), .int .i64 g.2.1, .int .i64 g.2.2.1, .int .i64 g.2.2.2] 36)).alloc (.cells #[.slice A L.length c, .int .i64 k2, .bool bd2] 84) = X at *
                clear hX
                generalize w4.heap.size = gx at *
                have x3 : X.cell? ⟨w1.heap.size + 1, 1, none⟩ = some vs := HP.out.mb.cell 1
                have xg0 : X.cell? ⟨gx, 0, none⟩ = some (.string (bA g.1)) := HX9.out.cell 0
                have xg1 : X.cell? ⟨gx, 1, none⟩ = some (.int .i64 g.2.1) := HX9.out.cell 1
                have xg2 : X.cell? ⟨gx, 2, none⟩ = some (.int .i64 g.2.2.1) := HX9.out.cell 2
                have xg3 : X.cell? ⟨gx, 3, none⟩ = some (.int .i64 g.2.2.2) := HX9.out.cell 3
                have hne1 : gx + 1 ≠ w1.heap.size + 1 := by omega
                have hne2 : gx + 1 ≠ w1.heap.size := by omega
                have hBX := HT.out.2.2
                go_wp2_with (at_builtin; refine wpList_append_flat flat_sc rfl _ _ 23 rfl B2 36 j0 (.agg #[.string ⟨#[]⟩, .int .i64 0, .int .i64 0, .int .i64 0]) 40 Tryd.underlying23 hj0 hy0 hy1 hy2 rfl _ _ _ rfl (World.ownsRow.alloc HT.out.2.1.1 _) [g] rfl (flat1 flat_sc (Blk.new X 36 #[.string (bA g.1), .int .i64 g.2.1, .int .i64 g.2.2.1, .int .i64 g.2.2.2]) rfl (sc_mk HGF.out)) (by simp; omega) (by simp; omega) (by simp; omega) ?_; intro vn w5 hown2 hg2; obtain ⟨VA, vc, rfl⟩ := own_form15 hown2; have h10 := box_grown15 HX10.out HT.out.2.1.1 hg2 (by decide); have hp5 := HP.out.grow HT.out.2.1.1 hgB (by decide) (by decide) hg2; have e3 : w5.cell? ⟨w1.heap.size + 1, 1, none⟩ = some vs := hp5.mb.cell 1; have ef3 := hp5.mb.free 1; have t0 : w5.cell? ⟨gx + 1, 0, none⟩ = some (.slice A L.length c) := h10.cell 0; have t1 : w5.cell? ⟨gx + 1, 1, none⟩ = some (.int .i64 k2) := h10.cell 1; have t2 : w5.cell? ⟨gx + 1, 2, none⟩ = some (.bool bd2) := h10.cell 2; have z0 : w5.cell? ⟨w1.heap.size, 0, none⟩ = some (.slice A L.length c) := hp5.rd.cell 0; have z1 : w5.cell? ⟨w1.heap.size, 1, none⟩ = some (.int .i64 k1) := hp5.rd.cell 1; have z2 : w5.cell? ⟨w1.heap.size, 2, none⟩ = some (.bool false) := hp5.rd.cell 2; have zf0 := hp5.rd.free 0; have zf1 := hp5.rd.free 1; have zf2 := hp5.rd.free 2)
                go_wp2
                go_roundg gk1
                case measure => omega
                case rel => exact ⟨k2, bd2, _, ss ++ [g], (hp5.setM1 _).setR (k' := k2) (bd' := bd2), s2_next HT.out hgB HGF.out hg2 hown2, hlt2, by omega, by simp; omega, HN1.out⟩
        | true =>
          have hfn := fit_next HE.out hk (by decide) hft
          have hgk : 0 < gk := by have := hfu.out.2.1; omega
          obtain ⟨gk1, hgk1⟩ : ∃ gk1, gk = gk1 + 1 := ⟨gk - 1, by omega⟩
          obtain ⟨k1, hk1⟩ : ∃ k1, k1 = k + 1 := ⟨_, rfl⟩
          have hkc : (k : Int) + 1 = (k1 : Int) := by omega
          rw [← hk1] at hfn
          have HN1 : Hid (manyR L tGrade gradeR gk1 (gradeR L (k1, false)).2 (ps.map (·.1) ++ [(gradeR L (k1, false)).1]) = R1) := by have h := hfu.out.2.2.2; rw [hgk1, many_yes hft, ← hk1] at h; exact h
          have hpk := hfu.out.2.2.1
          have hfl := hfu.out.2.1
          have hkk : k < k1 := by omega
          clear hk1
          have hge : k1 ≤ (gradeR L (k1, false)).2.1 := grade_ge L (k1, false)
          have hgn := grade_nm HN.out (k1, false)
          have hgi := grade_i64 HI.out (k1, false)
          have hlt2 := grade_lt HE.out (x := (k1, false)) hfn
          have HGI := Lib.hid (grade_gs HI.out (k1, false))
          go_wp2_with fail
          refine CI.out.mono ?_
          rintro e w2 ⟨rfl, hb⟩
          have HP := Lib.hid (HP.out.below hb)
          have HG := Lib.hid (grs_keep HG.out hb.size (fun b _ h => hb.block b h))
          clear CI hb z0 z1 z2 hfu
          have z0 : w2.cell? ⟨w1.heap.size, 0, none⟩ = some (.slice A L.length c) := HP.out.rd.cell 0
          have z1 : w2.cell? ⟨w1.heap.size, 1, none⟩ = some (.int .i64 k) := HP.out.rd.cell 1
          have z2 : w2.cell? ⟨w1.heap.size, 2, none⟩ = some (.bool false) := HP.out.rd.cell 2
          have zf0 := HP.out.rd.free 0
          have zf1 := HP.out.rd.free 1
          have zf2 := HP.out.rd.free 2
          go_wp2_with fail
          have HP := Lib.hid (HP.out.inc k1)
          have HG := Lib.hid (grs_keep HG.out (w' := w2.setCell ⟨w1.heap.size, 1, none⟩ (.int .i64 k1)) (by simp) (fun b h1 h2 => Below.heap_setCell w2 ⟨w1.heap.size, 1, none⟩ _ b (by show b ≠ w1.heap.size; omega)))
          clear z0 z1 z2 zf0 zf1 zf2
          generalize w2.setCell ⟨w1.heap.size, 1, none⟩ (.int .i64 k1) = W3 at *
          have CC := Lib.hid (refGrade_any15 A L.length c L HE.out HI.out hLL k1 false W3 (HLr.out.below6 HP.out.hb) hfn)
          generalize gradeR L (k1, false) = q at *
          obtain ⟨g, k2, bd2⟩ := q
          have hgn : g.1.length ≤ 16384 := hgn
          have hge : k1 ≤ k2 := hge
          have hlt2 : k2 < L.length := hlt2
          refine CC.out.mono ?_
          rintro e w4 ⟨a, rfl, ⟨vq, rfl, hown⟩, hgi2, hb⟩
          obtain ⟨GA, gc, rfl⟩ := own_form15 hown
          simp only [rdA]
          obtain ⟨gn, hgnn⟩ : ∃ gn, gn = g.2.2.2.length := ⟨_, rfl⟩
          dsimp only at hown
          rw [← hgnn] at hown
          rw [← hgnn]
          have HOW := Lib.hid hown
          have hbW3 := HP.out.mb.lt
          have HP := Lib.hid (HP.out.below hb)
          have HG := Lib.hid (grs_keep HG.out hb.size (fun b _ h => hb.block b h))
          have HB43 : Hid (w1.heap.size + 1 + 1 ≤ W3.heap.size) := hbW3
          have hba := (Below.refl w4.heap.size w4).alloc (Nat.le_refl _) (.cells #[.string (bA g.1), .int .i64 g.2.1, .int .i64 g.2.2.1, .slice GA gn gc] 32)
          have hbb := (Below.refl (w4.alloc (.cells #[.string (bA g.1), .int .i64 g.2.1, .int .i64 g.2.2.1, .slice GA gn gc] 32)).heap.size (w4.alloc (.cells #[.string (bA g.1), .int .i64 g.2.1, .int .i64 g.2.2.1, .slice GA gn gc] 32))).alloc (Nat.le_refl _) (.cells #[.slice A L.length c, .int .i64 k2, .bool bd2] 84)
          have h10 := Blk.new (w4.alloc (.cells #[.string (bA g.1), .int .i64 g.2.1, .int .i64 g.2.2.1, .slice GA gn gc] 32)) 84 #[.slice A L.length c, .int .i64 k2, .bool bd2]
          rw [World.size_alloc] at h10
          have h9 := (Blk.new w4 32 #[.string (bA g.1), .int .i64 g.2.1, .int .i64 g.2.2.1, .slice GA gn gc]).alloc (.cells #[.slice A L.length c, .int .i64 k2, .bool bd2] 84)
          have HP := Lib.hid ((HP.out.below hba).below hbb)
          have HG := Lib.hid (grs_keep (grs_keep HG.out hba.size (fun b _ h => hba.block b h)) hbb.size (fun b _ h => hbb.block b h))
          have HOW := Lib.hid (own_below (own_below HOW.out hba) hbb)
          have hgx := HP.out.mb.lt
          have hgx1 : w1.heap.size + 1 < w4.heap.size := by have := hb.size; omega
          clear CC hb hown hgnn
          go_upto_region 9 with fail
          have HX10 := Lib.hid h10
          have HX9 := Lib.hid h9
          clear h9 h10 hba hbb
          generalize hX : (w4.alloc (.cells #[.string (bA g.1), .int .i64 g.2.1, .int .i64 g.2.2.1, .slice GA gn gc] 32)).alloc (.cells #[.slice A L.length c, .int .i64 k2, .bool bd2] 84) = X at *
          clear hX
          generalize w4.heap.size = gx at *
          have x3 : X.cell? ⟨w1.heap.size + 1, 0, none⟩ = some vg := HP.out.mb.cell 0
          have xg0 : X.cell? ⟨gx, 0, none⟩ = some (.string (bA g.1)) := HX9.out.cell 0
          have xg1 : X.cell? ⟨gx, 1, none⟩ = some (.int .i64 g.2.1) := HX9.out.cell 1
          have xg2 : X.cell? ⟨gx, 2, none⟩ = some (.int .i64 g.2.2.1) := HX9.out.cell 2
          have xg3 : X.cell? ⟨gx, 3, none⟩ = some (.slice GA gn gc) := HX9.out.cell 3
          have hne1 : gx + 1 ≠ w1.heap.size + 1 := by omega
          have hne2 : gx + 1 ≠ w1.heap.size := by omega
          go_wp2_with (at_builtin; refine wpList_append_flat flat_grv rfl _ _ 22 rfl (w1.heap.size + 1 + 1) 32 i0 (.agg #[.string ⟨#[]⟩, .int .i64 0, .int .i64 0, .slice none 0 0]) 56 Tryd.underlying22 hi0 hz0 hz1 hz2 rfl _ _ _ rfl (World.ownsRow.alloc HG.out.1 _) [((g, (GA, gn, gc)) : GrV)] rfl (flat1 flat_grv (Blk.new X 32 #[.string (bA g.1), .int .i64 g.2.1, .int .i64 g.2.2.1, .slice GA gn gc]) rfl rfl) (by simp; omega) (by simp; omega) (by simp; omega) ?_; intro vn w5 hown2 hg2; obtain ⟨VA, vc, rfl⟩ := own_form15 hown2; have h10 := box_grown15 HX10.out HG.out.1 hg2 (by decide); have hp5 := HP.out.grow HG.out.1 (Nat.lt_succ_self _) (by decide) (by decide) hg2; have e3 : w5.cell? ⟨w1.heap.size + 1, 0, none⟩ = some vg := hp5.mb.cell 0; have ef3 := hp5.mb.free 0; have t0 : w5.cell? ⟨gx + 1, 0, none⟩ = some (.slice A L.length c) := h10.cell 0; have t1 : w5.cell? ⟨gx + 1, 1, none⟩ = some (.int .i64 k2) := h10.cell 1; have t2 : w5.cell? ⟨gx + 1, 2, none⟩ = some (.bool bd2) := h10.cell 2; have z0 : w5.cell? ⟨w1.heap.size, 0, none⟩ = some (.slice A L.length c) := hp5.rd.cell 0; have z1 : w5.cell? ⟨w1.heap.size, 1, none⟩ = some (.int .i64 k1) := hp5.rd.cell 1; have z2 : w5.cell? ⟨w1.heap.size, 2, none⟩ = some (.bool false) := hp5.rd.cell 2; have zf0 := hp5.rd.free 0; have zf1 := hp5.rd.free 1; have zf2 := hp5.rd.free 2)
          go_wp2
          go_roundg gk1
          case measure => omega
          case rel =>
            have hown3 : w5.ownsRow (w1.heap.size + 1 + 1) 32 4 (.slice VA (ps.length + [((g, (GA, gn, gc)) : GrV)].length) vc) (ps.length + 1) (ps.flatMap grV ++ grV (g, (GA, gn, gc))) := by have := hown2; rw [List.flatMap_cons, List.flatMap_nil, List.append_nil] at this; exact this
            have hpI := Rep.mono _ (fun b (hb : W3.heap.size ≤ b ∧ b < X.heap.size ∧ IntB X b) => (⟨Nat.le_trans HB43.out hb.1, hb.2.1, hb.2.2⟩ : w1.heap.size + 1 + 1 ≤ b ∧ b < X.heap.size ∧ IntB X b)) (own_newI HOW.out hgi2)
            have hg3 := grs_snoc (p := (g, (GA, gn, gc))) HG.out hg2 hown3 hpI ⟨by show g.1.length ≤ _; omega, hgi.1, hgi.2⟩
            exact ⟨k2, bd2, _, ps ++ [(g, (GA, gn, gc))], (hp5.setM0 _).setR (k' := k2) (bd' := bd2), grs_set4 hg3, hlt2, by omega, by simp; omega, by rw [List.map_append]; exact HN1.out⟩
  · have q := ine_t he
    have HR := Lib.hid ((HPM.out.symm).trans (parse_err HSC.out he))
    clear hsc he
    go_enter Tryd.func25, Tryd.ntmps25
    go_wp2_with fail
    refine CS.out.mono ?_
    rintro e w1 ⟨v, rfl, hl, hb⟩
    rw [HSC.out]
    dsimp only
    have hbw := bstep HB0.out.1 HB0.out.1.size hb
    have hbx := HB0.out.2.below hb HB0.out.2.lt
    have m0 := hbx.c20
    have m1 := hbx.c21
    have f0 := hbx.free 0
    have f1 := hbx.free 1
    have HX := Lib.hid (And.intro hbw hbx)
    clear hl hb hbw hbx CS HB0
    go_wp2
    have h2 := mat_set15 (u := .slice none 0 0) (v := .slice none 0 0) HX.out.2
    exact bodyPost_ret (results_ctt15 (p := 2) (q := 3) (u := 4) rfl _ _ rfl rfl rfl (load_mat h2)) rfl (ParseP15.of HR.out (mat_nil _ _) ((HX.out.1.setCell (p := ⟨w.heap.size, 0, none⟩) (Nat.le_refl _) _).setCell (p := ⟨w.heap.size, 1, none⟩) (Nat.le_refl _) _))
end Go.Proofs.YtacbmmnipedpdaaDoor
