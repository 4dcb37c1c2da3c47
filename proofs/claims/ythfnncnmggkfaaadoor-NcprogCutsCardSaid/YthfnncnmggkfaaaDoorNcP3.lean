/- Chapter 27: the map of the operations, and a step, by walking the program's text. -/
import Derived.Test.YthfnncnmggkfaaaDoorNcW8M
import Derived.Maps.OwnSet
import Derived.Maps.Views
import Derived.Deep.DeepCutAuto
namespace Go.Proofs.YthfnncnmggkfaaaDoor
open Go Go.RowKit Go.Maps

def opsD0 : DataW Unit := (DataW.map []).put (.string [71, 48]) (.lit (.int .i64 1))
def opsD1 : DataW Unit := opsD0.put (.string [77, 55]) (.lit (.int .i64 2))
def opsD2 : DataW Unit := opsD1.put (.string [71, 49]) (.lit (.int .i64 3))
def opsD : DataW Unit := opsD2.put (.string [77, 56]) (.lit (.int .i64 4))
theorem str_ne {a b : List UInt8} (h : a ≠ b) : (Lit.string a) ≠ .string b := fun e => h (by injection e)
theorem opsD_at (t : List UInt8) : opsD.atKey (.string t) (.lit (.int .i64 0)) = .lit (.int .i64 (opN t)) ∧ has opsD (.string t) = (opN t != 0) := by
  have m0 : IsMap (DataW.map (H := Unit) []) := ⟨_, rfl⟩
  have m1 : IsMap opsD0 := ⟨_, rfl⟩
  have m2 : IsMap opsD1 := ⟨_, rfl⟩
  have m3 : IsMap opsD2 := ⟨_, rfl⟩
  have key : ∀ s : List UInt8, WideAt.IsKeyLit (.string s) := fun s => by trivial
  unfold opN
  by_cases h4 : t = [77, 56]
  · subst h4
    exact ⟨atKey_put_same m3 (key _) _ _, has_put_same m3 (key _) _⟩
  · by_cases h3 : t = [71, 49]
    · subst h3
      exact ⟨(atKey_put_other (str_ne h4) _ _).trans (atKey_put_same m2 (key _) _ _), (has_put_other (str_ne h4) _).trans (has_put_same m2 (key _) _)⟩
    · by_cases h2 : t = [77, 55]
      · subst h2
        exact ⟨((atKey_put_other (str_ne h4) _ _).trans (atKey_put_other (str_ne h3) _ _)).trans (atKey_put_same m1 (key _) _ _), ((has_put_other (str_ne h4) _).trans (has_put_other (str_ne h3) _)).trans (has_put_same m1 (key _) _)⟩
      · by_cases h1 : t = [71, 48]
        · subst h1
          exact ⟨(((atKey_put_other (str_ne h4) _ _).trans (atKey_put_other (str_ne h3) _ _)).trans (atKey_put_other (str_ne h2) _ _)).trans (atKey_put_same m0 (key _) _ _), (((has_put_other (str_ne h4) _).trans (has_put_other (str_ne h3) _)).trans (has_put_other (str_ne h2) _)).trans (has_put_same m0 (key _) _)⟩
        · rw [if_neg h1, if_neg h2, if_neg h3, if_neg h4]
          exact ⟨(((atKey_put_other (str_ne h4) _ _).trans (atKey_put_other (str_ne h3) _ _)).trans (atKey_put_other (str_ne h2) _ _)).trans (atKey_put_other (str_ne h1) _ _), (((has_put_other (str_ne h4) _).trans (has_put_other (str_ne h3) _)).trans (has_put_other (str_ne h2) _)).trans (has_put_other (str_ne h1) _)⟩
theorem str_law : Keyed Tryd.prog 9 := string_keyed Tryd.underlying9
theorem zero_int (w : World) : (zeroValue 3).run Tryd.prog w = .ok (.int .i64 0) w := by kernel_rfl
theorem str_key (s : ByteArray) (h : s.size ≤ 1000000000) : keyOf Tryd.prog 9 (.string s) = some (.string s.data.toList) := WideMaps.keyOf_string_mk Tryd.underlying9 (by unfold maxLen; omega)
/-- the map of the operations lies in a block. -/
def OpsAt (b : Nat) (w : World) : Prop := w.ownsMap Tryd.prog 9 (plainElem Tryd.prog 3) b 4 opsD
/-- a map literal's entry. -/
theorem wpList_insert_own {H : Type} {P : Program} (w : World) {ops : Array Oper} {rest : List Oper} {o : Oper} {a : Act} {Q : Exit → Act → World → Prop}
    (hg : o.guard = none) (m x v : Operand) (t : TypeId) (hop : o.op = Op.insert t m x v)
    (k e : TypeId) (K : Keyed P k) (ht : P.underlying t = some (.map k e)) (R : Value → Option (DataW H × List MemPlace)) (b n : Nat) (D : DataW H)
    (hm : a.eval m = .map (some b)) (hown : w.ownsMap P k R b n D) (hn : n < maxLen) (key val : Value) (kl : Lit) (hx : a.eval x = key) (hv : a.eval v = val) (hkey : keyOf P k key = some kl)
    (d : DataW H) (ps : List MemPlace) (hval : R val = some (d, ps))
    (hK : ∀ w', w'.ownsMap P k R b (n + 1) (D.put kl d) → w.grownBy w' (some b) → wpList P ops Q rest (a.put o.dst undef) w') :
    wpList P ops Q (o :: rest) a w := by
  refine wpList_plain hg fun K' hK' => ?_
  obtain ⟨w', hrun, r1, r2⟩ := hown.update K ht hn hkey hval
  unfold Oper.wp
  simp [execOp, hop, hm, hx, hv, hrun, Result.andThen]
  exact hK' _ _ (hK w' r1 r2)
theorem st_size : (Tryd.prog.info? 49).map (·.size) = some 3 := by kernel_rfl
theorem st_store {w W : World} {gr gp : Nat} {t : TypeId} {L : Option Addr} {n cp i : Nat} {a b c : Value} (hb : Blk W gr t #[a, b, c]) (hp : ParAt gp L n cp i W) (hg : w.grownBy W (some gp)) (hne : gr ≠ gp) (hge : w.heap.size ≤ gr) (x y z : Value) :
    Blk (((W.setCell ⟨gr, 0, none⟩ x).setCell ⟨gr, 1, none⟩ y).setCell ⟨gr, 2, none⟩ z) gr t #[x, y, z] ∧ ParAt gp L n cp i (((W.setCell ⟨gr, 0, none⟩ x).setCell ⟨gr, 1, none⟩ y).setCell ⟨gr, 2, none⟩ z) ∧ w.grownBy (((W.setCell ⟨gr, 0, none⟩ x).setCell ⟨gr, 1, none⟩ y).setCell ⟨gr, 2, none⟩ z) (some gp) :=
  ⟨((hb.set_ 0 x).set_ 1 y).set_ 2 z, ((Blk.far hp hne.symm _).far hne.symm _).far hne.symm _, only_setCell (only_setCell (only_setCell hg (.inr hge) _) (.inr hge) _) (.inr hge) _⟩
theorem ptI_ok {l : List Lx} {i : Nat} (h : (ptI l i).2.1 = 0) : (ptI l i).2.2 = i + 2 ∧ (lxAt l i).1 = 1 ∧ (lxAt l (i + 1)).1 = 1 := by
  unfold ptI at h ⊢
  by_cases h1 : (coF 88 (lxAt l i)).2 = 0
  · rw [if_neg (by simp [h1])] at h ⊢
    by_cases h2 : (coF 89 (lxAt l (i + 1))).2 = 0
    · rw [if_neg (by simp [h2])]
      exact ⟨rfl, co_kind h1, co_kind h2⟩
    · rw [if_pos h2] at h
      exact absurd h h2
  · rw [if_pos h1] at h
    exact absurd h h1
def StepPost (r : Stp × Int × Nat) (gp : Nat) (L : Option Addr) (n cp : Nat) (w : World) (e : Ending) (w' : World) : Prop :=
  e = .returned (.tuple #[.agg #[.int .i64 r.1.1, .int .i64 r.1.2.1, .int .i64 r.1.2.2], .int .i64 r.2.1]) ∧ ParAt gp L n cp r.2.2 w' ∧ w.grownBy w' (some gp)
set_option maxRecDepth 100000 in
set_option maxHeartbeats 4000000 in
theorem step_any (gp : Nat) (L : Option Addr) (n cp : Nat) (l : List Lx) (i : Nat) (w : World) (hP : ParAt gp L n cp i w) (hl : Rep.lx.slice.R w (fun b => b < gp) l [.slice L n cp]) (hi : i < l.length) (hE : Ends l) :
    Calls Tryd.prog 38 #[.pointer (some ⟨gp, 0, none⟩)] w (StepPost (stepI l i) gp L n cp w) := by
  obtain ⟨rfl, hm⟩ := slice_len hl
  have hgp := hP.lt
  obtain ⟨b, off, x1, x2, x3, x4, rfl, hx, hbD, c0, c1, c2, c3⟩ := nlx_at hl hi
  have hbg : b < gp := hbD
  have hbl : b < w.heap.size := by omega
  have hiI : (i : Int) < (l.length : Int) := by omega
  have hw0 := (Below.refl w.heap.size w).alloc (Nat.le_refl _) (.cells #[.int .i64 0, .int .i64 0, .int .i64 0] 49)
  have hP1 : ParAt gp (some ⟨b, off, none⟩) l.length cp i (w.alloc (.cells #[.int .i64 0, .int .i64 0, .int .i64 0] 49)) := hP.alloc _
  have BR := Blk.new w 49 #[.int .i64 0, .int .i64 0, .int .i64 0]
  obtain ⟨w0, hw0e⟩ : ∃ W, W = w.alloc (.cells #[.int .i64 0, .int .i64 0, .int .i64 0] 49) := ⟨_, rfl⟩
  have hz0 : w0.heap.size = w.heap.size + 1 := by rw [hw0e]; simp
  have hG0 : w.grownBy w0 (some gp) := by rw [hw0e]; exact only_alloc (only_refl w (some gp)) _
  rw [← hw0e] at hw0 hP1 BR
  have k0 := ((bcell hw0).1 b (off + i * 4) hbl).trans c0
  have k1 := ((bcell hw0).1 b (off + i * 4 + 1) hbl).trans c1
  have k2 := ((bcell hw0).1 b (off + i * 4 + 2) hbl).trans c2
  have k3 := ((bcell hw0).1 b (off + i * 4 + 3) hbl).trans c3
  have p0 := hP1.c20
  have p1 := hP1.c21
  have hgp0 : gp < w0.heap.size := by omega
  have hbl0 : b < w0.heap.size := by omega
  obtain ⟨gr, hgr⟩ : ∃ g, g = w.heap.size := ⟨_, rfl⟩
  rw [← hgr] at BR
  have HGR := Lib.hid hgr
  have HW0 := Lib.hid hw0e
  have HZ0 := Lib.hid hz0
  have hmm := @run_makeMap Tryd.prog
  have hgr0 : gr < w0.heap.size := by omega
  clear c0 c1 c2 c3 hw0 hw0e hz0 hgr hP
  go_enter Tryd.func38, Tryd.ntmps38
  go_upto_region 1 with fail
  rw [← HW0.out, ← HGR.out]
  go_region_held3 (fun W => W.cell? ⟨gp, 0, none⟩ = some (.slice (some ⟨b, off, none⟩) l.length cp) ∧ W.cell? ⟨gp, 1, none⟩ = some (.int .i64 (i : Int)) ∧ W.cell? ⟨b, off + i * 4, none⟩ = some (.int .i64 x1) ∧ W.cell? ⟨b, off + i * 4 + 1, none⟩ = some (.string ⟨x2.toArray⟩) ∧ W.cell? ⟨b, off + i * 4 + 2, none⟩ = some (.int .i64 x3) ∧ W.cell? ⟨b, off + i * 4 + 3, none⟩ = some (.int .i64 x4))
    (first
      | exact ⟨p0, p1, k0, k1, k2, k3⟩
      | exact six_two hgp0 hbl0 p0 p1 k0 k1 k2 k3 (by (repeat (first | exact Below.refl _ _ | refine Below.drew ?_ | refine Below.alloc ?_ (by simp <;> omega) _ | refine Below.setCell ?_ (by simp <;> omega) _))))
    (fail)
  have BX : Blk (w0.alloc (.cells #[.int .i64 x1, .string ⟨x2.toArray⟩, .int .i64 x3, .int .i64 x4] 90)).drew w0.heap.size 90 #[.int .i64 x1, .string ⟨x2.toArray⟩, .int .i64 x3, .int .i64 x4] := Blk.new w0 _ _
  have hP2 : ParAt gp (some ⟨b, off, none⟩) l.length cp i (w0.alloc (.cells #[.int .i64 x1, .string ⟨x2.toArray⟩, .int .i64 x3, .int .i64 x4] 90)).drew := hP1.alloc _
  have BR2 : Blk (w0.alloc (.cells #[.int .i64 x1, .string ⟨x2.toArray⟩, .int .i64 x3, .int .i64 x4] 90)).drew gr 49 #[.int .i64 0, .int .i64 0, .int .i64 0] := BR.alloc _
  have hG2 : w.grownBy (w0.alloc (.cells #[.int .i64 x1, .string ⟨x2.toArray⟩, .int .i64 x3, .int .i64 x4] 90)).drew (some gp) := only_drewN (only_alloc hG0 _) 1
  generalize hw2 : (w0.alloc (.cells #[.int .i64 x1, .string ⟨x2.toArray⟩, .int .i64 x3, .int .i64 x4] 90)).drew = w2 at *
  have hz2 : w2.heap.size = w0.heap.size + 1 := by rw [← hw2]; simp
  have HZ2 := Lib.hid hz2
  have hown0 : (w2.alloc (.map #[] 0)).ownsMap Tryd.prog 9 (plainElem Tryd.prog 3) w2.heap.size 0 (DataW.map (H := Unit) []) := World.ownsMap_made _ _ _ _
  have hx1 : w0.heap.size < w2.heap.size := by omega
  have hgp2 : gp < w2.heap.size := by omega
  have hgr2 : gr < w2.heap.size := by omega
  have x0 := BX.c40
  clear hz2 hw2 p0 p1 k0 k1 k2 k3
  have x1' := BX.c41
  go_upto_region 3 with (first
    | (refine wpList_insert_own _ rfl _ _ _ 114 rfl 9 3 str_law Tryd.underlying114 _ w2.heap.size 0 (DataW.map []) rfl hown0 (by unfold maxLen; omega) _ _ _ rfl rfl (str_key _ (by decide)) _ [] (plainElem_int Tryd.underlying3 (by decide)) ?_; intro v1 hown1 hgm1)
    | (refine wpList_insert_own _ rfl _ _ _ 114 rfl 9 3 str_law Tryd.underlying114 _ w2.heap.size 1 opsD0 rfl hown1 (by unfold maxLen; omega) _ _ _ rfl rfl (str_key _ (by decide)) _ [] (plainElem_int Tryd.underlying3 (by decide)) ?_; intro v2 hown2 hgm2)
    | (refine wpList_insert_own _ rfl _ _ _ 114 rfl 9 3 str_law Tryd.underlying114 _ w2.heap.size 2 opsD1 rfl hown2 (by unfold maxLen; omega) _ _ _ rfl rfl (str_key _ (by decide)) _ [] (plainElem_int Tryd.underlying3 (by decide)) ?_; intro v3 hown3 hgm3)
    | (refine wpList_insert_own _ rfl _ _ _ 114 rfl 9 3 str_law Tryd.underlying114 _ w2.heap.size 3 opsD2 rfl hown3 (by unfold maxLen; omega) _ _ _ rfl rfl (str_key _ (by decide)) _ [] (plainElem_int Tryd.underlying3 (by decide)) ?_; intro v4 hown4 hgm4))
  have hga := only_trans (only_trans (only_trans (only_trans (only_alloc (only_refl w2 (some w2.heap.size)) (.map #[] 0)) hgm1) hgm2) hgm3) hgm4
  have BX4 := blk_only BX hga (by omega)
  have BR4 := blk_only BR2 hga (by omega)
  have hP4 : ParAt gp (some ⟨b, off, none⟩) l.length cp i v4 := blk_only hP2 hga (by omega)
  have hz4 := hga.size
  have hG4 : w.grownBy v4 (some gp) := ⟨hga.os.trans hG2.os, hga.tape.trans hG2.tape, hga.output.trans hG2.output, Nat.le_trans hG2.size hga.size, fun j hj hn => (hga.block j (Nat.lt_of_lt_of_le hj hG2.size) (fun e => by injection e with e; have := hG2.size; have := HZ0.out; omega)).trans (hG2.block j hj hn)⟩
  have hOps : OpsAt w2.heap.size v4 := hown4
  obtain ⟨gm, hgm⟩ : ∃ g, g = w2.heap.size := ⟨_, rfl⟩
  obtain ⟨gx, hgx⟩ : ∃ g, g = w0.heap.size := ⟨_, rfl⟩
  rw [← hgm] at hOps
  rw [← hgx] at BX4
  rw [← hgm, ← hgx]
  have hzz := HZ0.out
  have hgrr := HGR.out
  have hne1 : gx ≠ gp := by omega
  have hne2 : gr ≠ gp := by omega
  have hne3 : gr ≠ gx := by omega
  have hge : w.heap.size ≤ gr ∧ w.heap.size ≤ gx := ⟨by omega, by omega⟩
  have hx2 := hE.len i hi
  rw [hx.out] at hx2
  have hx2 : x2.length ≤ 16384 := hx2
  have hkey := str_key ⟨x2.toArray⟩ (by show x2.toArray.size ≤ _; rw [List.size_toArray]; omega)
  have HOP := Lib.hid (opsD_at x2)
  have y0 := BX4.c40
  have y1 := BX4.c41
  have HLX := Lib.hid (lx_only hl hG4 hgp)
  have HL0 := Lib.hid hl
  have HX := Lib.hid (And.intro BX4 (And.intro BR4 (And.intro hP4 hG4)))
  have HNE := Lib.hid (And.intro hne1 (And.intro hne2 (And.intro hne3 hge)))
  have HHI := Lib.hid hi
  have HEN := Lib.hid hE
  have HGP := Lib.hid hgp
  have hz0 := hG4.size
  have hsz : gx < v4.heap.size ∧ gr < v4.heap.size := ⟨BX4.lt, BR4.lt⟩
  clear hzz hgrr hne1 hne2 hne3 hge BX4 BR4 hP4 hG4 hgm hgx hga hgm1 hgm2 hgm3 hgm4 hown0 hown1 hown2 hown3 hown4 hx1 hgp2 hgr2 x0 x1' BX hP2 BR2 hG2 hmm hgr0 BR hP1 hG0 hgp0 hbl0 hz4 hl
  go_upto_region 4 with (at_lookup; refine wpList_lookup_own_ok_int _ rfl _ _ 114 rfl 9 3 .i64 str_law Tryd.underlying114 Tryd.underlying3 (zero_int _) gm 4 opsD rfl hOps _ _ rfl hkey ?_; intro op hat hwc)
  have hat2 : DataW.lit (H := Unit) (.int .i64 (opN x2)) = .lit (.int .i64 op) := HOP.out.1.symm.trans hat
  injection hat2 with hat2
  injection hat2 with _ hop
  have hhas : has opsD (.string x2) = (op != 0) := by rw [HOP.out.2, hop]
  rw [hhas]
  have HOPN := Lib.hid hop
  obtain ⟨BX4, BR4, hP4, hG4⟩ := HX.out
  clear hat hwc hop hhas hkey hOps
  have r0 := BR4.cell 0
  have r1 := BR4.cell 1
  have r2 := BR4.cell 2
  simp only [List.getElem?_toArray, List.getElem?_cons_zero, List.getElem?_cons_succ] at r0 r1 r2
  have rf0 := BR4.free 0
  have rf1 := BR4.free 1
  have rf2 := BR4.free 2
  by_cases hk : x1 = 1
  · have hkb : (x1 != 1) = false := ine_f hk
    have HOF : Hid (opF (lxAt l i) = op) := by show _ = _; rw [hx.out]; unfold opF; rw [if_pos hk, HOPN.out]
    by_cases ho : op = 0
    · have HRES : Hid (stepI l i = ((0, (0, 0)), 5, i)) := by show _ = _; unfold stepI; rw [HOF.out, if_pos ho]
      have hob : (op != 0) = false := ine_f ho
      rw [hob]
      clear hk ho
      go_wp2
      rw [HRES.out]
      obtain ⟨hb3, hp3, hg3⟩ := st_store (w := w) BR4 hP4 hG4 HNE.out.2.1 HNE.out.2.2.2.1 (.int .i64 0) (.int .i64 0) (.int .i64 0)
      exact bodyPost_ret (results_rt (p := 2) (u := 3) (ty := 49) (vu := .int .i64 5) rfl _ _ gr 49 #[.int .i64 0, .int .i64 0, .int .i64 0] (0, 0) _ rfl rfl hb3 Tryd.underlying49 rfl st_size) rfl ⟨rfl, hp3, hg3⟩
    · have hob : (op != 0) = true := ine_t ho
      rw [hob]
      have hi1 := HEN.out.more i HHI.out (by rw [hx.out]; show x1 ≠ 0; rw [hk]; decide)
      have p0 := hP4.c20
      have p1 := hP4.c21
      have pf := hP4.free 1
      have hiw : IntKind.i64.wrap ((i : Int) + 1) = (i : Int) + 1 := IntWalk.i64_in _ (by omega)
      have hne1 := HNE.out.1
      have hne2 := HNE.out.2.1
      have HPs : ParAt gp (some ⟨b, off, none⟩) l.length cp (i + 1) ((v4.setCell ⟨gp, 1, none⟩ (.int .i64 ((i : Int) + 1))).alloc (.cells #[.int .i64 op, .int .i64 0, .int .i64 0] 49)) := Blk.alloc (Blk.set_ hP4 1 (.int .i64 ((i : Int) + 1))) _
      have Bgr1 := (BR4.far (p := ⟨gp, 1, none⟩) hne2 (.int .i64 ((i : Int) + 1))).alloc (.cells #[.int .i64 op, .int .i64 0, .int .i64 0] 49)
      have HGs := only_alloc (only_setCell (p := ⟨gp, 1, none⟩) hG4 (.inl rfl) (.int .i64 ((i : Int) + 1))) (.cells #[.int .i64 op, .int .i64 0, .int .i64 0] 49)
      have Bgs1 := Blk.new (v4.setCell ⟨gp, 1, none⟩ (.int .i64 ((i : Int) + 1))) 49 #[.int .i64 op, .int .i64 0, .int .i64 0]
      have hsz4 : (v4.setCell ⟨gp, 1, none⟩ (.int .i64 ((i : Int) + 1))).heap.size = v4.heap.size := by simp [World.setCell]
      rw [hsz4] at Bgs1
      have HSZ4 := Lib.hid hsz4
      have HLs := Lib.hid (lx_only HL0.out HGs HGP.out)
      have HX4 := Lib.hid (And.intro HPs (And.intro Bgr1 (And.intro HGs Bgs1)))
      clear hsz4 HPs Bgr1 HGs Bgs1
      by_cases h13 : op = 1 ∨ op = 3
      · rcases (show op = 1 ∨ (op ≠ 1 ∧ op = 3) from by omega) with h1 | ⟨h1, h3⟩
        · have HST : Hid (stepI l i = if (ptI l (i + 1)).2.1 ≠ 0 then ((0, (0, 0)), (ptI l (i + 1)).2.1, (ptI l (i + 1)).2.2) else endI (op, (ptI l (i + 1)).1) l (i + 3)) := by
            show _ = _
            unfold stepI
            rw [HOF.out, if_neg ho, if_pos h13]
          have h1b : (op == 1) = true := ieq_t h1
          clear h13 ho hk h1
          go_upto_region 10 with fail
          obtain ⟨HPs, Bgr1, HGs, Bgs1⟩ := HX4.out
          have HLs1 := HLs.out
          have hgs : v4.heap.size < ((v4.setCell ⟨gp, 1, none⟩ (.int .i64 ((i : Int) + 1))).alloc (.cells #[.int .i64 op, .int .i64 0, .int .i64 0] 49)).heap.size := by rw [World.size_alloc, HSZ4.out]; omega
          generalize hWs : (v4.setCell ⟨gp, 1, none⟩ (.int .i64 ((i : Int) + 1))).alloc (.cells #[.int .i64 op, .int .i64 0, .int .i64 0] 49) = Ws at *
          obtain ⟨gs, hgse⟩ : ∃ g, g = v4.heap.size := ⟨_, rfl⟩
          rw [← hgse] at Bgs1 hgs ⊢
          have hsne : gs ≠ gp ∧ gs ≠ gr ∧ w.heap.size ≤ gs := ⟨by have := HGP.out; omega, by omega, by omega⟩
          clear hWs hgse r0 r1 r2 rf0 rf1 rf2 y0 y1 p0 p1 pf HX4 HLs
          go_wp2_with fail
          have hlen1 := hi1
          obtain ⟨⟨⟨px, py⟩, pe, pk⟩, hpt⟩ : ∃ r, ptI l (i + 1) = r := ⟨_, rfl⟩
          have HPC := point_any gp (some ⟨b, off, none⟩) l.length cp l (i + 1) Ws HPs HLs1 hi1 HEN.out
          have hok := ptI_ok (l := l) (i := i + 1)
          rw [hpt] at HPC HST hok
          refine HPC.mono ?_
          rintro e w5 ⟨he, hq, hg⟩
          have he : e = .returned (.tuple #[.agg #[.int .i64 px, .int .i64 py], .int .i64 pe]) := he
          subst he
          have hq : ParAt gp (some ⟨b, off, none⟩) l.length cp pk w5 := hq
          have HST : Hid (stepI l i = if pe ≠ 0 then ((0, (0, 0)), pe, pk) else endI (op, (px, py)) l (i + 3)) := HST
          have hok : pe = 0 → pk = i + 1 + 2 ∧ (lxAt l (i + 1)).1 = 1 ∧ (lxAt l (i + 1 + 1)).1 = 1 := hok
          have Bgs5 := blk_only Bgs1 hg hsne.1
          have Bgr5 := blk_only Bgr1 hg HNE.out.2.1
          have HG5 := only_trans HGs hg
          have hz5 := hg.size
          have s1 := Bgs5.cell 1
          have s2 := Bgs5.cell 2
          simp only [List.getElem?_toArray, List.getElem?_cons_zero, List.getElem?_cons_succ] at s1 s2
          have sf1 := Bgs5.free 1
          have sf2 := Bgs5.free 2
          have Bgs6 := Lib.hid ((Bgs5.set_ 1 (.int .i64 px)).set_ 2 (.int .i64 py))
          have Bgr6 := Lib.hid ((Bgr5.far (p := ⟨gs, 1, none⟩) hsne.2.1.symm (.int .i64 px)).far (p := ⟨gs, 2, none⟩) hsne.2.1.symm (.int .i64 py))
          have HPq : Hid (ParAt gp (some ⟨b, off, none⟩) l.length cp pk ((w5.setCell ⟨gs, 1, none⟩ (.int .i64 px)).setCell ⟨gs, 2, none⟩ (.int .i64 py))) := (Blk.far hq (p := ⟨gs, 1, none⟩) hsne.1.symm _).far (p := ⟨gs, 2, none⟩) hsne.1.symm _
          have HG6 := Lib.hid (only_setCell (p := ⟨gs, 2, none⟩) (only_setCell (p := ⟨gs, 1, none⟩) HG5 (.inr hsne.2.2) (.int .i64 px)) (.inr hsne.2.2) (.int .i64 py))
          have HOK := Lib.hid hok
          have HI1 := Lib.hid hi1
          have hgsl : gs < w5.heap.size := Bgs5.lt
          have HSN := Lib.hid hsne
          clear HPs HLs1 HPC hok hpt hi1 hg hq Bgs5 Bgr5 HG5 Bgs1 Bgr1 HGs hlen1 hsne
          by_cases hpe : pe = 0
          · have hpb : (pe != 0) = false := ine_f hpe
            obtain ⟨hpk, hk1, hk2⟩ := HOK.out hpe
            have HEND0 : Hid (stepI l i = endI (op, (px, py)) l (i + 3)) := by show _ = _; rw [HST.out, if_neg (by simp [hpe])]
            have hi2 := HEN.out.more (i + 1) HI1.out (by rw [hk1]; decide)
            have hi3 := HEN.out.more (i + 1 + 1) hi2 (by rw [hk2]; decide)
            have HKE : Hid (pk = i + 3) := hpk
            have HI3 : Hid (pk < l.length) := by show pk < _; rw [hpk]; exact hi3
            clear hpk hk1 hk2 hi2 hi3 HST hpe
            go_upto_region 13 with fail
            have HPk := HPq.out
            have Bgs := Bgs6.out
            have Bgr := Bgr6.out
            have HGk := HG6.out
            have hsne := HSN.out
            have hgsk : gs < ((w5.setCell ⟨gs, 1, none⟩ (.int .i64 px)).setCell ⟨gs, 2, none⟩ (.int .i64 py)).heap.size := by simp [World.setCell]; exact hgsl
            clear s1 s2 sf1 sf2 hgsl HPq Bgs6 Bgr6 HG6
            generalize hWk : (w5.setCell ⟨gs, 1, none⟩ (.int .i64 px)).setCell ⟨gs, 2, none⟩ (.int .i64 py) = Wk at *
            have HLk := lx_only HL0.out HGk HGP.out
            obtain ⟨k, hke⟩ : ∃ k, k = pk := ⟨_, rfl⟩
            subst hke
            obtain ⟨vx, hvx⟩ : ∃ v : Int, v = px := ⟨_, rfl⟩
            subst hvx
            obtain ⟨vy, hvy⟩ : ∃ v : Int, v = py := ⟨_, rfl⟩
            subst hvy
            have HEND : Hid (stepI l i = endI (op, (vx, vy)) l k) := by show _ = _; rw [HEND0.out, HKE.out]
            have hkl : k < l.length := HI3.out
            clear hWk HEND0 HKE HI3 hgs
            obtain ⟨b', off', z1, z2, z3, z4, e', hz, -, m0, m1, m2, m3⟩ := nlx_at HLk hkl
            injection e' with e'
            injection e' with e5 e6 _
            subst e5 e6
            have hkI : (k : Int) < (l.length : Int) := by omega
            have hgpk := HPk.lt
            have hbk : b < Wk.heap.size := by omega
            have q0 := HPk.c20
            have q1 := HPk.c21
            have BE := Blk.new Wk 90 #[.int .i64 z1, .string ⟨z2.toArray⟩, .int .i64 z3, .int .i64 z4]
            have HSB : Hid (semiB (lxAt l k) = decide (z1 = 4 ∧ z2 = [59])) := by show _ = _; rw [hz.out]; rfl
            have HPk2 : ParAt gp (some ⟨b, off, none⟩) l.length cp k (Wk.alloc (.cells #[.int .i64 z1, .string ⟨z2.toArray⟩, .int .i64 z3, .int .i64 z4] 90)) := HPk.alloc _
            have Bgs2 := Bgs.alloc (.cells #[.int .i64 z1, .string ⟨z2.toArray⟩, .int .i64 z3, .int .i64 z4] 90)
            have Bgr2 := Bgr.alloc (.cells #[.int .i64 z1, .string ⟨z2.toArray⟩, .int .i64 z3, .int .i64 z4] 90)
            have HGk2 := only_alloc HGk (.cells #[.int .i64 z1, .string ⟨z2.toArray⟩, .int .i64 z3, .int .i64 z4] 90)
            obtain ⟨ge, hge⟩ : ∃ g, g = Wk.heap.size := ⟨_, rfl⟩
            have HGE := Lib.hid hge
            have hgge : gs < ge ∧ gr < ge := by have := Bgs.lt; have := Bgr.lt; omega
            clear hge
            go_wp2
            go_region_held3 (fun W => W.cell? ⟨gp, 0, none⟩ = some (.slice (some ⟨b, off, none⟩) l.length cp) ∧ W.cell? ⟨gp, 1, none⟩ = some (.int .i64 (k : Int)) ∧ W.cell? ⟨b, off + k * 4, none⟩ = some (.int .i64 z1) ∧ W.cell? ⟨b, off + k * 4 + 1, none⟩ = some (.string ⟨z2.toArray⟩) ∧ W.cell? ⟨b, off + k * 4 + 2, none⟩ = some (.int .i64 z3) ∧ W.cell? ⟨b, off + k * 4 + 3, none⟩ = some (.int .i64 z4))
              (first
                | exact ⟨q0, q1, m0, m1, m2, m3⟩
                | exact six_two hgpk hbk q0 q1 m0 m1 m2 m3 (by (repeat (first | exact Below.refl _ _ | refine Below.drew ?_ | refine Below.alloc ?_ (by simp <;> omega) _ | refine Below.setCell ?_ (by simp <;> omega) _))))
              (fail)
            have BE3 : Blk (Wk.alloc (.cells #[.int .i64 z1, .string ⟨z2.toArray⟩, .int .i64 z3, .int .i64 z4] 90)).drew Wk.heap.size 90 #[.int .i64 z1, .string ⟨z2.toArray⟩, .int .i64 z3, .int .i64 z4] := BE
            have HPk3 : ParAt gp (some ⟨b, off, none⟩) l.length cp k (Wk.alloc (.cells #[.int .i64 z1, .string ⟨z2.toArray⟩, .int .i64 z3, .int .i64 z4] 90)).drew := HPk2
            have Bgs3 : Blk (Wk.alloc (.cells #[.int .i64 z1, .string ⟨z2.toArray⟩, .int .i64 z3, .int .i64 z4] 90)).drew gs 49 #[.int .i64 op, .int .i64 vx, .int .i64 vy] := Bgs2
            have Bgr3 : Blk (Wk.alloc (.cells #[.int .i64 z1, .string ⟨z2.toArray⟩, .int .i64 z3, .int .i64 z4] 90)).drew gr 49 #[.int .i64 0, .int .i64 0, .int .i64 0] := Bgr2
            have HGk3 : w.grownBy (Wk.alloc (.cells #[.int .i64 z1, .string ⟨z2.toArray⟩, .int .i64 z3, .int .i64 z4] 90)).drew (some gp) := only_drewN HGk2 1
            generalize hWe : (Wk.alloc (.cells #[.int .i64 z1, .string ⟨z2.toArray⟩, .int .i64 z3, .int .i64 z4] 90)).drew = We at *
            rw [← HGE.out] at BE3 ⊢
            clear hWe q0 q1 m0 m1 m2 m3 Bgs2 Bgr2 HGk2 HPk2 BE
            have y0 := BE3.c40
            have y1 := BE3.c41
            have r0 := Bgr3.cell 0
            have r1 := Bgr3.cell 1
            have r2 := Bgr3.cell 2
            simp only [List.getElem?_toArray, List.getElem?_cons_zero, List.getElem?_cons_succ] at r0 r1 r2
            have rf0 := Bgr3.free 0
            have rf1 := Bgr3.free 1
            have rf2 := Bgr3.free 2
            by_cases hz1 : z1 = 4
            · have hzb : (z1 != 4) = false := ine_f hz1
              by_cases hz2 : z2 = [59]
              · have HRES : Hid (stepI l i = ((op, (vx, vy)), 0, k + 1)) := by
                  show _ = _
                  rw [HEND.out]
                  unfold endI
                  rw [HSB.out, if_pos (decide_eq_true ⟨hz1, hz2⟩)]
                subst hz2
                have q0 := HPk3.c20
                have q1 := HPk3.c21
                have qf := HPk3.free 1
                have s0 := Bgs3.cell 0
                have s1 := Bgs3.cell 1
                have s2 := Bgs3.cell 2
                simp only [List.getElem?_toArray, List.getElem?_cons_zero, List.getElem?_cons_succ] at s0 s1 s2
                have hne4 := HNE.out.2.1
                have hne5 := hne4.symm
                have hne6 := hsne.1
                have hne7 := hsne.1.symm
                have hne8 := hsne.2.1
                have hne9 := hsne.2.1.symm
                have hiw : IntKind.i64.wrap ((k : Int) + 1) = (k : Int) + 1 := IntWalk.i64_in _ (by omega)
                clear hz1
                go_upto_region 17 with fail
                have HPk4 : ParAt gp (some ⟨b, off, none⟩) l.length cp (k + 1) (We.setCell ⟨gp, 1, none⟩ (.int .i64 ((k : Int) + 1))) := Blk.set_ HPk3 1 (.int .i64 ((k : Int) + 1))
                have Bgr4 := Bgr3.far (p := ⟨gp, 1, none⟩) HNE.out.2.1 (.int .i64 ((k : Int) + 1))
                have Bgs4 := Bgs3.far (p := ⟨gp, 1, none⟩) hsne.1 (.int .i64 ((k : Int) + 1))
                have HG4 := only_setCell (p := ⟨gp, 1, none⟩) HGk3 (.inl rfl) (.int .i64 ((k : Int) + 1))
                clear s0 s1 s2 r0 r1 r2 rf0 rf1 rf2 q0 q1 qf y0 y1 Bgr3 Bgs3 HGk3 HPk3 BE3
                generalize We.setCell ⟨gp, 1, none⟩ (.int .i64 ((k : Int) + 1)) = Wf at *
                have s0 := Bgs4.cell 0
                have s1 := Bgs4.cell 1
                have s2 := Bgs4.cell 2
                have r0 := Bgr4.cell 0
                have r1 := Bgr4.cell 1
                have r2 := Bgr4.cell 2
                simp only [List.getElem?_toArray, List.getElem?_cons_zero, List.getElem?_cons_succ] at s0 s1 s2 r0 r1 r2
                have rf0 := Bgr4.free 0
                have rf1 := Bgr4.free 1
                have rf2 := Bgr4.free 2
                go_wp2
                rw [HRES.out]
                obtain ⟨hb3, hp3, hg3⟩ := st_store (w := w) Bgr4 HPk4 HG4 HNE.out.2.1 HNE.out.2.2.2.1 (.int .i64 op) (.int .i64 vx) (.int .i64 vy)
                exact bodyPost_ret (results_rt (p := 2) (u := 3) (ty := 49) (vu := .int .i64 0) rfl _ _ gr 49 #[.int .i64 op, .int .i64 vx, .int .i64 vy] (0, 0) _ rfl rfl hb3 Tryd.underlying49 rfl st_size) rfl ⟨rfl, hp3, hg3⟩
              · have HRES : Hid (stepI l i = ((0, (0, 0)), 5, k)) := by
                  show _ = _
                  rw [HEND.out]
                  unfold endI
                  rw [HSB.out, if_neg (by simp [hz2])]
                have hzl : (z2 == [59]) = false := beq_eq_false_iff_ne.2 hz2
                clear hz1 hz2
                go_wp2
                rw [HRES.out]
                obtain ⟨hb3, hp3, hg3⟩ := st_store (w := w) Bgr3 HPk3 HGk3 HNE.out.2.1 HNE.out.2.2.2.1 (.int .i64 0) (.int .i64 0) (.int .i64 0)
                exact bodyPost_ret (results_rt (p := 2) (u := 3) (ty := 49) (vu := .int .i64 5) rfl _ _ gr 49 #[.int .i64 0, .int .i64 0, .int .i64 0] (0, 0) _ rfl rfl hb3 Tryd.underlying49 rfl st_size) rfl ⟨rfl, hp3, hg3⟩
            · have hzb : (z1 != 4) = true := ine_t hz1
              have HRES : Hid (stepI l i = ((0, (0, 0)), 5, k)) := by
                show _ = _
                rw [HEND.out]
                unfold endI
                rw [HSB.out, if_neg (by simp [hz1])]
              clear hz1
              go_wp2
              rw [HRES.out]
              obtain ⟨hb3, hp3, hg3⟩ := st_store (w := w) Bgr3 HPk3 HGk3 HNE.out.2.1 HNE.out.2.2.2.1 (.int .i64 0) (.int .i64 0) (.int .i64 0)
              exact bodyPost_ret (results_rt (p := 2) (u := 3) (ty := 49) (vu := .int .i64 5) rfl _ _ gr 49 #[.int .i64 0, .int .i64 0, .int .i64 0] (0, 0) _ rfl rfl hb3 Tryd.underlying49 rfl st_size) rfl ⟨rfl, hp3, hg3⟩
          · have hpb : (pe != 0) = true := ine_t hpe
            have HRES : Hid (stepI l i = ((0, (0, 0)), pe, pk)) := by show _ = _; rw [HST.out, if_pos hpe]
            have r0 := Bgr6.out.cell 0
            have r1 := Bgr6.out.cell 1
            have r2 := Bgr6.out.cell 2
            simp only [List.getElem?_toArray, List.getElem?_cons_zero, List.getElem?_cons_succ] at r0 r1 r2
            have rf0 := Bgr6.out.free 0
            have rf1 := Bgr6.out.free 1
            have rf2 := Bgr6.out.free 2
            clear HST hpe
            go_wp2
            rw [HRES.out]
            obtain ⟨hb3, hp3, hg3⟩ := st_store (w := w) Bgr6.out HPq.out HG6.out HNE.out.2.1 HNE.out.2.2.2.1 (.int .i64 0) (.int .i64 0) (.int .i64 0)
            exact bodyPost_ret (results_rt (p := 2) (u := 3) (ty := 49) (vu := .int .i64 pe) rfl _ _ gr 49 #[.int .i64 0, .int .i64 0, .int .i64 0] (0, 0) _ rfl rfl hb3 Tryd.underlying49 rfl st_size) rfl ⟨rfl, hp3, hg3⟩
        · have HST : Hid (stepI l i = if (ptI l (i + 1)).2.1 ≠ 0 then ((0, (0, 0)), (ptI l (i + 1)).2.1, (ptI l (i + 1)).2.2) else endI (op, (ptI l (i + 1)).1) l (i + 3)) := by
            show _ = _
            unfold stepI
            rw [HOF.out, if_neg ho, if_pos h13]
          have h1b : (op == 1) = false := ieq_f h1
          have h3b : (op == 3) = true := ieq_t h3
          clear h13 ho hk h1 h3
          go_upto_region 10 with fail
          obtain ⟨HPs, Bgr1, HGs, Bgs1⟩ := HX4.out
          have HLs1 := HLs.out
          have hgs : v4.heap.size < ((v4.setCell ⟨gp, 1, none⟩ (.int .i64 ((i : Int) + 1))).alloc (.cells #[.int .i64 op, .int .i64 0, .int .i64 0] 49)).heap.size := by rw [World.size_alloc, HSZ4.out]; omega
          generalize hWs : (v4.setCell ⟨gp, 1, none⟩ (.int .i64 ((i : Int) + 1))).alloc (.cells #[.int .i64 op, .int .i64 0, .int .i64 0] 49) = Ws at *
          obtain ⟨gs, hgse⟩ : ∃ g, g = v4.heap.size := ⟨_, rfl⟩
          rw [← hgse] at Bgs1 hgs ⊢
          have hsne : gs ≠ gp ∧ gs ≠ gr ∧ w.heap.size ≤ gs := ⟨by have := HGP.out; omega, by omega, by omega⟩
          clear hWs hgse r0 r1 r2 rf0 rf1 rf2 y0 y1 p0 p1 pf HX4 HLs
          go_wp2_with fail
          have hlen1 := hi1
          obtain ⟨⟨⟨px, py⟩, pe, pk⟩, hpt⟩ : ∃ r, ptI l (i + 1) = r := ⟨_, rfl⟩
          have HPC := point_any gp (some ⟨b, off, none⟩) l.length cp l (i + 1) Ws HPs HLs1 hi1 HEN.out
          have hok := ptI_ok (l := l) (i := i + 1)
          rw [hpt] at HPC HST hok
          refine HPC.mono ?_
          rintro e w5 ⟨he, hq, hg⟩
          have he : e = .returned (.tuple #[.agg #[.int .i64 px, .int .i64 py], .int .i64 pe]) := he
          subst he
          have hq : ParAt gp (some ⟨b, off, none⟩) l.length cp pk w5 := hq
          have HST : Hid (stepI l i = if pe ≠ 0 then ((0, (0, 0)), pe, pk) else endI (op, (px, py)) l (i + 3)) := HST
          have hok : pe = 0 → pk = i + 1 + 2 ∧ (lxAt l (i + 1)).1 = 1 ∧ (lxAt l (i + 1 + 1)).1 = 1 := hok
          have Bgs5 := blk_only Bgs1 hg hsne.1
          have Bgr5 := blk_only Bgr1 hg HNE.out.2.1
          have HG5 := only_trans HGs hg
          have hz5 := hg.size
          have s1 := Bgs5.cell 1
          have s2 := Bgs5.cell 2
          simp only [List.getElem?_toArray, List.getElem?_cons_zero, List.getElem?_cons_succ] at s1 s2
          have sf1 := Bgs5.free 1
          have sf2 := Bgs5.free 2
          have Bgs6 := Lib.hid ((Bgs5.set_ 1 (.int .i64 px)).set_ 2 (.int .i64 py))
          have Bgr6 := Lib.hid ((Bgr5.far (p := ⟨gs, 1, none⟩) hsne.2.1.symm (.int .i64 px)).far (p := ⟨gs, 2, none⟩) hsne.2.1.symm (.int .i64 py))
          have HPq : Hid (ParAt gp (some ⟨b, off, none⟩) l.length cp pk ((w5.setCell ⟨gs, 1, none⟩ (.int .i64 px)).setCell ⟨gs, 2, none⟩ (.int .i64 py))) := (Blk.far hq (p := ⟨gs, 1, none⟩) hsne.1.symm _).far (p := ⟨gs, 2, none⟩) hsne.1.symm _
          have HG6 := Lib.hid (only_setCell (p := ⟨gs, 2, none⟩) (only_setCell (p := ⟨gs, 1, none⟩) HG5 (.inr hsne.2.2) (.int .i64 px)) (.inr hsne.2.2) (.int .i64 py))
          have HOK := Lib.hid hok
          have HI1 := Lib.hid hi1
          have hgsl : gs < w5.heap.size := Bgs5.lt
          have HSN := Lib.hid hsne
          clear HPs HLs1 HPC hok hpt hi1 hg hq Bgs5 Bgr5 HG5 Bgs1 Bgr1 HGs hlen1 hsne
          by_cases hpe : pe = 0
          · have hpb : (pe != 0) = false := ine_f hpe
            obtain ⟨hpk, hk1, hk2⟩ := HOK.out hpe
            have HEND0 : Hid (stepI l i = endI (op, (px, py)) l (i + 3)) := by show _ = _; rw [HST.out, if_neg (by simp [hpe])]
            have hi2 := HEN.out.more (i + 1) HI1.out (by rw [hk1]; decide)
            have hi3 := HEN.out.more (i + 1 + 1) hi2 (by rw [hk2]; decide)
            have HKE : Hid (pk = i + 3) := hpk
            have HI3 : Hid (pk < l.length) := by show pk < _; rw [hpk]; exact hi3
            clear hpk hk1 hk2 hi2 hi3 HST hpe
            go_upto_region 13 with fail
            have HPk := HPq.out
            have Bgs := Bgs6.out
            have Bgr := Bgr6.out
            have HGk := HG6.out
            have hsne := HSN.out
            have hgsk : gs < ((w5.setCell ⟨gs, 1, none⟩ (.int .i64 px)).setCell ⟨gs, 2, none⟩ (.int .i64 py)).heap.size := by simp [World.setCell]; exact hgsl
            clear s1 s2 sf1 sf2 hgsl HPq Bgs6 Bgr6 HG6
            generalize hWk : (w5.setCell ⟨gs, 1, none⟩ (.int .i64 px)).setCell ⟨gs, 2, none⟩ (.int .i64 py) = Wk at *
            have HLk := lx_only HL0.out HGk HGP.out
            obtain ⟨k, hke⟩ : ∃ k, k = pk := ⟨_, rfl⟩
            subst hke
            obtain ⟨vx, hvx⟩ : ∃ v : Int, v = px := ⟨_, rfl⟩
            subst hvx
            obtain ⟨vy, hvy⟩ : ∃ v : Int, v = py := ⟨_, rfl⟩
            subst hvy
            have HEND : Hid (stepI l i = endI (op, (vx, vy)) l k) := by show _ = _; rw [HEND0.out, HKE.out]
            have hkl : k < l.length := HI3.out
            clear hWk HEND0 HKE HI3 hgs
            obtain ⟨b', off', z1, z2, z3, z4, e', hz, -, m0, m1, m2, m3⟩ := nlx_at HLk hkl
            injection e' with e'
            injection e' with e5 e6 _
            subst e5 e6
            have hkI : (k : Int) < (l.length : Int) := by omega
            have hgpk := HPk.lt
            have hbk : b < Wk.heap.size := by omega
            have q0 := HPk.c20
            have q1 := HPk.c21
            have BE := Blk.new Wk 90 #[.int .i64 z1, .string ⟨z2.toArray⟩, .int .i64 z3, .int .i64 z4]
            have HSB : Hid (semiB (lxAt l k) = decide (z1 = 4 ∧ z2 = [59])) := by show _ = _; rw [hz.out]; rfl
            have HPk2 : ParAt gp (some ⟨b, off, none⟩) l.length cp k (Wk.alloc (.cells #[.int .i64 z1, .string ⟨z2.toArray⟩, .int .i64 z3, .int .i64 z4] 90)) := HPk.alloc _
            have Bgs2 := Bgs.alloc (.cells #[.int .i64 z1, .string ⟨z2.toArray⟩, .int .i64 z3, .int .i64 z4] 90)
            have Bgr2 := Bgr.alloc (.cells #[.int .i64 z1, .string ⟨z2.toArray⟩, .int .i64 z3, .int .i64 z4] 90)
            have HGk2 := only_alloc HGk (.cells #[.int .i64 z1, .string ⟨z2.toArray⟩, .int .i64 z3, .int .i64 z4] 90)
            obtain ⟨ge, hge⟩ : ∃ g, g = Wk.heap.size := ⟨_, rfl⟩
            have HGE := Lib.hid hge
            have hgge : gs < ge ∧ gr < ge := by have := Bgs.lt; have := Bgr.lt; omega
            clear hge
            go_wp2
            go_region_held3 (fun W => W.cell? ⟨gp, 0, none⟩ = some (.slice (some ⟨b, off, none⟩) l.length cp) ∧ W.cell? ⟨gp, 1, none⟩ = some (.int .i64 (k : Int)) ∧ W.cell? ⟨b, off + k * 4, none⟩ = some (.int .i64 z1) ∧ W.cell? ⟨b, off + k * 4 + 1, none⟩ = some (.string ⟨z2.toArray⟩) ∧ W.cell? ⟨b, off + k * 4 + 2, none⟩ = some (.int .i64 z3) ∧ W.cell? ⟨b, off + k * 4 + 3, none⟩ = some (.int .i64 z4))
              (first
                | exact ⟨q0, q1, m0, m1, m2, m3⟩
                | exact six_two hgpk hbk q0 q1 m0 m1 m2 m3 (by (repeat (first | exact Below.refl _ _ | refine Below.drew ?_ | refine Below.alloc ?_ (by simp <;> omega) _ | refine Below.setCell ?_ (by simp <;> omega) _))))
              (fail)
            have BE3 : Blk (Wk.alloc (.cells #[.int .i64 z1, .string ⟨z2.toArray⟩, .int .i64 z3, .int .i64 z4] 90)).drew Wk.heap.size 90 #[.int .i64 z1, .string ⟨z2.toArray⟩, .int .i64 z3, .int .i64 z4] := BE
            have HPk3 : ParAt gp (some ⟨b, off, none⟩) l.length cp k (Wk.alloc (.cells #[.int .i64 z1, .string ⟨z2.toArray⟩, .int .i64 z3, .int .i64 z4] 90)).drew := HPk2
            have Bgs3 : Blk (Wk.alloc (.cells #[.int .i64 z1, .string ⟨z2.toArray⟩, .int .i64 z3, .int .i64 z4] 90)).drew gs 49 #[.int .i64 op, .int .i64 vx, .int .i64 vy] := Bgs2
            have Bgr3 : Blk (Wk.alloc (.cells #[.int .i64 z1, .string ⟨z2.toArray⟩, .int .i64 z3, .int .i64 z4] 90)).drew gr 49 #[.int .i64 0, .int .i64 0, .int .i64 0] := Bgr2
            have HGk3 : w.grownBy (Wk.alloc (.cells #[.int .i64 z1, .string ⟨z2.toArray⟩, .int .i64 z3, .int .i64 z4] 90)).drew (some gp) := only_drewN HGk2 1
            generalize hWe : (Wk.alloc (.cells #[.int .i64 z1, .string ⟨z2.toArray⟩, .int .i64 z3, .int .i64 z4] 90)).drew = We at *
            rw [← HGE.out] at BE3 ⊢
            clear hWe q0 q1 m0 m1 m2 m3 Bgs2 Bgr2 HGk2 HPk2 BE
            have y0 := BE3.c40
            have y1 := BE3.c41
            have r0 := Bgr3.cell 0
            have r1 := Bgr3.cell 1
            have r2 := Bgr3.cell 2
            simp only [List.getElem?_toArray, List.getElem?_cons_zero, List.getElem?_cons_succ] at r0 r1 r2
            have rf0 := Bgr3.free 0
            have rf1 := Bgr3.free 1
            have rf2 := Bgr3.free 2
            by_cases hz1 : z1 = 4
            · have hzb : (z1 != 4) = false := ine_f hz1
              by_cases hz2 : z2 = [59]
              · have HRES : Hid (stepI l i = ((op, (vx, vy)), 0, k + 1)) := by
                  show _ = _
                  rw [HEND.out]
                  unfold endI
                  rw [HSB.out, if_pos (decide_eq_true ⟨hz1, hz2⟩)]
                subst hz2
                have q0 := HPk3.c20
                have q1 := HPk3.c21
                have qf := HPk3.free 1
                have s0 := Bgs3.cell 0
                have s1 := Bgs3.cell 1
                have s2 := Bgs3.cell 2
                simp only [List.getElem?_toArray, List.getElem?_cons_zero, List.getElem?_cons_succ] at s0 s1 s2
                have hne4 := HNE.out.2.1
                have hne5 := hne4.symm
                have hne6 := hsne.1
                have hne7 := hsne.1.symm
                have hne8 := hsne.2.1
                have hne9 := hsne.2.1.symm
                have hiw : IntKind.i64.wrap ((k : Int) + 1) = (k : Int) + 1 := IntWalk.i64_in _ (by omega)
                clear hz1
                go_upto_region 17 with fail
                have HPk4 : ParAt gp (some ⟨b, off, none⟩) l.length cp (k + 1) (We.setCell ⟨gp, 1, none⟩ (.int .i64 ((k : Int) + 1))) := Blk.set_ HPk3 1 (.int .i64 ((k : Int) + 1))
                have Bgr4 := Bgr3.far (p := ⟨gp, 1, none⟩) HNE.out.2.1 (.int .i64 ((k : Int) + 1))
                have Bgs4 := Bgs3.far (p := ⟨gp, 1, none⟩) hsne.1 (.int .i64 ((k : Int) + 1))
                have HG4 := only_setCell (p := ⟨gp, 1, none⟩) HGk3 (.inl rfl) (.int .i64 ((k : Int) + 1))
                clear s0 s1 s2 r0 r1 r2 rf0 rf1 rf2 q0 q1 qf y0 y1 Bgr3 Bgs3 HGk3 HPk3 BE3
                generalize We.setCell ⟨gp, 1, none⟩ (.int .i64 ((k : Int) + 1)) = Wf at *
                have s0 := Bgs4.cell 0
                have s1 := Bgs4.cell 1
                have s2 := Bgs4.cell 2
                have r0 := Bgr4.cell 0
                have r1 := Bgr4.cell 1
                have r2 := Bgr4.cell 2
                simp only [List.getElem?_toArray, List.getElem?_cons_zero, List.getElem?_cons_succ] at s0 s1 s2 r0 r1 r2
                have rf0 := Bgr4.free 0
                have rf1 := Bgr4.free 1
                have rf2 := Bgr4.free 2
                go_wp2
                rw [HRES.out]
                obtain ⟨hb3, hp3, hg3⟩ := st_store (w := w) Bgr4 HPk4 HG4 HNE.out.2.1 HNE.out.2.2.2.1 (.int .i64 op) (.int .i64 vx) (.int .i64 vy)
                exact bodyPost_ret (results_rt (p := 2) (u := 3) (ty := 49) (vu := .int .i64 0) rfl _ _ gr 49 #[.int .i64 op, .int .i64 vx, .int .i64 vy] (0, 0) _ rfl rfl hb3 Tryd.underlying49 rfl st_size) rfl ⟨rfl, hp3, hg3⟩
              · have HRES : Hid (stepI l i = ((0, (0, 0)), 5, k)) := by
                  show _ = _
                  rw [HEND.out]
                  unfold endI
                  rw [HSB.out, if_neg (by simp [hz2])]
                have hzl : (z2 == [59]) = false := beq_eq_false_iff_ne.2 hz2
                clear hz1 hz2
                go_wp2
                rw [HRES.out]
                obtain ⟨hb3, hp3, hg3⟩ := st_store (w := w) Bgr3 HPk3 HGk3 HNE.out.2.1 HNE.out.2.2.2.1 (.int .i64 0) (.int .i64 0) (.int .i64 0)
                exact bodyPost_ret (results_rt (p := 2) (u := 3) (ty := 49) (vu := .int .i64 5) rfl _ _ gr 49 #[.int .i64 0, .int .i64 0, .int .i64 0] (0, 0) _ rfl rfl hb3 Tryd.underlying49 rfl st_size) rfl ⟨rfl, hp3, hg3⟩
            · have hzb : (z1 != 4) = true := ine_t hz1
              have HRES : Hid (stepI l i = ((0, (0, 0)), 5, k)) := by
                show _ = _
                rw [HEND.out]
                unfold endI
                rw [HSB.out, if_neg (by simp [hz1])]
              clear hz1
              go_wp2
              rw [HRES.out]
              obtain ⟨hb3, hp3, hg3⟩ := st_store (w := w) Bgr3 HPk3 HGk3 HNE.out.2.1 HNE.out.2.2.2.1 (.int .i64 0) (.int .i64 0) (.int .i64 0)
              exact bodyPost_ret (results_rt (p := 2) (u := 3) (ty := 49) (vu := .int .i64 5) rfl _ _ gr 49 #[.int .i64 0, .int .i64 0, .int .i64 0] (0, 0) _ rfl rfl hb3 Tryd.underlying49 rfl st_size) rfl ⟨rfl, hp3, hg3⟩
          · have hpb : (pe != 0) = true := ine_t hpe
            have HRES : Hid (stepI l i = ((0, (0, 0)), pe, pk)) := by show _ = _; rw [HST.out, if_pos hpe]
            have r0 := Bgr6.out.cell 0
            have r1 := Bgr6.out.cell 1
            have r2 := Bgr6.out.cell 2
            simp only [List.getElem?_toArray, List.getElem?_cons_zero, List.getElem?_cons_succ] at r0 r1 r2
            have rf0 := Bgr6.out.free 0
            have rf1 := Bgr6.out.free 1
            have rf2 := Bgr6.out.free 2
            clear HST hpe
            go_wp2
            rw [HRES.out]
            obtain ⟨hb3, hp3, hg3⟩ := st_store (w := w) Bgr6.out HPq.out HG6.out HNE.out.2.1 HNE.out.2.2.2.1 (.int .i64 0) (.int .i64 0) (.int .i64 0)
            exact bodyPost_ret (results_rt (p := 2) (u := 3) (ty := 49) (vu := .int .i64 pe) rfl _ _ gr 49 #[.int .i64 0, .int .i64 0, .int .i64 0] (0, 0) _ rfl rfl hb3 Tryd.underlying49 rfl st_size) rfl ⟨rfl, hp3, hg3⟩
      · have HST : Hid (stepI l i = endI (op, (0, 0)) l (i + 1)) := by
          show _ = _
          unfold stepI
          rw [HOF.out, if_neg ho, if_neg h13]
        have h1b : (op == 1) = false := ieq_f (fun h => h13 (.inl h))
        have h3b : (op == 3) = false := ieq_f (fun h => h13 (.inr h))
        clear h13 ho hk
        go_upto_region 13 with fail
        obtain ⟨HPs, Bgr1, HGs, Bgs1⟩ := HX4.out
        have HLs1 := HLs.out
        have hgs : v4.heap.size < ((v4.setCell ⟨gp, 1, none⟩ (.int .i64 ((i : Int) + 1))).alloc (.cells #[.int .i64 op, .int .i64 0, .int .i64 0] 49)).heap.size := by rw [World.size_alloc, HSZ4.out]; omega
        generalize hWs : (v4.setCell ⟨gp, 1, none⟩ (.int .i64 ((i : Int) + 1))).alloc (.cells #[.int .i64 op, .int .i64 0, .int .i64 0] 49) = Ws at *
        obtain ⟨gs, hgse⟩ : ∃ g, g = v4.heap.size := ⟨_, rfl⟩
        rw [← hgse] at Bgs1 hgs ⊢
        have hsne : gs ≠ gp ∧ gs ≠ gr ∧ w.heap.size ≤ gs := ⟨by have := HGP.out; omega, by omega, by omega⟩
        clear hWs hgse r0 r1 r2 rf0 rf1 rf2 y0 y1 p0 p1 pf HX4 HLs
        obtain ⟨k, hke⟩ : ∃ k, k = i + 1 := ⟨_, rfl⟩
        rw [← hke] at HPs hi1 HST
        obtain ⟨vx, hvx⟩ : ∃ v : Int, v = 0 := ⟨_, rfl⟩
        obtain ⟨vy, hvy⟩ : ∃ v : Int, v = 0 := ⟨_, rfl⟩
        have HEND : Hid (stepI l i = endI (op, (vx, vy)) l k) := by show _ = _; rw [HST.out, hvx, hvy]
        have Bgs : Blk Ws gs 49 #[.int .i64 op, .int .i64 vx, .int .i64 vy] := by rw [hvx, hvy]; exact Bgs1
        have Bgr := Bgr1
        have HPk := HPs
        have HGk := HGs
        have HLk := HLs1
        have hkl := hi1
        generalize Ws = Wk at *
        clear hvx hvy hke HPs Bgr1 Bgs1 HGs HLs1 hi1
        obtain ⟨b', off', z1, z2, z3, z4, e', hz, -, m0, m1, m2, m3⟩ := nlx_at HLk hkl
        injection e' with e'
        injection e' with e5 e6 _
        subst e5 e6
        have hkI : (k : Int) < (l.length : Int) := by omega
        have hgpk := HPk.lt
        have hbk : b < Wk.heap.size := by omega
        have q0 := HPk.c20
        have q1 := HPk.c21
        have BE := Blk.new Wk 90 #[.int .i64 z1, .string ⟨z2.toArray⟩, .int .i64 z3, .int .i64 z4]
        have HSB : Hid (semiB (lxAt l k) = decide (z1 = 4 ∧ z2 = [59])) := by show _ = _; rw [hz.out]; rfl
        have HPk2 : ParAt gp (some ⟨b, off, none⟩) l.length cp k (Wk.alloc (.cells #[.int .i64 z1, .string ⟨z2.toArray⟩, .int .i64 z3, .int .i64 z4] 90)) := HPk.alloc _
        have Bgs2 := Bgs.alloc (.cells #[.int .i64 z1, .string ⟨z2.toArray⟩, .int .i64 z3, .int .i64 z4] 90)
        have Bgr2 := Bgr.alloc (.cells #[.int .i64 z1, .string ⟨z2.toArray⟩, .int .i64 z3, .int .i64 z4] 90)
        have HGk2 := only_alloc HGk (.cells #[.int .i64 z1, .string ⟨z2.toArray⟩, .int .i64 z3, .int .i64 z4] 90)
        obtain ⟨ge, hge⟩ : ∃ g, g = Wk.heap.size := ⟨_, rfl⟩
        have HGE := Lib.hid hge
        have hgge : gs < ge ∧ gr < ge := by have := Bgs.lt; have := Bgr.lt; omega
        clear hge
        go_wp2
        go_region_held3 (fun W => W.cell? ⟨gp, 0, none⟩ = some (.slice (some ⟨b, off, none⟩) l.length cp) ∧ W.cell? ⟨gp, 1, none⟩ = some (.int .i64 (k : Int)) ∧ W.cell? ⟨b, off + k * 4, none⟩ = some (.int .i64 z1) ∧ W.cell? ⟨b, off + k * 4 + 1, none⟩ = some (.string ⟨z2.toArray⟩) ∧ W.cell? ⟨b, off + k * 4 + 2, none⟩ = some (.int .i64 z3) ∧ W.cell? ⟨b, off + k * 4 + 3, none⟩ = some (.int .i64 z4))
          (first
            | exact ⟨q0, q1, m0, m1, m2, m3⟩
            | exact six_two hgpk hbk q0 q1 m0 m1 m2 m3 (by (repeat (first | exact Below.refl _ _ | refine Below.drew ?_ | refine Below.alloc ?_ (by simp <;> omega) _ | refine Below.setCell ?_ (by simp <;> omega) _))))
          (fail)
        have BE3 : Blk (Wk.alloc (.cells #[.int .i64 z1, .string ⟨z2.toArray⟩, .int .i64 z3, .int .i64 z4] 90)).drew Wk.heap.size 90 #[.int .i64 z1, .string ⟨z2.toArray⟩, .int .i64 z3, .int .i64 z4] := BE
        have HPk3 : ParAt gp (some ⟨b, off, none⟩) l.length cp k (Wk.alloc (.cells #[.int .i64 z1, .string ⟨z2.toArray⟩, .int .i64 z3, .int .i64 z4] 90)).drew := HPk2
        have Bgs3 : Blk (Wk.alloc (.cells #[.int .i64 z1, .string ⟨z2.toArray⟩, .int .i64 z3, .int .i64 z4] 90)).drew gs 49 #[.int .i64 op, .int .i64 vx, .int .i64 vy] := Bgs2
        have Bgr3 : Blk (Wk.alloc (.cells #[.int .i64 z1, .string ⟨z2.toArray⟩, .int .i64 z3, .int .i64 z4] 90)).drew gr 49 #[.int .i64 0, .int .i64 0, .int .i64 0] := Bgr2
        have HGk3 : w.grownBy (Wk.alloc (.cells #[.int .i64 z1, .string ⟨z2.toArray⟩, .int .i64 z3, .int .i64 z4] 90)).drew (some gp) := only_drewN HGk2 1
        generalize hWe : (Wk.alloc (.cells #[.int .i64 z1, .string ⟨z2.toArray⟩, .int .i64 z3, .int .i64 z4] 90)).drew = We at *
        rw [← HGE.out] at BE3 ⊢
        clear hWe q0 q1 m0 m1 m2 m3 Bgs2 Bgr2 HGk2 HPk2 BE
        have y0 := BE3.c40
        have y1 := BE3.c41
        have r0 := Bgr3.cell 0
        have r1 := Bgr3.cell 1
        have r2 := Bgr3.cell 2
        simp only [List.getElem?_toArray, List.getElem?_cons_zero, List.getElem?_cons_succ] at r0 r1 r2
        have rf0 := Bgr3.free 0
        have rf1 := Bgr3.free 1
        have rf2 := Bgr3.free 2
        by_cases hz1 : z1 = 4
        · have hzb : (z1 != 4) = false := ine_f hz1
          by_cases hz2 : z2 = [59]
          · have HRES : Hid (stepI l i = ((op, (vx, vy)), 0, k + 1)) := by
              show _ = _
              rw [HEND.out]
              unfold endI
              rw [HSB.out, if_pos (decide_eq_true ⟨hz1, hz2⟩)]
            subst hz2
            have q0 := HPk3.c20
            have q1 := HPk3.c21
            have qf := HPk3.free 1
            have s0 := Bgs3.cell 0
            have s1 := Bgs3.cell 1
            have s2 := Bgs3.cell 2
            simp only [List.getElem?_toArray, List.getElem?_cons_zero, List.getElem?_cons_succ] at s0 s1 s2
            have hne4 := HNE.out.2.1
            have hne5 := hne4.symm
            have hne6 := hsne.1
            have hne7 := hsne.1.symm
            have hne8 := hsne.2.1
            have hne9 := hsne.2.1.symm
            have hiw : IntKind.i64.wrap ((k : Int) + 1) = (k : Int) + 1 := IntWalk.i64_in _ (by omega)
            clear hz1
            go_upto_region 17 with fail
            have HPk4 : ParAt gp (some ⟨b, off, none⟩) l.length cp (k + 1) (We.setCell ⟨gp, 1, none⟩ (.int .i64 ((k : Int) + 1))) := Blk.set_ HPk3 1 (.int .i64 ((k : Int) + 1))
            have Bgr4 := Bgr3.far (p := ⟨gp, 1, none⟩) HNE.out.2.1 (.int .i64 ((k : Int) + 1))
            have Bgs4 := Bgs3.far (p := ⟨gp, 1, none⟩) hsne.1 (.int .i64 ((k : Int) + 1))
            have HG4 := only_setCell (p := ⟨gp, 1, none⟩) HGk3 (.inl rfl) (.int .i64 ((k : Int) + 1))
            clear s0 s1 s2 r0 r1 r2 rf0 rf1 rf2 q0 q1 qf y0 y1 Bgr3 Bgs3 HGk3 HPk3 BE3
            generalize We.setCell ⟨gp, 1, none⟩ (.int .i64 ((k : Int) + 1)) = Wf at *
            have s0 := Bgs4.cell 0
            have s1 := Bgs4.cell 1
            have s2 := Bgs4.cell 2
            have r0 := Bgr4.cell 0
            have r1 := Bgr4.cell 1
            have r2 := Bgr4.cell 2
            simp only [List.getElem?_toArray, List.getElem?_cons_zero, List.getElem?_cons_succ] at s0 s1 s2 r0 r1 r2
            have rf0 := Bgr4.free 0
            have rf1 := Bgr4.free 1
            have rf2 := Bgr4.free 2
            go_wp2
            rw [HRES.out]
            obtain ⟨hb3, hp3, hg3⟩ := st_store (w := w) Bgr4 HPk4 HG4 HNE.out.2.1 HNE.out.2.2.2.1 (.int .i64 op) (.int .i64 vx) (.int .i64 vy)
            exact bodyPost_ret (results_rt (p := 2) (u := 3) (ty := 49) (vu := .int .i64 0) rfl _ _ gr 49 #[.int .i64 op, .int .i64 vx, .int .i64 vy] (0, 0) _ rfl rfl hb3 Tryd.underlying49 rfl st_size) rfl ⟨rfl, hp3, hg3⟩
          · have HRES : Hid (stepI l i = ((0, (0, 0)), 5, k)) := by
              show _ = _
              rw [HEND.out]
              unfold endI
              rw [HSB.out, if_neg (by simp [hz2])]
            have hzl : (z2 == [59]) = false := beq_eq_false_iff_ne.2 hz2
            clear hz1 hz2
            go_wp2
            rw [HRES.out]
            obtain ⟨hb3, hp3, hg3⟩ := st_store (w := w) Bgr3 HPk3 HGk3 HNE.out.2.1 HNE.out.2.2.2.1 (.int .i64 0) (.int .i64 0) (.int .i64 0)
            exact bodyPost_ret (results_rt (p := 2) (u := 3) (ty := 49) (vu := .int .i64 5) rfl _ _ gr 49 #[.int .i64 0, .int .i64 0, .int .i64 0] (0, 0) _ rfl rfl hb3 Tryd.underlying49 rfl st_size) rfl ⟨rfl, hp3, hg3⟩
        · have hzb : (z1 != 4) = true := ine_t hz1
          have HRES : Hid (stepI l i = ((0, (0, 0)), 5, k)) := by
            show _ = _
            rw [HEND.out]
            unfold endI
            rw [HSB.out, if_neg (by simp [hz1])]
          clear hz1
          go_wp2
          rw [HRES.out]
          obtain ⟨hb3, hp3, hg3⟩ := st_store (w := w) Bgr3 HPk3 HGk3 HNE.out.2.1 HNE.out.2.2.2.1 (.int .i64 0) (.int .i64 0) (.int .i64 0)
          exact bodyPost_ret (results_rt (p := 2) (u := 3) (ty := 49) (vu := .int .i64 5) rfl _ _ gr 49 #[.int .i64 0, .int .i64 0, .int .i64 0] (0, 0) _ rfl rfl hb3 Tryd.underlying49 rfl st_size) rfl ⟨rfl, hp3, hg3⟩
  · have hkb : (x1 != 1) = true := ine_t hk
    have HRES : Hid (stepI l i = ((0, (0, 0)), 5, i)) := by show _ = _; unfold stepI opF; rw [hx.out, if_neg hk, if_pos rfl]
    clear hk
    go_wp2
    rw [HRES.out]
    obtain ⟨hb3, hp3, hg3⟩ := st_store (w := w) BR4 hP4 hG4 HNE.out.2.1 HNE.out.2.2.2.1 (.int .i64 0) (.int .i64 0) (.int .i64 0)
    exact bodyPost_ret (results_rt (p := 2) (u := 3) (ty := 49) (vu := .int .i64 5) rfl _ _ gr 49 #[.int .i64 0, .int .i64 0, .int .i64 0] (0, 0) _ rfl rfl hb3 Tryd.underlying49 rfl st_size) rfl ⟨rfl, hp3, hg3⟩
end Go.Proofs.YthfnncnmggkfaaaDoor
