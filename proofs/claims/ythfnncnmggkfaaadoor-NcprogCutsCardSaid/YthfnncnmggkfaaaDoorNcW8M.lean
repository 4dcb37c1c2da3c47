/- Chapter 27: a point, by walking the program's text. -/
/- Chapter 27: where reading a step goes on, and how great its numbers are: no program in sight. -/
/- Chapter 27: Make, by walking the program's text. -/
import Derived.Test.YthfnncnmggkfaaaDoorNcP1M
import Derived.Test.YthfnncnmggkfaaaDoorTorW8M
import Derived.Test.YthfnncnmggkfaaaDoorNcParM
import Derived.Test.YthfnncnmggkfaaaDoorNcW7M
import Derived.Test.YthfnncnmggkfaaaDoorNcMkM
import Derived.Test.YthfnncnmggkfaaaDoorTorX2M
namespace Go.Proofs.YthfnncnmggkfaaaDoor
open Go Go.RowKit

theorem co_kind {c : UInt8} {x : Lx} (h : (coF c x).2 = 0) : x.1 = 1 := by
  unfold coF at h
  split at h
  · rename_i h1; exact h1.1
  · cases h
theorem co_val {c : UInt8} {x : Lx} (h : (coF c x).2 ≠ 0) : (coF c x).1 = 0 := by
  unfold coF at h ⊢
  split
  · rename_i h1
    rw [if_pos h1] at h
    split
    · rfl
    · rename_i h2
      rw [if_neg h2] at h
      split
      · rfl
      · rename_i h3
        rw [if_neg h3] at h
        exact absurd rfl h
  · rfl
def PtPost (r : (Int × Int) × Int × Nat) (gp : Nat) (L : Option Addr) (n cp : Nat) (w : World) (e : Ending) (w' : World) : Prop :=
  e = .returned (.tuple #[.agg #[.int .i64 r.1.1, .int .i64 r.1.2], .int .i64 r.2.1]) ∧ ParAt gp L n cp r.2.2 w' ∧ w.grownBy w' (some gp)
theorem lx_only {w w' : World} {l : List Lx} {v : Value} {gp : Nat} (h : Rep.lx.slice.R w (fun b => b < gp) l [v]) (hg : w.grownBy w' (some gp)) (hgp : gp < w.heap.size) : Rep.lx.slice.R w' (fun b => b < gp) l [v] :=
  only_rep hg (fun _ hb => ⟨Nat.lt_trans hb hgp, Nat.ne_of_lt hb⟩) h
theorem only_trans {a w w1 : World} {g : Nat} (h : a.grownBy w (some g)) (h1 : w.grownBy w1 (some g)) : a.grownBy w1 (some g) :=
  ⟨h1.os.trans h.os, h1.tape.trans h.tape, h1.output.trans h.output, Nat.le_trans h.size h1.size, fun i hi hn => (h1.block i (Nat.lt_of_lt_of_le hi h.size) hn).trans (h.block i hi hn)⟩
theorem blk_only {w w' : World} {gp g : Nat} {t : TypeId} {cs : Array Value} (h : Blk w g t cs) (hg : w.grownBy w' (some gp)) (hn : g ≠ gp) : Blk w' g t cs := h.grown hg (fun e => hn (by injection e))
set_option maxRecDepth 100000 in
set_option maxHeartbeats 2000000 in
theorem point_any (gp : Nat) (L : Option Addr) (n cp : Nat) (l : List Lx) (i : Nat) (w : World) (hP : ParAt gp L n cp i w) (hl : Rep.lx.slice.R w (fun b => b < gp) l [.slice L n cp]) (hi : i < l.length) (hE : Ends l) :
    Calls Tryd.prog 59 #[.pointer (some ⟨gp, 0, none⟩)] w (PtPost (ptI l i) gp L n cp w) := by
  have hgp := hP.lt
  have hP1 : ParAt gp L n cp i (w.alloc (.cells #[.int .i64 0, .int .i64 0] 47)) := hP.alloc _
  have hG1 := only_alloc (only_refl w (some gp)) (.cells #[.int .i64 0, .int .i64 0] 47)
  have BR := Blk.new w 47 #[.int .i64 0, .int .i64 0]
  have hl1 := lx_only hl hG1 hgp
  obtain ⟨⟨a1, a2⟩, ha⟩ : ∃ r, coF 88 (lxAt l i) = r := ⟨_, rfl⟩
  have HC1 := Lib.hid (coord_any 88 gp L n cp l i _ hP1 hl1 hi hE)
  rw [ha] at HC1
  have hne : gp ≠ w.heap.size := by omega
  by_cases h1 : a2 = 0
  · have hk := co_kind (c := 88) (x := lxAt l i) (by rw [ha]; exact h1)
    have hi2 := hE.more i hi (by rw [hk]; decide)
    have h1b : (a2 != 0) = false := ine_f h1
    obtain ⟨⟨b1, b2⟩, hb⟩ : ∃ r, coF 89 (lxAt l (i + 1)) = r := ⟨_, rfl⟩
    have HPT : Hid (ptI l i = if b2 ≠ 0 then ((a1, 0), b2, i + 1) else ((a1, b1), 0, i + 2)) := by
      show _ = _
      unfold ptI
      rw [ha, hb, if_neg (by simp [h1])]
    have hbv : b2 ≠ 0 → b1 = 0 := fun h => by
      have := co_val (c := 89) (x := lxAt l (i + 1)) (by rw [hb]; exact h)
      rw [hb] at this
      exact this
    have HC2 : Hid (∀ W, ParAt gp L n cp (i + 1) W → Rep.lx.slice.R W (fun b => b < gp) l [.slice L n cp] → Calls Tryd.prog 82 #[.pointer (some ⟨gp, 0, none⟩), .string ⟨#[89]⟩] W (CoPost (b1, b2) gp L n cp (i + 1) W)) := fun W hp hr => by
      have := coord_any 89 gp L n cp l (i + 1) W hp hr hi2 hE
      rw [hb] at this
      exact this
    have HBV := Lib.hid hbv
    have HG := Lib.hid hG1
    have HL := Lib.hid hl
    subst h1
    clear ha hb hk hi2 hbv hl hl1 hP hP1 hG1
    go_enter Tryd.func59, Tryd.ntmps59
    go_wp2_with fail
    refine HC1.out.mono ?_
    rintro e w1 ⟨he, hq, hg⟩
    have he : e = .returned (.tuple #[.int .i64 a1, .int .i64 0]) := he
    subst he
    rw [if_pos rfl] at hq
    have hG := only_trans HG.out hg
    have hrl := lx_only HL.out hG hgp
    have BR1 := blk_only BR hg hne.symm
    clear hg
    go_wp2_with fail
    refine (HC2.out _ hq hrl).mono ?_
    rintro e w2 ⟨he, hq2, hg2⟩
    have he : e = .returned (.tuple #[.int .i64 b1, .int .i64 b2]) := he
    subst he
    have hG2 := only_trans hG hg2
    have BR2 := blk_only BR1 hg2 hne.symm
    have HQ := Lib.hid hq2
    have HG2 := Lib.hid hG2
    clear hq2 hG2 hg2 hq hG hrl BR BR1
    have c0 := BR2.c20
    have c1 := BR2.c21
    have f0 := BR2.free 0
    have f1 := BR2.free 1
    by_cases h2 : b2 = 0
    · have HPT2 : Hid (ptI l i = ((a1, b1), 0, i + 2)) := by show _ = _; rw [HPT.out, if_neg (by simp [h2])]
      have HQ2 : Hid (ParAt gp L n cp (i + 2) w2) := by have h := HQ.out; rw [if_pos h2] at h; exact h
      subst h2
      clear HQ HPT HBV
      go_wp2
      rw [HPT2.out]
      exact bodyPost_ret (results_rt (p := 2) (u := 3) (ty := 47) (vu := .int .i64 0) rfl _ _ w.heap.size 47 #[.int .i64 a1, .int .i64 b1] (0, 0) _ rfl rfl ((BR2.set_ 0 (.int .i64 a1)).set_ 1 (.int .i64 b1)) Tryd.underlying47 rfl pt_size) rfl ⟨rfl, (Blk.far HQ2.out hne _).far hne _, only_setCell (only_setCell HG2.out (.inr (Nat.le_refl _)) _) (.inr (Nat.le_refl _)) _⟩
    · have HPT2 : Hid (ptI l i = ((a1, b1), b2, i + 1)) := by show _ = _; rw [HPT.out, if_pos h2, HBV.out h2]
      have HQ2 : Hid (ParAt gp L n cp (i + 1) w2) := by have h := HQ.out; rw [if_neg h2] at h; exact h
      clear HQ HPT HBV h2
      go_wp2
      rw [HPT2.out]
      exact bodyPost_ret (results_rt (p := 2) (u := 3) (ty := 47) (vu := .int .i64 b2) rfl _ _ w.heap.size 47 #[.int .i64 a1, .int .i64 b1] (0, 0) _ rfl rfl ((BR2.set_ 0 (.int .i64 a1)).set_ 1 (.int .i64 b1)) Tryd.underlying47 rfl pt_size) rfl ⟨rfl, (Blk.far HQ2.out hne _).far hne _, only_setCell (only_setCell HG2.out (.inr (Nat.le_refl _)) _) (.inr (Nat.le_refl _)) _⟩
  · have h1b : (a2 != 0) = true := ine_t h1
    have HPT2 : Hid (ptI l i = ((0, 0), a2, i)) := by
      show _ = _
      unfold ptI
      rw [ha, if_pos h1]
    have HNZ := Lib.hid h1
    have HG := Lib.hid hG1
    clear ha hl hl1 hP hP1 hG1 h1
    go_enter Tryd.func59, Tryd.ntmps59
    go_wp2_with fail
    refine HC1.out.mono ?_
    rintro e w1 ⟨he, hq, hg⟩
    have he : e = .returned (.tuple #[.int .i64 a1, .int .i64 a2]) := he
    subst he
    rw [if_neg HNZ.out] at hq
    have HG2 := Lib.hid (only_trans HG.out hg)
    have BR2 := blk_only BR hg hne.symm
    have HQ2 := Lib.hid hq
    clear hg hq BR
    have c0 := BR2.c20
    have c1 := BR2.c21
    have f0 := BR2.free 0
    have f1 := BR2.free 1
    go_wp2
    rw [HPT2.out]
    exact bodyPost_ret (results_rt (p := 2) (u := 3) (ty := 47) (vu := .int .i64 a2) rfl _ _ w.heap.size 47 #[.int .i64 0, .int .i64 0] (0, 0) _ rfl rfl ((BR2.set_ 0 (.int .i64 0)).set_ 1 (.int .i64 0)) Tryd.underlying47 rfl pt_size) rfl ⟨rfl, (Blk.far HQ2.out hne _).far hne _, only_setCell (only_setCell HG2.out (.inr (Nat.le_refl _)) _) (.inr (Nat.le_refl _)) _⟩
end Go.Proofs.YthfnncnmggkfaaaDoor

namespace Go.Proofs.YthfnncnmggkfaaaDoor
open Go

theorem parseL_bd (s : List UInt8) : -1099511627776 ≤ (parseL s).1 ∧ (parseL s).1 ≤ 1099511627776 := by
  unfold parseL parseD
  split
  · simp
  · split
    · simp
    · split
      · simp
      · split
        · split
          · simp
          · split <;> simp only <;> omega
        · simp
theorem coF_bd (c : UInt8) (x : Lx) : -1099511627776 ≤ (coF c x).1 ∧ (coF c x).1 ≤ 1099511627776 := by
  have := parseL_bd x.2.1.tail
  unfold coF
  split
  · split
    · simp
    · split
      · simp
      · exact this
  · simp
theorem opN_bd (t : List UInt8) : 0 ≤ opN t ∧ opN t ≤ 4 := by unfold opN; (repeat' split) <;> omega
theorem opF_bd (x : Lx) : 0 ≤ opF x ∧ opF x ≤ 4 := by
  have := opN_bd x.2.1
  unfold opF
  split <;> omega
theorem coF_kind {c : UInt8} {x : Lx} (h : (coF c x).2 = 0) : x.1 = 1 := by
  unfold coF at h
  split at h
  · rename_i h1; exact h1.1
  · cases h
theorem opF_kind {x : Lx} (h : opF x ≠ 0) : x.1 = 1 := by
  unfold opF at h
  split at h
  · assumption
  · exact absurd rfl h
def inBd (n : Int) : Prop := -1099511627776 ≤ n ∧ n ≤ 1099511627776
theorem ptI_bd (l : List Lx) (i : Nat) : inBd (ptI l i).1.1 ∧ inBd (ptI l i).1.2 := by
  have h1 := coF_bd 88 (lxAt l i)
  have h2 := coF_bd 89 (lxAt l (i + 1))
  unfold ptI inBd
  split
  · simp
  · split
    · exact ⟨h1, by simp⟩
    · exact ⟨h1, h2⟩
theorem ptI_go {l : List Lx} {i : Nat} (hE : Ends l) (hi : i < l.length) : i ≤ (ptI l i).2.2 ∧ (ptI l i).2.2 < l.length ∧ ((ptI l i).2.1 = 0 → (ptI l i).2.2 = i + 2) := by
  unfold ptI
  split
  · exact ⟨Nat.le_refl _, hi, fun h => by rename_i h1; exact absurd h h1⟩
  · rename_i h1
    have h1 : (coF 88 (lxAt l i)).2 = 0 := by simpa using h1
    have hi1 := hE.more i hi (by rw [coF_kind h1]; decide)
    split
    · exact ⟨by simp, hi1, fun h => by rename_i h2; exact absurd h h2⟩
    · rename_i h2
      have h2 : (coF 89 (lxAt l (i + 1))).2 = 0 := by simpa using h2
      have hi2 := hE.more (i + 1) hi1 (by rw [coF_kind h2]; decide)
      exact ⟨by simp, hi2, fun _ => rfl⟩
theorem endI_go {l : List Lx} {i : Nat} (s : Stp) (hE : Ends l) (hi : i < l.length) : i ≤ (endI s l i).2.2 ∧ (endI s l i).2.2 < l.length ∧ ((endI s l i).1 = s ∨ (endI s l i).1 = (0, (0, 0))) := by
  unfold endI
  split
  · rename_i h
    have hk : (lxAt l i).1 = 4 := by
      unfold semiB at h
      exact (of_decide_eq_true h).1
    have := hE.more i hi (by rw [hk]; decide)
    exact ⟨by simp, this, .inl rfl⟩
  · exact ⟨Nat.le_refl _, hi, .inr rfl⟩
theorem stepI_go {l : List Lx} {i : Nat} (hE : Ends l) (hi : i < l.length) (hk : (lxAt l i).1 ≠ 0) : (stepI l i).2.2 < l.length ∧ ((stepI l i).2.1 = 0 → i < (stepI l i).2.2) ∧ inBd (stepI l i).1.1 ∧ inBd (stepI l i).1.2.1 ∧ inBd (stepI l i).1.2.2 := by
  have z : inBd 0 := ⟨by decide, by decide⟩
  have hob : inBd (opF (lxAt l i)) := by have := opF_bd (lxAt l i); unfold inBd; omega
  have hi1 := hE.more i hi hk
  unfold stepI
  split
  · exact ⟨hi, (fun h => absurd h (show ¬ (5 : Int) = 0 by decide)), z, z, z⟩
  · split
    · have h1 := ptI_go hE hi1
      have h2 := ptI_bd l (i + 1)
      split
      · exact ⟨h1.2.1, (fun h => by rename_i h3; exact absurd h h3), z, z, z⟩
      · rename_i h3
        have h3 : (ptI l (i + 1)).2.1 = 0 := by simpa using h3
        have h4 := h1.2.2 h3
        have h5 := endI_go (i := i + 3) (opF (lxAt l i), (ptI l (i + 1)).1) hE (by have := h1.2.1; omega)
        refine ⟨h5.2.1, fun _ => by have := h5.1; omega, ?_⟩
        rcases h5.2.2 with e | e <;> rw [e]
        · exact ⟨hob, h2.1, h2.2⟩
        · exact ⟨z, z, z⟩
    · have h5 := endI_go (i := i + 1) (opF (lxAt l i), (0, 0)) hE hi1
      refine ⟨h5.2.1, fun _ => by have := h5.1; omega, ?_⟩
      rcases h5.2.2 with e | e <;> rw [e]
      · exact ⟨hob, z, z⟩
      · exact ⟨z, z, z⟩
theorem parI_stop {l : List Lx} {g i : Nat} {acc : List Stp} {R : List Stp × Int × Int} (h : parI l g i acc = R) (hg : 0 < g) (hk : (lxAt l i).1 = 0) : R = (acc, 0, 0) := by
  obtain ⟨g', rfl⟩ : ∃ g', g = g' + 1 := ⟨g - 1, by omega⟩
  rw [parI, if_pos hk] at h
  exact h.symm
theorem parI_bad {l : List Lx} {g i : Nat} {acc : List Stp} {R : List Stp × Int × Int} (h : parI l g i acc = R) (hg : 0 < g) (hk : (lxAt l i).1 ≠ 0) (he : (stepI l i).2.1 ≠ 0) : R = ([], (stepI l i).2.1, (lxAt l (stepI l i).2.2).2.2.2) := by
  obtain ⟨g', rfl⟩ : ∃ g', g = g' + 1 := ⟨g - 1, by omega⟩
  rw [parI, if_neg hk, if_pos he] at h
  exact h.symm
theorem parI_next {l : List Lx} {g i : Nat} {acc : List Stp} {R : List Stp × Int × Int} (h : parI l g i acc = R) (hg : 0 < g) (hk : (lxAt l i).1 ≠ 0) (he : (stepI l i).2.1 = 0) : parI l (g - 1) (stepI l i).2.2 (acc ++ [(stepI l i).1]) = R := by
  obtain ⟨g', rfl⟩ : ∃ g', g = g' + 1 := ⟨g - 1, by omega⟩
  rw [parI, if_neg hk, if_neg (by simp [he])] at h
  exact h
theorem lexes_cnt {i : Int} {l : List UInt8} {ls : List Lx} (h : Lexes i l ls) : ls.length ≤ l.length + 1 := by
  induction h with
  | done h => simp
  | @step i l t c ls h ho _ ih =>
    have h1 := skip_len false l
    rw [h] at h1
    have h2 := (one_len c t).2 ho
    rw [List.length_drop] at ih
    simp only [List.length_cons] at h1 ih ⊢
    omega
theorem scanS_cnt {D : List UInt8} (h : (scanS D).2.1 = 0) : (scanS D).1.length ≤ 16385 := by
  unfold scanS at h ⊢
  split at h
  · simp at h
  · rename_i h2
    rw [if_neg h2]
    have := lexes_cnt (scan_lexes _ 0 D (Nat.le_refl _) h)
    omega
end Go.Proofs.YthfnncnmggkfaaaDoor

namespace Go.Proofs.YthfnncnmggkfaaaDoor
open Go Go.RowKit

theorem ownS_one {w : World} {base : Nat} {v : Value} {xs : List Stp} {o x y : Int} (h : w.ownsRow base 49 3 v (xs.length + 1) (xs.flatMap stEnc ++ [.int .i64 o, .int .i64 x, .int .i64 y])) : OwnS w base v (xs ++ [(o, (x, y))]) := ownS_app h
theorem three_one (a b c : Int) : ∀ u ∈ [Value.int .i64 a, Value.int .i64 b, Value.int .i64 c], u.oneCell' = true := fun u hu => by
  simp at hu; rcases hu with rfl | rfl | rfl <;> rfl
set_option maxRecDepth 100000 in
set_option maxHeartbeats 4000000 in
theorem make_any (vs vo : Value) (shapes : List Shp) (order : List Pt) (w : World) (hs : shpsR.R w (Lt w) shapes [vs]) (ho : prR.slice.R w (Lt w) order [vo]) (hS : SmallS shapes) (hR : SmallR shapes) :
    Calls Tryd.prog 13 #[vs, vo] w (MakePost (makeF shapes order) w) := by
  obtain ⟨A, c, rfl, hm, -⟩ := slice_inv hs
  obtain ⟨B, d, rfl, hmo, -⟩ := slice_inv ho
  by_cases hck : checkT (contoursF shapes) order = 0
  · obtain ⟨h288, hoe, hfe⟩ := checkT_zero hck
    have HMF := Lib.hid (makeF_yes hck)
    have HCK := Lib.hid hck
    have HM : Hid (∀ c ∈ order, c ∈ contoursF shapes) := fun c h => first_mem hfe c h
    have hol : order.length ≤ 288 := by omega
    obtain ⟨i0, hinf, hz0, hz1, hz2⟩ := info_parts step_info
    clear hck hfe h288 hoe
    go_enter Tryd.func13, Tryd.ntmps13
    go_wp2_with fail
    have hC := checkT_any _ _ shapes order w hs ho hS
    rw [HCK.out] at hC
    refine hC.mono ?_
    rintro e w1 ⟨rfl, hb1⟩
    clear hC
    go_wp2
    go_loopw [7, 23] (fun v iv wr => ∃ k : Nat, k ≤ order.length ∧ iv = .int .i64 k ∧ OwnS wr w.heap.size v (makeT shapes (order.take k)) ∧ Below w.heap.size w wr) (fun _ iv _ => order.length - (intOf iv).toNat)
    case atStart => exact ⟨0, Nat.zero_le _, rfl, World.ownsRow_nil _ _ _ _, hb1⟩
    case round =>
      obtain ⟨k, hk, rfl, hown, hb⟩ := hrel
      have hz := hb.size
      by_cases hlt : k < order.length
      · obtain ⟨bo, oo, x, y, rfl, hx, hbD, c0, c1, -⟩ := pairs_at (Rep.at_ ho hb) hlt
        have hki : (k : Int) < (order.length : Int) := by omega
        have hmem := HM.out (x, y) (List.mem_of_getElem? hx.out)
        have hlen := make_len hR (order.take k) (fun c hc => HM.out c (List.mem_of_mem_take hc))
        have hlen2 : (makeT shapes (order.take k)).length ≤ 288864 := by
          rw [List.length_take] at hlen
          have : min k order.length * 1003 ≤ 288 * 1003 := Nat.mul_le_mul_right _ (by omega)
          omega
        obtain ⟨pre, hpre⟩ : ∃ r, makeT shapes (order.take k) = r := ⟨_, rfl⟩
        obtain ⟨⟨sx, sy⟩, hbg⟩ : ∃ r, beginF shapes (x, y) = r := ⟨_, rfl⟩
        obtain ⟨p, hp⟩ : ∃ r, ringC shapes (x, y) = r := ⟨_, rfl⟩
        have hpl : p.length ≤ 1000 := by rw [← hp]; exact hR (x, y) hmem
        obtain ⟨hbm, hok⟩ := begin_mem hmem
        rw [hbg, hp] at hbm
        rw [hp] at hok
        obtain ⟨f, hfi, hfg, -⟩ := idxC_mem hbm
        have hfl := lt_of_get hfg
        have HST : Hid (startF shapes (x, y) = ((sx, sy), true)) := by
          show _ = _
          rw [start_yes (by simpa using hmem), hbg]
        have HSC : Hid (stepsC shapes (x, y) = (1, (sx, sy)) :: (2, (0, 0)) :: (cutsP p f ++ [(4, (0, 0))])) := by
          show _ = _
          unfold stepsC
          rw [hbg, hp, hfi, Int.toNat_natCast]
        have HMT : Hid (makeT shapes (order.take (k + 1)) = pre ++ stepsC shapes (x, y)) := by show _ = _; rw [make_take hx.out, hpre]
        rw [hpre] at hown hlen2
        have HFI := Lib.hid hfi
        have HP := Lib.hid hp
        have HMEM := Lib.hid hmem
        have wA := (Below.refl wr.heap.size wr).alloc (Nat.le_refl _) (.cells #[.int .i64 x, .int .i64 y] 57)
        have bc := Blk.new wr 57 #[.int .i64 x, .int .i64 y]
        have hownA := own_below hown wA
        have hbA := bstep hb hz wA
        have k0 := bc.c20
        have k1 := bc.c21
        obtain ⟨bx, hbx⟩ : ∃ b, b = wr.heap.size := ⟨_, rfl⟩
        have HBX := Lib.hid hbx
        clear hlen hpre hbg hp hbm hok hfi hfg hmem hown hb wA hbx
        go_wp2_with fail
        have hC := start_any _ _ _ shapes x y _ (Rep.below hs hbA) hS
        rw [HST.out] at hC
        refine hC.mono ?_
        rintro e w3 ⟨he, hq⟩
        have he : e = .returned (.tuple #[.agg #[.int .i64 sx, .int .i64 sy], .bool true]) := he
        subst he
        have bc3 := bc.below hq bc.lt
        have hown3 := own_below hownA hq
        have hb3 := bstep hbA hbA.size hq
        have bs := Blk.new w3 47 #[.int .i64 sx, .int .i64 sy]
        have hb4 := hb3.alloc hb3.size (.cells #[.int .i64 sx, .int .i64 sy] 47)
        have hown4 := World.ownsRow.alloc hown3 (.cells #[.int .i64 sx, .int .i64 sy] 47)
        have bc4 := bc3.alloc (.cells #[.int .i64 sx, .int .i64 sy] 47)
        obtain ⟨w4, hw4⟩ : ∃ W, W = w3.alloc (.cells #[.int .i64 sx, .int .i64 sy] 47) := ⟨_, rfl⟩
        obtain ⟨bp, hbp⟩ : ∃ b, b = w3.heap.size := ⟨_, rfl⟩
        rw [← hw4, ← hbp] at bs
        rw [← hw4] at hb4 hown4 bc4
        rw [← HBX.out] at bc4
        have HW4 := Lib.hid hw4
        have HBP := Lib.hid hbp
        have bx0 := bc3.c20
        have bx1 := bc3.c21
        rw [← HBX.out] at bx0 bx1
        have hx3 := bc3.lt
        rw [← HBX.out] at hx3
        have hbxn : ¬ bx = w3.heap.size := by omega
        clear hw4 hbp hC hq hbA hownA bc k0 k1 hb3 hown3 bc3 c0 c1
        rw [← HBX.out]
        go_wp2_with fail
        rw [← HW4.out, ← HBP.out]
        refine (contour_any _ _ _ shapes x y _ (Lt w) (fun b h => Nat.lt_of_lt_of_le h hb4.size) (Rep.at_ hs hb4) HMEM.out hS).mono ?_
        rintro e w5 ⟨O, no, co, rfl, hno, hr, hq⟩
        rw [HP.out] at hno hr
        subst hno
        have HRW : Hid (ptsR.R w (Lt w) p [.slice O p.length co]) := Rep.keep _ (fun b h => (hb4.block b h).symm) hr
        have bs5 := bs.below hq bs.lt
        have hown5 := own_below hown4 hq
        have hb5 := bstep hb4 hb4.size hq
        have s0 := bs5.c20
        have s1 := bs5.c21
        clear hq hr bs hown4 hb4 bc4 bx0 bx1 hx3 hbxn
        go_wp2_with fail
        have hC := indexP_any _ p sx sy _ (Rep.below HRW.out hb5)
        rw [HFI.out] at hC
        refine hC.mono ?_
        rintro e w6 ⟨rfl, hq⟩
        have bs6 := bs5.below hq bs5.lt
        have hown6 := own_below hown5 hq
        have hb6 := bstep hb5 hb5.size hq
        have hz6 := hb6.size
        have s0 := bs6.c20
        have s1 := bs6.c21
        have HB6 := Lib.hid hb6
        clear hC hq bs5 hown5 hb5 HST HFI
        go_wp2_with (at_builtin; refine wpList_append_own _ rfl _ _ 26 rfl w.heap.size 49 i0 (.agg #[.int .i64 0, .int .i64 0, .int .i64 0]) 3 24 Tryd.underlying26 hinf hz0 hz1 hz2 rfl (by decide) _ _ _ rfl (World.ownsRow.alloc hown6 _) ⟨w6.heap.size, 0, none⟩ 2 2 [.int .i64 1, .int .i64 sx, .int .i64 sy, .int .i64 2, .int .i64 0, .int .i64 0] (by rfl) rfl (new_cells w6 _ _) (fun u hu => by simp at hu; rcases hu with rfl | rfl | rfl | rfl | rfl | rfl <;> rfl) (by unfold maxLen; omega) (by omega) (by simp; omega) ?_; intro v7 w7 hown7 hg7 _)
        have hown7' : OwnS w7 w.heap.size v7 (pre ++ [(1, (sx, sy)), (2, (0, 0))]) := ownS_app (ys := [(1, (sx, sy)), (2, (0, 0))]) hown7
        have hb7 := (HB6.out.alloc HB6.out.size (.cells #[.int .i64 1, .int .i64 sx, .int .i64 sy, .int .i64 2, .int .i64 0, .int .i64 0] 49)).grown hg7 (by simp; omega) (fun j hj => (World.ownsRow.lt hown6 j hj).1)
        obtain ⟨pre2, hpre2⟩ : ∃ r, pre ++ [(1, (sx, sy)), (2, (0, 0))] = r := ⟨_, rfl⟩
        rw [hpre2] at hown7'
        have HP2 := Lib.hid hpre2
        have hl2 : pre2.length ≤ 288866 := by rw [← hpre2]; simp; omega
        clear hown7 hg7 hown6 hb6 s0 s1 bs6 hz6 hpre2 hlen2 HB6
        go_loopw [7, 47] (fun v jv wr => ∃ j : Nat, j ≤ p.length ∧ jv = .int .i64 j ∧ OwnS wr w.heap.size v (pre2 ++ (cutsP p f).take j) ∧ Below w.heap.size w wr) (fun _ jv _ => p.length - (intOf jv).toNat)
        case atStart => exact ⟨0, Nat.zero_le _, rfl, by rw [List.take_zero, List.append_nil]; exact hown7', hb7⟩
        case round =>
          obtain ⟨j, hj, rfl, hown, hb⟩ := hrel
          have hz := hb.size
          have hcl : (pre2 ++ (cutsP p f).take j).length ≤ 289866 := by rw [List.length_append, List.length_take]; omega
          by_cases hjl : j < p.length
          · obtain ⟨qi, hqi⟩ : ∃ r, (f + j + 1) % p.length = r := ⟨_, rfl⟩
            have hql : qi < p.length := by rw [← hqi]; exact Nat.mod_lt _ (by omega)
            have hrem : ((f : Int) + (j : Int) + 1) % (p.length : Int) = (qi : Int) := by rw [← hqi]; push_cast; rfl
            obtain ⟨bq, oq, qx, qy, rfl, hqx, hbqD, d0, d1, -⟩ := pairs_at (Rep.at_ HRW.out hb) hql
            have hbql : bq < w.heap.size := hbqD
            have HCT : Hid ((cutsP p f).take (j + 1) = (cutsP p f).take j ++ [(3, (qx, qy))]) := cuts_take (by rw [hqi]; exact hqx.out) hjl
            have hji : (j : Int) < (p.length : Int) := by omega
            have hqI : (qi : Int) < (p.length : Int) := by omega
            have hne0 : ¬ (p.length : Int) = 0 := by omega
            have HBB := Lib.hid hb
            clear hqi hb
            go_wp2_with (at_builtin; refine wpList_append_own _ rfl _ _ 26 rfl w.heap.size 49 i0 (.agg #[.int .i64 0, .int .i64 0, .int .i64 0]) 3 24 Tryd.underlying26 hinf hz0 hz1 hz2 rfl (by decide) _ _ _ rfl (World.ownsRow.alloc hown _) ⟨wr.heap.size, 0, none⟩ 1 1 [.int .i64 3, .int .i64 qx, .int .i64 qy] (by rfl) rfl (new_cells wr _ _) (three_one _ _ _) (by unfold maxLen; omega) (by omega) (by simp; omega) ?_; intro v8 w8 hown8 hg8 _)
            have hb8 := (HBB.out.alloc HBB.out.size (.cells #[.int .i64 3, .int .i64 qx, .int .i64 qy] 49)).grown hg8 (by simp; omega) (fun j hj => (World.ownsRow.lt hown j hj).1)
            go_roundw
            case rel => exact ⟨j + 1, by omega, by go_num, by rw [HCT.out, ← List.append_assoc]; exact ownS_one hown8, hb8⟩
            case measure => simp [intOf]; omega
          · have hjl2 : j = p.length := by omega
            have HTK : Hid ((cutsP p f).take j = cutsP p f) := by show _ = _; rw [hjl2]; exact List.take_of_length_le (by rw [cuts_len]; exact Nat.le_refl _)
            have hji : ¬ (j : Int) < (p.length : Int) := by omega
            have HBB := Lib.hid hb
            clear hjl2 hb
            go_wp2_with (at_builtin; refine wpList_append_own _ rfl _ _ 26 rfl w.heap.size 49 i0 (.agg #[.int .i64 0, .int .i64 0, .int .i64 0]) 3 24 Tryd.underlying26 hinf hz0 hz1 hz2 rfl (by decide) _ _ _ rfl (World.ownsRow.alloc hown _) ⟨wr.heap.size, 0, none⟩ 1 1 [.int .i64 4, .int .i64 0, .int .i64 0] (by rfl) rfl (new_cells wr _ _) (three_one _ _ _) (by unfold maxLen; omega) (by omega) (by simp; omega) ?_; intro v8 w8 hown8 hg8 _)
            have hb8 := (HBB.out.alloc HBB.out.size (.cells #[.int .i64 4, .int .i64 0, .int .i64 0] 49)).grown hg8 (by simp; omega) (fun j hj => (World.ownsRow.lt hown j hj).1)
            have hown9 := ownS_one hown8
            rw [HTK.out, ← HP2.out] at hown9
            go_roundw
            case rel => exact ⟨k + 1, by omega, by go_num, by rw [HMT.out, HSC.out]; simpa using hown9, hb8⟩
            case measure => simp [intOf]; omega
      · have hkl : k = order.length := by omega
        rw [hkl, List.take_length] at hown
        have hki : ¬ (k : Int) < (order.length : Int) := by omega
        have hrep := own_steps hown (make_bd HM.out)
        clear hkl
        go_wp2
        go_ret2
        rw [HMF.out]
        exact ⟨_, rfl, hrep, hb⟩
  · have HMF := Lib.hid (makeF_bad hck)
    obtain ⟨ck, hc⟩ : ∃ r, checkT (contoursF shapes) order = r := ⟨_, rfl⟩
    rw [hc] at hck HMF
    have hcb : (ck != 0) = true := ine_t hck
    have HCK := Lib.hid hc
    clear hck hc
    go_enter Tryd.func13, Tryd.ntmps13
    go_wp2_with fail
    have hC := checkT_any _ _ shapes order w hs ho hS
    rw [HCK.out] at hC
    refine hC.mono ?_
    rintro e w1 ⟨rfl, hb1⟩
    go_wp2
    go_ret2
    rw [HMF.out]
    exact ⟨_, rfl, Rep.slice_nil _ _ _, hb1⟩
end Go.Proofs.YthfnncnmggkfaaaDoor
