/- Chapter 15: the law MaterialRolls, by walking its text. -/
import Derived.Test.YtacbmmnipedpdaaDoorMatGx
import Derived.Test.YtacbmmnipedpdaaDoorMatLaws
import Derived.Test.YtacbmmnipedpdaaDoorMatW5
import Derived.Test.YtacbmmnipedpdaaDoorMatWC
import Derived.Test.YtacbmmnipedpdaaDoorTorRg
import Derived.Deep.LoopGhost
import Derived.Deep.DeepCutAuto
namespace Go.Proofs.YtacbmmnipedpdaaDoor
open Go Go.RowKit
set_option linter.unusedSimpArgs false

/-- a grade where it stands in its list. -/
structure RowG (b o : Nat) (g : Gr) (G : Option Addr) (n cg : Nat) (W : World) : Prop where
  lt : b < W.heap.size
  p0 : W.cell? ⟨b, o, none⟩ = some (.string (bA g.1))
  p1 : W.cell? ⟨b, o + 1, none⟩ = some (.int .i64 g.2.1)
  p2 : W.cell? ⟨b, o + 2, none⟩ = some (.int .i64 g.2.2.1)
  p3 : W.cell? ⟨b, o + 3, none⟩ = some (.slice G n cg)
  hR : grR.R W (Lt W) g [.string (bA g.1), .int .i64 g.2.1, .int .i64 g.2.2.1, .slice G n cg]
theorem RowG.below {b o : Nat} {g : Gr} {G : Option Addr} {n cg : Nat} {W W' : World} (h : RowG b o g G n cg W) (hb : Below W.heap.size W W') : RowG b o g G n cg W' :=
  ⟨Nat.lt_of_lt_of_le h.lt hb.size, ((bcell hb).1 _ _ h.lt).trans h.p0, ((bcell hb).1 _ _ h.lt).trans h.p1, ((bcell hb).1 _ _ h.lt).trans h.p2, ((bcell hb).1 _ _ h.lt).trans h.p3, Rep.below h.hR hb⟩
theorem rowG_at {w : World} {l : List Gr} {A : Option Addr} {n c : Nat} (h : grR.slice.R w (Lt w) l [.slice A n c]) {k : Nat} (hk : k < l.length) : ∃ b off g G n cg, A = some ⟨b, off, none⟩ ∧ l[k]? = some g ∧ RowG b (off + k * 4) g G n cg w := by
  obtain ⟨b, off, nm, d, y, ts, G, ng, cg, e, hk', hD, k0, k1, k2, k3, -, hG, h1, h2, h3, -⟩ := gr_at h hk
  exact ⟨b, off, (nm, d, y, ts), G, ng, cg, e, hk'.out, hD, k0, k1, k2, k3, gr_mk hG h1 h2 h3⟩
/-- a section where it stands in its list. -/
structure RowS (b o : Nat) (s : Sc) (W : World) : Prop where
  lt : b < W.heap.size
  p0 : W.cell? ⟨b, o, none⟩ = some (.string (bA s.1))
  p1 : W.cell? ⟨b, o + 1, none⟩ = some (.int .i64 s.2.1)
  p2 : W.cell? ⟨b, o + 2, none⟩ = some (.int .i64 s.2.2.1)
  p3 : W.cell? ⟨b, o + 3, none⟩ = some (.int .i64 s.2.2.2)
theorem RowS.below {b o : Nat} {s : Sc} {W W' : World} (h : RowS b o s W) (hb : Below W.heap.size W W') : RowS b o s W' :=
  ⟨Nat.lt_of_lt_of_le h.lt hb.size, ((bcell hb).1 _ _ h.lt).trans h.p0, ((bcell hb).1 _ _ h.lt).trans h.p1, ((bcell hb).1 _ _ h.lt).trans h.p2, ((bcell hb).1 _ _ h.lt).trans h.p3⟩
theorem rowS_at {w : World} {l : List Sc} {A : Option Addr} {n c : Nat} (h : scR.slice.R w (Lt w) l [.slice A n c]) {k : Nat} (hk : k < l.length) : ∃ b off s, A = some ⟨b, off, none⟩ ∧ l[k]? = some s ∧ RowS b (off + k * 4) s w := by
  obtain ⟨b, off, nm, x, y, z, e, hk', hD, k0, k1, k2, k3, -⟩ := sc_at h hk
  exact ⟨b, off, (nm, x, y, z), e, hk'.out, hD, k0, k1, k2, k3⟩
theorem gr_ints {w : World} {D : Nat → Prop} {g : Gr} {G : Option Addr} {n cg : Nat} {a b c : Value} (h : grR.R w D g [a, b, c, .slice G n cg]) : n = g.2.2.2.length ∧ Rep.int.slice.R w D g.2.2.2 [.slice G n cg] := by
  obtain ⟨G5, c5, e, h1, -⟩ := gr_inv h
  injection e with _ e
  injection e with _ e
  injection e with _ e
  injection e with e _
  rw [e]
  injection e with _ e2 _
  exact ⟨e2, h1⟩
theorem take_has {ts : List Int} {k : Nat} {x t : Int} (hx : ts[k]? = some x) : (ts.take (k + 1)).contains t = ((ts.take k).contains t || x == t) := by
  rw [take_one hx]
  simp only [List.contains_eq_mem, List.mem_append, List.mem_singleton]
  by_cases h1 : t ∈ ts.take k
  · simp [h1]
  · by_cases h2 : t = x
    · subst h2; simp
    · have h3 : ¬ x = t := fun e => h2 e.symm
      simp [h1, h2, h3]
set_option maxRecDepth 100000 in
set_option maxHeartbeats 8000000 in
theorem rolls15_law (a : Array Value) (t : Int) (m : Mat) (y : Int) (w : World) (hT : TabP w) (h : matR.R w (Lt w) m (Value.agg a).cells.toList) (_ : True) (_ : Rep.int.R w (Lt w) y (Value.int .i64 t).cells.toList) (_ : True) :
    Calls Tryd.prog 10 #[.agg a, .int .i64 t] w (Ret (.bool true) w) := by
  obtain ⟨A, c, B, d, rfl, hg, hs, hn1, hn2⟩ := mat_inv (cs := a) h
  have HT := Lib.hid hT
  have HS := Lib.hid (ma_start (Below.refl w.heap.size w) hg hs)
  clear hT h hg hs
  obtain ⟨W0, hW0⟩ : ∃ W0, W0 = w.alloc (.cells #[.slice A m.1.length c, .slice B m.2.length d] 25) := ⟨_, rfl⟩
  rw [← hW0] at HS
  have HW0 := Lib.hid hW0
  have HT0 : Hid (TabP W0) := by rw [hW0]; exact HT.out.below ((Below.refl w.heap.size w).alloc (Nat.le_refl _) _)
  obtain ⟨few, hfew⟩ : ∃ b, b = fewM m := ⟨_, rfl⟩
  have HF := Lib.hid hfew
  clear hW0 hfew HT
  have CF := Lib.hid (few15_any _ _ _ _ _ _ m W0 HS.out.hg HS.out.hs)
  rw [← HF.out] at CF
  cases few
  · go_enter Tryd.func10, Tryd.ntmps10
    go_upto_region 1 with fail
    rw [← HW0.out]
    have c0 := HS.out.bm.c20
    have c1 := HS.out.bm.c21
    go_wp2_with fail
    refine CF.out.mono ?_
    rintro e w1 ⟨rfl, hb1⟩
    have HS := Lib.hid (HS.out.below hb1)
    have HT := Lib.hid (HT0.out.below hb1)
    go_wp2_with fail
    refine (awake_any _ HT.out).mono ?_
    rintro e w2 ⟨rfl, hb2⟩
    have HS := Lib.hid (HS.out.below hb2)
    go_wp2
    go_ret
    exact ⟨rfl, HS.out.hb⟩
  obtain ⟨ck, hck⟩ : ∃ ck, checkM m = ck := ⟨_, rfl⟩
  by_cases hc : ck = 0
  · subst hc
    have hl := few_lens HF.out.symm
    go_enter Tryd.func10, Tryd.ntmps10
    go_upto_region 1 with fail
    rw [← HW0.out]
    have c0 := HS.out.bm.c20
    have c1 := HS.out.bm.c21
    go_wp2_with fail
    refine CF.out.mono ?_
    rintro e w1 ⟨rfl, hb1⟩
    have HS := Lib.hid (HS.out.below hb1)
    have HT := Lib.hid (HT0.out.below hb1)
    have c0 := HS.out.bm.c20
    have c1 := HS.out.bm.c21
    go_wp2_with fail
    refine (refCheck15_any _ _ _ _ _ _ m _ HS.out.hg HS.out.hs).mono ?_
    rintro e w2 ⟨rfl, hb2⟩
    rw [hck]
    have HS := Lib.hid (HS.out.below hb2)
    have HT := Lib.hid (HT.out.below hb2)
    dsimp only
    have c0 := HS.out.bm.c20
    have c1 := HS.out.bm.c21
    clear CF HT0 HW0
    have HMT : Hid (MaSt w w.heap.size m A B c d w2 ∧ TabP w2) := ⟨HS.out, HT.out⟩
    clear c0 c1 HS HT hb1 hb2
    go_wp2_with fail
    go_loopw [5] (fun iv wr => ∃ i : Nat, i ≤ m.1.length ∧ iv = .int .i64 i ∧ Hid (MaSt w w.heap.size m A B c d wr ∧ TabP wr)) (fun iv _ => m.1.length - (intOf iv).toNat)
    case atStart => exact ⟨0, Nat.zero_le _, rfl, HMT.out⟩
    case round =>
      obtain ⟨i, hi, rfl, HM⟩ := hrel
      have c0 := HM.out.1.bm.c20
      have c1 := HM.out.1.bm.c21
      clear HMT
      rcases Nat.lt_or_ge i m.1.length with hlt | hge
      · have hlt' : (i : Int) < (m.1.length : Int) := by omega
        obtain ⟨b, off, g, G, ng, cg, eA, hg, hrow⟩ := rowG_at HM.out.1.hg hlt
        subst eA
        have HR := Lib.hid hrow
        have HG := Lib.hid hg
        have p0 := hrow.p0
        have hgl : g.2.2.2.length ≤ 1000 := hl g (List.mem_of_getElem? HG.out)
        clear hg hrow
        go_upto_region 6 with fail
        have dd1 : decide ((i : Int) < (m.1.length : Int)) = true := decide_eq_true hlt'
        have dd2 : decide ((0 : Int) ≤ (i : Int)) = true := decide_eq_true (by omega)
        have hbd := (Below.refl wr.heap.size wr).drew
        have HM : Hid (MaSt w w.heap.size m (some ⟨b, off, none⟩) B c d wr.drew ∧ TabP wr.drew) := ⟨HM.out.1.below hbd, HM.out.2.below hbd⟩
        have HR := Lib.hid (HR.out.below hbd)
        clear hbd c0 c1 p0
        refine wp_region_held_drew (S := fun x => x.cell? ⟨w.heap.size, 0, none⟩ = some (.slice (some ⟨b, off, none⟩) m.1.length c) ∧ x.cell? ⟨w.heap.size, 1, none⟩ = some (.slice B m.2.length d) ∧ x.cell? ⟨b, off + i * 4, none⟩ = some (.string (bA g.1))) (by kernel_rfl) (⟨HM.out.1.bm.c20, HM.out.1.bm.c21, HR.out.p0⟩) (fun hH => ?_)
        refine take_run (i := 0) (v := ?_) (by decide) (by kernel_rfl) (by kernel_rfl) (by kernel_rfl) (fun _ _ _ _ h => h) hH rfl ?_ ?_
        rotate_left
        · (intro w hSw; (try dsimp only at hSw); (try go_split_ands); simp only [List.getElem_toArray, List.getElem_cons_zero, List.getElem_cons_succ]; go_simp; try with_reducible rfl)
        try simp (config := { failIfUnchanged := false }) only [Act.put, List.setIfInBounds_toArray, List.set_cons_zero, List.set_cons_succ, List.getElem_toArray, List.getElem_cons_zero, List.getElem_cons_succ]
        refine take_run (i := 1) (v := ?_) (by decide) (by kernel_rfl) (by kernel_rfl) (by kernel_rfl) (fun _ _ _ _ h => h) hH rfl ?_ ?_
        rotate_left
        · (intro w hSw; (try dsimp only at hSw); (try go_split_ands); simp only [List.getElem_toArray, List.getElem_cons_zero, List.getElem_cons_succ]; go_simp; try with_reducible rfl)
        try simp (config := { failIfUnchanged := false }) only [Act.put, List.setIfInBounds_toArray, List.set_cons_zero, List.set_cons_succ, List.getElem_toArray, List.getElem_cons_zero, List.getElem_cons_succ]
        refine take_run (i := 2) (v := ?_) (by decide) (by kernel_rfl) (by kernel_rfl) (by kernel_rfl) (fun _ _ _ _ h => h) hH rfl ?_ ?_
        rotate_left
        · (intro w hSw; (try dsimp only at hSw); (try go_split_ands); simp only [List.getElem_toArray, List.getElem_cons_zero, List.getElem_cons_succ]; go_simp; try with_reducible rfl)
        try simp (config := { failIfUnchanged := false }) only [Act.put, List.setIfInBounds_toArray, List.set_cons_zero, List.set_cons_succ, List.getElem_toArray, List.getElem_cons_zero, List.getElem_cons_succ]
        refine take_run (i := 3) (v := ?_) (by decide) (by kernel_rfl) (by kernel_rfl) (by kernel_rfl) (fun _ _ _ _ h => h) hH rfl ?_ ?_
        rotate_left
        · (intro w hSw; (try dsimp only at hSw); (try go_split_ands); simp only [List.getElem_toArray, List.getElem_cons_zero, List.getElem_cons_succ]; go_simp; try with_reducible rfl)
        try simp (config := { failIfUnchanged := false }) only [Act.put, List.setIfInBounds_toArray, List.set_cons_zero, List.set_cons_succ, List.getElem_toArray, List.getElem_cons_zero, List.getElem_cons_succ]
        refine take_run (i := 4) (v := ?_) (by decide) (by kernel_rfl) (by kernel_rfl) (by kernel_rfl) (fun _ _ _ _ h => h) hH rfl ?_ ?_
        rotate_left
        · (intro w hSw; (try dsimp only at hSw); (try go_split_ands); simp only [List.getElem_toArray, List.getElem_cons_zero, List.getElem_cons_succ]; go_simp; try with_reducible rfl)
        try simp (config := { failIfUnchanged := false }) only [Act.put, List.setIfInBounds_toArray, List.set_cons_zero, List.set_cons_succ, List.getElem_toArray, List.getElem_cons_zero, List.getElem_cons_succ]
        refine take_run (i := 5) (v := ?_) (by decide) (by kernel_rfl) (by kernel_rfl) (by kernel_rfl) (fun _ _ _ _ h => h) hH rfl ?_ ?_
        rotate_left
        · (intro w hSw; (try dsimp only at hSw); (try go_split_ands); simp only [List.getElem_toArray, List.getElem_cons_zero, List.getElem_cons_succ]; go_simp; try with_reducible rfl)
        try simp (config := { failIfUnchanged := false }) only [Act.put, List.setIfInBounds_toArray, List.set_cons_zero, List.set_cons_succ, List.getElem_toArray, List.getElem_cons_zero, List.getElem_cons_succ]
        refine take_run (i := 6) (v := ?_) (by decide) (by kernel_rfl) (by kernel_rfl) (by kernel_rfl) (fun _ _ _ _ h => h) hH rfl ?_ ?_
        rotate_left
        · (intro w hSw; (try dsimp only at hSw); (try go_split_ands); simp only [List.getElem_toArray, List.getElem_cons_zero, List.getElem_cons_succ]; go_simp; try with_reducible rfl)
        try simp (config := { failIfUnchanged := false }) only [Act.put, List.setIfInBounds_toArray, List.set_cons_zero, List.set_cons_succ, List.getElem_toArray, List.getElem_cons_zero, List.getElem_cons_succ]
        refine take_two (i := 7) (j := 11) (by decide) (by decide) (by kernel_rfl) (fun K hK => ?_) (fun K hK => ?_)
        focus
          simp only [List.getElem_toArray, List.getElem_cons_zero, List.getElem_cons_succ]
          go_simp
          go_at_call 15
          refine (matGradeOf_fresh _ _ _ _ _ _ m g.1 _ HM.out.1.hg hl).mono ?_
          rintro e w4 ⟨ga, rfl, hga, hb4⟩
          rw [grF_own hck HG.out] at hga ⊢
          obtain ⟨G4, n4, c4, rfl⟩ := gr_form hga
          have HM : Hid (MaSt w w.heap.size m (some ⟨b, off, none⟩) B c d w4 ∧ TabP w4) := ⟨HM.out.1.below hb4, HM.out.2.below hb4⟩
          have HR := Lib.hid (HR.out.below hb4)
          have HGA := Lib.hid hga
          have HB4 := Lib.hid hb4
          clear hga hb4
          dsimp only
          refine hK.out _ _ (by exact ⟨HM.out.1.bm.c20, HM.out.1.bm.c21, HR.out.p0⟩) (fun hH => ?_)
          clear hK K
          try simp (config := { failIfUnchanged := false }) only [Act.put, List.setIfInBounds_toArray, List.set_cons_zero, List.set_cons_succ, List.getElem_toArray, List.getElem_cons_zero, List.getElem_cons_succ]
          refine take_run (i := 8) (v := ?_) (by decide) (by kernel_rfl) (by kernel_rfl) (by kernel_rfl) (fun _ _ _ _ h => h) hH rfl ?_ ?_
          rotate_left
          · (intro w hSw; (try dsimp only at hSw); (try go_split_ands); simp only [List.getElem_toArray, List.getElem_cons_zero, List.getElem_cons_succ]; go_simp; try with_reducible rfl)
          try simp (config := { failIfUnchanged := false }) only [Act.put, List.setIfInBounds_toArray, List.set_cons_zero, List.set_cons_succ, List.getElem_toArray, List.getElem_cons_zero, List.getElem_cons_succ]
          refine take_run (i := 9) (v := ?_) (by decide) (by kernel_rfl) (by kernel_rfl) (by kernel_rfl) (fun _ _ _ _ h => h) hH rfl ?_ ?_
          rotate_left
          · (intro w hSw; (try dsimp only at hSw); (try go_split_ands); simp only [List.getElem_toArray, List.getElem_cons_zero, List.getElem_cons_succ]; go_simp; try with_reducible rfl)
          try simp (config := { failIfUnchanged := false }) only [Act.put, List.setIfInBounds_toArray, List.set_cons_zero, List.set_cons_succ, List.getElem_toArray, List.getElem_cons_zero, List.getElem_cons_succ]
          refine take_run (i := 10) (v := ?_) (by decide) (by kernel_rfl) (by kernel_rfl) (by kernel_rfl) (fun _ _ _ _ h => h) hH rfl ?_ ?_
          rotate_left
          · (intro w hSw; (try dsimp only at hSw); (try go_split_ands); simp only [List.getElem_toArray, List.getElem_cons_zero, List.getElem_cons_succ]; go_simp; try with_reducible rfl)
          try simp (config := { failIfUnchanged := false }) only [Act.put, List.setIfInBounds_toArray, List.set_cons_zero, List.set_cons_succ, List.getElem_toArray, List.getElem_cons_zero, List.getElem_cons_succ]
          refine take_call (i := 11) (by decide) (by kernel_rfl) (fun K hK => ?_)
          simp only [List.getElem_toArray, List.getElem_cons_zero, List.getElem_cons_succ]
          have HM4 := HM
          have HR4 := HR
          go_simp
          have hba := (Below.refl w4.heap.size w4).alloc (Nat.le_refl _) (.cells #[.string ⟨#[]⟩, .int .i64 0, .int .i64 0, .slice none 0 0] 32)
          have HM : Hid (MaSt w w.heap.size m (some ⟨b, off, none⟩) B c d (w4.alloc (.cells #[.string ⟨#[]⟩, .int .i64 0, .int .i64 0, .slice none 0 0] 32)) ∧ TabP (w4.alloc (.cells #[.string ⟨#[]⟩, .int .i64 0, .int .i64 0, .slice none 0 0] 32))) := ⟨HM.out.1.below hba, HM.out.2.below hba⟩
          have HR := Lib.hid (HR.out.below hba)
          have hbk := Lib.hid (Blk.new w4 32 #[.string ⟨#[]⟩, .int .i64 0, .int .i64 0, .slice none 0 0])
          have k0 := hbk.out.free 0
          have k1 := hbk.out.free 1
          have k2 := hbk.out.free 2
          have k3 := hbk.out.free 3
          have l0 := hbk.out.cell 0
          have l1 := hbk.out.cell 1
          have l2 := hbk.out.cell 2
          have l3 := hbk.out.cell 3
          clear hba
          refine hK.out _ _ (by exact ⟨HM.out.1.bm.c20, HM.out.1.bm.c21, HR.out.p0⟩) (fun hH => ?_)
          clear hK K
          try simp (config := { failIfUnchanged := false }) only [Act.put, List.setIfInBounds_toArray, List.set_cons_zero, List.set_cons_succ, List.getElem_toArray, List.getElem_cons_zero, List.getElem_cons_succ]
          refine take_call (i := 12) (by decide) (by kernel_rfl) (fun K hK => ?_)
          simp only [List.getElem_toArray, List.getElem_cons_zero, List.getElem_cons_succ]
          go_simp
          have hbs := (Below.refl w4.heap.size w4).alloc (Nat.le_refl _) (.cells #[.string (bA g.1), .int .i64 g.2.1, .int .i64 g.2.2.1, .slice G4 n4 c4] 32)
          have hbx2 := Blk.new w4 32 #[.string (bA g.1), .int .i64 g.2.1, .int .i64 g.2.2.1, .slice G4 n4 c4]
          have hgx : grR.R (w4.alloc (.cells #[.string (bA g.1), .int .i64 g.2.1, .int .i64 g.2.2.1, .slice G4 n4 c4] 32)) (Lt _) g [.string (bA g.1), .int .i64 g.2.1, .int .i64 g.2.2.1, .slice G4 n4 c4] := Rep.below (Rep.mono _ (fun b hb => hb.2) HGA.out) hbs
          have hmx : MaSt w w.heap.size m (some ⟨b, off, none⟩) B c d _ ∧ TabP _ := ⟨HM4.out.1.below hbs, HM4.out.2.below hbs⟩
          have hrx := HR4.out.below hbs
          clear HM HR HM4 HR4 hbk k0 k1 k2 k3 l0 l1 l2 l3 hbs HB4
          generalize w4.alloc (.cells #[.string (bA g.1), .int .i64 g.2.1, .int .i64 g.2.2.1, .slice G4 n4 c4] 32) = WS at *
          generalize w4.heap.size = bx at *
          have HB : Hid (GrBx bx g #[.string (bA g.1), .int .i64 g.2.1, .int .i64 g.2.2.1, .slice G4 n4 c4] WS) := ⟨hgx, hbx2⟩
          have HM : Hid (MaSt w w.heap.size m (some ⟨b, off, none⟩) B c d WS ∧ TabP WS) := hmx
          have HR : Hid (RowG b (off + i * 4) g G ng cg WS) := hrx
          refine hK.out _ _ (by exact ⟨HM.out.1.bm.c20, HM.out.1.bm.c21, HR.out.p0⟩) (fun hH => ?_)
          clear hK K
          try simp (config := { failIfUnchanged := false }) only [Act.put, List.setIfInBounds_toArray, List.set_cons_zero, List.set_cons_succ, List.getElem_toArray, List.getElem_cons_zero, List.getElem_cons_succ]
          refine take_run (i := 13) (v := ?_) (by decide) (by kernel_rfl) (by kernel_rfl) (by kernel_rfl) (fun _ _ _ _ h => h) hH rfl ?_ ?_
          rotate_left
          · (intro w hSw; (try dsimp only at hSw); (try go_split_ands); simp only [List.getElem_toArray, List.getElem_cons_zero, List.getElem_cons_succ]; go_simp; try with_reducible rfl)
          try simp (config := { failIfUnchanged := false }) only [Act.put, List.setIfInBounds_toArray, List.set_cons_zero, List.set_cons_succ, List.getElem_toArray, List.getElem_cons_zero, List.getElem_cons_succ]
          refine wpAnyH_done (by kernel_rfl) ?_ _
          clear HGA hgx hbx2 hmx hrx
        rotate_left 1
        focus
          simp only [List.getElem_toArray, List.getElem_cons_zero, List.getElem_cons_succ]
          go_simp
          have hba := (Below.refl wr.drew.heap.size wr.drew).alloc (Nat.le_refl _) (.cells #[.string ⟨#[]⟩, .int .i64 0, .int .i64 0, .slice none 0 0] 32)
          have HMW := HM
          have HRW := HR
          have HM : Hid (MaSt w w.heap.size m (some ⟨b, off, none⟩) B c d (wr.drew.alloc (.cells #[.string ⟨#[]⟩, .int .i64 0, .int .i64 0, .slice none 0 0] 32)) ∧ TabP (wr.drew.alloc (.cells #[.string ⟨#[]⟩, .int .i64 0, .int .i64 0, .slice none 0 0] 32))) := ⟨HM.out.1.below hba, HM.out.2.below hba⟩
          have HR := Lib.hid (HR.out.below hba)
          have HBK := Lib.hid (Blk.new wr.drew 32 #[.string ⟨#[]⟩, .int .i64 0, .int .i64 0, .slice none 0 0])
          clear hba
          refine hK.out _ _ (by exact ⟨HM.out.1.bm.c20, HM.out.1.bm.c21, HR.out.p0⟩) (fun hH => ?_)
          clear hK K
          try simp (config := { failIfUnchanged := false }) only [Act.put, List.setIfInBounds_toArray, List.set_cons_zero, List.set_cons_succ, List.getElem_toArray, List.getElem_cons_zero, List.getElem_cons_succ]
          refine take_call (i := 7) (by decide) (by kernel_rfl) (fun K hK => ?_)
          simp only [List.getElem_toArray, List.getElem_cons_zero, List.getElem_cons_succ]
          go_simp
          go_at_call 15
          refine (matGradeOf_fresh _ _ _ _ _ _ m g.1 _ HM.out.1.hg hl).mono ?_
          rintro e w4 ⟨ga, rfl, hga, hb4⟩
          rw [grF_own hck HG.out] at hga ⊢
          obtain ⟨G4, n4, c4, rfl⟩ := gr_form hga
          have HM : Hid (MaSt w w.heap.size m (some ⟨b, off, none⟩) B c d w4 ∧ TabP w4) := ⟨HM.out.1.below hb4, HM.out.2.below hb4⟩
          have HR := Lib.hid (HR.out.below hb4)
          have HGA := Lib.hid hga
          have HB4 := Lib.hid hb4
          clear hga hb4
          dsimp only
          have hbk := Lib.hid (HBK.out.below HB4.out HBK.out.lt)
          have k0 : w4.frozen? ⟨wr.heap.size, 0, none⟩ = false := hbk.out.free 0
          have k1 : w4.frozen? ⟨wr.heap.size, 1, none⟩ = false := hbk.out.free 1
          have k2 : w4.frozen? ⟨wr.heap.size, 2, none⟩ = false := hbk.out.free 2
          have k3 : w4.frozen? ⟨wr.heap.size, 3, none⟩ = false := hbk.out.free 3
          have l0 : w4.cell? ⟨wr.heap.size, 0, none⟩ = some (.string ⟨#[]⟩) := hbk.out.cell 0
          have l1 : w4.cell? ⟨wr.heap.size, 1, none⟩ = some (.int .i64 0) := hbk.out.cell 1
          have l2 : w4.cell? ⟨wr.heap.size, 2, none⟩ = some (.int .i64 0) := hbk.out.cell 2
          have l3 : w4.cell? ⟨wr.heap.size, 3, none⟩ = some (.slice none 0 0) := hbk.out.cell 3
          refine hK.out _ _ (by exact ⟨HM.out.1.bm.c20, HM.out.1.bm.c21, HR.out.p0⟩) (fun hH => ?_)
          clear hK K
          try simp (config := { failIfUnchanged := false }) only [Act.put, List.setIfInBounds_toArray, List.set_cons_zero, List.set_cons_succ, List.getElem_toArray, List.getElem_cons_zero, List.getElem_cons_succ]
          refine take_run (i := 8) (v := ?_) (by decide) (by kernel_rfl) (by kernel_rfl) (by kernel_rfl) (fun _ _ _ _ h => h) hH rfl ?_ ?_
          rotate_left
          · (intro w hSw; (try dsimp only at hSw); (try go_split_ands); simp only [List.getElem_toArray, List.getElem_cons_zero, List.getElem_cons_succ]; go_simp; try with_reducible rfl)
          try simp (config := { failIfUnchanged := false }) only [Act.put, List.setIfInBounds_toArray, List.set_cons_zero, List.set_cons_succ, List.getElem_toArray, List.getElem_cons_zero, List.getElem_cons_succ]
          refine take_run (i := 9) (v := ?_) (by decide) (by kernel_rfl) (by kernel_rfl) (by kernel_rfl) (fun _ _ _ _ h => h) hH rfl ?_ ?_
          rotate_left
          · (intro w hSw; (try dsimp only at hSw); (try go_split_ands); simp only [List.getElem_toArray, List.getElem_cons_zero, List.getElem_cons_succ]; go_simp; try with_reducible rfl)
          try simp (config := { failIfUnchanged := false }) only [Act.put, List.setIfInBounds_toArray, List.set_cons_zero, List.set_cons_succ, List.getElem_toArray, List.getElem_cons_zero, List.getElem_cons_succ]
          refine take_run (i := 10) (v := ?_) (by decide) (by kernel_rfl) (by kernel_rfl) (by kernel_rfl) (fun _ _ _ _ h => h) hH rfl ?_ ?_
          rotate_left
          · (intro w hSw; (try dsimp only at hSw); (try go_split_ands); simp only [List.getElem_toArray, List.getElem_cons_zero, List.getElem_cons_succ]; go_simp; try with_reducible rfl)
          try simp (config := { failIfUnchanged := false }) only [Act.put, List.setIfInBounds_toArray, List.set_cons_zero, List.set_cons_succ, List.getElem_toArray, List.getElem_cons_zero, List.getElem_cons_succ]
          refine take_call (i := 12) (by decide) (by kernel_rfl) (fun K hK => ?_)
          simp only [List.getElem_toArray, List.getElem_cons_zero, List.getElem_cons_succ]
          go_simp
          have hsa : (wr.drew.alloc (.cells #[.string ⟨#[]⟩, .int .i64 0, .int .i64 0, .slice none 0 0] 32)).heap.size = wr.heap.size + 1 := by simp
          have hb5 : Below wr.heap.size wr.drew ((((w4.setCell ⟨wr.heap.size, 0, none⟩ (.string (bA g.1))).setCell ⟨wr.heap.size, 1, none⟩ (.int .i64 g.2.1)).setCell ⟨wr.heap.size, 2, none⟩ (.int .i64 g.2.2.1)).setCell ⟨wr.heap.size, 3, none⟩ (.slice G4 n4 c4)) := four_below (((Below.refl wr.heap.size wr.drew).alloc (Nat.le_refl _) (.cells #[.string ⟨#[]⟩, .int .i64 0, .int .i64 0, .slice none 0 0] 32)).trans (HB4.out.mono (by omega))) (Nat.le_refl _)
          have hbx2 : Blk ((((w4.setCell ⟨wr.heap.size, 0, none⟩ (.string (bA g.1))).setCell ⟨wr.heap.size, 1, none⟩ (.int .i64 g.2.1)).setCell ⟨wr.heap.size, 2, none⟩ (.int .i64 g.2.2.1)).setCell ⟨wr.heap.size, 3, none⟩ (.slice G4 n4 c4)) wr.heap.size 32 #[.string (bA g.1), .int .i64 g.2.1, .int .i64 g.2.2.1, .slice G4 n4 c4] := four_set hbk.out
          have hgx : grR.R ((((w4.setCell ⟨wr.heap.size, 0, none⟩ (.string (bA g.1))).setCell ⟨wr.heap.size, 1, none⟩ (.int .i64 g.2.1)).setCell ⟨wr.heap.size, 2, none⟩ (.int .i64 g.2.2.1)).setCell ⟨wr.heap.size, 3, none⟩ (.slice G4 n4 c4)) (Lt ((((w4.setCell ⟨wr.heap.size, 0, none⟩ (.string (bA g.1))).setCell ⟨wr.heap.size, 1, none⟩ (.int .i64 g.2.1)).setCell ⟨wr.heap.size, 2, none⟩ (.int .i64 g.2.2.1)).setCell ⟨wr.heap.size, 3, none⟩ (.slice G4 n4 c4))) g [.string (bA g.1), .int .i64 g.2.1, .int .i64 g.2.2.1, .slice G4 n4 c4] := by
            refine Rep.mono _ (D := fun b => (wr.drew.alloc (.cells #[.string ⟨#[]⟩, .int .i64 0, .int .i64 0, .slice none 0 0] 32)).heap.size ≤ b ∧ b < w4.heap.size) (fun b hb => ?_) (Rep.keep _ (fun b hb => ?_) HGA.out)
            · have := (four_below (a' := .string (bA g.1)) (b' := .int .i64 g.2.1) (c' := .int .i64 g.2.2.1) (d' := .slice G4 n4 c4) (Below.refl wr.heap.size w4) (Nat.le_refl wr.heap.size)).size
              exact Nat.lt_of_lt_of_le hb.2 this
            · have hne : b ≠ wr.heap.size := by have := hb.1; omega
              rw [Below.heap_setCell _ _ _ _ hne, Below.heap_setCell _ _ _ _ hne, Below.heap_setCell _ _ _ _ hne, Below.heap_setCell _ _ _ _ hne]
          have hmx : MaSt w w.heap.size m (some ⟨b, off, none⟩) B c d _ ∧ TabP _ := ⟨HMW.out.1.below hb5, HMW.out.2.below hb5⟩
          have hrx := HRW.out.below hb5
          clear HM HR HMW HRW hbk k0 k1 k2 k3 l0 l1 l2 l3 hb5 HB4 HBK hsa HGA
          generalize ((((w4.setCell ⟨wr.heap.size, 0, none⟩ (.string (bA g.1))).setCell ⟨wr.heap.size, 1, none⟩ (.int .i64 g.2.1)).setCell ⟨wr.heap.size, 2, none⟩ (.int .i64 g.2.2.1)).setCell ⟨wr.heap.size, 3, none⟩ (.slice G4 n4 c4)) = WS at *
          generalize wr.heap.size = bx at *
          have HB : Hid (GrBx bx g #[.string (bA g.1), .int .i64 g.2.1, .int .i64 g.2.2.1, .slice G4 n4 c4] WS) := ⟨hgx, hbx2⟩
          have HM : Hid (MaSt w w.heap.size m (some ⟨b, off, none⟩) B c d WS ∧ TabP WS) := hmx
          have HR : Hid (RowG b (off + i * 4) g G ng cg WS) := hrx
          refine hK.out _ _ (by exact ⟨HM.out.1.bm.c20, HM.out.1.bm.c21, HR.out.p0⟩) (fun hH => ?_)
          clear hK K
          try simp (config := { failIfUnchanged := false }) only [Act.put, List.setIfInBounds_toArray, List.set_cons_zero, List.set_cons_succ, List.getElem_toArray, List.getElem_cons_zero, List.getElem_cons_succ]
          refine take_run (i := 13) (v := ?_) (by decide) (by kernel_rfl) (by kernel_rfl) (by kernel_rfl) (fun _ _ _ _ h => h) hH rfl ?_ ?_
          rotate_left
          · (intro w hSw; (try dsimp only at hSw); (try go_split_ands); simp only [List.getElem_toArray, List.getElem_cons_zero, List.getElem_cons_succ]; go_simp; try with_reducible rfl)
          try simp (config := { failIfUnchanged := false }) only [Act.put, List.setIfInBounds_toArray, List.set_cons_zero, List.set_cons_succ, List.getElem_toArray, List.getElem_cons_zero, List.getElem_cons_succ]
          refine wpAnyH_done (by kernel_rfl) ?_ _
          clear hgx hbx2 hmx hrx
        all_goals
          have c0 := HM.out.1.bm.c20
          have c1 := HM.out.1.bm.c21
          have a0 : WS.cell? ⟨bx, 0, none⟩ = some (.string (bA g.1)) := HB.out.bx.cell 0
          have a1 : WS.cell? ⟨bx, 1, none⟩ = some (.int .i64 g.2.1) := HB.out.bx.cell 1
          have a2 : WS.cell? ⟨bx, 2, none⟩ = some (.int .i64 g.2.2.1) := HB.out.bx.cell 2
          have a3 : WS.cell? ⟨bx, 3, none⟩ = some (.slice G4 n4 c4) := HB.out.bx.cell 3
          have p0 := HR.out.p0
          have p1 := HR.out.p1
          have p2 := HR.out.p2
          have p3 := HR.out.p3
          go_wp2_with fail
          have hbd := (Below.refl WS.heap.size WS).drew
          have HM : Hid (MaSt w w.heap.size m (some ⟨b, off, none⟩) B c d _ ∧ TabP _) := ⟨HM.out.1.below hbd, HM.out.2.below hbd⟩
          have HR := Lib.hid (HR.out.below hbd)
          have HB := Lib.hid (HB.out.below hbd)
          clear hbd c0 c1 a0 a1 a2 a3 p0 p1 p2 p3
          refine wp_region_held_drew (S := fun x => x.cell? ⟨w.heap.size, 0, none⟩ = some (.slice (some ⟨b, off, none⟩) m.1.length c) ∧ x.cell? ⟨w.heap.size, 1, none⟩ = some (.slice B m.2.length d) ∧ x.cell? ⟨bx, 0, none⟩ = some (.string (bA g.1)) ∧ x.cell? ⟨bx, 1, none⟩ = some (.int .i64 g.2.1) ∧ x.cell? ⟨bx, 2, none⟩ = some (.int .i64 g.2.2.1) ∧ x.cell? ⟨bx, 3, none⟩ = some (.slice G4 n4 c4) ∧ x.cell? ⟨b, off + i * 4, none⟩ = some (.string (bA g.1)) ∧ x.cell? ⟨b, off + i * 4 + 1, none⟩ = some (.int .i64 g.2.1) ∧ x.cell? ⟨b, off + i * 4 + 2, none⟩ = some (.int .i64 g.2.2.1) ∧ x.cell? ⟨b, off + i * 4 + 3, none⟩ = some (.slice G ng cg)) (by kernel_rfl) (⟨HM.out.1.bm.c20, HM.out.1.bm.c21, HB.out.bx.cell 0, HB.out.bx.cell 1, HB.out.bx.cell 2, HB.out.bx.cell 3, HR.out.p0, HR.out.p1, HR.out.p2, HR.out.p3⟩) (fun hH => ?_)
          refine take_run (i := 0) (v := ?_) (by decide) (by kernel_rfl) (by kernel_rfl) (by kernel_rfl) (fun _ _ _ _ h => h) hH rfl ?_ ?_
          rotate_left
          · (intro w hSw; (try dsimp only at hSw); (try go_split_ands); simp only [List.getElem_toArray, List.getElem_cons_zero, List.getElem_cons_succ]; go_simp; try with_reducible rfl)
          try simp (config := { failIfUnchanged := false }) only [Act.put, List.setIfInBounds_toArray, List.set_cons_zero, List.set_cons_succ, List.getElem_toArray, List.getElem_cons_zero, List.getElem_cons_succ]
          refine take_run (i := 1) (v := ?_) (by decide) (by kernel_rfl) (by kernel_rfl) (by kernel_rfl) (fun _ _ _ _ h => h) hH rfl ?_ ?_
          rotate_left
          · (intro w hSw; (try dsimp only at hSw); (try go_split_ands); simp only [List.getElem_toArray, List.getElem_cons_zero, List.getElem_cons_succ]; go_simp; try with_reducible rfl)
          try simp (config := { failIfUnchanged := false }) only [Act.put, List.setIfInBounds_toArray, List.set_cons_zero, List.set_cons_succ, List.getElem_toArray, List.getElem_cons_zero, List.getElem_cons_succ]
          refine take_run (i := 2) (v := ?_) (by decide) (by kernel_rfl) (by kernel_rfl) (by kernel_rfl) (fun _ _ _ _ h => h) hH rfl ?_ ?_
          rotate_left
          · (intro w hSw; (try dsimp only at hSw); (try go_split_ands); simp only [List.getElem_toArray, List.getElem_cons_zero, List.getElem_cons_succ]; go_simp; try with_reducible rfl)
          try simp (config := { failIfUnchanged := false }) only [Act.put, List.setIfInBounds_toArray, List.set_cons_zero, List.set_cons_succ, List.getElem_toArray, List.getElem_cons_zero, List.getElem_cons_succ]
          refine take_run (i := 3) (v := ?_) (by decide) (by kernel_rfl) (by kernel_rfl) (by kernel_rfl) (fun _ _ _ _ h => h) hH rfl ?_ ?_
          rotate_left
          · (intro w hSw; (try dsimp only at hSw); (try go_split_ands); simp only [List.getElem_toArray, List.getElem_cons_zero, List.getElem_cons_succ]; go_simp; try with_reducible rfl)
          try simp (config := { failIfUnchanged := false }) only [Act.put, List.setIfInBounds_toArray, List.set_cons_zero, List.set_cons_succ, List.getElem_toArray, List.getElem_cons_zero, List.getElem_cons_succ]
          refine take_run (i := 4) (v := ?_) (by decide) (by kernel_rfl) (by kernel_rfl) (by kernel_rfl) (fun _ _ _ _ h => h) hH rfl ?_ ?_
          rotate_left
          · (intro w hSw; (try dsimp only at hSw); (try go_split_ands); simp only [List.getElem_toArray, List.getElem_cons_zero, List.getElem_cons_succ]; go_simp; try with_reducible rfl)
          try simp (config := { failIfUnchanged := false }) only [Act.put, List.setIfInBounds_toArray, List.set_cons_zero, List.set_cons_succ, List.getElem_toArray, List.getElem_cons_zero, List.getElem_cons_succ]
          refine take_run (i := 5) (v := ?_) (by decide) (by kernel_rfl) (by kernel_rfl) (by kernel_rfl) (fun _ _ _ _ h => h) hH rfl ?_ ?_
          rotate_left
          · (intro w hSw; (try dsimp only at hSw); (try go_split_ands); simp only [List.getElem_toArray, List.getElem_cons_zero, List.getElem_cons_succ]; go_simp; try with_reducible rfl)
          try simp (config := { failIfUnchanged := false }) only [Act.put, List.setIfInBounds_toArray, List.set_cons_zero, List.set_cons_succ, List.getElem_toArray, List.getElem_cons_zero, List.getElem_cons_succ]
          refine take_run (i := 6) (v := ?_) (by decide) (by kernel_rfl) (by kernel_rfl) (by kernel_rfl) (fun _ _ _ _ h => h) hH rfl ?_ ?_
          rotate_left
          · (intro w hSw; (try dsimp only at hSw); (try go_split_ands); simp only [List.getElem_toArray, List.getElem_cons_zero, List.getElem_cons_succ]; go_simp; try with_reducible rfl)
          try simp (config := { failIfUnchanged := false }) only [Act.put, List.setIfInBounds_toArray, List.set_cons_zero, List.set_cons_succ, List.getElem_toArray, List.getElem_cons_zero, List.getElem_cons_succ]
          refine take_run (i := 7) (v := ?_) (by decide) (by kernel_rfl) (by kernel_rfl) (by kernel_rfl) (fun _ _ _ _ h => h) hH rfl ?_ ?_
          rotate_left
          · (intro w hSw; (try dsimp only at hSw); (try go_split_ands); simp only [List.getElem_toArray, List.getElem_cons_zero, List.getElem_cons_succ]; go_simp; try with_reducible rfl)
          try simp (config := { failIfUnchanged := false }) only [Act.put, List.setIfInBounds_toArray, List.set_cons_zero, List.set_cons_succ, List.getElem_toArray, List.getElem_cons_zero, List.getElem_cons_succ]
          refine take_run (i := 8) (v := ?_) (by decide) (by kernel_rfl) (by kernel_rfl) (by kernel_rfl) (fun _ _ _ _ h => h) hH rfl ?_ ?_
          rotate_left
          · (intro w hSw; (try dsimp only at hSw); (try go_split_ands); simp only [List.getElem_toArray, List.getElem_cons_zero, List.getElem_cons_succ]; go_simp; try with_reducible rfl)
          try simp (config := { failIfUnchanged := false }) only [Act.put, List.setIfInBounds_toArray, List.set_cons_zero, List.set_cons_succ, List.getElem_toArray, List.getElem_cons_zero, List.getElem_cons_succ]
          refine take_call (i := 9) (by decide) (by kernel_rfl) (fun K hK => ?_)
          simp only [List.getElem_toArray, List.getElem_cons_zero, List.getElem_cons_succ]
          go_simp
          go_at_call 19
          refine (sameGrade_eq _ _ g _ HB.out.hg HR.out.hR).mono ?_
          rintro e w5 ⟨rfl, hb5⟩
          have HM : Hid (MaSt w w.heap.size m (some ⟨b, off, none⟩) B c d _ ∧ TabP _) := ⟨HM.out.1.below hb5, HM.out.2.below hb5⟩
          have HR := Lib.hid (HR.out.below hb5)
          have HB := Lib.hid (HB.out.below hb5)
          clear hb5
          dsimp only
          refine hK.out _ _ (by exact ⟨HM.out.1.bm.c20, HM.out.1.bm.c21, HB.out.bx.cell 0, HB.out.bx.cell 1, HB.out.bx.cell 2, HB.out.bx.cell 3, HR.out.p0, HR.out.p1, HR.out.p2, HR.out.p3⟩) (fun hH => ?_)
          clear hK K
          try simp (config := { failIfUnchanged := false }) only [Act.put, List.setIfInBounds_toArray, List.set_cons_zero, List.set_cons_succ, List.getElem_toArray, List.getElem_cons_zero, List.getElem_cons_succ]
          refine take_run (i := 10) (v := ?_) (by decide) (by kernel_rfl) (by kernel_rfl) (by kernel_rfl) (fun _ _ _ _ h => h) hH rfl ?_ ?_
          rotate_left
          · (intro w hSw; (try dsimp only at hSw); (try go_split_ands); simp only [List.getElem_toArray, List.getElem_cons_zero, List.getElem_cons_succ]; go_simp; try with_reducible rfl)
          try simp (config := { failIfUnchanged := false }) only [Act.put, List.setIfInBounds_toArray, List.set_cons_zero, List.set_cons_succ, List.getElem_toArray, List.getElem_cons_zero, List.getElem_cons_succ]
          refine take_run (i := 11) (v := ?_) (by decide) (by kernel_rfl) (by kernel_rfl) (by kernel_rfl) (fun _ _ _ _ h => h) hH rfl ?_ ?_
          rotate_left
          · (intro w hSw; (try dsimp only at hSw); (try go_split_ands); simp only [List.getElem_toArray, List.getElem_cons_zero, List.getElem_cons_succ]; go_simp; try with_reducible rfl)
          try simp (config := { failIfUnchanged := false }) only [Act.put, List.setIfInBounds_toArray, List.set_cons_zero, List.set_cons_succ, List.getElem_toArray, List.getElem_cons_zero, List.getElem_cons_succ]
          refine wpAnyH_done (by kernel_rfl) ?_ _
          go_wp2_with fail
          obtain ⟨en4, -⟩ := gr_ints HB.out.hg
          subst en4
          go_loopw [8, 9] (fun hv kv wx => ∃ k : Nat, k ≤ g.2.2.2.length ∧ kv = .int .i64 k ∧ hv = .bool ((g.2.2.2.take k).contains t) ∧ Hid (MaSt w w.heap.size m (some ⟨b, off, none⟩) B c d wx ∧ TabP wx) ∧ Hid (RowG b (off + i * 4) g G ng cg wx) ∧ Hid (GrBx bx g #[.string (bA g.1), .int .i64 g.2.1, .int .i64 g.2.2.1, .slice G4 g.2.2.2.length c4] wx)) (fun _ kv _ => g.2.2.2.length - (intOf kv).toNat)
          case atStart => exact ⟨0, Nat.zero_le _, rfl, by simp, HM, HR, HB⟩
          case round =>
            clear HM HR HB
            obtain ⟨k, hk, rfl, rfl, HM, HR, HB⟩ := hrel
            have c0 := HM.out.1.bm.c20
            have c1 := HM.out.1.bm.c21
            have a0 : wr.cell? ⟨bx, 0, none⟩ = some (.string (bA g.1)) := HB.out.bx.cell 0
            have a3 : wr.cell? ⟨bx, 3, none⟩ = some (.slice G4 g.2.2.2.length c4) := HB.out.bx.cell 3
            rcases Nat.lt_or_ge k g.2.2.2.length with hkl | hkg
            · have hkl' : (k : Int) < (g.2.2.2.length : Int) := by omega
              obtain ⟨b2, off2, gx, eG, hx, hb2, kx, -, -⟩ := ints_at (gr_ints HB.out.hg).2 hkl
              subst eG
              have hr : rolledF m g.1 gx = true := by
                rw [rolled_own hck HG.out]
                simpa using List.mem_of_getElem? hx.out
              have HX := Lib.hid (take_has (t := t) hx.out)
              obtain ⟨hs, hhs⟩ : ∃ hs, hs = (g.2.2.2.take k).contains t := ⟨_, rfl⟩
              rw [← hhs] at HX ⊢
              have HX2 : Hid (b2 < wr.heap.size ∧ wr.cell? ⟨b2, off2 + k, none⟩ = some (.int .i64 gx)) := ⟨hb2, kx⟩
              clear hx hhs hb2
              cases hs
              · go_wp2_with fail
                have hbd := (Below.refl wr.heap.size wr).drew
                have HM : Hid (MaSt w w.heap.size m (some ⟨b, off, none⟩) B c d _ ∧ TabP _) := ⟨HM.out.1.below hbd, HM.out.2.below hbd⟩
                have HR := Lib.hid (HR.out.below hbd)
                have HB := Lib.hid (HB.out.below hbd)
                have HX2 : Hid (b2 < wr.drew.heap.size ∧ wr.drew.cell? ⟨b2, off2 + k, none⟩ = some (.int .i64 gx)) := ⟨Nat.lt_of_lt_of_le HX2.out.1 hbd.size, ((bcell hbd).1 _ _ HX2.out.1).trans HX2.out.2⟩
                clear hbd c0 c1 a0 a3
                refine wp_region_held_drew (S := fun x => x.cell? ⟨w.heap.size, 0, none⟩ = some (.slice (some ⟨b, off, none⟩) m.1.length c) ∧ x.cell? ⟨w.heap.size, 1, none⟩ = some (.slice B m.2.length d) ∧ x.cell? ⟨bx, 0, none⟩ = some (.string (bA g.1)) ∧ x.cell? ⟨bx, 3, none⟩ = some (.slice (some ⟨b2, off2, none⟩) g.2.2.2.length c4) ∧ x.cell? ⟨b2, off2 + k, none⟩ = some (.int .i64 gx)) (by kernel_rfl) (⟨HM.out.1.bm.c20, HM.out.1.bm.c21, HB.out.bx.cell 0, HB.out.bx.cell 3, HX2.out.2⟩) (fun hH => ?_)
                refine take_run (i := 0) (v := ?_) (by decide) (by kernel_rfl) (by kernel_rfl) (by kernel_rfl) (fun _ _ _ _ h => h) hH rfl ?_ ?_
                rotate_left
                · (intro w hSw; (try dsimp only at hSw); (try go_split_ands); simp only [List.getElem_toArray, List.getElem_cons_zero, List.getElem_cons_succ]; go_simp; try with_reducible rfl)
                try simp (config := { failIfUnchanged := false }) only [Act.put, List.setIfInBounds_toArray, List.set_cons_zero, List.set_cons_succ, List.getElem_toArray, List.getElem_cons_zero, List.getElem_cons_succ]
                refine take_run (i := 1) (v := ?_) (by decide) (by kernel_rfl) (by kernel_rfl) (by kernel_rfl) (fun _ _ _ _ h => h) hH rfl ?_ ?_
                rotate_left
                · (intro w hSw; (try dsimp only at hSw); (try go_split_ands); simp only [List.getElem_toArray, List.getElem_cons_zero, List.getElem_cons_succ]; go_simp; try with_reducible rfl)
                try simp (config := { failIfUnchanged := false }) only [Act.put, List.setIfInBounds_toArray, List.set_cons_zero, List.set_cons_succ, List.getElem_toArray, List.getElem_cons_zero, List.getElem_cons_succ]
                refine take_run (i := 2) (v := ?_) (by decide) (by kernel_rfl) (by kernel_rfl) (by kernel_rfl) (fun _ _ _ _ h => h) hH rfl ?_ ?_
                rotate_left
                · (intro w hSw; (try dsimp only at hSw); (try go_split_ands); simp only [List.getElem_toArray, List.getElem_cons_zero, List.getElem_cons_succ]; go_simp; try with_reducible rfl)
                try simp (config := { failIfUnchanged := false }) only [Act.put, List.setIfInBounds_toArray, List.set_cons_zero, List.set_cons_succ, List.getElem_toArray, List.getElem_cons_zero, List.getElem_cons_succ]
                refine take_run (i := 3) (v := ?_) (by decide) (by kernel_rfl) (by kernel_rfl) (by kernel_rfl) (fun _ _ _ _ h => h) hH rfl ?_ ?_
                rotate_left
                · (intro w hSw; (try dsimp only at hSw); (try go_split_ands); simp only [List.getElem_toArray, List.getElem_cons_zero, List.getElem_cons_succ]; go_simp; try with_reducible rfl)
                try simp (config := { failIfUnchanged := false }) only [Act.put, List.setIfInBounds_toArray, List.set_cons_zero, List.set_cons_succ, List.getElem_toArray, List.getElem_cons_zero, List.getElem_cons_succ]
                refine take_run (i := 4) (v := ?_) (by decide) (by kernel_rfl) (by kernel_rfl) (by kernel_rfl) (fun _ _ _ _ h => h) hH rfl ?_ ?_
                rotate_left
                · (intro w hSw; (try dsimp only at hSw); (try go_split_ands); simp only [List.getElem_toArray, List.getElem_cons_zero, List.getElem_cons_succ]; go_simp; try with_reducible rfl)
                try simp (config := { failIfUnchanged := false }) only [Act.put, List.setIfInBounds_toArray, List.set_cons_zero, List.set_cons_succ, List.getElem_toArray, List.getElem_cons_zero, List.getElem_cons_succ]
                refine take_run (i := 5) (v := ?_) (by decide) (by kernel_rfl) (by kernel_rfl) (by kernel_rfl) (fun _ _ _ _ h => h) hH rfl ?_ ?_
                rotate_left
                · (intro w hSw; (try dsimp only at hSw); (try go_split_ands); simp only [List.getElem_toArray, List.getElem_cons_zero, List.getElem_cons_succ]; go_simp; try with_reducible rfl)
                try simp (config := { failIfUnchanged := false }) only [Act.put, List.setIfInBounds_toArray, List.set_cons_zero, List.set_cons_succ, List.getElem_toArray, List.getElem_cons_zero, List.getElem_cons_succ]
                refine take_run (i := 6) (v := ?_) (by decide) (by kernel_rfl) (by kernel_rfl) (by kernel_rfl) (fun _ _ _ _ h => h) hH rfl ?_ ?_
                rotate_left
                · (intro w hSw; (try dsimp only at hSw); (try go_split_ands); simp only [List.getElem_toArray, List.getElem_cons_zero, List.getElem_cons_succ]; go_simp; try with_reducible rfl)
                try simp (config := { failIfUnchanged := false }) only [Act.put, List.setIfInBounds_toArray, List.set_cons_zero, List.set_cons_succ, List.getElem_toArray, List.getElem_cons_zero, List.getElem_cons_succ]
                refine take_run (i := 7) (v := ?_) (by decide) (by kernel_rfl) (by kernel_rfl) (by kernel_rfl) (fun _ _ _ _ h => h) hH rfl ?_ ?_
                rotate_left
                · (intro w hSw; (try dsimp only at hSw); (try go_split_ands); simp only [List.getElem_toArray, List.getElem_cons_zero, List.getElem_cons_succ]; go_simp; try with_reducible rfl)
                try simp (config := { failIfUnchanged := false }) only [Act.put, List.setIfInBounds_toArray, List.set_cons_zero, List.set_cons_succ, List.getElem_toArray, List.getElem_cons_zero, List.getElem_cons_succ]
                refine take_call (i := 8) (by decide) (by kernel_rfl) (fun K hK => ?_)
                simp only [List.getElem_toArray, List.getElem_cons_zero, List.getElem_cons_succ]
                go_simp
                go_at_call 20
                refine (matRolled_any _ _ _ _ _ _ m g.1 gx _ HM.out.1.hg hl).mono ?_
                rintro e w6 ⟨rfl, hb6⟩
                rw [hr]
                have HM : Hid (MaSt w w.heap.size m (some ⟨b, off, none⟩) B c d _ ∧ TabP _) := ⟨HM.out.1.below hb6, HM.out.2.below hb6⟩
                have HR := Lib.hid (HR.out.below hb6)
                have HB := Lib.hid (HB.out.below hb6)
                have HX2 : Hid (b2 < w6.heap.size ∧ w6.cell? ⟨b2, off2 + k, none⟩ = some (.int .i64 gx)) := ⟨Nat.lt_of_lt_of_le HX2.out.1 hb6.size, ((bcell hb6).1 _ _ HX2.out.1).trans HX2.out.2⟩
                clear hb6
                dsimp only
                refine hK.out _ _ (by exact ⟨HM.out.1.bm.c20, HM.out.1.bm.c21, HB.out.bx.cell 0, HB.out.bx.cell 3, HX2.out.2⟩) (fun hH => ?_)
                clear hK K
                try simp (config := { failIfUnchanged := false }) only [Act.put, List.setIfInBounds_toArray, List.set_cons_zero, List.set_cons_succ, List.getElem_toArray, List.getElem_cons_zero, List.getElem_cons_succ]
                refine take_run (i := 9) (v := ?_) (by decide) (by kernel_rfl) (by kernel_rfl) (by kernel_rfl) (fun _ _ _ _ h => h) hH rfl ?_ ?_
                rotate_left
                · (intro w hSw; (try dsimp only at hSw); (try go_split_ands); simp only [List.getElem_toArray, List.getElem_cons_zero, List.getElem_cons_succ]; go_simp; try with_reducible rfl)
                try simp (config := { failIfUnchanged := false }) only [Act.put, List.setIfInBounds_toArray, List.set_cons_zero, List.set_cons_succ, List.getElem_toArray, List.getElem_cons_zero, List.getElem_cons_succ]
                refine wpAnyH_done (by kernel_rfl) ?_ _
                go_wp2
                go_roundw
                case rel => exact ⟨k + 1, by omega, by go_num, by rw [HX.out]; rfl, HM, HR, HB⟩
                case measure => simp [intOf]; omega
              · go_wp2_with fail
                have hbd := (Below.refl wr.heap.size wr).drew
                have HM : Hid (MaSt w w.heap.size m (some ⟨b, off, none⟩) B c d _ ∧ TabP _) := ⟨HM.out.1.below hbd, HM.out.2.below hbd⟩
                have HR := Lib.hid (HR.out.below hbd)
                have HB := Lib.hid (HB.out.below hbd)
                have HX2 : Hid (b2 < wr.drew.heap.size ∧ wr.drew.cell? ⟨b2, off2 + k, none⟩ = some (.int .i64 gx)) := ⟨Nat.lt_of_lt_of_le HX2.out.1 hbd.size, ((bcell hbd).1 _ _ HX2.out.1).trans HX2.out.2⟩
                clear hbd c0 c1 a0 a3
                refine wp_region_held_drew (S := fun x => x.cell? ⟨w.heap.size, 0, none⟩ = some (.slice (some ⟨b, off, none⟩) m.1.length c) ∧ x.cell? ⟨w.heap.size, 1, none⟩ = some (.slice B m.2.length d) ∧ x.cell? ⟨bx, 0, none⟩ = some (.string (bA g.1)) ∧ x.cell? ⟨bx, 3, none⟩ = some (.slice (some ⟨b2, off2, none⟩) g.2.2.2.length c4) ∧ x.cell? ⟨b2, off2 + k, none⟩ = some (.int .i64 gx)) (by kernel_rfl) (⟨HM.out.1.bm.c20, HM.out.1.bm.c21, HB.out.bx.cell 0, HB.out.bx.cell 3, HX2.out.2⟩) (fun hH => ?_)
                refine take_run (i := 0) (v := ?_) (by decide) (by kernel_rfl) (by kernel_rfl) (by kernel_rfl) (fun _ _ _ _ h => h) hH rfl ?_ ?_
                rotate_left
                · (intro w hSw; (try dsimp only at hSw); (try go_split_ands); simp only [List.getElem_toArray, List.getElem_cons_zero, List.getElem_cons_succ]; go_simp; try with_reducible rfl)
                try simp (config := { failIfUnchanged := false }) only [Act.put, List.setIfInBounds_toArray, List.set_cons_zero, List.set_cons_succ, List.getElem_toArray, List.getElem_cons_zero, List.getElem_cons_succ]
                refine take_run (i := 1) (v := ?_) (by decide) (by kernel_rfl) (by kernel_rfl) (by kernel_rfl) (fun _ _ _ _ h => h) hH rfl ?_ ?_
                rotate_left
                · (intro w hSw; (try dsimp only at hSw); (try go_split_ands); simp only [List.getElem_toArray, List.getElem_cons_zero, List.getElem_cons_succ]; go_simp; try with_reducible rfl)
                try simp (config := { failIfUnchanged := false }) only [Act.put, List.setIfInBounds_toArray, List.set_cons_zero, List.set_cons_succ, List.getElem_toArray, List.getElem_cons_zero, List.getElem_cons_succ]
                refine take_run (i := 2) (v := ?_) (by decide) (by kernel_rfl) (by kernel_rfl) (by kernel_rfl) (fun _ _ _ _ h => h) hH rfl ?_ ?_
                rotate_left
                · (intro w hSw; (try dsimp only at hSw); (try go_split_ands); simp only [List.getElem_toArray, List.getElem_cons_zero, List.getElem_cons_succ]; go_simp; try with_reducible rfl)
                try simp (config := { failIfUnchanged := false }) only [Act.put, List.setIfInBounds_toArray, List.set_cons_zero, List.set_cons_succ, List.getElem_toArray, List.getElem_cons_zero, List.getElem_cons_succ]
                refine take_run (i := 3) (v := ?_) (by decide) (by kernel_rfl) (by kernel_rfl) (by kernel_rfl) (fun _ _ _ _ h => h) hH rfl ?_ ?_
                rotate_left
                · (intro w hSw; (try dsimp only at hSw); (try go_split_ands); simp only [List.getElem_toArray, List.getElem_cons_zero, List.getElem_cons_succ]; go_simp; try with_reducible rfl)
                try simp (config := { failIfUnchanged := false }) only [Act.put, List.setIfInBounds_toArray, List.set_cons_zero, List.set_cons_succ, List.getElem_toArray, List.getElem_cons_zero, List.getElem_cons_succ]
                refine take_run (i := 4) (v := ?_) (by decide) (by kernel_rfl) (by kernel_rfl) (by kernel_rfl) (fun _ _ _ _ h => h) hH rfl ?_ ?_
                rotate_left
                · (intro w hSw; (try dsimp only at hSw); (try go_split_ands); simp only [List.getElem_toArray, List.getElem_cons_zero, List.getElem_cons_succ]; go_simp; try with_reducible rfl)
                try simp (config := { failIfUnchanged := false }) only [Act.put, List.setIfInBounds_toArray, List.set_cons_zero, List.set_cons_succ, List.getElem_toArray, List.getElem_cons_zero, List.getElem_cons_succ]
                refine take_run (i := 5) (v := ?_) (by decide) (by kernel_rfl) (by kernel_rfl) (by kernel_rfl) (fun _ _ _ _ h => h) hH rfl ?_ ?_
                rotate_left
                · (intro w hSw; (try dsimp only at hSw); (try go_split_ands); simp only [List.getElem_toArray, List.getElem_cons_zero, List.getElem_cons_succ]; go_simp; try with_reducible rfl)
                try simp (config := { failIfUnchanged := false }) only [Act.put, List.setIfInBounds_toArray, List.set_cons_zero, List.set_cons_succ, List.getElem_toArray, List.getElem_cons_zero, List.getElem_cons_succ]
                refine take_run (i := 6) (v := ?_) (by decide) (by kernel_rfl) (by kernel_rfl) (by kernel_rfl) (fun _ _ _ _ h => h) hH rfl ?_ ?_
                rotate_left
                · (intro w hSw; (try dsimp only at hSw); (try go_split_ands); simp only [List.getElem_toArray, List.getElem_cons_zero, List.getElem_cons_succ]; go_simp; try with_reducible rfl)
                try simp (config := { failIfUnchanged := false }) only [Act.put, List.setIfInBounds_toArray, List.set_cons_zero, List.set_cons_succ, List.getElem_toArray, List.getElem_cons_zero, List.getElem_cons_succ]
                refine take_run (i := 7) (v := ?_) (by decide) (by kernel_rfl) (by kernel_rfl) (by kernel_rfl) (fun _ _ _ _ h => h) hH rfl ?_ ?_
                rotate_left
                · (intro w hSw; (try dsimp only at hSw); (try go_split_ands); simp only [List.getElem_toArray, List.getElem_cons_zero, List.getElem_cons_succ]; go_simp; try with_reducible rfl)
                try simp (config := { failIfUnchanged := false }) only [Act.put, List.setIfInBounds_toArray, List.set_cons_zero, List.set_cons_succ, List.getElem_toArray, List.getElem_cons_zero, List.getElem_cons_succ]
                refine take_call (i := 8) (by decide) (by kernel_rfl) (fun K hK => ?_)
                simp only [List.getElem_toArray, List.getElem_cons_zero, List.getElem_cons_succ]
                go_simp
                go_at_call 20
                refine (matRolled_any _ _ _ _ _ _ m g.1 gx _ HM.out.1.hg hl).mono ?_
                rintro e w6 ⟨rfl, hb6⟩
                rw [hr]
                have HM : Hid (MaSt w w.heap.size m (some ⟨b, off, none⟩) B c d _ ∧ TabP _) := ⟨HM.out.1.below hb6, HM.out.2.below hb6⟩
                have HR := Lib.hid (HR.out.below hb6)
                have HB := Lib.hid (HB.out.below hb6)
                have HX2 : Hid (b2 < w6.heap.size ∧ w6.cell? ⟨b2, off2 + k, none⟩ = some (.int .i64 gx)) := ⟨Nat.lt_of_lt_of_le HX2.out.1 hb6.size, ((bcell hb6).1 _ _ HX2.out.1).trans HX2.out.2⟩
                clear hb6
                dsimp only
                refine hK.out _ _ (by exact ⟨HM.out.1.bm.c20, HM.out.1.bm.c21, HB.out.bx.cell 0, HB.out.bx.cell 3, HX2.out.2⟩) (fun hH => ?_)
                clear hK K
                try simp (config := { failIfUnchanged := false }) only [Act.put, List.setIfInBounds_toArray, List.set_cons_zero, List.set_cons_succ, List.getElem_toArray, List.getElem_cons_zero, List.getElem_cons_succ]
                refine take_run (i := 9) (v := ?_) (by decide) (by kernel_rfl) (by kernel_rfl) (by kernel_rfl) (fun _ _ _ _ h => h) hH rfl ?_ ?_
                rotate_left
                · (intro w hSw; (try dsimp only at hSw); (try go_split_ands); simp only [List.getElem_toArray, List.getElem_cons_zero, List.getElem_cons_succ]; go_simp; try with_reducible rfl)
                try simp (config := { failIfUnchanged := false }) only [Act.put, List.setIfInBounds_toArray, List.set_cons_zero, List.set_cons_succ, List.getElem_toArray, List.getElem_cons_zero, List.getElem_cons_succ]
                refine wpAnyH_done (by kernel_rfl) ?_ _
                go_wp2
                go_roundw
                case rel => exact ⟨k + 1, by omega, by go_num, by rw [HX.out]; rfl, HM, HR, HB⟩
                case measure => simp [intOf]; omega
            · have hkg' : ¬ (k : Int) < (g.2.2.2.length : Int) := by omega
              have hr : rolledF m g.1 t = g.2.2.2.contains t := rolled_own hck HG.out t
              rw [List.take_of_length_le hkg]
              generalize g.2.2.2.contains t = hs at hr ⊢
              go_wp2_with fail
              refine (matRolled_any _ _ _ _ _ _ m g.1 t _ HM.out.1.hg hl).mono ?_
              rintro e w7 ⟨rfl, hb7⟩
              rw [hr]
              have HM : Hid (MaSt w w.heap.size m (some ⟨b, off, none⟩) B c d w7 ∧ TabP w7) := ⟨HM.out.1.below hb7, HM.out.2.below hb7⟩
              cases hs
              all_goals
                go_wp2
                go_roundw
                case rel => exact ⟨i + 1, by omega, by go_num, HM⟩
                case measure => simp [intOf]; omega
      · have hge' : ¬ (i : Int) < (m.1.length : Int) := by omega
        go_wp2_with fail
        go_loopw [10] (fun iv wx => ∃ i : Nat, i ≤ m.2.length ∧ iv = .int .i64 i ∧ Hid (MaSt w w.heap.size m A B c d wx ∧ TabP wx)) (fun iv _ => m.2.length - (intOf iv).toNat)
        case atStart => exact ⟨0, Nat.zero_le _, rfl, HM.out⟩
        case round =>
          clear HM c0 c1 hge hge' hi
          obtain ⟨i, hi, rfl, HM⟩ := hrel
          have c0 := HM.out.1.bm.c20
          have c1 := HM.out.1.bm.c21
          rcases Nat.lt_or_ge i m.2.length with hlt | hge
          · have hlt' : (i : Int) < (m.2.length : Int) := by omega
            obtain ⟨b, off, s, eB, hs, hrow⟩ := rowS_at HM.out.1.hs hlt
            subst eB
            have HR := Lib.hid hrow
            have HG := Lib.hid hs
            have p0 := hrow.p0
            have q1 := sc_neq
            clear hs hrow
            go_upto_region 21 with fail
            have dd1 : decide ((i : Int) < (m.2.length : Int)) = true := decide_eq_true hlt'
            have dd2 : decide ((0 : Int) ≤ (i : Int)) = true := decide_eq_true (by omega)
            have hbd := (Below.refl wr.heap.size wr).drew
            have HM : Hid (MaSt w w.heap.size m A (some ⟨b, off, none⟩) c d wr.drew ∧ TabP wr.drew) := ⟨HM.out.1.below hbd, HM.out.2.below hbd⟩
            have HR := Lib.hid (HR.out.below hbd)
            clear hbd c0 c1 p0
            refine wp_region_held_drew (S := fun x => x.cell? ⟨w.heap.size, 0, none⟩ = some (.slice A m.1.length c) ∧ x.cell? ⟨w.heap.size, 1, none⟩ = some (.slice (some ⟨b, off, none⟩) m.2.length d) ∧ x.cell? ⟨b, off + i * 4, none⟩ = some (.string (bA s.1))) (by kernel_rfl) (⟨HM.out.1.bm.c20, HM.out.1.bm.c21, HR.out.p0⟩) (fun hH => ?_)
            refine take_run (i := 0) (v := ?_) (by decide) (by kernel_rfl) (by kernel_rfl) (by kernel_rfl) (fun _ _ _ _ h => h) hH rfl ?_ ?_
            rotate_left
            · (intro w hSw; (try dsimp only at hSw); (try go_split_ands); simp only [List.getElem_toArray, List.getElem_cons_zero, List.getElem_cons_succ]; go_simp; try with_reducible rfl)
            try simp (config := { failIfUnchanged := false }) only [Act.put, List.setIfInBounds_toArray, List.set_cons_zero, List.set_cons_succ, List.getElem_toArray, List.getElem_cons_zero, List.getElem_cons_succ]
            refine take_run (i := 1) (v := ?_) (by decide) (by kernel_rfl) (by kernel_rfl) (by kernel_rfl) (fun _ _ _ _ h => h) hH rfl ?_ ?_
            rotate_left
            · (intro w hSw; (try dsimp only at hSw); (try go_split_ands); simp only [List.getElem_toArray, List.getElem_cons_zero, List.getElem_cons_succ]; go_simp; try with_reducible rfl)
            try simp (config := { failIfUnchanged := false }) only [Act.put, List.setIfInBounds_toArray, List.set_cons_zero, List.set_cons_succ, List.getElem_toArray, List.getElem_cons_zero, List.getElem_cons_succ]
            refine take_run (i := 2) (v := ?_) (by decide) (by kernel_rfl) (by kernel_rfl) (by kernel_rfl) (fun _ _ _ _ h => h) hH rfl ?_ ?_
            rotate_left
            · (intro w hSw; (try dsimp only at hSw); (try go_split_ands); simp only [List.getElem_toArray, List.getElem_cons_zero, List.getElem_cons_succ]; go_simp; try with_reducible rfl)
            try simp (config := { failIfUnchanged := false }) only [Act.put, List.setIfInBounds_toArray, List.set_cons_zero, List.set_cons_succ, List.getElem_toArray, List.getElem_cons_zero, List.getElem_cons_succ]
            refine take_run (i := 3) (v := ?_) (by decide) (by kernel_rfl) (by kernel_rfl) (by kernel_rfl) (fun _ _ _ _ h => h) hH rfl ?_ ?_
            rotate_left
            · (intro w hSw; (try dsimp only at hSw); (try go_split_ands); simp only [List.getElem_toArray, List.getElem_cons_zero, List.getElem_cons_succ]; go_simp; try with_reducible rfl)
            try simp (config := { failIfUnchanged := false }) only [Act.put, List.setIfInBounds_toArray, List.set_cons_zero, List.set_cons_succ, List.getElem_toArray, List.getElem_cons_zero, List.getElem_cons_succ]
            refine take_run (i := 4) (v := ?_) (by decide) (by kernel_rfl) (by kernel_rfl) (by kernel_rfl) (fun _ _ _ _ h => h) hH rfl ?_ ?_
            rotate_left
            · (intro w hSw; (try dsimp only at hSw); (try go_split_ands); simp only [List.getElem_toArray, List.getElem_cons_zero, List.getElem_cons_succ]; go_simp; try with_reducible rfl)
            try simp (config := { failIfUnchanged := false }) only [Act.put, List.setIfInBounds_toArray, List.set_cons_zero, List.set_cons_succ, List.getElem_toArray, List.getElem_cons_zero, List.getElem_cons_succ]
            refine take_run (i := 5) (v := ?_) (by decide) (by kernel_rfl) (by kernel_rfl) (by kernel_rfl) (fun _ _ _ _ h => h) hH rfl ?_ ?_
            rotate_left
            · (intro w hSw; (try dsimp only at hSw); (try go_split_ands); simp only [List.getElem_toArray, List.getElem_cons_zero, List.getElem_cons_succ]; go_simp; try with_reducible rfl)
            try simp (config := { failIfUnchanged := false }) only [Act.put, List.setIfInBounds_toArray, List.set_cons_zero, List.set_cons_succ, List.getElem_toArray, List.getElem_cons_zero, List.getElem_cons_succ]
            refine take_run (i := 6) (v := ?_) (by decide) (by kernel_rfl) (by kernel_rfl) (by kernel_rfl) (fun _ _ _ _ h => h) hH rfl ?_ ?_
            rotate_left
            · (intro w hSw; (try dsimp only at hSw); (try go_split_ands); simp only [List.getElem_toArray, List.getElem_cons_zero, List.getElem_cons_succ]; go_simp; try with_reducible rfl)
            try simp (config := { failIfUnchanged := false }) only [Act.put, List.setIfInBounds_toArray, List.set_cons_zero, List.set_cons_succ, List.getElem_toArray, List.getElem_cons_zero, List.getElem_cons_succ]
            refine take_two (i := 7) (j := 11) (by decide) (by decide) (by kernel_rfl) (fun K hK => ?_) (fun K hK => ?_)
            focus
              simp only [List.getElem_toArray, List.getElem_cons_zero, List.getElem_cons_succ]
              go_simp
              go_at_call 17
              refine (matSectionOf_any _ _ _ _ _ _ m s.1 _ HM.out.1.hs).mono ?_
              rintro e w4 ⟨rfl, hb4⟩
              rw [scF_own hck HG.out]
              rw [show scC s = #[.string (bA s.1), .int .i64 s.2.1, .int .i64 s.2.2.1, .int .i64 s.2.2.2] from rfl]
              have HM : Hid (MaSt w w.heap.size m A (some ⟨b, off, none⟩) c d w4 ∧ TabP w4) := ⟨HM.out.1.below hb4, HM.out.2.below hb4⟩
              have HR := Lib.hid (HR.out.below hb4)
              have HB4 := Lib.hid hb4
              clear hb4
              dsimp only
              refine hK.out _ _ (by exact ⟨HM.out.1.bm.c20, HM.out.1.bm.c21, HR.out.p0⟩) (fun hH => ?_)
              clear hK K
              try simp (config := { failIfUnchanged := false }) only [Act.put, List.setIfInBounds_toArray, List.set_cons_zero, List.set_cons_succ, List.getElem_toArray, List.getElem_cons_zero, List.getElem_cons_succ]
              refine take_run (i := 8) (v := ?_) (by decide) (by kernel_rfl) (by kernel_rfl) (by kernel_rfl) (fun _ _ _ _ h => h) hH rfl ?_ ?_
              rotate_left
              · (intro w hSw; (try dsimp only at hSw); (try go_split_ands); simp only [List.getElem_toArray, List.getElem_cons_zero, List.getElem_cons_succ]; go_simp; try with_reducible rfl)
              try simp (config := { failIfUnchanged := false }) only [Act.put, List.setIfInBounds_toArray, List.set_cons_zero, List.set_cons_succ, List.getElem_toArray, List.getElem_cons_zero, List.getElem_cons_succ]
              refine take_run (i := 9) (v := ?_) (by decide) (by kernel_rfl) (by kernel_rfl) (by kernel_rfl) (fun _ _ _ _ h => h) hH rfl ?_ ?_
              rotate_left
              · (intro w hSw; (try dsimp only at hSw); (try go_split_ands); simp only [List.getElem_toArray, List.getElem_cons_zero, List.getElem_cons_succ]; go_simp; try with_reducible rfl)
              try simp (config := { failIfUnchanged := false }) only [Act.put, List.setIfInBounds_toArray, List.set_cons_zero, List.set_cons_succ, List.getElem_toArray, List.getElem_cons_zero, List.getElem_cons_succ]
              refine take_run (i := 10) (v := ?_) (by decide) (by kernel_rfl) (by kernel_rfl) (by kernel_rfl) (fun _ _ _ _ h => h) hH rfl ?_ ?_
              rotate_left
              · (intro w hSw; (try dsimp only at hSw); (try go_split_ands); simp only [List.getElem_toArray, List.getElem_cons_zero, List.getElem_cons_succ]; go_simp; try with_reducible rfl)
              try simp (config := { failIfUnchanged := false }) only [Act.put, List.setIfInBounds_toArray, List.set_cons_zero, List.set_cons_succ, List.getElem_toArray, List.getElem_cons_zero, List.getElem_cons_succ]
              refine take_call (i := 11) (by decide) (by kernel_rfl) (fun K hK => ?_)
              simp only [List.getElem_toArray, List.getElem_cons_zero, List.getElem_cons_succ]
              have HM4 := HM
              have HR4 := HR
              go_simp
              have hba := (Below.refl w4.heap.size w4).alloc (Nat.le_refl _) (.cells #[.string ⟨#[]⟩, .int .i64 0, .int .i64 0, .int .i64 0] 36)
              have HM : Hid (MaSt w w.heap.size m A (some ⟨b, off, none⟩) c d (w4.alloc (.cells #[.string ⟨#[]⟩, .int .i64 0, .int .i64 0, .int .i64 0] 36)) ∧ TabP (w4.alloc (.cells #[.string ⟨#[]⟩, .int .i64 0, .int .i64 0, .int .i64 0] 36))) := ⟨HM.out.1.below hba, HM.out.2.below hba⟩
              have HR := Lib.hid (HR.out.below hba)
              have hbk := Lib.hid (Blk.new w4 36 #[.string ⟨#[]⟩, .int .i64 0, .int .i64 0, .int .i64 0])
              have k0 := hbk.out.free 0
              have k1 := hbk.out.free 1
              have k2 := hbk.out.free 2
              have k3 := hbk.out.free 3
              have l0 := hbk.out.cell 0
              have l1 := hbk.out.cell 1
              have l2 := hbk.out.cell 2
              have l3 := hbk.out.cell 3
              clear hba
              refine hK.out _ _ (by exact ⟨HM.out.1.bm.c20, HM.out.1.bm.c21, HR.out.p0⟩) (fun hH => ?_)
              clear hK K
              try simp (config := { failIfUnchanged := false }) only [Act.put, List.setIfInBounds_toArray, List.set_cons_zero, List.set_cons_succ, List.getElem_toArray, List.getElem_cons_zero, List.getElem_cons_succ]
              refine take_call (i := 12) (by decide) (by kernel_rfl) (fun K hK => ?_)
              simp only [List.getElem_toArray, List.getElem_cons_zero, List.getElem_cons_succ]
              go_simp
              have hbs := (Below.refl w4.heap.size w4).alloc (Nat.le_refl _) (.cells #[.string (bA s.1), .int .i64 s.2.1, .int .i64 s.2.2.1, .int .i64 s.2.2.2] 36)
              have hbx2 := Blk.new w4 36 #[.string (bA s.1), .int .i64 s.2.1, .int .i64 s.2.2.1, .int .i64 s.2.2.2]
              have hmx : MaSt w w.heap.size m A (some ⟨b, off, none⟩) c d _ ∧ TabP _ := ⟨HM4.out.1.below hbs, HM4.out.2.below hbs⟩
              have hrx := HR4.out.below hbs
              clear HM HR HM4 HR4 hbk k0 k1 k2 k3 l0 l1 l2 l3 hbs HB4
              generalize w4.alloc (.cells #[.string (bA s.1), .int .i64 s.2.1, .int .i64 s.2.2.1, .int .i64 s.2.2.2] 36) = WS at *
              generalize w4.heap.size = bx at *
              have HB : Hid (Blk WS bx 36 #[.string (bA s.1), .int .i64 s.2.1, .int .i64 s.2.2.1, .int .i64 s.2.2.2]) := hbx2
              have HM : Hid (MaSt w w.heap.size m A (some ⟨b, off, none⟩) c d WS ∧ TabP WS) := hmx
              have HR : Hid (RowS b (off + i * 4) s WS) := hrx
              refine hK.out _ _ (by exact ⟨HM.out.1.bm.c20, HM.out.1.bm.c21, HR.out.p0⟩) (fun hH => ?_)
              clear hK K
              try simp (config := { failIfUnchanged := false }) only [Act.put, List.setIfInBounds_toArray, List.set_cons_zero, List.set_cons_succ, List.getElem_toArray, List.getElem_cons_zero, List.getElem_cons_succ]
              refine take_run (i := 13) (v := ?_) (by decide) (by kernel_rfl) (by kernel_rfl) (by kernel_rfl) (fun _ _ _ _ h => h) hH rfl ?_ ?_
              rotate_left
              · (intro w hSw; (try dsimp only at hSw); (try go_split_ands); simp only [List.getElem_toArray, List.getElem_cons_zero, List.getElem_cons_succ]; go_simp; try with_reducible rfl)
              try simp (config := { failIfUnchanged := false }) only [Act.put, List.setIfInBounds_toArray, List.set_cons_zero, List.set_cons_succ, List.getElem_toArray, List.getElem_cons_zero, List.getElem_cons_succ]
              refine wpAnyH_done (by kernel_rfl) ?_ _
              clear hbx2 hmx hrx
            rotate_left 1
            focus
              simp only [List.getElem_toArray, List.getElem_cons_zero, List.getElem_cons_succ]
              go_simp
              have hba := (Below.refl wr.drew.heap.size wr.drew).alloc (Nat.le_refl _) (.cells #[.string ⟨#[]⟩, .int .i64 0, .int .i64 0, .int .i64 0] 36)
              have HMW := HM
              have HRW := HR
              have HM : Hid (MaSt w w.heap.size m A (some ⟨b, off, none⟩) c d (wr.drew.alloc (.cells #[.string ⟨#[]⟩, .int .i64 0, .int .i64 0, .int .i64 0] 36)) ∧ TabP (wr.drew.alloc (.cells #[.string ⟨#[]⟩, .int .i64 0, .int .i64 0, .int .i64 0] 36))) := ⟨HM.out.1.below hba, HM.out.2.below hba⟩
              have HR := Lib.hid (HR.out.below hba)
              have HBK := Lib.hid (Blk.new wr.drew 36 #[.string ⟨#[]⟩, .int .i64 0, .int .i64 0, .int .i64 0])
              clear hba
              refine hK.out _ _ (by exact ⟨HM.out.1.bm.c20, HM.out.1.bm.c21, HR.out.p0⟩) (fun hH => ?_)
              clear hK K
              try simp (config := { failIfUnchanged := false }) only [Act.put, List.setIfInBounds_toArray, List.set_cons_zero, List.set_cons_succ, List.getElem_toArray, List.getElem_cons_zero, List.getElem_cons_succ]
              refine take_call (i := 7) (by decide) (by kernel_rfl) (fun K hK => ?_)
              simp only [List.getElem_toArray, List.getElem_cons_zero, List.getElem_cons_succ]
              go_simp
              go_at_call 17
              refine (matSectionOf_any _ _ _ _ _ _ m s.1 _ HM.out.1.hs).mono ?_
              rintro e w4 ⟨rfl, hb4⟩
              rw [scF_own hck HG.out]
              rw [show scC s = #[.string (bA s.1), .int .i64 s.2.1, .int .i64 s.2.2.1, .int .i64 s.2.2.2] from rfl]
              have HM : Hid (MaSt w w.heap.size m A (some ⟨b, off, none⟩) c d w4 ∧ TabP w4) := ⟨HM.out.1.below hb4, HM.out.2.below hb4⟩
              have HR := Lib.hid (HR.out.below hb4)
              have HB4 := Lib.hid hb4
              clear hb4
              dsimp only
              have hbk := Lib.hid (HBK.out.below HB4.out HBK.out.lt)
              have k0 : w4.frozen? ⟨wr.heap.size, 0, none⟩ = false := hbk.out.free 0
              have k1 : w4.frozen? ⟨wr.heap.size, 1, none⟩ = false := hbk.out.free 1
              have k2 : w4.frozen? ⟨wr.heap.size, 2, none⟩ = false := hbk.out.free 2
              have k3 : w4.frozen? ⟨wr.heap.size, 3, none⟩ = false := hbk.out.free 3
              have l0 : w4.cell? ⟨wr.heap.size, 0, none⟩ = some (.string ⟨#[]⟩) := hbk.out.cell 0
              have l1 : w4.cell? ⟨wr.heap.size, 1, none⟩ = some (.int .i64 0) := hbk.out.cell 1
              have l2 : w4.cell? ⟨wr.heap.size, 2, none⟩ = some (.int .i64 0) := hbk.out.cell 2
              have l3 : w4.cell? ⟨wr.heap.size, 3, none⟩ = some (.int .i64 0) := hbk.out.cell 3
              refine hK.out _ _ (by exact ⟨HM.out.1.bm.c20, HM.out.1.bm.c21, HR.out.p0⟩) (fun hH => ?_)
              clear hK K
              try simp (config := { failIfUnchanged := false }) only [Act.put, List.setIfInBounds_toArray, List.set_cons_zero, List.set_cons_succ, List.getElem_toArray, List.getElem_cons_zero, List.getElem_cons_succ]
              refine take_run (i := 8) (v := ?_) (by decide) (by kernel_rfl) (by kernel_rfl) (by kernel_rfl) (fun _ _ _ _ h => h) hH rfl ?_ ?_
              rotate_left
              · (intro w hSw; (try dsimp only at hSw); (try go_split_ands); simp only [List.getElem_toArray, List.getElem_cons_zero, List.getElem_cons_succ]; go_simp; try with_reducible rfl)
              try simp (config := { failIfUnchanged := false }) only [Act.put, List.setIfInBounds_toArray, List.set_cons_zero, List.set_cons_succ, List.getElem_toArray, List.getElem_cons_zero, List.getElem_cons_succ]
              refine take_run (i := 9) (v := ?_) (by decide) (by kernel_rfl) (by kernel_rfl) (by kernel_rfl) (fun _ _ _ _ h => h) hH rfl ?_ ?_
              rotate_left
              · (intro w hSw; (try dsimp only at hSw); (try go_split_ands); simp only [List.getElem_toArray, List.getElem_cons_zero, List.getElem_cons_succ]; go_simp; try with_reducible rfl)
              try simp (config := { failIfUnchanged := false }) only [Act.put, List.setIfInBounds_toArray, List.set_cons_zero, List.set_cons_succ, List.getElem_toArray, List.getElem_cons_zero, List.getElem_cons_succ]
              refine take_run (i := 10) (v := ?_) (by decide) (by kernel_rfl) (by kernel_rfl) (by kernel_rfl) (fun _ _ _ _ h => h) hH rfl ?_ ?_
              rotate_left
              · (intro w hSw; (try dsimp only at hSw); (try go_split_ands); simp only [List.getElem_toArray, List.getElem_cons_zero, List.getElem_cons_succ]; go_simp; try with_reducible rfl)
              try simp (config := { failIfUnchanged := false }) only [Act.put, List.setIfInBounds_toArray, List.set_cons_zero, List.set_cons_succ, List.getElem_toArray, List.getElem_cons_zero, List.getElem_cons_succ]
              refine take_call (i := 12) (by decide) (by kernel_rfl) (fun K hK => ?_)
              simp only [List.getElem_toArray, List.getElem_cons_zero, List.getElem_cons_succ]
              go_simp
              have hsa : (wr.drew.alloc (.cells #[.string ⟨#[]⟩, .int .i64 0, .int .i64 0, .int .i64 0] 36)).heap.size = wr.heap.size + 1 := by simp
              have hb5 : Below wr.heap.size wr.drew ((((w4.setCell ⟨wr.heap.size, 0, none⟩ (.string (bA s.1))).setCell ⟨wr.heap.size, 1, none⟩ (.int .i64 s.2.1)).setCell ⟨wr.heap.size, 2, none⟩ (.int .i64 s.2.2.1)).setCell ⟨wr.heap.size, 3, none⟩ (.int .i64 s.2.2.2)) := four_below (((Below.refl wr.heap.size wr.drew).alloc (Nat.le_refl _) (.cells #[.string ⟨#[]⟩, .int .i64 0, .int .i64 0, .int .i64 0] 36)).trans (HB4.out.mono (by omega))) (Nat.le_refl _)
              have hbx2 : Blk ((((w4.setCell ⟨wr.heap.size, 0, none⟩ (.string (bA s.1))).setCell ⟨wr.heap.size, 1, none⟩ (.int .i64 s.2.1)).setCell ⟨wr.heap.size, 2, none⟩ (.int .i64 s.2.2.1)).setCell ⟨wr.heap.size, 3, none⟩ (.int .i64 s.2.2.2)) wr.heap.size 36 #[.string (bA s.1), .int .i64 s.2.1, .int .i64 s.2.2.1, .int .i64 s.2.2.2] := four_set hbk.out
              have hmx : MaSt w w.heap.size m A (some ⟨b, off, none⟩) c d _ ∧ TabP _ := ⟨HMW.out.1.below hb5, HMW.out.2.below hb5⟩
              have hrx := HRW.out.below hb5
              clear HM HR HMW HRW hbk k0 k1 k2 k3 l0 l1 l2 l3 hb5 HB4 HBK hsa
              generalize ((((w4.setCell ⟨wr.heap.size, 0, none⟩ (.string (bA s.1))).setCell ⟨wr.heap.size, 1, none⟩ (.int .i64 s.2.1)).setCell ⟨wr.heap.size, 2, none⟩ (.int .i64 s.2.2.1)).setCell ⟨wr.heap.size, 3, none⟩ (.int .i64 s.2.2.2)) = WS at *
              generalize wr.heap.size = bx at *
              have HB : Hid (Blk WS bx 36 #[.string (bA s.1), .int .i64 s.2.1, .int .i64 s.2.2.1, .int .i64 s.2.2.2]) := hbx2
              have HM : Hid (MaSt w w.heap.size m A (some ⟨b, off, none⟩) c d WS ∧ TabP WS) := hmx
              have HR : Hid (RowS b (off + i * 4) s WS) := hrx
              refine hK.out _ _ (by exact ⟨HM.out.1.bm.c20, HM.out.1.bm.c21, HR.out.p0⟩) (fun hH => ?_)
              clear hK K
              try simp (config := { failIfUnchanged := false }) only [Act.put, List.setIfInBounds_toArray, List.set_cons_zero, List.set_cons_succ, List.getElem_toArray, List.getElem_cons_zero, List.getElem_cons_succ]
              refine take_run (i := 13) (v := ?_) (by decide) (by kernel_rfl) (by kernel_rfl) (by kernel_rfl) (fun _ _ _ _ h => h) hH rfl ?_ ?_
              rotate_left
              · (intro w hSw; (try dsimp only at hSw); (try go_split_ands); simp only [List.getElem_toArray, List.getElem_cons_zero, List.getElem_cons_succ]; go_simp; try with_reducible rfl)
              try simp (config := { failIfUnchanged := false }) only [Act.put, List.setIfInBounds_toArray, List.set_cons_zero, List.set_cons_succ, List.getElem_toArray, List.getElem_cons_zero, List.getElem_cons_succ]
              refine wpAnyH_done (by kernel_rfl) ?_ _
              clear hbx2 hmx hrx
            all_goals
              have c0 := HM.out.1.bm.c20
              have c1 := HM.out.1.bm.c21
              have a0 : WS.cell? ⟨bx, 0, none⟩ = some (.string (bA s.1)) := HB.out.cell 0
              have a1 : WS.cell? ⟨bx, 1, none⟩ = some (.int .i64 s.2.1) := HB.out.cell 1
              have a2 : WS.cell? ⟨bx, 2, none⟩ = some (.int .i64 s.2.2.1) := HB.out.cell 2
              have a3 : WS.cell? ⟨bx, 3, none⟩ = some (.int .i64 s.2.2.2) := HB.out.cell 3
              have p0 := HR.out.p0
              have p1 := HR.out.p1
              have p2 := HR.out.p2
              have p3 := HR.out.p3
              go_upto_region 22 with fail
              have hbd := (Below.refl WS.heap.size WS).drew
              have HM : Hid (MaSt w w.heap.size m A (some ⟨b, off, none⟩) c d WS.drew ∧ TabP WS.drew) := ⟨HM.out.1.below hbd, HM.out.2.below hbd⟩
              have HR := Lib.hid (HR.out.below hbd)
              have HB := Lib.hid (HB.out.below hbd HB.out.lt)
              clear hbd c0 c1 a0 a1 a2 a3 p0 p1 p2 p3
              refine wp_region_held_drew (S := fun x => x.cell? ⟨w.heap.size, 1, none⟩ = some (.slice (some ⟨b, off, none⟩) m.2.length d) ∧ x.cell? ⟨bx, 0, none⟩ = some (.string (bA s.1)) ∧ x.cell? ⟨bx, 1, none⟩ = some (.int .i64 s.2.1) ∧ x.cell? ⟨bx, 2, none⟩ = some (.int .i64 s.2.2.1) ∧ x.cell? ⟨bx, 3, none⟩ = some (.int .i64 s.2.2.2) ∧ x.cell? ⟨b, off + i * 4, none⟩ = some (.string (bA s.1)) ∧ x.cell? ⟨b, off + i * 4 + 1, none⟩ = some (.int .i64 s.2.1) ∧ x.cell? ⟨b, off + i * 4 + 2, none⟩ = some (.int .i64 s.2.2.1) ∧ x.cell? ⟨b, off + i * 4 + 3, none⟩ = some (.int .i64 s.2.2.2)) (by kernel_rfl) (⟨HM.out.1.bm.c21, HB.out.cell 0, HB.out.cell 1, HB.out.cell 2, HB.out.cell 3, HR.out.p0, HR.out.p1, HR.out.p2, HR.out.p3⟩) (fun hH => ?_)
              refine take_run (i := 0) (v := ?_) (by decide) (by kernel_rfl) (by kernel_rfl) (by kernel_rfl) (fun _ _ _ _ h => h) hH rfl ?_ ?_
              rotate_left
              · (intro w hSw; (try dsimp only at hSw); (try go_split_ands); simp only [List.getElem_toArray, List.getElem_cons_zero, List.getElem_cons_succ]; go_simp; try with_reducible rfl)
              try simp (config := { failIfUnchanged := false }) only [Act.put, List.setIfInBounds_toArray, List.set_cons_zero, List.set_cons_succ, List.getElem_toArray, List.getElem_cons_zero, List.getElem_cons_succ]
              refine take_run (i := 1) (v := ?_) (by decide) (by kernel_rfl) (by kernel_rfl) (by kernel_rfl) (fun _ _ _ _ h => h) hH rfl ?_ ?_
              rotate_left
              · (intro w hSw; (try dsimp only at hSw); (try go_split_ands); simp only [List.getElem_toArray, List.getElem_cons_zero, List.getElem_cons_succ]; go_simp; try with_reducible rfl)
              try simp (config := { failIfUnchanged := false }) only [Act.put, List.setIfInBounds_toArray, List.set_cons_zero, List.set_cons_succ, List.getElem_toArray, List.getElem_cons_zero, List.getElem_cons_succ]
              refine take_run (i := 2) (v := ?_) (by decide) (by kernel_rfl) (by kernel_rfl) (by kernel_rfl) (fun _ _ _ _ h => h) hH rfl ?_ ?_
              rotate_left
              · (intro w hSw; (try dsimp only at hSw); (try go_split_ands); simp only [List.getElem_toArray, List.getElem_cons_zero, List.getElem_cons_succ]; go_simp; try with_reducible rfl)
              try simp (config := { failIfUnchanged := false }) only [Act.put, List.setIfInBounds_toArray, List.set_cons_zero, List.set_cons_succ, List.getElem_toArray, List.getElem_cons_zero, List.getElem_cons_succ]
              refine take_run (i := 3) (v := ?_) (by decide) (by kernel_rfl) (by kernel_rfl) (by kernel_rfl) (fun _ _ _ _ h => h) hH rfl ?_ ?_
              rotate_left
              · (intro w hSw; (try dsimp only at hSw); (try go_split_ands); simp only [List.getElem_toArray, List.getElem_cons_zero, List.getElem_cons_succ]; go_simp; try with_reducible rfl)
              try simp (config := { failIfUnchanged := false }) only [Act.put, List.setIfInBounds_toArray, List.set_cons_zero, List.set_cons_succ, List.getElem_toArray, List.getElem_cons_zero, List.getElem_cons_succ]
              refine take_run (i := 4) (v := ?_) (by decide) (by kernel_rfl) (by kernel_rfl) (by kernel_rfl) (fun _ _ _ _ h => h) hH rfl ?_ ?_
              rotate_left
              · (intro w hSw; (try dsimp only at hSw); (try go_split_ands); simp only [List.getElem_toArray, List.getElem_cons_zero, List.getElem_cons_succ]; go_simp; try with_reducible rfl)
              try simp (config := { failIfUnchanged := false }) only [Act.put, List.setIfInBounds_toArray, List.set_cons_zero, List.set_cons_succ, List.getElem_toArray, List.getElem_cons_zero, List.getElem_cons_succ]
              refine take_run (i := 5) (v := ?_) (by decide) (by kernel_rfl) (by kernel_rfl) (by kernel_rfl) (fun _ _ _ _ h => h) hH rfl ?_ ?_
              rotate_left
              · (intro w hSw; (try dsimp only at hSw); (try go_split_ands); simp only [List.getElem_toArray, List.getElem_cons_zero, List.getElem_cons_succ]; go_simp; try with_reducible rfl)
              try simp (config := { failIfUnchanged := false }) only [Act.put, List.setIfInBounds_toArray, List.set_cons_zero, List.set_cons_succ, List.getElem_toArray, List.getElem_cons_zero, List.getElem_cons_succ]
              refine take_run (i := 6) (v := ?_) (by decide) (by kernel_rfl) (by kernel_rfl) (by kernel_rfl) (fun _ _ _ _ h => h) hH rfl ?_ ?_
              rotate_left
              · (intro w hSw; (try dsimp only at hSw); (try go_split_ands); simp only [List.getElem_toArray, List.getElem_cons_zero, List.getElem_cons_succ]; go_simp; try with_reducible rfl)
              try simp (config := { failIfUnchanged := false }) only [Act.put, List.setIfInBounds_toArray, List.set_cons_zero, List.set_cons_succ, List.getElem_toArray, List.getElem_cons_zero, List.getElem_cons_succ]
              refine take_run (i := 7) (v := ?_) (by decide) (by kernel_rfl) (by kernel_rfl) (by kernel_rfl) (fun _ _ _ _ h => h) hH rfl ?_ ?_
              rotate_left
              · (intro w hSw; (try dsimp only at hSw); (try go_split_ands); simp only [List.getElem_toArray, List.getElem_cons_zero, List.getElem_cons_succ]; go_simp; try with_reducible rfl)
              try simp (config := { failIfUnchanged := false }) only [Act.put, List.setIfInBounds_toArray, List.set_cons_zero, List.set_cons_succ, List.getElem_toArray, List.getElem_cons_zero, List.getElem_cons_succ]
              refine take_run (i := 8) (v := ?_) (by decide) (by kernel_rfl) (by kernel_rfl) (by kernel_rfl) (fun _ _ _ _ h => h) hH rfl ?_ ?_
              rotate_left
              · (intro w hSw; (try dsimp only at hSw); (try go_split_ands); simp only [List.getElem_toArray, List.getElem_cons_zero, List.getElem_cons_succ]; go_simp; try with_reducible rfl)
              try simp (config := { failIfUnchanged := false }) only [Act.put, List.setIfInBounds_toArray, List.set_cons_zero, List.set_cons_succ, List.getElem_toArray, List.getElem_cons_zero, List.getElem_cons_succ]
              refine take_run (i := 9) (v := ?_) (by decide) (by kernel_rfl) (by kernel_rfl) (by kernel_rfl) (fun _ _ _ _ h => h) hH rfl ?_ ?_
              rotate_left
              · (intro w hSw; (try dsimp only at hSw); (try go_split_ands); simp only [List.getElem_toArray, List.getElem_cons_zero, List.getElem_cons_succ]; go_simp; try with_reducible rfl)
              try simp (config := { failIfUnchanged := false }) only [Act.put, List.setIfInBounds_toArray, List.set_cons_zero, List.set_cons_succ, List.getElem_toArray, List.getElem_cons_zero, List.getElem_cons_succ]
              refine take_run (i := 10) (v := ?_) (by decide) (by kernel_rfl) (by kernel_rfl) (by kernel_rfl) (fun _ _ _ _ h => h) hH rfl ?_ ?_
              rotate_left
              · (intro w hSw; (try dsimp only at hSw); (try go_split_ands); simp only [List.getElem_toArray, List.getElem_cons_zero, List.getElem_cons_succ]; go_simp; try with_reducible rfl)
              try simp (config := { failIfUnchanged := false }) only [Act.put, List.setIfInBounds_toArray, List.set_cons_zero, List.set_cons_succ, List.getElem_toArray, List.getElem_cons_zero, List.getElem_cons_succ]
              refine wpAnyH_done (by kernel_rfl) ?_ _
              go_wp2
              go_roundw
              case rel => exact ⟨i + 1, by omega, by go_num, HM⟩
              case measure => simp [intOf]; omega
          · have hge' : ¬ (i : Int) < (m.2.length : Int) := by omega
            have hr := rolled_none hck t
            go_wp2_with fail
            refine (matRolled_any _ _ _ _ _ _ m [] t _ HM.out.1.hg hl).mono ?_
            rintro e w7 ⟨rfl, hb7⟩
            rw [hr]
            have HM : Hid (MaSt w w.heap.size m A B c d w7 ∧ TabP w7) := ⟨HM.out.1.below hb7, HM.out.2.below hb7⟩
            clear hb7 c0 c1
            go_wp2_with fail
            refine (awake_any _ HM.out.2).mono ?_
            rintro e w8 ⟨rfl, hb8⟩
            have HM := Lib.hid (HM.out.1.below hb8)
            go_wp2
            go_ret
            exact ⟨rfl, HM.out.hb⟩
  · have q0 := ieq_f hc
    go_enter Tryd.func10, Tryd.ntmps10
    go_upto_region 1 with fail
    rw [← HW0.out]
    have c0 := HS.out.bm.c20
    have c1 := HS.out.bm.c21
    go_wp2_with fail
    refine CF.out.mono ?_
    rintro e w1 ⟨rfl, hb1⟩
    have HS := Lib.hid (HS.out.below hb1)
    have HT := Lib.hid (HT0.out.below hb1)
    have c0 := HS.out.bm.c20
    have c1 := HS.out.bm.c21
    go_wp2_with fail
    refine (refCheck15_any _ _ _ _ _ _ m _ HS.out.hg HS.out.hs).mono ?_
    rintro e w2 ⟨rfl, hb2⟩
    rw [hck]
    have HS := Lib.hid (HS.out.below hb2)
    have HT := Lib.hid (HT.out.below hb2)
    dsimp only
    go_wp2_with fail
    refine (awake_any _ HT.out).mono ?_
    rintro e w3 ⟨rfl, hb3⟩
    have HS := Lib.hid (HS.out.below hb3)
    go_wp2
    go_ret
    exact ⟨rfl, HS.out.hb⟩
end Go.Proofs.YtacbmmnipedpdaaDoor
