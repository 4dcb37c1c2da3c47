/- Chapter 15: Parse of the program, by walking its text. -/
import Derived.Test.YtacbmmnipedpdaaDoorMatP9
import Derived.Test.YtacbmmnipedpdaaDoorTorRg
namespace Go.Proofs.YtacbmmnipedpdaaDoor
open Go Go.RowKit
set_option linter.unusedSimpArgs false

theorem below_only {N gp : Nat} {w W W1 : World} (h : Below N w W) (ho : W.grownBy W1 (some gp)) (hN : N ≤ gp) (hg : gp < W.heap.size) : Below N w W1 :=
  ⟨ho.os.trans h.os, ho.tape.trans h.tape, ho.output.trans h.output, Nat.le_trans h.size ho.size, fun b hb => (ho.block b (by omega) (fun e => by injection e with e; omega)).trans (h.block b hb)⟩
theorem sc_info : (Tryd.prog.info? 36).map (fun i => (i.zero, i.size, i.bytes)) = some (some (.agg #[.string ⟨#[]⟩, .int .i64 0, .int .i64 0, .int .i64 0]), 4, 40) := by kernel_rfl
theorem stores15 {M : Nat} {W : World} {a0 a1 a2 a3 v0 v1 v2 v3 : Value} (b0 : Blk W M 25 #[a0, a1]) (b1 : Blk W (M + 1) 27 #[a2]) (b2 : Blk W (M + 1 + 1) 3 #[a3]) :
    Blk ((((W.setCell ⟨M, 0, none⟩ v0).setCell ⟨M, 1, none⟩ v1).setCell ⟨M + 1, 0, none⟩ v2).setCell ⟨M + 1 + 1, 0, none⟩ v3) M 25 #[v0, v1] ∧ Blk ((((W.setCell ⟨M, 0, none⟩ v0).setCell ⟨M, 1, none⟩ v1).setCell ⟨M + 1, 0, none⟩ v2).setCell ⟨M + 1 + 1, 0, none⟩ v3) (M + 1) 27 #[v2] ∧ Blk ((((W.setCell ⟨M, 0, none⟩ v0).setCell ⟨M, 1, none⟩ v1).setCell ⟨M + 1, 0, none⟩ v2).setCell ⟨M + 1 + 1, 0, none⟩ v3) (M + 1 + 1) 3 #[v3] := by
  have c0 := ((((b0.set_ 0 v0).set_ 1 v1).far (p := ⟨M + 1, 0, none⟩) (by show M ≠ M + 1; omega) v2)).far (p := ⟨M + 1 + 1, 0, none⟩) (by show M ≠ M + 1 + 1; omega) v3
  have c1 := ((((b1.far (p := ⟨M, 0, none⟩) (by show M + 1 ≠ M; omega) v0).far (p := ⟨M, 1, none⟩) (by show M + 1 ≠ M; omega) v1).set_ 0 v2)).far (p := ⟨M + 1 + 1, 0, none⟩) (by show M + 1 ≠ M + 1 + 1; omega) v3
  have c2 := (((b2.far (p := ⟨M, 0, none⟩) (by show M + 1 + 1 ≠ M; omega) v0).far (p := ⟨M, 1, none⟩) (by show M + 1 + 1 ≠ M; omega) v1).far (p := ⟨M + 1, 0, none⟩) (by show M + 1 + 1 ≠ M + 1; omega) v2).set_ 0 v3
  exact ⟨by simpa using c0, by simpa using c1, by simpa using c2⟩
set_option maxRecDepth 100000 in
set_option maxHeartbeats 8000000 in
theorem matParse_any (s : ByteArray) (w : World) (hz : s.size ≤ 140737488350000) : Calls Tryd.prog 24 #[.string s] w (ParseP15 (parseM s.data.toList) w) := by
  obtain ⟨r, hr⟩ : ∃ r, r = parseM s.data.toList := ⟨_, rfl⟩
  rw [← hr]
  have HR := Lib.hid hr
  obtain ⟨W, hW, bm, be, ba, hwW, hWs⟩ := three_new w
  have HW := Lib.hid hW
  clear hr
  go_enter_defers Tryd.func24, Tryd.ntmps24
  go_wp2_with fail
  rw [← HW.out]
  refine (scan_any s _ hz).mono ?_
  rintro e w1 ⟨v, rfl, hl, hb⟩
  generalize hsc : scanS s.data.toList = sc at *
  obtain ⟨L, er, a⟩ := sc
  have HSC := Lib.hid hsc
  have bm1 := bm.below15 hb (by omega)
  have be1 := be.below15 hb (by omega)
  have ba1 := ba.below15 hb (by omega)
  have hb1 : Below w.heap.size w w1 := hwW.trans (hb.mono (by omega))
  have hs1 := hb.size
  have cm0 := bm1.c20
  have cm1 := bm1.c21
  have ce := be1.c0
  have ca := ba1.c0
  have fm0 := bm1.free 0
  have fm1 := bm1.free 1
  have fe := be1.free 0
  have fa := ba1.free 0
  clear hsc hW bm be ba hwW hb
  dsimp only
  by_cases he : er = 0
  · subst he
    obtain rfl := scan_zero15 HSC.out
    obtain ⟨hlx, hsz⟩ := scan_ok_of HSC.out
    obtain ⟨A, c, rfl, hLm, -⟩ := slice_inv hl
    have hLn := lexes_cnt hlx
    have hL0 := lexes_pos hlx
    have hE := lexes_ends hlx
    have hI := lexes_nums hlx
    have hN := lexes_names hlx hsz
    have s1 : w1.setCell ⟨w.heap.size + 1, 0, none⟩ (.int .i64 0) = w1 := set_same15 be1 rfl
    have s2 : w1.setCell ⟨w.heap.size + 1 + 1, 0, none⟩ (.int .i64 0) = w1 := set_same15 ba1 rfl
    obtain ⟨gp, hgp⟩ : ∃ gp, gp = w1.heap.size := ⟨_, rfl⟩
    have hst0 : PSt w.heap.size gp L w 0 (.slice none 0 0) (.slice none 0 0) (w1.alloc (.cells #[.slice A L.length c] 77)) := by
      subst hgp
      refine ⟨bm1.alloc _, be1.alloc _, ba1.alloc _, ⟨A, L.length, c, Blk.new w1 _ _, ?_⟩, hL0, hb1.alloc (by omega) _, by omega⟩
      exact Rep.keep _ (fun b hb => Below.heap_alloc _ _ b hb) hl
    obtain ⟨R1, hR1⟩ : ∃ R, R = manyR L tGrade gradeR L.length (0, false) [] := ⟨_, rfl⟩
    have HR1 := Lib.hid hR1
    have HG : Hid (G1 w.heap.size gp L w R1 0 (w1.alloc (.cells #[.slice A L.length c] 77))) := ⟨L.length, _, [], hst0, grs_nil _ _, by simp, by omega, hR1.symm⟩
    have HLX := Lib.hid (And.intro hE (And.intro hI hN))
    have HLn : L.length ≤ 16385 := by omega
    obtain ⟨i0, hi0, hz0, hz1, hz2⟩ := info_parts gr_info
    obtain ⟨j0, hj0, hy0, hy1, hy2⟩ := info_parts sc_info
    clear hst0 hlx hsz hE hI hN hLn
    go_wp2
    rw [← hgp]
    have hM : w.heap.size + 1 + 1 < gp := by omega
    clear bm1 be1 ba1 hb1 cm0 cm1 ce ca fm0 fm1 fe fa hl s1 s2 HW hWs hs1 hgp hR1
    generalize w1.alloc (.cells #[.slice A L.length c] 77) = W0 at *
    go_loopg [] L.length (fun gh wr => ∃ k : Nat, k + gh = L.length ∧ Hid (G1 w.heap.size gp L w R1 k wr))
    case atStart => exact ⟨0, by omega, HG.out⟩
    case round =>
      clear HG hL0
      obtain ⟨k, hkg, hga⟩ := hrel
      obtain ⟨f, vg, ps, hst, hgr, hps, hlf, hmR⟩ := hga.out
      obtain ⟨hE, hI, hN⟩ := HLX.out
      have hk := hst.lt
      have CB := Lib.hid (begins_at gp L k hk tGrade (by decide) wr hst.rd)
      have hstD := hst.drew
      have hgrD : GrsAt (gp + 1) vg ps wr.drew := hgr
      have cD : wr.drew.cell? ⟨w.heap.size, 0, none⟩ = some vg := hstD.b0.c20
      cases hfit : fitB (lxN L k) 1 tGrade
      · rw [hfit] at CB
        have e2 : R1 = (ps.map (·.1), (k, false)) := by rw [← hmR, many_no hfit]
        go_wp2_with fail
        refine CB.out.mono ?_
        rintro e w2 ⟨rfl, rfl⟩
        go_wp2
        clear CB hstD hgrD cD hmR hlf hfit
        obtain ⟨R2, hR2⟩ : ∃ R, R = manyR L tSection sectR L.length (k, false) [] := ⟨_, rfl⟩
        have HR2 := Lib.hid hR2
        have hsl : IsSl vg := own_sl hgr.1
        obtain ⟨B2, hB2⟩ : ∃ B, B = w2.heap.size := ⟨_, rfl⟩
        have HS : Hid (S1 w.heap.size gp B2 L w vg (ps.map (·.1)) R2 k w2) := by subst hB2; exact s1_start hst hgr hR2.symm
        have hgB : gp < B2 := by rw [hB2]; exact rd_lt hst.rd
        have HE2 := Lib.hid e2
        have hkk : k ≤ L.length := Nat.le_of_lt hk
        generalize hgs : ps.map (·.1) = gs at *
        clear hst hgr hga hps hR2 hB2 e2 hk
        go_loopg [] (L.length - k) (fun gh wr => ∃ k : Nat, k + gh = L.length ∧ Hid (S1 w.heap.size gp B2 L w vg gs R2 k wr))
        case atStart => exact ⟨k, by omega, HS.out⟩
        case round =>
          clear HS
          obtain ⟨j, hjg, hsa⟩ := hrel
          obtain ⟨f, vs, ss, hst, hgr, hsc, hB2, hss, hlf, hmR⟩ := hsa.out
          have hj := hst.lt
          have CB := Lib.hid (begins_at gp L j hj tSection (by decide) wr hst.rd)
          have hstD := hst.drew
          have hgrD : grR.slice.R wr.drew (fun b => gp + 1 ≤ b ∧ b < B2) gs [vg] := hgr
          have hscD : OwnSc B2 vs ss wr.drew := hsc
          have cD : wr.drew.cell? ⟨w.heap.size, 1, none⟩ = some vs := hstD.b0.c21
          cases hfit : fitB (lxN L j) 1 tSection
          · rw [hfit] at CB
            have e2 : R2 = (ss, (j, false)) := by rw [← hmR, many_no hfit]
            go_wp2_with fail
            refine CB.out.mono ?_
            rintro e w3 ⟨rfl, rfl⟩
            have CE := Lib.hid (next_end gp L j hj w3 hst.rd)
            have HRD : Hid (readM L = ((gs, ss), (j, false))) := read_2 (HR1.out.symm.trans HE2.out) (HR2.out.symm.trans e2)
            go_wp2_with fail
            refine CE.out.mono ?_
            rintro e w4 ⟨ho4, ⟨hf, rfl⟩ | ⟨hf, rfl⟩⟩
            · have bm4 := hst.b0.grown ho4 (fun e => by injection e with e; omega)
              have be4 := hst.b1.grown ho4 (fun e => by injection e with e; omega)
              have ba4 := hst.b2.grown ho4 (fun e => by injection e with e; omega)
              have hb4 := below_only hst.hb ho4 (by omega) (rd_lt hst.rd)
              have hg4 := gr_call hgr hB2 ho4
              have hs4 := own_call hsc hgB ho4
              have hB4 : B2 ≤ w4.heap.size := Nat.le_trans hB2 ho4.size
              obtain ⟨A1, n1, c1, rfl⟩ := hsl
              obtain ⟨A2, c2, rfl⟩ := own_form15 hs4.1
              obtain ⟨m0, hm0⟩ : ∃ m : Mat, m = (gs, ss) := ⟨_, rfl⟩
              have CK := Lib.hid (matCheck_any A1 A2 n1 c1 ss.length c2 (gs, ss) w4 (Rep.mono _ (fun b (hb : _ ∧ _) => Nat.lt_of_lt_of_le hb.2 hB4) hg4) (ownSc_rep hs4))
              rw [← hm0] at CK
              generalize hck : checkM m0 = ck at *
              have HK := Lib.hid (And.intro hm0 hck)
              have d0 := bm4.c20
              have d1 := bm4.c21
              clear CB CE hstD hgrD hscD cD hst hgr hsc hsa ho4 hmR hlf hfit e2 hm0
              go_wp2_with fail
              refine CK.out.mono ?_
              rintro e w5 ⟨rfl, hb5⟩
              have hsz4 : gp < w4.heap.size := by omega
              have bm5 := bm4.below15 hb5 (by omega)
              have be5 := be4.below15 hb5 (by omega)
              have ba5 := ba4.below15 hb5 (by omega)
              have hbw5 := hb4.trans (hb5.mono (by omega))
              have hg5 := Rep.keep _ (fun b (hb : _ ∧ _) => hb5.block b (Nat.lt_of_lt_of_le hb.2 hB4)) hg4
              have hs5 := Rep.keep _ (fun b (hb : b < w4.heap.size) => hb5.block b hb) (ownSc_rep hs4)
              have hsz5 := hb5.size
              have e0 := bm5.c20
              have e1 := bm5.c21
              have e2 := be5.c0
              have e3 := ba5.c0
              have f0 := bm5.free 0
              have f1 := bm5.free 1
              have f2 := be5.free 0
              have f3 := ba5.free 0
              clear bm4 be4 ba4 hb4 hg4 hs4 d0 d1 CK hb5
              dsimp only
              by_cases hc : ck = 0
              · subst hc
                have e9 : r = ((gs, ss), 0, 0) := by
                  obtain ⟨h1, h2⟩ := HK.out
                  rw [HR.out]
                  exact parse_okM HSC.out HRD.out hf (by rw [← h1]; exact h2)
                subst e9
                go_wp2
                rw [set_same15 bm5 rfl, set_same15 bm5 rfl, set_same15 be5 rfl, set_same15 ba5 rfl]
                exact leaves_ok rfl rfl rfl bm5 be5 ba5 ⟨_, _, rfl, Rep.mono _ (fun b (hb : _ ∧ _) => Nat.lt_of_lt_of_le hb.2 (Nat.le_trans hB4 hsz5)) hg5, Rep.mono _ (fun b hb => Nat.lt_of_lt_of_le hb hsz5) hs5⟩ hbw5
              · have q0 := ieq_f hc
                have e9 : r = (([], []), ck, 0) := by
                  obtain ⟨h1, h2⟩ := HK.out
                  rw [HR.out, ← h2, h1]
                  exact parse_chk HSC.out HRD.out hf (by rw [← h1, h2]; exact hc)
                subst e9
                obtain ⟨c0, c1', c2'⟩ := stores15 (v0 := .slice none 0 0) (v1 := .slice none 0 0) (v2 := .int .i64 ck) (v3 := .int .i64 0) bm5 be5 ba5
                have hbw6 := (((hbw5.setCell (p := ⟨w.heap.size, 0, none⟩) (Nat.le_refl _) (.slice none 0 0)).setCell (p := ⟨w.heap.size, 1, none⟩) (Nat.le_refl _) (.slice none 0 0)).setCell (p := ⟨w.heap.size + 1, 0, none⟩) (by show w.heap.size ≤ w.heap.size + 1; omega) (.int .i64 ck)).setCell (p := ⟨w.heap.size + 1 + 1, 0, none⟩) (by show w.heap.size ≤ w.heap.size + 1 + 1; omega) (.int .i64 0)
                go_wp2
                exact leaves_ok rfl rfl rfl c0 c1' c2' ⟨_, _, rfl, Rep.slice_nil _ _ _, Rep.slice_nil _ _ _⟩ hbw6
            · have e1 : r = (([], []), 5, (lxN L j).2.2.2) := by rw [HR.out]; exact parse_syn2 HSC.out HRD.out hf
              go_wp2
              exact leaves_bad (by first | exact e1 | rfl) rfl rfl rfl rfl (hst.b0.grown ho4 (fun e => by injection e with e; omega)) (hst.b1.grown ho4 (fun e => by injection e with e; omega)) (hst.b2.grown ho4 (fun e => by injection e with e; omega)) (below_only hst.hb ho4 (by omega) (rd_lt hst.rd))
          · rw [hfit] at CB
            have hge := sect_ge L (j + 1, false)
            have hnm := sect_nm hN (j + 1, false)
            obtain ⟨hi1, hi2, hi3⟩ := sect_i64 hI (j + 1, false)
            obtain ⟨g, k', bad, hq⟩ : ∃ g k' bad, sectR L (j + 1, false) = (g, (k', bad)) := ⟨_, _, _, rfl⟩
            rw [hq] at hge hnm hi1 hi2 hi3
            simp only at hge hnm hi1 hi2 hi3
            have hgf : g.1.length ≤ 9223372036854775807 ∧ inI64 g.2.1 ∧ inI64 g.2.2.1 ∧ inI64 g.2.2.2 := ⟨by omega, hi1, hi2, hi3⟩
            cases bad
            · have HC := Lib.hid (sect_done hE hj hfit hq wr.drew hstD.rd)
              go_wp2_with fail
              refine CB.out.mono ?_
              rintro e w3 ⟨rfl, rfl⟩
              go_wp2
              refine wp_region_held_drew (S := (fun _ => True)) (by kernel_rfl) (trivial) (fun hH => ?_)
              refine take_run (i := 0) (v := ?_) (by decide) (by kernel_rfl) (by kernel_rfl) (by kernel_rfl) (fun c a w v h => q15 _ (by decide) c a w v h) hH rfl ?_ ?_
              rotate_left
              · (intro w hSw; (try dsimp only at hSw); (try go_split_ands); simp only [List.getElem_toArray, List.getElem_cons_zero]; go_simp; try with_reducible rfl)
              try simp (config := { failIfUnchanged := false }) only [Act.put, List.setIfInBounds_toArray, List.set_cons_zero, List.set_cons_succ, List.getElem_toArray, List.getElem_cons_zero, List.getElem_cons_succ]
              refine take_run (i := 2) (v := ?_) (by decide) (by kernel_rfl) (by kernel_rfl) (by kernel_rfl) (fun c a w v h => q15 _ (by decide) c a w v h) hH rfl ?_ ?_
              rotate_left
              · (intro w hSw; (try dsimp only at hSw); (try go_split_ands); simp only [List.getElem_toArray, List.getElem_cons_zero, List.getElem_cons_succ]; go_simp; try with_reducible rfl)
              try simp (config := { failIfUnchanged := false }) only [Act.put, List.setIfInBounds_toArray, List.set_cons_zero, List.set_cons_succ, List.getElem_toArray, List.getElem_cons_zero, List.getElem_cons_succ]
              refine take_two (i := 1) (j := 3) (by decide) (by decide) (by kernel_rfl) (fun K hK => ?_) (fun K hK => ?_)
              focus
                simp only [List.getElem_toArray, List.getElem_cons_zero, List.getElem_cons_succ]
                go_simp
                refine hK.out _ _ (by trivial) (fun hH => ?_)
                clear hK K
                try simp (config := { failIfUnchanged := false }) only [Act.put, List.setIfInBounds_toArray, List.set_cons_zero, List.set_cons_succ, List.getElem_toArray, List.getElem_cons_zero, List.getElem_cons_succ]
                refine take_call (i := 3) (by decide) (by kernel_rfl) (fun K hK => ?_)
                simp only [List.getElem_toArray, List.getElem_cons_zero, List.getElem_cons_succ]
                go_simp
                go_at_call 47
                refine HC.out.mono ?_
                rintro e W1 ⟨ho1, hk1, hR1, rfl⟩
                have hst1 := hstD.call ho1 hR1 hk1
                have hgr1 := gr_call hgrD hB2 ho1
                have hsc1 := own_call hscD hgB ho1
                have c3b := hst1.b0.c21
                have c3c := (hst1.b0.alloc (.cells #[.string (bA g.1), .int .i64 g.2.1, .int .i64 g.2.2.1, .int .i64 g.2.2.2] 36)).c21
                have hsz1 : B2 ≤ W1.heap.size := Nat.le_trans hB2 ho1.size
                have hlt1 := rd_lt hst1.rd
                dsimp only
                refine hK.out _ _ (by trivial) (fun hH => ?_)
                clear hK K
                try simp (config := { failIfUnchanged := false }) only [Act.put, List.setIfInBounds_toArray, List.set_cons_zero, List.set_cons_succ, List.getElem_toArray, List.getElem_cons_zero, List.getElem_cons_succ]
                refine take_call (i := 4) (by decide) (by kernel_rfl) (fun K hK => ?_)
                simp only [List.getElem_toArray, List.getElem_cons_zero, List.getElem_cons_succ]
                go_simp
                refine hK.out _ _ (by trivial) (fun hH => ?_)
                clear hK K
                try simp (config := { failIfUnchanged := false }) only [Act.put, List.setIfInBounds_toArray, List.set_cons_zero, List.set_cons_succ, List.getElem_toArray, List.getElem_cons_zero, List.getElem_cons_succ]
                refine take_call (i := 5) (by decide) (by kernel_rfl) (fun K hK => ?_)
                refine step_append_flat flat_sc (by rfl) _ _ _ (by rfl) B2 36 j0 (.agg #[.string ⟨#[]⟩, .int .i64 0, .int .i64 0, .int .i64 0]) 40 Tryd.underlying23 hj0 hy0 hy1 hy2 rfl vs _ _ (by rfl) (World.ownsRow.alloc hsc1.1 _) [g] (by rfl) (flat1 flat_sc (Blk.new W1 36 _) rfl (sc_mk hgf)) (by simp; omega) (by simp; omega) (by simp; omega) ?_
                intro v2 W2 hown2 hg2
                obtain ⟨vA2, vc2, rfl⟩ := own_form15 hown2
                have hst2 := hst1.grow hsc1.1 hgB hg2
                have c3d := hst2.b0.c21
                have f3d := hst2.b0.free 1
                refine hK.out _ _ (by trivial) (fun hH => ?_)
                clear hK K
                try simp (config := { failIfUnchanged := false }) only [Act.put, List.setIfInBounds_toArray, List.set_cons_zero, List.set_cons_succ, List.getElem_toArray, List.getElem_cons_zero, List.getElem_cons_succ]
                refine take_run (i := 6) (v := ?_) (by decide) (by kernel_rfl) (by kernel_rfl) (by kernel_rfl) (fun c a w v h => q15 _ (by decide) c a w v h) hH rfl ?_ ?_
                rotate_left
                · (intro w hSw; (try dsimp only at hSw); (try go_split_ands); simp only [List.getElem_toArray, List.getElem_cons_zero, List.getElem_cons_succ]; go_simp; try with_reducible rfl)
                try simp (config := { failIfUnchanged := false }) only [Act.put, List.setIfInBounds_toArray, List.set_cons_zero, List.set_cons_succ, List.getElem_toArray, List.getElem_cons_zero, List.getElem_cons_succ]
                refine take_call (i := 7) (by decide) (by kernel_rfl) (fun K hK => ?_)
                simp only [List.getElem_toArray, List.getElem_cons_zero, List.getElem_cons_succ]
                go_simp
                refine hK.out _ _ (by trivial) (fun hH => ?_)
                clear hK K
                try simp (config := { failIfUnchanged := false }) only [Act.put, List.setIfInBounds_toArray, List.set_cons_zero, List.set_cons_succ, List.getElem_toArray, List.getElem_cons_zero, List.getElem_cons_succ]
                refine wpAnyH_done (by kernel_rfl) ?_ _
              rotate_left 1
              focus
                simp only [List.getElem_toArray, List.getElem_cons_zero, List.getElem_cons_succ]
                go_simp
                go_at_call 47
                refine HC.out.mono ?_
                rintro e W1 ⟨ho1, hk1, hR1, rfl⟩
                have hst1 := hstD.call ho1 hR1 hk1
                have hgr1 := gr_call hgrD hB2 ho1
                have hsc1 := own_call hscD hgB ho1
                have c3b := hst1.b0.c21
                have c3c := (hst1.b0.alloc (.cells #[.string (bA g.1), .int .i64 g.2.1, .int .i64 g.2.2.1, .int .i64 g.2.2.2] 36)).c21
                have hsz1 : B2 ≤ W1.heap.size := Nat.le_trans hB2 ho1.size
                have hlt1 := rd_lt hst1.rd
                dsimp only
                refine hK.out _ _ (by trivial) (fun hH => ?_)
                clear hK K
                try simp (config := { failIfUnchanged := false }) only [Act.put, List.setIfInBounds_toArray, List.set_cons_zero, List.set_cons_succ, List.getElem_toArray, List.getElem_cons_zero, List.getElem_cons_succ]
                refine take_two (i := 1) (j := 4) (by decide) (by decide) (by kernel_rfl) (fun K hK => ?_) (fun K hK => ?_)
                focus
                  simp only [List.getElem_toArray, List.getElem_cons_zero, List.getElem_cons_succ]
                  go_simp
                  refine hK.out _ _ (by trivial) (fun hH => ?_)
                  clear hK K
                  try simp (config := { failIfUnchanged := false }) only [Act.put, List.setIfInBounds_toArray, List.set_cons_zero, List.set_cons_succ, List.getElem_toArray, List.getElem_cons_zero, List.getElem_cons_succ]
                  refine take_call (i := 4) (by decide) (by kernel_rfl) (fun K hK => ?_)
                  simp only [List.getElem_toArray, List.getElem_cons_zero, List.getElem_cons_succ]
                  go_simp
                  refine hK.out _ _ (by trivial) (fun hH => ?_)
                  clear hK K
                  try simp (config := { failIfUnchanged := false }) only [Act.put, List.setIfInBounds_toArray, List.set_cons_zero, List.set_cons_succ, List.getElem_toArray, List.getElem_cons_zero, List.getElem_cons_succ]
                  refine take_call (i := 5) (by decide) (by kernel_rfl) (fun K hK => ?_)
                  refine step_append_flat flat_sc (by rfl) _ _ _ (by rfl) B2 36 j0 (.agg #[.string ⟨#[]⟩, .int .i64 0, .int .i64 0, .int .i64 0]) 40 Tryd.underlying23 hj0 hy0 hy1 hy2 rfl vs _ _ (by rfl) (World.ownsRow.alloc hsc1.1 _) [g] (by rfl) (flat1 flat_sc (Blk.new W1 36 _) rfl (sc_mk hgf)) (by simp; omega) (by simp; omega) (by simp; omega) ?_
                  intro v2 W2 hown2 hg2
                  obtain ⟨vA2, vc2, rfl⟩ := own_form15 hown2
                  have hst2 := hst1.grow hsc1.1 hgB hg2
                  have c3d := hst2.b0.c21
                  have f3d := hst2.b0.free 1
                  refine hK.out _ _ (by trivial) (fun hH => ?_)
                  clear hK K
                  try simp (config := { failIfUnchanged := false }) only [Act.put, List.setIfInBounds_toArray, List.set_cons_zero, List.set_cons_succ, List.getElem_toArray, List.getElem_cons_zero, List.getElem_cons_succ]
                  refine take_run (i := 6) (v := ?_) (by decide) (by kernel_rfl) (by kernel_rfl) (by kernel_rfl) (fun c a w v h => q15 _ (by decide) c a w v h) hH rfl ?_ ?_
                  rotate_left
                  · (intro w hSw; (try dsimp only at hSw); (try go_split_ands); simp only [List.getElem_toArray, List.getElem_cons_zero, List.getElem_cons_succ]; go_simp; try with_reducible rfl)
                  try simp (config := { failIfUnchanged := false }) only [Act.put, List.setIfInBounds_toArray, List.set_cons_zero, List.set_cons_succ, List.getElem_toArray, List.getElem_cons_zero, List.getElem_cons_succ]
                  refine take_call (i := 7) (by decide) (by kernel_rfl) (fun K hK => ?_)
                  simp only [List.getElem_toArray, List.getElem_cons_zero, List.getElem_cons_succ]
                  go_simp
                  refine hK.out _ _ (by trivial) (fun hH => ?_)
                  clear hK K
                  try simp (config := { failIfUnchanged := false }) only [Act.put, List.setIfInBounds_toArray, List.set_cons_zero, List.set_cons_succ, List.getElem_toArray, List.getElem_cons_zero, List.getElem_cons_succ]
                  refine wpAnyH_done (by kernel_rfl) ?_ _
                rotate_left 1
                focus
                  simp only [List.getElem_toArray, List.getElem_cons_zero, List.getElem_cons_succ]
                  go_simp
                  refine hK.out _ _ (by trivial) (fun hH => ?_)
                  clear hK K
                  try simp (config := { failIfUnchanged := false }) only [Act.put, List.setIfInBounds_toArray, List.set_cons_zero, List.set_cons_succ, List.getElem_toArray, List.getElem_cons_zero, List.getElem_cons_succ]
                  refine take_call (i := 1) (by decide) (by kernel_rfl) (fun K hK => ?_)
                  simp only [List.getElem_toArray, List.getElem_cons_zero, List.getElem_cons_succ]
                  go_simp
                  refine hK.out _ _ (by trivial) (fun hH => ?_)
                  clear hK K
                  try simp (config := { failIfUnchanged := false }) only [Act.put, List.setIfInBounds_toArray, List.set_cons_zero, List.set_cons_succ, List.getElem_toArray, List.getElem_cons_zero, List.getElem_cons_succ]
                  refine take_call (i := 5) (by decide) (by kernel_rfl) (fun K hK => ?_)
                  refine step_append_flat flat_sc (by rfl) _ _ _ (by rfl) B2 36 j0 (.agg #[.string ⟨#[]⟩, .int .i64 0, .int .i64 0, .int .i64 0]) 40 Tryd.underlying23 hj0 hy0 hy1 hy2 rfl vs _ _ (by rfl) (World.ownsRow.alloc hsc1.1 _) [g] (by rfl) (flat1 flat_sc (Blk.new W1 36 _) rfl (sc_mk hgf)) (by simp; omega) (by simp; omega) (by simp; omega) ?_
                  intro v2 W2 hown2 hg2
                  obtain ⟨vA2, vc2, rfl⟩ := own_form15 hown2
                  have hst2 := hst1.grow hsc1.1 hgB hg2
                  have c3d := hst2.b0.c21
                  have f3d := hst2.b0.free 1
                  refine hK.out _ _ (by trivial) (fun hH => ?_)
                  clear hK K
                  try simp (config := { failIfUnchanged := false }) only [Act.put, List.setIfInBounds_toArray, List.set_cons_zero, List.set_cons_succ, List.getElem_toArray, List.getElem_cons_zero, List.getElem_cons_succ]
                  refine take_run (i := 6) (v := ?_) (by decide) (by kernel_rfl) (by kernel_rfl) (by kernel_rfl) (fun c a w v h => q15 _ (by decide) c a w v h) hH rfl ?_ ?_
                  rotate_left
                  · (intro w hSw; (try dsimp only at hSw); (try go_split_ands); simp only [List.getElem_toArray, List.getElem_cons_zero, List.getElem_cons_succ]; go_simp; try with_reducible rfl)
                  try simp (config := { failIfUnchanged := false }) only [Act.put, List.setIfInBounds_toArray, List.set_cons_zero, List.set_cons_succ, List.getElem_toArray, List.getElem_cons_zero, List.getElem_cons_succ]
                  refine take_call (i := 7) (by decide) (by kernel_rfl) (fun K hK => ?_)
                  simp only [List.getElem_toArray, List.getElem_cons_zero, List.getElem_cons_succ]
                  go_simp
                  refine hK.out _ _ (by trivial) (fun hH => ?_)
                  clear hK K
                  try simp (config := { failIfUnchanged := false }) only [Act.put, List.setIfInBounds_toArray, List.set_cons_zero, List.set_cons_succ, List.getElem_toArray, List.getElem_cons_zero, List.getElem_cons_succ]
                  refine wpAnyH_done (by kernel_rfl) ?_ _
              all_goals
                go_wp2
                go_roundg (L.length - k')
                case measure => omega
                case rel => exact ⟨k', by omega, s1_next hgB hsl hst1 hgr1 hsc1 (by omega) hss hlf (by omega) hmR hfit hq hg2 hown2 hgf⟩
            · have HC := Lib.hid (sect_no hE hj hfit hq wr.drew hstD.rd)
              have e1 : r = (([], []), 5, (lxN L k').2.2.2) := by
                rw [HR.out]
                obtain ⟨f, rfl⟩ : ∃ f', f = f' + 1 := ⟨f - 1, by omega⟩
                rw [many_yes hfit, hq, many_bad] at hmR
                exact parse_syn HSC.out (read_2 (HR1.out.symm.trans HE2.out) (HR2.out.symm.trans hmR.symm))
              go_wp2_with fail
              refine CB.out.mono ?_
              rintro e w3 ⟨rfl, rfl⟩
              go_wp2
              refine wp_region_held_drew (S := (fun _ => True)) (by kernel_rfl) (trivial) (fun hH => ?_)
              refine take_run (i := 0) (v := ?_) (by decide) (by kernel_rfl) (by kernel_rfl) (by kernel_rfl) (fun c a w v h => q15 _ (by decide) c a w v h) hH rfl ?_ ?_
              rotate_left
              · (intro w hSw; (try dsimp only at hSw); (try go_split_ands); simp only [List.getElem_toArray, List.getElem_cons_zero]; go_simp; try with_reducible rfl)
              try simp (config := { failIfUnchanged := false }) only [Act.put, List.setIfInBounds_toArray, List.set_cons_zero, List.set_cons_succ, List.getElem_toArray, List.getElem_cons_zero, List.getElem_cons_succ]
              refine take_run (i := 2) (v := ?_) (by decide) (by kernel_rfl) (by kernel_rfl) (by kernel_rfl) (fun c a w v h => q15 _ (by decide) c a w v h) hH rfl ?_ ?_
              rotate_left
              · (intro w hSw; (try dsimp only at hSw); (try go_split_ands); simp only [List.getElem_toArray, List.getElem_cons_zero, List.getElem_cons_succ]; go_simp; try with_reducible rfl)
              try simp (config := { failIfUnchanged := false }) only [Act.put, List.setIfInBounds_toArray, List.set_cons_zero, List.set_cons_succ, List.getElem_toArray, List.getElem_cons_zero, List.getElem_cons_succ]
              refine take_two (i := 1) (j := 3) (by decide) (by decide) (by kernel_rfl) (fun K hK => ?_) (fun K hK => ?_)
              · simp only [List.getElem_toArray, List.getElem_cons_zero, List.getElem_cons_succ]
                go_simp
                refine hK.out _ _ (by trivial) (fun hH => ?_)
                clear hK K
                try simp (config := { failIfUnchanged := false }) only [Act.put, List.setIfInBounds_toArray, List.set_cons_zero, List.set_cons_succ, List.getElem_toArray, List.getElem_cons_zero, List.getElem_cons_succ]
                refine take_call (i := 3) (by decide) (by kernel_rfl) (fun K hK => ?_)
                simp only [List.getElem_toArray, List.getElem_cons_zero, List.getElem_cons_succ]
                go_simp
                go_at_call 47
                refine HC.out.mono ?_
                rintro e W1 ⟨ho1, rfl⟩
                exact leaves_bad (by first | exact e1 | rfl) rfl rfl rfl rfl (hstD.b0.grown ho1 (fun e => by injection e with e; omega)) (hstD.b1.grown ho1 (fun e => by injection e with e; omega)) (hstD.b2.grown ho1 (fun e => by injection e with e; omega)) (below_only hstD.hb ho1 (by omega) (rd_lt hstD.rd))
              · simp only [List.getElem_toArray, List.getElem_cons_zero, List.getElem_cons_succ]
                go_simp
                go_at_call 47
                refine HC.out.mono ?_
                rintro e W1 ⟨ho1, rfl⟩
                exact leaves_bad (by first | exact e1 | rfl) rfl rfl rfl rfl (hstD.b0.grown ho1 (fun e => by injection e with e; omega)) (hstD.b1.grown ho1 (fun e => by injection e with e; omega)) (hstD.b2.grown ho1 (fun e => by injection e with e; omega)) (below_only hstD.hb ho1 (by omega) (rd_lt hstD.rd))
      · rw [hfit] at CB
        have hge := grade_ge L (k + 1, false)
        have hnm := grade_nm hN (k + 1, false)
        obtain ⟨hi1, hi2⟩ := grade_i64 hI (k + 1, false)
        obtain ⟨g, k', bad, hq⟩ : ∃ g k' bad, gradeR L (k + 1, false) = (g, (k', bad)) := ⟨_, _, _, rfl⟩
        rw [hq] at hge hnm hi1 hi2
        simp only at hge hnm hi1 hi2
        cases bad
        · have HC := Lib.hid (grade_done hE hI (by omega) hk hfit hq wr.drew hstD.rd)
          go_wp2_with fail
          refine CB.out.mono ?_
          rintro e w2 ⟨rfl, rfl⟩
          go_wp2
          refine wp_region_held_drew (S := (fun _ => True)) (by kernel_rfl) (trivial) (fun hH => ?_)
          refine take_run (i := 0) (v := ?_) (by decide) (by kernel_rfl) (by kernel_rfl) (by kernel_rfl) (fun c a w v h => q15 _ (by decide) c a w v h) hH rfl ?_ ?_
          rotate_left
          · (intro w hSw; (try dsimp only at hSw); (try go_split_ands); simp only [List.getElem_toArray, List.getElem_cons_zero]; go_simp; try with_reducible rfl)
          try simp (config := { failIfUnchanged := false }) only [Act.put, List.setIfInBounds_toArray, List.set_cons_zero, List.set_cons_succ, List.getElem_toArray, List.getElem_cons_zero, List.getElem_cons_succ]
          refine take_run (i := 2) (v := ?_) (by decide) (by kernel_rfl) (by kernel_rfl) (by kernel_rfl) (fun c a w v h => q15 _ (by decide) c a w v h) hH rfl ?_ ?_
          rotate_left
          · (intro w hSw; (try dsimp only at hSw); (try go_split_ands); simp only [List.getElem_toArray, List.getElem_cons_zero, List.getElem_cons_succ]; go_simp; try with_reducible rfl)
          try simp (config := { failIfUnchanged := false }) only [Act.put, List.setIfInBounds_toArray, List.set_cons_zero, List.set_cons_succ, List.getElem_toArray, List.getElem_cons_zero, List.getElem_cons_succ]
          refine take_two (i := 1) (j := 3) (by decide) (by decide) (by kernel_rfl) (fun K hK => ?_) (fun K hK => ?_)
          focus
            simp only [List.getElem_toArray, List.getElem_cons_zero, List.getElem_cons_succ]
            go_simp
            refine hK.out _ _ (by trivial) (fun hH => ?_)
            clear hK K
            try simp (config := { failIfUnchanged := false }) only [Act.put, List.setIfInBounds_toArray, List.set_cons_zero, List.set_cons_succ, List.getElem_toArray, List.getElem_cons_zero, List.getElem_cons_succ]
            refine take_call (i := 3) (by decide) (by kernel_rfl) (fun K hK => ?_)
            simp only [List.getElem_toArray, List.getElem_cons_zero, List.getElem_cons_succ]
            go_simp
            go_at_call 46
            refine HC.out.mono ?_
            rintro e W1 ⟨ho1, hk1, hR1, A1, c1, rfl, hI1⟩
            have hst1 := hstD.call ho1 hR1 hk1
            have hgr1 := g1_call hgrD ho1
            have c3b := hst1.b0.c20
            have c3c := (hst1.b0.alloc (.cells #[.string (bA g.1), .int .i64 g.2.1, .int .i64 g.2.2.1, .slice A1 g.2.2.2.length c1] 32)).c20
            have hsz1 := ho1.size
            have hlt1 := rd_lt hst1.rd
            dsimp only
            refine hK.out _ _ (by trivial) (fun hH => ?_)
            clear hK K
            try simp (config := { failIfUnchanged := false }) only [Act.put, List.setIfInBounds_toArray, List.set_cons_zero, List.set_cons_succ, List.getElem_toArray, List.getElem_cons_zero, List.getElem_cons_succ]
            refine take_call (i := 4) (by decide) (by kernel_rfl) (fun K hK => ?_)
            simp only [List.getElem_toArray, List.getElem_cons_zero, List.getElem_cons_succ]
            go_simp
            refine hK.out _ _ (by trivial) (fun hH => ?_)
            clear hK K
            try simp (config := { failIfUnchanged := false }) only [Act.put, List.setIfInBounds_toArray, List.set_cons_zero, List.set_cons_succ, List.getElem_toArray, List.getElem_cons_zero, List.getElem_cons_succ]
            refine take_call (i := 5) (by decide) (by kernel_rfl) (fun K hK => ?_)
            refine step_append_flat flat_grv (by rfl) _ _ _ (by rfl) (gp + 1) 32 i0 (.agg #[.string ⟨#[]⟩, .int .i64 0, .int .i64 0, .slice none 0 0]) 56 Tryd.underlying22 hi0 hz0 hz1 hz2 rfl vg _ _ (by rfl) (World.ownsRow.alloc hgr1.1 _) [(g, (A1, g.2.2.2.length, c1))] (by rfl) (flat1 flat_grv (Blk.new W1 32 _) rfl rfl) (by simp; omega) (by simp; omega) (by simp; omega) ?_
            intro v2 W2 hown2 hg2
            obtain ⟨vA2, vc2, rfl⟩ := own_form15 hown2
            have hst2 := hst1.grow hgr1.1 (Nat.lt_succ_self gp) hg2
            have c3d := hst2.b0.c20
            have f3d := hst2.b0.free 0
            refine hK.out _ _ (by trivial) (fun hH => ?_)
            clear hK K
            try simp (config := { failIfUnchanged := false }) only [Act.put, List.setIfInBounds_toArray, List.set_cons_zero, List.set_cons_succ, List.getElem_toArray, List.getElem_cons_zero, List.getElem_cons_succ]
            refine take_run (i := 6) (v := ?_) (by decide) (by kernel_rfl) (by kernel_rfl) (by kernel_rfl) (fun c a w v h => q15 _ (by decide) c a w v h) hH rfl ?_ ?_
            rotate_left
            · (intro w hSw; (try dsimp only at hSw); (try go_split_ands); simp only [List.getElem_toArray, List.getElem_cons_zero, List.getElem_cons_succ]; go_simp; try with_reducible rfl)
            try simp (config := { failIfUnchanged := false }) only [Act.put, List.setIfInBounds_toArray, List.set_cons_zero, List.set_cons_succ, List.getElem_toArray, List.getElem_cons_zero, List.getElem_cons_succ]
            refine take_call (i := 7) (by decide) (by kernel_rfl) (fun K hK => ?_)
            simp only [List.getElem_toArray, List.getElem_cons_zero, List.getElem_cons_succ]
            go_simp
            refine hK.out _ _ (by trivial) (fun hH => ?_)
            clear hK K
            try simp (config := { failIfUnchanged := false }) only [Act.put, List.setIfInBounds_toArray, List.set_cons_zero, List.set_cons_succ, List.getElem_toArray, List.getElem_cons_zero, List.getElem_cons_succ]
            refine wpAnyH_done (by kernel_rfl) ?_ _
          rotate_left 1
          focus
            simp only [List.getElem_toArray, List.getElem_cons_zero, List.getElem_cons_succ]
            go_simp
            go_at_call 46
            refine HC.out.mono ?_
            rintro e W1 ⟨ho1, hk1, hR1, A1, c1, rfl, hI1⟩
            have hst1 := hstD.call ho1 hR1 hk1
            have hgr1 := g1_call hgrD ho1
            have c3b := hst1.b0.c20
            have c3c := (hst1.b0.alloc (.cells #[.string (bA g.1), .int .i64 g.2.1, .int .i64 g.2.2.1, .slice A1 g.2.2.2.length c1] 32)).c20
            have hsz1 := ho1.size
            have hlt1 := rd_lt hst1.rd
            dsimp only
            refine hK.out _ _ (by trivial) (fun hH => ?_)
            clear hK K
            try simp (config := { failIfUnchanged := false }) only [Act.put, List.setIfInBounds_toArray, List.set_cons_zero, List.set_cons_succ, List.getElem_toArray, List.getElem_cons_zero, List.getElem_cons_succ]
            refine take_two (i := 1) (j := 4) (by decide) (by decide) (by kernel_rfl) (fun K hK => ?_) (fun K hK => ?_)
            focus
              simp only [List.getElem_toArray, List.getElem_cons_zero, List.getElem_cons_succ]
              go_simp
              refine hK.out _ _ (by trivial) (fun hH => ?_)
              clear hK K
              try simp (config := { failIfUnchanged := false }) only [Act.put, List.setIfInBounds_toArray, List.set_cons_zero, List.set_cons_succ, List.getElem_toArray, List.getElem_cons_zero, List.getElem_cons_succ]
              refine take_call (i := 4) (by decide) (by kernel_rfl) (fun K hK => ?_)
              simp only [List.getElem_toArray, List.getElem_cons_zero, List.getElem_cons_succ]
              go_simp
              refine hK.out _ _ (by trivial) (fun hH => ?_)
              clear hK K
              try simp (config := { failIfUnchanged := false }) only [Act.put, List.setIfInBounds_toArray, List.set_cons_zero, List.set_cons_succ, List.getElem_toArray, List.getElem_cons_zero, List.getElem_cons_succ]
              refine take_call (i := 5) (by decide) (by kernel_rfl) (fun K hK => ?_)
              refine step_append_flat flat_grv (by rfl) _ _ _ (by rfl) (gp + 1) 32 i0 (.agg #[.string ⟨#[]⟩, .int .i64 0, .int .i64 0, .slice none 0 0]) 56 Tryd.underlying22 hi0 hz0 hz1 hz2 rfl vg _ _ (by rfl) (World.ownsRow.alloc hgr1.1 _) [(g, (A1, g.2.2.2.length, c1))] (by rfl) (flat1 flat_grv (Blk.new W1 32 _) rfl rfl) (by simp; omega) (by simp; omega) (by simp; omega) ?_
              intro v2 W2 hown2 hg2
              obtain ⟨vA2, vc2, rfl⟩ := own_form15 hown2
              have hst2 := hst1.grow hgr1.1 (Nat.lt_succ_self gp) hg2
              have c3d := hst2.b0.c20
              have f3d := hst2.b0.free 0
              refine hK.out _ _ (by trivial) (fun hH => ?_)
              clear hK K
              try simp (config := { failIfUnchanged := false }) only [Act.put, List.setIfInBounds_toArray, List.set_cons_zero, List.set_cons_succ, List.getElem_toArray, List.getElem_cons_zero, List.getElem_cons_succ]
              refine take_run (i := 6) (v := ?_) (by decide) (by kernel_rfl) (by kernel_rfl) (by kernel_rfl) (fun c a w v h => q15 _ (by decide) c a w v h) hH rfl ?_ ?_
              rotate_left
              · (intro w hSw; (try dsimp only at hSw); (try go_split_ands); simp only [List.getElem_toArray, List.getElem_cons_zero, List.getElem_cons_succ]; go_simp; try with_reducible rfl)
              try simp (config := { failIfUnchanged := false }) only [Act.put, List.setIfInBounds_toArray, List.set_cons_zero, List.set_cons_succ, List.getElem_toArray, List.getElem_cons_zero, List.getElem_cons_succ]
              refine take_call (i := 7) (by decide) (by kernel_rfl) (fun K hK => ?_)
              simp only [List.getElem_toArray, List.getElem_cons_zero, List.getElem_cons_succ]
              go_simp
              refine hK.out _ _ (by trivial) (fun hH => ?_)
              clear hK K
              try simp (config := { failIfUnchanged := false }) only [Act.put, List.setIfInBounds_toArray, List.set_cons_zero, List.set_cons_succ, List.getElem_toArray, List.getElem_cons_zero, List.getElem_cons_succ]
              refine wpAnyH_done (by kernel_rfl) ?_ _
            rotate_left 1
            focus
              simp only [List.getElem_toArray, List.getElem_cons_zero, List.getElem_cons_succ]
              go_simp
              refine hK.out _ _ (by trivial) (fun hH => ?_)
              clear hK K
              try simp (config := { failIfUnchanged := false }) only [Act.put, List.setIfInBounds_toArray, List.set_cons_zero, List.set_cons_succ, List.getElem_toArray, List.getElem_cons_zero, List.getElem_cons_succ]
              refine take_call (i := 1) (by decide) (by kernel_rfl) (fun K hK => ?_)
              simp only [List.getElem_toArray, List.getElem_cons_zero, List.getElem_cons_succ]
              go_simp
              refine hK.out _ _ (by trivial) (fun hH => ?_)
              clear hK K
              try simp (config := { failIfUnchanged := false }) only [Act.put, List.setIfInBounds_toArray, List.set_cons_zero, List.set_cons_succ, List.getElem_toArray, List.getElem_cons_zero, List.getElem_cons_succ]
              refine take_call (i := 5) (by decide) (by kernel_rfl) (fun K hK => ?_)
              refine step_append_flat flat_grv (by rfl) _ _ _ (by rfl) (gp + 1) 32 i0 (.agg #[.string ⟨#[]⟩, .int .i64 0, .int .i64 0, .slice none 0 0]) 56 Tryd.underlying22 hi0 hz0 hz1 hz2 rfl vg _ _ (by rfl) (World.ownsRow.alloc hgr1.1 _) [(g, (A1, g.2.2.2.length, c1))] (by rfl) (flat1 flat_grv (Blk.new W1 32 _) rfl rfl) (by simp; omega) (by simp; omega) (by simp; omega) ?_
              intro v2 W2 hown2 hg2
              obtain ⟨vA2, vc2, rfl⟩ := own_form15 hown2
              have hst2 := hst1.grow hgr1.1 (Nat.lt_succ_self gp) hg2
              have c3d := hst2.b0.c20
              have f3d := hst2.b0.free 0
              refine hK.out _ _ (by trivial) (fun hH => ?_)
              clear hK K
              try simp (config := { failIfUnchanged := false }) only [Act.put, List.setIfInBounds_toArray, List.set_cons_zero, List.set_cons_succ, List.getElem_toArray, List.getElem_cons_zero, List.getElem_cons_succ]
              refine take_run (i := 6) (v := ?_) (by decide) (by kernel_rfl) (by kernel_rfl) (by kernel_rfl) (fun c a w v h => q15 _ (by decide) c a w v h) hH rfl ?_ ?_
              rotate_left
              · (intro w hSw; (try dsimp only at hSw); (try go_split_ands); simp only [List.getElem_toArray, List.getElem_cons_zero, List.getElem_cons_succ]; go_simp; try with_reducible rfl)
              try simp (config := { failIfUnchanged := false }) only [Act.put, List.setIfInBounds_toArray, List.set_cons_zero, List.set_cons_succ, List.getElem_toArray, List.getElem_cons_zero, List.getElem_cons_succ]
              refine take_call (i := 7) (by decide) (by kernel_rfl) (fun K hK => ?_)
              simp only [List.getElem_toArray, List.getElem_cons_zero, List.getElem_cons_succ]
              go_simp
              refine hK.out _ _ (by trivial) (fun hH => ?_)
              clear hK K
              try simp (config := { failIfUnchanged := false }) only [Act.put, List.setIfInBounds_toArray, List.set_cons_zero, List.set_cons_succ, List.getElem_toArray, List.getElem_cons_zero, List.getElem_cons_succ]
              refine wpAnyH_done (by kernel_rfl) ?_ _
          all_goals
            go_wp2
            go_roundg (L.length - k')
            case measure => omega
            case rel => exact ⟨k', by omega, g1_next (p := (g, (A1, g.2.2.2.length, c1))) hst1 hgr1 hps hlf (by omega) hmR hfit hq hg2 hown2 hI1 ⟨Nat.le_trans hnm (by decide), hi1, hi2⟩⟩
        · have HC := Lib.hid (grade_no hE hI (by omega) hk hfit hq wr.drew hstD.rd)
          have e1 : r = (([], []), 5, (lxN L k').2.2.2) := by
            rw [HR.out]
            obtain ⟨f, rfl⟩ : ∃ f', f = f' + 1 := ⟨f - 1, by omega⟩
            rw [many_yes hfit, hq, many_bad] at hmR
            exact parse_syn HSC.out (read_1bad (HR1.out.symm.trans hmR.symm))
          go_wp2_with fail
          refine CB.out.mono ?_
          rintro e w2 ⟨rfl, rfl⟩
          go_wp2
          refine wp_region_held_drew (S := (fun _ => True)) (by kernel_rfl) (trivial) (fun hH => ?_)
          refine take_run (i := 0) (v := ?_) (by decide) (by kernel_rfl) (by kernel_rfl) (by kernel_rfl) (fun c a w v h => q15 _ (by decide) c a w v h) hH rfl ?_ ?_
          rotate_left
          · (intro w hSw; (try dsimp only at hSw); (try go_split_ands); simp only [List.getElem_toArray, List.getElem_cons_zero]; go_simp; try with_reducible rfl)
          try simp (config := { failIfUnchanged := false }) only [Act.put, List.setIfInBounds_toArray, List.set_cons_zero, List.set_cons_succ, List.getElem_toArray, List.getElem_cons_zero, List.getElem_cons_succ]
          refine take_run (i := 2) (v := ?_) (by decide) (by kernel_rfl) (by kernel_rfl) (by kernel_rfl) (fun c a w v h => q15 _ (by decide) c a w v h) hH rfl ?_ ?_
          rotate_left
          · (intro w hSw; (try dsimp only at hSw); (try go_split_ands); simp only [List.getElem_toArray, List.getElem_cons_zero, List.getElem_cons_succ]; go_simp; try with_reducible rfl)
          try simp (config := { failIfUnchanged := false }) only [Act.put, List.setIfInBounds_toArray, List.set_cons_zero, List.set_cons_succ, List.getElem_toArray, List.getElem_cons_zero, List.getElem_cons_succ]
          refine take_two (i := 1) (j := 3) (by decide) (by decide) (by kernel_rfl) (fun K hK => ?_) (fun K hK => ?_)
          · simp only [List.getElem_toArray, List.getElem_cons_zero, List.getElem_cons_succ]
            go_simp
            refine hK.out _ _ (by trivial) (fun hH => ?_)
            clear hK K
            try simp (config := { failIfUnchanged := false }) only [Act.put, List.setIfInBounds_toArray, List.set_cons_zero, List.set_cons_succ, List.getElem_toArray, List.getElem_cons_zero, List.getElem_cons_succ]
            refine take_call (i := 3) (by decide) (by kernel_rfl) (fun K hK => ?_)
            simp only [List.getElem_toArray, List.getElem_cons_zero, List.getElem_cons_succ]
            go_simp
            go_at_call 46
            refine HC.out.mono ?_
            rintro e W1 ⟨ho1, rfl⟩
            exact leaves_bad (by first | exact e1 | rfl) rfl rfl rfl rfl (hstD.b0.grown ho1 (fun e => by injection e with e; omega)) (hstD.b1.grown ho1 (fun e => by injection e with e; omega)) (hstD.b2.grown ho1 (fun e => by injection e with e; omega)) (below_only hstD.hb ho1 (by omega) (rd_lt hstD.rd))
          · simp only [List.getElem_toArray, List.getElem_cons_zero, List.getElem_cons_succ]
            go_simp
            go_at_call 46
            refine HC.out.mono ?_
            rintro e W1 ⟨ho1, rfl⟩
            exact leaves_bad (by first | exact e1 | rfl) rfl rfl rfl rfl (hstD.b0.grown ho1 (fun e => by injection e with e; omega)) (hstD.b1.grown ho1 (fun e => by injection e with e; omega)) (hstD.b2.grown ho1 (fun e => by injection e with e; omega)) (below_only hstD.hb ho1 (by omega) (rd_lt hstD.rd))
  · have q0 := ieq_f he
    obtain ⟨A, c, rfl, hLm, -⟩ := slice_inv hl
    have e1 : r = (([], []), er, a) := by rw [HR.out]; exact parse_err HSC.out he
    subst e1
    have bmA := ((bm1.far (p := ⟨w.heap.size + 1, 0, none⟩) (by show w.heap.size ≠ w.heap.size + 1; omega) (.int .i64 er)).far (p := ⟨w.heap.size + 1 + 1, 0, none⟩) (by show w.heap.size ≠ w.heap.size + 1 + 1; omega) (.int .i64 a))
    have beA : Blk ((w1.setCell ⟨w.heap.size + 1, 0, none⟩ (.int .i64 er)).setCell ⟨w.heap.size + 1 + 1, 0, none⟩ (.int .i64 a)) (w.heap.size + 1) 27 #[.int .i64 er] := by simpa using ((be1.set_ 0 (.int .i64 er)).far (p := ⟨w.heap.size + 1 + 1, 0, none⟩) (by show w.heap.size + 1 ≠ w.heap.size + 1 + 1; omega) (.int .i64 a))
    have baA : Blk ((w1.setCell ⟨w.heap.size + 1, 0, none⟩ (.int .i64 er)).setCell ⟨w.heap.size + 1 + 1, 0, none⟩ (.int .i64 a)) (w.heap.size + 1 + 1) 3 #[.int .i64 a] := by simpa using (ba1.far (p := ⟨w.heap.size + 1, 0, none⟩) (by show w.heap.size + 1 + 1 ≠ w.heap.size + 1; omega) (.int .i64 er)).set_ 0 (.int .i64 a)
    have hbA := (hb1.setCell (p := ⟨w.heap.size + 1, 0, none⟩) (by show w.heap.size ≤ w.heap.size + 1; omega) (.int .i64 er)).setCell (p := ⟨w.heap.size + 1 + 1, 0, none⟩) (by show w.heap.size ≤ w.heap.size + 1 + 1; omega) (.int .i64 a)
    go_upto_region 3 with fail
    clear bm1 be1 ba1 hb1 cm0 cm1 ce ca fm0 fm1 fe fa
    generalize (w1.setCell ⟨w.heap.size + 1, 0, none⟩ (.int .i64 er)).setCell ⟨w.heap.size + 1 + 1, 0, none⟩ (.int .i64 a) = W2 at *
    have hbD : Below w.heap.size w W2.drew := hbA.drew
    have B0 : Blk W2.drew _ _ _ := bmA.drewN 1
    have B1 : Blk W2.drew _ _ _ := beA.drewN 1
    have B2 : Blk W2.drew _ _ _ := baA.drewN 1
    refine wp_region_held_drew (S := fun x => x.cell? ⟨w.heap.size, 0, none⟩ = some (.slice none 0 0) ∧ x.cell? ⟨w.heap.size, 1, none⟩ = some (.slice none 0 0) ∧ x.cell? ⟨w.heap.size + 1, 0, none⟩ = some (.int .i64 er) ∧ x.cell? ⟨w.heap.size + 1 + 1, 0, none⟩ = some (.int .i64 a) ∧ x.frozen? ⟨w.heap.size, 0, none⟩ = false ∧ x.frozen? ⟨w.heap.size, 1, none⟩ = false ∧ x.frozen? ⟨w.heap.size + 1, 0, none⟩ = false ∧ x.frozen? ⟨w.heap.size + 1 + 1, 0, none⟩ = false) (by kernel_rfl) (⟨B0.c20, B0.c21, B1.c0, B2.c0, B0.free 0, B0.free 1, B1.free 0, B2.free 0⟩) (fun hH => ?_)
    generalize W2.drew = W3 at *
    have gm0 := B0.c20
    have gm1 := B0.c21
    have ge := B1.c0
    have ga := B2.c0
    have hf0 := B0.free 0
    have hf1 := B0.free 1
    have hfe := B1.free 0
    have hfa := B2.free 0
    refine take_run (i := 0) (v := ?_) (by decide) (by kernel_rfl) (by kernel_rfl) (by kernel_rfl) (fun c a w v h => q15 _ (by decide) c a w v h) hH rfl ?_ ?_
    rotate_left
    · (intro w hSw; (try dsimp only at hSw); (try go_split_ands); simp only [List.getElem_toArray, List.getElem_cons_zero]; go_simp; try with_reducible rfl)
    try simp (config := { failIfUnchanged := false }) only [Act.put, List.setIfInBounds_toArray, List.set_cons_zero, List.set_cons_succ, List.getElem_toArray, List.getElem_cons_zero, List.getElem_cons_succ]
    refine take_run (i := 1) (v := ?_) (by decide) (by kernel_rfl) (by kernel_rfl) (by kernel_rfl) (fun c a w v h => q15 _ (by decide) c a w v h) hH rfl ?_ ?_
    rotate_left
    · (intro w hSw; (try dsimp only at hSw); (try go_split_ands); simp only [List.getElem_toArray, List.getElem_cons_zero, List.getElem_cons_succ]; go_simp; try with_reducible rfl)
    try simp (config := { failIfUnchanged := false }) only [Act.put, List.setIfInBounds_toArray, List.set_cons_zero, List.set_cons_succ, List.getElem_toArray, List.getElem_cons_zero, List.getElem_cons_succ]
    refine take_run (i := 2) (v := ?_) (by decide) (by kernel_rfl) (by kernel_rfl) (by kernel_rfl) (fun c a w v h => q15 _ (by decide) c a w v h) hH rfl ?_ ?_
    rotate_left
    · (intro w hSw; (try dsimp only at hSw); (try go_split_ands); simp only [List.getElem_toArray, List.getElem_cons_zero, List.getElem_cons_succ]; go_simp; try with_reducible rfl)
    try simp (config := { failIfUnchanged := false }) only [Act.put, List.setIfInBounds_toArray, List.set_cons_zero, List.set_cons_succ, List.getElem_toArray, List.getElem_cons_zero, List.getElem_cons_succ]
    refine take_call (i := 3) (by decide) (by kernel_rfl) (fun K hK => ?_)
    simp only [List.getElem_toArray, List.getElem_cons_zero, List.getElem_cons_succ]
    go_simp
    rw [set_same15 B0 rfl, set_same15 B0 rfl]
    refine hK.out _ _ (by exact ⟨gm0, gm1, ge, ga, hf0, hf1, hfe, hfa⟩) (fun hH => ?_)
    clear hK K
    try simp (config := { failIfUnchanged := false }) only [Act.put, List.setIfInBounds_toArray, List.set_cons_zero, List.set_cons_succ, List.getElem_toArray, List.getElem_cons_zero, List.getElem_cons_succ]
    refine take_call (i := 4) (by decide) (by kernel_rfl) (fun K hK => ?_)
    simp only [List.getElem_toArray, List.getElem_cons_zero, List.getElem_cons_succ]
    go_simp
    rw [set_same15 B1 rfl]
    refine hK.out _ _ (by exact ⟨gm0, gm1, ge, ga, hf0, hf1, hfe, hfa⟩) (fun hH => ?_)
    clear hK K
    try simp (config := { failIfUnchanged := false }) only [Act.put, List.setIfInBounds_toArray, List.set_cons_zero, List.set_cons_succ, List.getElem_toArray, List.getElem_cons_zero, List.getElem_cons_succ]
    refine take_call (i := 5) (by decide) (by kernel_rfl) (fun K hK => ?_)
    simp only [List.getElem_toArray, List.getElem_cons_zero, List.getElem_cons_succ]
    go_simp
    rw [set_same15 B2 rfl]
    refine hK.out _ _ (by exact ⟨gm0, gm1, ge, ga, hf0, hf1, hfe, hfa⟩) (fun hH => ?_)
    clear hK K
    try simp (config := { failIfUnchanged := false }) only [Act.put, List.setIfInBounds_toArray, List.set_cons_zero, List.set_cons_succ, List.getElem_toArray, List.getElem_cons_zero, List.getElem_cons_succ]
    refine wpAnyH_done (by kernel_rfl) ?_ _
    go_wp2
    exact ⟨_, results15 rfl rfl rfl B0 B1 B2, _, _, rfl, ⟨_, _, rfl, Rep.slice_nil _ _ _, Rep.slice_nil _ _ _⟩, hbD⟩
end Go.Proofs.YtacbmmnipedpdaaDoor
