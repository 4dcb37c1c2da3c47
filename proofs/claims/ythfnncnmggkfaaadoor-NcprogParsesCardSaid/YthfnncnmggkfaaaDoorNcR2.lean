/- Chapter 27: the reference's Parse, by walking its text. -/
import Derived.Test.YthfnncnmggkfaaaDoorLexW3M
import Derived.Test.YthfnncnmggkfaaaDoorNcAvM
import Derived.Test.YthfnncnmggkfaaaDoorLexR6M
namespace Go.Proofs.YthfnncnmggkfaaaDoor
open Go Go.RowKit

theorem ptI_x {l : List Lx} {i : Nat} {vx er : Int} (h : coF 88 (lxAt l i) = (vx, er)) (hn : er ≠ 0) : ptI l i = ((0, 0), er, i) := by
  unfold ptI; rw [h, if_pos hn]
theorem ptI_y {l : List Lx} {i : Nat} {vx vy er : Int} (h : coF 88 (lxAt l i) = (vx, 0)) (h2 : coF 89 (lxAt l (i + 1)) = (vy, er)) (hn : er ≠ 0) : ptI l i = ((vx, 0), er, i + 1) := by
  unfold ptI; rw [h, h2, if_neg (by simp), if_pos hn]
theorem ptI_v {l : List Lx} {i : Nat} {vx vy : Int} (h : coF 88 (lxAt l i) = (vx, 0)) (h2 : coF 89 (lxAt l (i + 1)) = (vy, 0)) : ptI l i = ((vx, vy), 0, i + 2) := by
  unfold ptI; rw [h, h2, if_neg (by simp), if_neg (by simp)]
set_option maxRecDepth 100000 in
set_option maxHeartbeats 8000000 in
theorem refParse27_any (s : ByteArray) (w : World) (hz : s.size ≤ 140737488350000) : Calls Tryd.prog 19 #[.string s] w (ParsePost (parseF s.data.toList) w) := by
  obtain ⟨⟨lx, er, at_⟩, hsc⟩ : ∃ r, scanS s.data.toList = r := ⟨_, rfl⟩
  have hends := scanS_ends (D := s.data.toList)
  have hcnt := scanS_cnt (D := s.data.toList)
  have HPF : Hid (parseF s.data.toList = if er ≠ 0 then ([], er, at_) else parI lx lx.length 0 []) := by show _ = _; unfold parseF; rw [hsc]
  have HSC : Hid (Calls Tryd.prog 39 #[.string s] w (ScPost lx er at_ w)) := (refScan_any s w hz).mono fun e w' ⟨v, h1, h2, h3⟩ => by
    rw [hsc] at h1 h2
    exact ⟨v, h1, h2, h3⟩
  rw [hsc] at hends hcnt
  by_cases he : er = 0
  · have hE : Ends lx := hends he
    have hcl : lx.length ≤ 16385 := hcnt he
    have heb : (er != 0) = false := ine_f he
    obtain ⟨R, hR⟩ : ∃ R, parseF s.data.toList = R := ⟨_, rfl⟩
    rw [hR]
    have HR : Hid (parI lx lx.length 0 [] = R) := by show _ = _; rw [← hR, HPF.out, if_neg (by simp [he])]
    have HEN := Lib.hid hE
    obtain ⟨i0, hinf, hz0, hz1', hz2'⟩ := info_parts step_info
    subst he
    clear hsc hends hcnt HPF hE hR
    go_enter Tryd.func19, Tryd.ntmps19
    go_wp2_with fail
    refine HSC.out.mono ?_
    rintro e w1 ⟨v, he, hl, hbw1⟩
    subst he
    obtain ⟨L, cp, rfl, hm, -⟩ := slice_inv hl
    go_wp2
    go_loopg [8, 9] lx.length (fun g vv iv wr => ∃ (i : Nat) (acc : List Stp), lx.length ≤ i + g ∧ i < lx.length ∧ acc.length + g ≤ lx.length ∧ iv = .int .i64 i ∧ OwnS wr w1.heap.size vv acc ∧ Hid (parI lx g i acc = R) ∧ Hid (∀ x ∈ acc, inI64 x.1 ∧ inI64 x.2.1 ∧ inI64 x.2.2) ∧ Below w1.heap.size w1 wr)
    case atStart => exact ⟨0, [], by omega, HEN.out.ne, by simp, rfl, World.ownsRow_nil _ _ _ _, HR.out, (fun x hx => by cases hx), Below.refl _ _⟩
    case round =>
      obtain ⟨i, acc, hig, hi, hag, rfl, hown, hPI, hBD, hb⟩ := hrel
      have hz := hb.size
      have hgk : 0 < gk := by omega
      obtain ⟨b, off, x1, x2, x3, x4, rfl, hx, hbD, c0, c1, c2, c3⟩ := nlx_at (Rep.at_ hl hb) hi
      have hiI : (i : Int) < (lx.length : Int) := by omega
      have hbl : b < wr.heap.size := Nat.lt_of_lt_of_le hbD hz
      by_cases hk : x1 = 0
      · have hkb : (x1 != 0) = false := ine_f hk
        have HRR := Lib.hid (parI_stop hPI.out hgk (by rw [hx.out]; exact hk))
        have hrep := own_steps hown hBD.out
        clear hk hPI
        go_wp2
        go_ret3
        rw [HRR.out]
        exact ⟨_, rfl, hrep, hbw1.trans (hb.mono hbw1.size)⟩
      · have hkb : (x1 != 0) = true := ine_t hk
        have hk0 : (lxAt lx i).1 ≠ 0 := by rw [hx.out]; exact hk
        have HGO := Lib.hid (stepI_go HEN.out hi hk0)
        have HBAD := Lib.hid (fun h => parI_bad hPI.out hgk hk0 h)
        have HNEXT := Lib.hid (fun h => parI_next hPI.out hgk hk0 h)
        have hi1 := HEN.out.more i hi hk0
        have HOP := Lib.hid (fun W => refOp_any x1 x2 x3 x4 W)
        obtain ⟨op, hop⟩ : ∃ op, opF (x1, x2, x3, x4) = op := ⟨_, rfl⟩
        have HOF : Hid (opF (lxAt lx i) = op) := by show _ = _; rw [hx.out]; exact hop
        rw [hop] at HOP
        clear hk hk0 hPI hop
        by_cases ho : op = 0
        · have HST : Hid (stepI lx i = ((0, (0, 0)), 5, i)) := by show _ = _; unfold stepI; rw [HOF.out, if_pos ho]
          have HOP2 : Hid (∀ W, Calls Tryd.prog 40 #[.agg #[.int .i64 x1, .string ⟨x2.toArray⟩, .int .i64 x3, .int .i64 x4]] W (Two2 0 5 W)) := fun W => by have := HOP.out W; rw [if_pos ho, ho] at this; exact this
          clear HOP ho
          go_wp2_with fail
          refine (HOP2.out _).mono ?_
          rintro e W1 ⟨rfl, hq⟩
          have hb1 := bstep hb hz hq
          have c3 := ((bcell hq).1 b (off + i * 4 + 3) hbl).trans c3
          clear c0 c1 c2 hq
          have HRR : Hid (R = ([], 5, x4)) := by
            have h := HBAD.out (by rw [HST.out]; exact (by decide : (5 : Int) ≠ 0))
            rw [HST.out] at h
            rw [h]
            show _ = _
            rw [hx.out]
          go_wp2
          go_quiet (fail)
          go_wp2
          go_ret3
          rw [HRR.out]
          exact ⟨_, rfl, Rep.slice_nil _ _ _, below_drewN (hbw1.trans (hb1.mono hbw1.size)) _⟩
        · have HOP2 : Hid (∀ W, Calls Tryd.prog 40 #[.agg #[.int .i64 x1, .string ⟨x2.toArray⟩, .int .i64 x3, .int .i64 x4]] W (Two2 op 0 W)) := fun W => by have := HOP.out W; rw [if_neg ho] at this; exact this
          clear HOP
          go_wp2_with fail
          refine (HOP2.out _).mono ?_
          rintro e W1 ⟨rfl, hq⟩
          have hb1 := bstep hb hz hq
          have hown1 := own_below hown hq
          have hb2 := hb1.alloc hb1.size (.cells #[.int .i64 op, .int .i64 0, .int .i64 0] 49)
          have hown2 := World.ownsRow.alloc hown1 (.cells #[.int .i64 op, .int .i64 0, .int .i64 0] 49)
          have BX2 := Blk.new W1 49 #[.int .i64 op, .int .i64 0, .int .i64 0]
          have HLTO0 := Lib.hid (fun g hg => (World.ownsRow.lt hown1 g hg).2)
          have HGX0 := Lib.hid hb1.size
          have HX := Lib.hid (And.intro hb2 (And.intro hown2 BX2))
          clear hq hown hb hown1 hown2 hb2 BX2 c0 c1 c2 c3 hz
          by_cases h13 : op = 1 ∨ op = 3
          · have HST : Hid (stepI lx i = if (ptI lx (i + 1)).2.1 ≠ 0 then ((0, (0, 0)), (ptI lx (i + 1)).2.1, (ptI lx (i + 1)).2.2) else endI (op, (ptI lx (i + 1)).1) lx (i + 3)) := by
              show _ = _
              unfold stepI
              rw [HOF.out, if_neg ho, if_pos h13]
            go_upto_region 12 with fail
            go_cut [54] (fun s54 wx => s54 = .bool true ∧ wx = W1.alloc (.cells #[.int .i64 op, .int .i64 0, .int .i64 0] 49))
            case first =>
              rcases (show op = 1 ∨ (op ≠ 1 ∧ op = 3) from by omega) with h1 | ⟨h1, h3⟩
              · have h1b : (op == 1) = true := ieq_t h1
                clear h13 ho h1
                go_wp2
                go_meet
                exact ⟨rfl, rfl⟩
              · have h1b : (op == 1) = false := ieq_f h1
                have h3b : (op == 3) = true := ieq_t h3
                clear h13 ho h1 h3
                go_wp2
                go_meet
                exact ⟨rfl, rfl⟩
            case rest =>
              obtain ⟨rfl, rfl⟩ := hcut
              clear h13 ho
              obtain ⟨hb2, hown2, BX2⟩ := HX.out
              obtain ⟨gx, hgx⟩ : ∃ g, g = W1.heap.size := ⟨_, rfl⟩
              have HLTO : Hid (∀ g, u8.ownBlock = some g → g < gx) := fun g hg => by rw [hgx]; exact HLTO0.out g hg
              have HGX : Hid (w1.heap.size ≤ gx) := by show _ ≤ _; rw [hgx]; exact HGX0.out
              rw [← hgx] at BX2 ⊢
              generalize W1.alloc (.cells #[.int .i64 op, .int .i64 0, .int .i64 0] 49) = W2 at *
              clear hgx HX
              have hz2 := hb2.size
              obtain ⟨b', off', y1, y2, y3, y4, e', hy, -, m0, m1, m2, m3⟩ := nlx_at (Rep.at_ hl hb2) hi1
              injection e' with e'
              injection e' with e5 e6 _
              subst e5 e6
              have hyI : (i : Int) + 1 < (lx.length : Int) := by omega
              have hn1 : y1 = 1 → y2 ≠ [] ∧ y2.length ≤ 16 := fun h => by have := HEN.out.name (i + 1) hi1 (by rw [hy.out]; exact h); rw [hy.out] at this; exact this
              have HCX := Lib.hid (fun W => refCo_any 88 y1 y2 y3 y4 W hn1)
              obtain ⟨⟨vx, er⟩, hvx⟩ : ∃ r, coF 88 (y1, y2, y3, y4) = r := ⟨_, rfl⟩
              have HVX : Hid (coF 88 (lxAt lx (i + 1)) = (vx, er)) := by show _ = _; rw [hy.out]; exact hvx
              rw [hvx] at HCX
              clear hvx hn1
              go_wp2_with fail
              refine (HCX.out _).mono ?_
              rintro e W3 ⟨he, hq⟩
              have he : e = .returned (.tuple #[.int .i64 vx, .int .i64 er]) := he
              subst he
              have hsz3 := hq.size
              have BX3 : Blk (W3.setCell ⟨gx, 1, none⟩ (.int .i64 vx)) gx 49 #[.int .i64 op, .int .i64 vx, .int .i64 0] := (BX2.below hq BX2.lt).set_ 1 (.int .i64 vx)
              have hown3 : OwnS (W3.setCell ⟨gx, 1, none⟩ (.int .i64 vx)) w1.heap.size u8 acc := own_keep (own_below hown2 hq) (fun g hg => Below.heap_setCell W3 ⟨gx, 1, none⟩ _ g (Nat.ne_of_lt (HLTO.out g hg)))
              have hb3 := (bstep hb2 hz2 hq).setCell (p := ⟨gx, 1, none⟩) HGX.out (.int .i64 vx)
              have BX3' := BX2.below hq BX2.lt
              have s1 := BX3'.cell 1
              simp only [List.getElem?_toArray, List.getElem?_cons_zero, List.getElem?_cons_succ] at s1
              have sf1 := BX3'.free 1
              have m3 := (hb3.cell (p := ⟨b, off + (i + 1) * 4 + 3, none⟩) hbD).trans ((hb2.cell (p := ⟨b, off + (i + 1) * 4 + 3, none⟩) hbD).symm.trans m3)
              clear hq BX2 hown2 m0 m1 m2 BX3' HCX
              by_cases her : er = 0
              · have heb1 : (er != 0) = false := ine_f her
                have hky := coF_kind (c := 88) (x := lxAt lx (i + 1)) (by rw [HVX.out]; exact her)
                have hi2 := HEN.out.more (i + 1) hi1 (by rw [hky]; decide)
                have HBX3 := Lib.hid (And.intro BX3 (And.intro hown3 hb3))
                subst her
                clear hky BX3 hown3 hb3
                go_upto_region 17 with fail
                obtain ⟨BX3, hown3, hb3⟩ := HBX3.out
                have hgx4 : gx < (W3.setCell ⟨gx, 1, none⟩ (.int .i64 vx)).heap.size := BX3.lt
                generalize W3.setCell ⟨gx, 1, none⟩ (.int .i64 vx) = W4 at *
                have hb4 := hb3
                have hz4 := hb4.size
                clear s1 sf1 m3 HBX3 hb3 hb2 hz2
                obtain ⟨b', off', u1, u2, u3, u4, e', hu, -, q0, q1, q2, q3⟩ := nlx_at (Rep.at_ hl hb4) hi2
                injection e' with e'
                injection e' with e5 e6 _
                subst e5 e6
                have huI : (i : Int) + 1 + 1 < (lx.length : Int) := by omega
                have hn2 : u1 = 1 → u2 ≠ [] ∧ u2.length ≤ 16 := fun h => by have := HEN.out.name (i + 1 + 1) hi2 (by rw [hu.out]; exact h); rw [hu.out] at this; exact this
                have HCY := Lib.hid (fun W => refCo_any 89 u1 u2 u3 u4 W hn2)
                obtain ⟨⟨vy, er2⟩, hvy⟩ : ∃ r, coF 89 (u1, u2, u3, u4) = r := ⟨_, rfl⟩
                have HVY : Hid (coF 89 (lxAt lx (i + 1 + 1)) = (vy, er2)) := by show _ = _; rw [hu.out]; exact hvy
                rw [hvy] at HCY
                clear hvy hn2
                go_wp2_with fail
                refine (HCY.out _).mono ?_
                rintro e W5 ⟨he, hq⟩
                have he : e = .returned (.tuple #[.int .i64 vy, .int .i64 er2]) := he
                subst he
                have BX5' := BX3.below hq BX3.lt
                have BX5 : Blk (W5.setCell ⟨gx, 2, none⟩ (.int .i64 vy)) gx 49 #[.int .i64 op, .int .i64 vx, .int .i64 vy] := BX5'.set_ 2 (.int .i64 vy)
                have hown5 : OwnS (W5.setCell ⟨gx, 2, none⟩ (.int .i64 vy)) w1.heap.size u8 acc := own_keep (own_below hown3 hq) (fun g hg => Below.heap_setCell W5 ⟨gx, 2, none⟩ _ g (Nat.ne_of_lt (HLTO.out g hg)))
                have hb5 := (bstep hb4 hz4 hq).setCell (p := ⟨gx, 2, none⟩) HGX.out (.int .i64 vy)
                have s2 := BX5'.cell 2
                simp only [List.getElem?_toArray, List.getElem?_cons_zero, List.getElem?_cons_succ] at s2
                have sf2 := BX5'.free 2
                have q3 := (hb5.cell (p := ⟨b, off + (i + 1 + 1) * 4 + 3, none⟩) hbD).trans ((hb4.cell (p := ⟨b, off + (i + 1 + 1) * 4 + 3, none⟩) hbD).symm.trans q3)
                clear hq BX3 hown3 q0 q1 q2 BX5' HCY
                by_cases her2 : er2 = 0
                · have heb2 : (er2 != 0) = false := ine_f her2
                  have hku := coF_kind (c := 89) (x := lxAt lx (i + 1 + 1)) (by rw [HVY.out]; exact her2)
                  have hi3 := HEN.out.more (i + 1 + 1) hi2 (by rw [hku]; decide)
                  have HEND : Hid (stepI lx i = endI (op, (vx, vy)) lx (i + 1 + 1 + 1)) := by
                    show _ = _
                    rw [HST.out, ptI_v HVX.out (by rw [← her2]; exact HVY.out), if_neg (by simp)]
                  have HBX5 := Lib.hid (And.intro BX5 (And.intro hown5 hb5))
                  subst her2
                  clear hku BX5 hown5 hb5 hb4 hz4
                  go_upto_region 21 with fail
                  obtain ⟨BXk, hownk, hbk⟩ := HBX5.out
                  generalize W5.setCell ⟨gx, 2, none⟩ (.int .i64 vy) = Wk at *
                  clear s2 sf2 q3 HBX5
                  obtain ⟨b', off', z1, z2, z3, z4, e', hz, -, n0, n1, n2, n3⟩ := nlx_at (Rep.at_ hl hbk) hi3
                  injection e' with e'
                  injection e' with e5 e6 _
                  subst e5 e6
                  have hkI : ((i : Int) + 1 + 1 + 1 : Int) < (lx.length : Int) := by omega
                  have HSB : Hid (semiB (lxAt lx (i + 1 + 1 + 1)) = decide (z1 = 4 ∧ z2 = [59])) := by show _ = _; rw [hz.out]; rfl
                  by_cases hz1 : z1 = 4
                  · have hzb : (z1 != 4) = false := ine_f hz1
                    by_cases hz2 : z2 = [59]
                    · have HST2 : Hid (stepI lx i = ((op, (vx, vy)), 0, (i + 1 + 1 + 1) + 1)) := by
                        show _ = _
                        rw [HEND.out]
                        unfold endI
                        rw [HSB.out, if_pos (decide_eq_true ⟨hz1, hz2⟩)]
                      have HN0 := HNEXT.out (by rw [HST2.out])
                      rw [HST2.out] at HN0
                      have HN := Lib.hid HN0
                      clear HN0
                      have hgo2 := HGO.out
                      rw [HST2.out] at hgo2
                      have hjl : (i + 1 + 1 + 1) + 1 < lx.length := hgo2.1
                      have hO1 : Hid (inI64 op ∧ inI64 vx ∧ inI64 vy) := by
                        obtain ⟨⟨a1, a2⟩, ⟨a3, a4⟩, a5, a6⟩ := hgo2.2.2
                        simp only [] at a1 a2 a3 a4 a5 a6
                        unfold inI64
                        exact ⟨⟨by omega, by omega⟩, ⟨by omega, by omega⟩, by omega, by omega⟩
                      have s0 := BXk.cell 0
                      have s1 := BXk.cell 1
                      have s2 := BXk.cell 2
                      simp only [List.getElem?_toArray, List.getElem?_cons_zero, List.getElem?_cons_succ] at s0 s1 s2
                      subst hz2
                      have hzl : ([59] == [59]) = true := by decide
                      have HBk := Lib.hid hbk
                      clear hz1 hgo2
                      go_wp2_with (at_builtin; refine wpList_append_own _ rfl _ _ 26 rfl w1.heap.size 49 i0 (.agg #[.int .i64 0, .int .i64 0, .int .i64 0]) 3 24 Tryd.underlying26 hinf hz0 hz1' hz2' rfl (by decide) _ _ _ rfl (World.ownsRow.alloc hownk _) ⟨Wk.heap.size, 0, none⟩ 1 1 [.int .i64 op, .int .i64 vx, .int .i64 vy] (by rfl) rfl (new_cells Wk _ _) (nc_three_one _ _ _) (by unfold maxLen; omega) (by omega) (by have := HBk.out.size; simp; omega) ?_; intro v8 w8 hown8 hg8 _)
                      have hb8 := (HBk.out.alloc HBk.out.size (.cells #[.int .i64 op, .int .i64 vx, .int .i64 vy] 49)).grown hg8 (by have := HBk.out.size; simp; omega) (fun j hj => (World.ownsRow.lt hownk j hj).1)
                      have hown9 : OwnS w8 w1.heap.size v8 (acc ++ [(op, (vx, vy))]) := ownS_app (ys := [(op, (vx, vy))]) hown8
                      go_roundg (gk - 1)
                      case measure => omega
                      case rel =>
                        refine ⟨(i + 1 + 1 + 1) + 1, acc ++ [(op, (vx, vy))], by omega, hjl, by simp; omega, by go_num, hown9, HN.out, fun x hx => ?_, hb8⟩
                        rcases List.mem_append.1 hx with h | h
                        · exact hBD.out x h
                        · rw [List.mem_singleton.1 h]; exact hO1.out
                    · have HST2 : stepI lx i = ((0, (0, 0)), 5, (i + 1 + 1 + 1)) := by
                        rw [HEND.out]
                        unfold endI
                        rw [HSB.out, if_neg (by simp [hz2])]
                      have hzl : (z2 == [59]) = false := beq_eq_false_iff_ne.2 hz2
                      have HST3 := Lib.hid HST2
                      clear HST2 hz1 hz2
                      have HRR : Hid (R = ([], 5, z4)) := by
                        have h := HBAD.out (by rw [HST3.out]; exact (by decide : (5 : Int) ≠ 0))
                        rw [HST3.out] at h
                        rw [h]
                        show _ = _
                        rw [hz.out]
                      go_wp2
                      go_quiet (fail)
                      go_wp2
                      go_ret3
                      rw [HRR.out]
                      exact ⟨_, rfl, Rep.slice_nil _ _ _, below_drewN (hbw1.trans (hbk.mono hbw1.size)) _⟩
                  · have hzb : (z1 != 4) = true := ine_t hz1
                    have HST2 : stepI lx i = ((0, (0, 0)), 5, (i + 1 + 1 + 1)) := by
                      rw [HEND.out]
                      unfold endI
                      rw [HSB.out, if_neg (by simp [hz1])]
                    have HST3 := Lib.hid HST2
                    clear HST2 hz1
                    have HRR : Hid (R = ([], 5, z4)) := by
                      have h := HBAD.out (by rw [HST3.out]; exact (by decide : (5 : Int) ≠ 0))
                      rw [HST3.out] at h
                      rw [h]
                      show _ = _
                      rw [hz.out]
                    go_wp2
                    go_quiet (fail)
                    go_wp2
                    go_ret3
                    rw [HRR.out]
                    exact ⟨_, rfl, Rep.slice_nil _ _ _, below_drewN (hbw1.trans (hbk.mono hbw1.size)) _⟩
                · have heb2 : (er2 != 0) = true := ine_t her2
                  have HERN2 := Lib.hid her2
                  have HSTY : Hid (stepI lx i = ((0, (0, 0)), er2, i + 1 + 1)) := by
                    show _ = _
                    rw [HST.out, ptI_y HVX.out HVY.out her2, if_pos her2]
                  clear her2
                  have HRR : Hid (R = ([], er2, u4)) := by
                    have h := HBAD.out (by rw [HSTY.out]; exact HERN2.out)
                    rw [HSTY.out] at h
                    rw [h]
                    show _ = _
                    rw [hu.out]
                  go_wp2
                  go_quiet (fail)
                  go_wp2
                  go_ret3
                  rw [HRR.out]
                  exact ⟨_, rfl, Rep.slice_nil _ _ _, below_drewN (hbw1.trans (hb5.mono hbw1.size)) _⟩
              · have heb1 : (er != 0) = true := ine_t her
                have HERN := Lib.hid her
                have HSTX : Hid (stepI lx i = ((0, (0, 0)), er, i + 1)) := by
                  show _ = _
                  rw [HST.out, ptI_x HVX.out her, if_pos her]
                clear her
                have HRR : Hid (R = ([], er, y4)) := by
                  have h := HBAD.out (by rw [HSTX.out]; exact HERN.out)
                  rw [HSTX.out] at h
                  rw [h]
                  show _ = _
                  rw [hy.out]
                go_wp2
                go_quiet (fail)
                go_wp2
                go_ret3
                rw [HRR.out]
                exact ⟨_, rfl, Rep.slice_nil _ _ _, below_drewN (hbw1.trans (hb3.mono hbw1.size)) _⟩
          · have HEND : Hid (stepI lx i = endI (op, (0, 0)) lx (i + 1)) := by
              show _ = _
              unfold stepI
              rw [HOF.out, if_neg ho, if_neg h13]
            have h1b : (op == 1) = false := ieq_f (fun h => h13 (.inl h))
            have h3b : (op == 3) = false := ieq_f (fun h => h13 (.inr h))
            clear h13 ho
            go_upto_region 21 with fail
            obtain ⟨hbk, hownk, BX2⟩ := HX.out
            obtain ⟨gx, hgx⟩ : ∃ g, g = W1.heap.size := ⟨_, rfl⟩
            rw [← hgx] at BX2 ⊢
            generalize W1.alloc (.cells #[.int .i64 op, .int .i64 0, .int .i64 0] 49) = Wk at *
            obtain ⟨vx, hvx⟩ : ∃ v : Int, v = 0 := ⟨_, rfl⟩
            obtain ⟨vy, hvy⟩ : ∃ v : Int, v = 0 := ⟨_, rfl⟩
            have HEND : Hid (stepI lx i = endI (op, (vx, vy)) lx (i + 1)) := by show _ = _; rw [HEND.out, hvx, hvy]
            have BXk : Blk Wk gx 49 #[.int .i64 op, .int .i64 vx, .int .i64 vy] := by rw [hvx, hvy]; exact BX2
            clear hvx hvy hgx BX2 HX
            obtain ⟨b', off', z1, z2, z3, z4, e', hz, -, n0, n1, n2, n3⟩ := nlx_at (Rep.at_ hl hbk) hi1
            injection e' with e'
            injection e' with e5 e6 _
            subst e5 e6
            have hkI : ((i : Int) + 1 : Int) < (lx.length : Int) := by omega
            have HSB : Hid (semiB (lxAt lx (i + 1)) = decide (z1 = 4 ∧ z2 = [59])) := by show _ = _; rw [hz.out]; rfl
            by_cases hz1 : z1 = 4
            · have hzb : (z1 != 4) = false := ine_f hz1
              by_cases hz2 : z2 = [59]
              · have HST2 : Hid (stepI lx i = ((op, (vx, vy)), 0, (i + 1) + 1)) := by
                  show _ = _
                  rw [HEND.out]
                  unfold endI
                  rw [HSB.out, if_pos (decide_eq_true ⟨hz1, hz2⟩)]
                have HN0 := HNEXT.out (by rw [HST2.out])
                rw [HST2.out] at HN0
                have HN := Lib.hid HN0
                clear HN0
                have hgo2 := HGO.out
                rw [HST2.out] at hgo2
                have hjl : (i + 1) + 1 < lx.length := hgo2.1
                have hO1 : Hid (inI64 op ∧ inI64 vx ∧ inI64 vy) := by
                  obtain ⟨⟨a1, a2⟩, ⟨a3, a4⟩, a5, a6⟩ := hgo2.2.2
                  simp only [] at a1 a2 a3 a4 a5 a6
                  unfold inI64
                  exact ⟨⟨by omega, by omega⟩, ⟨by omega, by omega⟩, by omega, by omega⟩
                have s0 := BXk.cell 0
                have s1 := BXk.cell 1
                have s2 := BXk.cell 2
                simp only [List.getElem?_toArray, List.getElem?_cons_zero, List.getElem?_cons_succ] at s0 s1 s2
                subst hz2
                have hzl : ([59] == [59]) = true := by decide
                have HBk := Lib.hid hbk
                clear hz1 hgo2
                go_wp2_with (at_builtin; refine wpList_append_own _ rfl _ _ 26 rfl w1.heap.size 49 i0 (.agg #[.int .i64 0, .int .i64 0, .int .i64 0]) 3 24 Tryd.underlying26 hinf hz0 hz1' hz2' rfl (by decide) _ _ _ rfl (World.ownsRow.alloc hownk _) ⟨Wk.heap.size, 0, none⟩ 1 1 [.int .i64 op, .int .i64 vx, .int .i64 vy] (by rfl) rfl (new_cells Wk _ _) (nc_three_one _ _ _) (by unfold maxLen; omega) (by omega) (by have := HBk.out.size; simp; omega) ?_; intro v8 w8 hown8 hg8 _)
                have hb8 := (HBk.out.alloc HBk.out.size (.cells #[.int .i64 op, .int .i64 vx, .int .i64 vy] 49)).grown hg8 (by have := HBk.out.size; simp; omega) (fun j hj => (World.ownsRow.lt hownk j hj).1)
                have hown9 : OwnS w8 w1.heap.size v8 (acc ++ [(op, (vx, vy))]) := ownS_app (ys := [(op, (vx, vy))]) hown8
                go_roundg (gk - 1)
                case measure => omega
                case rel =>
                  refine ⟨(i + 1) + 1, acc ++ [(op, (vx, vy))], by omega, hjl, by simp; omega, by go_num, hown9, HN.out, fun x hx => ?_, hb8⟩
                  rcases List.mem_append.1 hx with h | h
                  · exact hBD.out x h
                  · rw [List.mem_singleton.1 h]; exact hO1.out
              · have HST2 : stepI lx i = ((0, (0, 0)), 5, (i + 1)) := by
                  rw [HEND.out]
                  unfold endI
                  rw [HSB.out, if_neg (by simp [hz2])]
                have hzl : (z2 == [59]) = false := beq_eq_false_iff_ne.2 hz2
                have HST3 := Lib.hid HST2
                clear HST2 hz1 hz2
                have HRR : Hid (R = ([], 5, z4)) := by
                  have h := HBAD.out (by rw [HST3.out]; exact (by decide : (5 : Int) ≠ 0))
                  rw [HST3.out] at h
                  rw [h]
                  show _ = _
                  rw [hz.out]
                go_wp2
                go_quiet (fail)
                go_wp2
                go_ret3
                rw [HRR.out]
                exact ⟨_, rfl, Rep.slice_nil _ _ _, below_drewN (hbw1.trans (hbk.mono hbw1.size)) _⟩
            · have hzb : (z1 != 4) = true := ine_t hz1
              have HST2 : stepI lx i = ((0, (0, 0)), 5, (i + 1)) := by
                rw [HEND.out]
                unfold endI
                rw [HSB.out, if_neg (by simp [hz1])]
              have HST3 := Lib.hid HST2
              clear HST2 hz1
              have HRR : Hid (R = ([], 5, z4)) := by
                have h := HBAD.out (by rw [HST3.out]; exact (by decide : (5 : Int) ≠ 0))
                rw [HST3.out] at h
                rw [h]
                show _ = _
                rw [hz.out]
              go_wp2
              go_quiet (fail)
              go_wp2
              go_ret3
              rw [HRR.out]
              exact ⟨_, rfl, Rep.slice_nil _ _ _, below_drewN (hbw1.trans (hbk.mono hbw1.size)) _⟩
  · have heb : (er != 0) = true := ine_t he
    have HRR : Hid (parseF s.data.toList = ([], er, at_)) := by show _ = _; rw [HPF.out, if_pos he]
    rw [HRR.out]
    clear hsc hends hcnt HPF he HRR
    go_enter Tryd.func19, Tryd.ntmps19
    go_wp2_with fail
    refine HSC.out.mono ?_
    rintro e w1 ⟨v, he, hl, hb1⟩
    subst he
    go_wp2
    go_ret3
    exact ⟨_, rfl, Rep.slice_nil _ _ _, hb1⟩
end Go.Proofs.YthfnncnmggkfaaaDoor
