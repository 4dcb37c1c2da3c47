/- TopPanels: the law's walk: the best sequence of panels is not longer than the given one, and no station works longer. -/
import Derived.Test.YtcnkocnajamclaaPnPlain2
import Derived.Test.YtcnkocnajamclaaOpenZ
namespace Go.Proofs.Ytcnkocnajamclaa
open Go Go.RowKit
set_option linter.unusedSimpArgs false

theorem opens_pi : Opens Try.prog 3 Rep.int := opens_int Try.underlying3
theorem opens_pints : Opens Try.prog 23 Rep.int.slice := opens_slice Try.underlying23 (by kernel_rfl) (by decide) opens_pi
theorem opens_pstr : Opens Try.prog 9 Rep.str := opens_str Try.underlying9
theorem opens_line : Opens Try.prog 25 lnR := opens_struct Try.underlying25 (tot := 4) (by kernel_rfl) (opensF_cons rfl (by kernel_rfl) opens_pints (opensF_cons rfl (by kernel_rfl) opens_pints (opensF_cons rfl (by kernel_rfl) opens_pints (opensF_last rfl (by kernel_rfl) opens_pints))))
theorem opens_panel : Opens Try.prog 65 pnR := opens_struct Try.underlying65 (tot := 6) (by kernel_rfl) (opensF_cons rfl (by kernel_rfl) opens_pstr (opensF_cons rfl (by kernel_rfl) opens_pi (opensF_cons rfl (by kernel_rfl) opens_pi (opensF_cons rfl (by kernel_rfl) opens_pi (opensF_cons rfl (by kernel_rfl) opens_pi (opensF_last rfl (by kernel_rfl) opens_pi))))))
theorem opens_panels : Opens Try.prog 22 pnsR := opens_slice Try.underlying22 (by kernel_rfl) (by decide) opens_panel
theorem opensZ_panels : OpensZ Try.prog 22 pnsR (fun _ => True) := opensZ_of opens_panels
theorem opensZ_line : OpensZ Try.prog 25 lnR (fun _ => True) := opensZ_of opens_line

set_option maxRecDepth 100000 in
set_option maxHeartbeats 4000000 in
theorem panels_law (vl : Value) (cs : Array Value) (l : List Pn) (x : Ln) (w : World) (hl : pnsR.R w (Lt w) l [vl]) (hx : lnR.R w (Lt w) x cs.toList) :
    Calls Try.prog 3 #[vl, .agg cs] w (Ret (.bool true) w) := by
  obtain ⟨P, np, rfl, -, -⟩ := slice_inv hl
  obtain ⟨A, B, C, D, a, b, c, d, hcs, hxx⟩ := ln_inv hx
  clear hx
  subst hcs
  have hx := hxx
  clear hxx
  by_cases h6 : 6 < l.length
  · have h6' : 6 < (l.length : Int) := by omega
    clear h6 hl hx
    go_enter Try.func3, Try.ntmps3
    go_wp2
    go_ret
    exact ⟨rfl, (Below.refl _ _).alloc (Nat.le_refl _) _⟩
  have h6' : ¬ 6 < (l.length : Int) := by omega
  have H6 : Hid (l.length ≤ 6) := by show _ ≤ _; omega
  obtain ⟨W, hW⟩ : ∃ W, W = w.alloc (.cells (lnA x A B C D a b c d) 25) := ⟨_, rfl⟩
  have hb0 : Below w.heap.size w W := by rw [hW]; exact (Below.refl w.heap.size w).alloc (Nat.le_refl _) _
  have bx : Blk W w.heap.size 25 (lnA x A B C D a b c d) := by rw [hW]; exact Blk.new _ _ _
  have HXL := Lib.hid (hx.below hb0)
  have HPN := Lib.hid (Rep.below hl hb0)
  have CL := Lib.hid (rfLine_any A B C D a b c d x W (hx.below hb0))
  obtain ⟨le, hle⟩ : ∃ le, lineF x = le := ⟨_, rfl⟩
  rw [hle] at CL
  have s0 := bx.cell 0
  have s1 := bx.cell 1
  have s2 := bx.cell 2
  have s3 := bx.cell 3
  have HBX := Lib.hid bx
  have HB0 := Lib.hid hb0
  clear h6 hx hl bx hb0
  by_cases hl0 : le = 0
  · subst hl0
    have HL := Lib.hid (line_ok hle)
    have CP := Lib.hid (pnPlan_any P np A B C D a b c d l x)
    clear hle
    unfold lnA at s0 s1 s2 s3 CL hW CP ⊢
    go_enter Try.func3, Try.ntmps3
    go_wp2_with fail
    rw [← hW]
    refine CL.out.mono ?_
    rintro e w1 ⟨rfl, hb1⟩
    have HB1 := Lib.hid (bstep HB0.out HB0.out.size hb1)
    have hbx := HBX.out.below hb1 HBX.out.lt
    unfold lnA at hbx
    have CP := Lib.hid (CP.out w1 (Rep.below HPN.out hb1) (HXL.out.below hb1) HL.out H6.out)
    have HX1 := Lib.hid (HXL.out.below hb1)
    have HP1 := Lib.hid (Rep.below HPN.out hb1)
    have HBZ := Lib.hid hbx
    have t0 := hbx.cell 0
    have t1 := hbx.cell 1
    have t2 := hbx.cell 2
    have t3 := hbx.cell 3
    clear hb1 hbx s0 s1 s2 s3 hW CL
    go_wp2_with fail
    refine CP.out.mono ?_
    rintro e w2 ⟨v2, m, n, rfl, hb2, hn, hbad, hgood⟩
    have HB2 := Lib.hid (bstep HB1.out HB1.out.size hb2)
    have hbx := HBZ.out.below hb2 HBZ.out.lt
    have HX2 := Lib.hid (HX1.out.below hb2)
    have HP2 := Lib.hid (Rep.below HP1.out hb2)
    have HBZ := Lib.hid hbx
    clear t0 t1 t2 t3
    have t0 := hbx.cell 0
    have t1 := hbx.cell 1
    have t2 := hbx.cell 2
    have t3 := hbx.cell 3
    clear hb2 hbx CP
    by_cases hn0 : n = 0
    · obtain ⟨hm, A2, c2, rfl⟩ := hgood hn0
      subst hn0
      have HPL := Lib.hid (planned H6.out hn.symm)
      rw [← hm] at HPL
      have CJ := Lib.hid (pnJobs_any P np A B C D a b c d l x w2 HP2.out HX2.out HL.out H6.out)
      unfold lnA at CJ
      clear hn hbad hgood hm
      go_wp2_with fail
      refine CJ.out.mono ?_
      rintro e w3 ⟨v3, n3, rfl, hb3, hif⟩
      rw [if_pos HPL.out.pan] at hif
      obtain ⟨rfl, B3, hB3, hrw⟩ := hif
      obtain ⟨R, cr, hv⟩ := hrw.form
      rw [List.length_map] at hv
      subst hv
      have HRW : Hid (rowsR.R w3 (Lt w3) (rowsF l x) [.slice R l.length cr]) := hrw.rep
      have HB3 := Lib.hid (bstep HB2.out HB2.out.size hb3)
      have q0 := beq_self_int (l.length : Int)
      clear hb3 hrw hB3 t0 t1 t2 t3 CJ
      obtain ⟨i0, hi0, hz0, hz1, hz2⟩ := info_parts fl_int_info
      go_wp2_with fail
      go_loopw [13, 14] (fun v iv wr => ∃ k : Nat, k ≤ l.length ∧ iv = .int .i64 k ∧ Hid (Below w3.heap.size w3 wr) ∧ Hid (wr.ownsRow w3.heap.size 3 1 v k ((jobsL k).map (Value.int .i64)))) (fun _ iv _ => l.length - (intOf iv).toNat)
      case atStart => exact ⟨0, Nat.zero_le _, rfl, Below.refl _ _, World.ownsRow_nil _ _ _ _⟩
      case round =>
        obtain ⟨k, hk, rfl, hbw, hown⟩ := hrel
        by_cases hlt : k < l.length
        · have hlt' : (k : Int) < (l.length : Int) := by omega
          have hz := hbw.out.size
          have h6 := H6.out
          go_wp2_with (at_builtin; refine wpList_append_own _ rfl _ _ 23 rfl w3.heap.size 3 i0 (.int .i64 0) 1 8 Try.underlying23 hi0 hz0 hz1 hz2 rfl (by decide) _ _ _ rfl (World.ownsRow.alloc hown.out _) ⟨wr.heap.size, 0, none⟩ 1 1 [.int .i64 k] rfl rfl (new1_cells _ _ _) (one_oneCell rfl) (by unfold maxLen; omega) (by omega) (by simp; omega) ?_; intro v4 w4 hown2 hg2 _)
          have hbw4 : Hid (Below w3.heap.size w3 w4) := (hbw.out.alloc hz _).grown hg2 (by simp; omega) (fun j hj => (World.ownsRow.lt hown.out j hj).1)
          have hown4 : Hid (w4.ownsRow w3.heap.size 3 1 v4 (k + 1) ((jobsL (k + 1)).map (Value.int .i64))) := by rw [jobsL_succ, List.map_append]; exact hown2
          have HR4 : Hid (rowsR.R w4 (Lt w4) (rowsF l x) [.slice R l.length cr]) := Rep.below HRW.out hbw4.out
          obtain ⟨bi, oi, ri, RI, ci, rfl, gi, -, ki, -, -⟩ := rows_at HR4.out (k := k) (by rw [rows_len]; exact hlt)
          rw [row_len gi.out] at ki
          have HOK := Lib.hid (shop_ok HPL.out.shop)
          clear hown2 hg2 hz hown hbw h6
          go_wp2
          go_loopw [15] (fun sv wx => ∃ s : Nat, s ≤ x.1.length ∧ sv = .int .i64 s ∧ wx = w4) (fun sv _ => x.1.length - (intOf sv).toNat)
          case atStart => exact ⟨0, Nat.zero_le _, rfl, rfl⟩
          case round =>
            obtain ⟨s, hs, rfl, rfl⟩ := hrel
            by_cases hst : s < x.1.length
            · have hst' : (s : Int) < (x.1.length : Int) := by omega
              have HW := Lib.hid (HPL.out.work (by omega) s hst)
              go_wp2
              go_loopw [16, 17] (fun mv qv wy => ∃ q : Nat, q ≤ l.length ∧ qv = .int .i64 q ∧ mv = .int .i64 (sumK (rowsF l x) s q) ∧ wy = wr) (fun _ qv _ => l.length - (intOf qv).toNat)
              case atStart => exact ⟨0, Nat.zero_le _, rfl, rfl, rfl⟩
              case round =>
                obtain ⟨q, hq, rfl, rfl, rfl⟩ := hrel
                by_cases hqt : q < l.length
                · have hqt' : (q : Int) < (l.length : Int) := by omega
                  obtain ⟨bq, oq, rq, RQ, cq, eq, gq, -, kq, hrq, -⟩ := rows_at HR4.out (k := q) (by rw [rows_len]; exact hqt)
                  injection eq with eq
                  injection eq with eq1 eq2 _
                  subst eq1 eq2
                  have hrl := row_len gq.out
                  obtain ⟨by_, oy, y, rfl, gy, -, ky, hy0, hy1⟩ := ints_at hrq (k := s) (by rw [hrl]; exact hst)
                  rw [hrl] at kq
                  have hsb := sumK_bd HOK.out s q
                  have hss := sumK_succ (rowsF l x) s q
                  have hmb := mins_bd HOK.out (q : Int) s
                  rw [mins_get gq.out gy.out] at hss hmb
                  obtain ⟨sk, hsk⟩ : ∃ sk, sumK (rowsF l x) s q = sk := ⟨_, rfl⟩
                  have h6 := H6.out
                  rw [hsk] at hss hsb
                  have hwr : IntKind.i64.wrap (sk + y) = sk + y := IntWalk.i64_in _ (by omega)
                  have HSS := Lib.hid hss
                  rw [hsk]
                  clear hss hsb hmb hsk hrq hrl h6
                  go_wp2
                  go_roundw
                  case rel => exact ⟨q + 1, by omega, by go_num, by rw [HSS.out], trivial⟩
                  case measure => simp [intOf]; omega
                · have hqt' : ¬ (q : Int) < (l.length : Int) := by omega
                  have hqe : q = l.length := by omega
                  subst hqe
                  have hw := HW.out
                  have hle : ¬ m < sumK (rowsF l x) s l.length := by unfold sumK; omega
                  clear hw
                  have hm8 := HL.out.most
                  go_wp2
                  go_roundw
                  case rel => exact ⟨s + 1, by omega, by go_num, trivial⟩
                  case measure => simp [intOf]; omega
            · have hst' : ¬ (s : Int) < (x.1.length : Int) := by omega
              go_wp2
              go_roundw
              case rel => exact ⟨k + 1, by omega, by go_num, hbw4.out, hown4.out⟩
              case measure => simp [intOf]; omega
        · have hlt' : ¬ (k : Int) < (l.length : Int) := by omega
          have hke : k = l.length := by omega
          subst hke
          have hrs := flOwn_new hown.out (fun j hj => by have := mem_jobs.1 hj; have := H6.out; unfold inI64; omega)
          obtain ⟨J, cj, hvj, -, -⟩ := slice_inv hrs
          rw [jobs_len] at hvj
          subst hvj
          have HB5 := Lib.hid (bstep HB3.out HB3.out.size hbw.out)
          have CM := Lib.hid (flSpan_any R J l.length cr l.length cj (rowsF l x) (jobsL l.length) wr (Rep.below HRW.out hbw.out) (Rep.mono _ (fun b hb => hb.2) hrs))
          unfold SpanPost at CM
          rw [HPL.out.fin] at CM
          have hsp := HPL.out.span
          obtain ⟨z, hz⟩ : ∃ z, spanF (rowsF l x) (jobsL l.length) = z := ⟨_, rfl⟩
          rw [hz] at CM hsp
          clear hrs hz hown hbw
          go_wp2_with fail
          refine CM.out.mono ?_
          rintro e w5 ⟨rfl, hb5⟩
          have HB6 := Lib.hid (bstep HB5.out HB5.out.size hb5)
          clear hb5
          go_wp2
          go_ret
          exact ⟨rfl, HB6.out⟩
    · obtain ⟨rfl, rfl⟩ := hbad hn0
      have z : (n != 0) = true := ine_t hn0
      subst hn
      have CR := Lib.hid (rfPlan_bad P np A B C D a b c d l x w2 HP2.out HX2.out HL.out H6.out hn0)
      obtain ⟨n, hn⟩ : ∃ n, planE l x = n := ⟨_, rfl⟩
      rw [hn] at CR z ⊢
      unfold lnA at CR
      have q := beq_self_int n
      clear hn hn0 hbad hgood
      go_wp2_with fail
      refine CR.out.mono ?_
      rintro e w3 ⟨rfl, hb3⟩
      have HB3 := Lib.hid (bstep HB2.out HB2.out.size hb3)
      clear hb3 t0 t1 t2 t3
      go_wp2
      go_ret
      exact ⟨rfl, HB3.out⟩
  · have z : (le != 0) = true := ine_t hl0
    clear hle hl0
    unfold lnA at s0 s1 s2 s3 CL hW ⊢
    go_enter Try.func3, Try.ntmps3
    go_wp2_with fail
    rw [← hW]
    refine CL.out.mono ?_
    rintro e w1 ⟨rfl, hb1⟩
    have HB1 := Lib.hid (bstep HB0.out HB0.out.size hb1)
    clear hb1
    go_wp2
    go_ret
    exact ⟨rfl, HB1.out⟩
end Go.Proofs.Ytcnkocnajamclaa
