/- TopCertified: the law's walk: the certificate of an optimal sequence is accepted for its makespan and no greater span, and no sequence is shorter. -/
import Derived.Test.YtcnkocnajamclaaCtWC
import Derived.Test.YtcnkocnajamclaaCtW9
import Derived.Test.YtcnkocnajamclaaOpenZ
namespace Go.Proofs.Ytcnkocnajamclaa
open Go Go.RowKit
set_option linter.unusedSimpArgs false

theorem opens_ci : Opens Try.prog 3 Rep.int := opens_int Try.underlying3
theorem opens_cints : Opens Try.prog 23 Rep.int.slice := opens_slice Try.underlying23 (by kernel_rfl) (by decide) opens_ci
theorem opens_crows : Opens Try.prog 31 rowsR := opens_slice Try.underlying31 (by kernel_rfl) (by decide) opens_cints
theorem opensZ_cints : OpensZ Try.prog 23 Rep.int.slice (fun _ => True) := opensZ_of opens_cints
theorem opensZ_crows : OpensZ Try.prog 31 rowsR (fun _ => True) := opensZ_of opens_crows
/-- what is known of the sequence, in plain words. -/
structure Best10 (p : Shop) : Prop where
  full : Full p.length (bestB p 10000).1.order
  span : msF p (bestB p 10000).1.order = spanB p
  least : ∀ q, Full p.length q → spanB p ≤ msF p q
  again : (bestB p 100000).1.span = spanB p
theorem best10 {p : Shop} (hp : ShopOk p) (h6 : p.length ≤ 6) : Best10 p := by
  obtain ⟨-, h2, h3, h4⟩ := best_opt hp (steps := 10000) h6 (by decide)
  obtain ⟨-, k2, k3, k4⟩ := best_opt hp (steps := 100000) h6 (by decide)
  refine ⟨h2, h3, h4, ?_⟩
  have a := h4 _ k2
  have b := k4 _ h2
  rw [k3] at a
  rw [h3] at b
  unfold spanB
  omega
set_option maxRecDepth 100000 in
set_option maxHeartbeats 4000000 in
theorem certified_law (vp vo : Value) (p : Shop) (order : List Int) (w : World) (hp : rowsR.R w (Lt w) p [vp]) (ho : Rep.int.slice.R w (Lt w) order [vo]) :
    Calls Try.prog 5 #[vp, vo] w (Ret (.bool true) w) := by
  obtain ⟨A, c, rfl, -, -⟩ := slice_inv hp
  obtain ⟨O, d, rfl, -, -⟩ := slice_inv ho
  by_cases h6 : 6 < p.length
  · have h6' : 6 < (p.length : Int) := by omega
    clear h6 hp ho
    go_enter Try.func5, Try.ntmps5
    go_wp2
    go_ret
    exact ⟨rfl, Below.refl _ _⟩
  have h6' : ¬ 6 < (p.length : Int) := by omega
  have H6 : Hid (p.length ≤ 6) := by show _ ≤ _; omega
  have HW : Hid ((0 < p.length ∧ ∃ b0 off0 r0 R0 cr0, A = some ⟨b0, off0, none⟩ ∧ w.cell? ⟨b0, off0, none⟩ = some (.slice R0 r0 cr0)) ∨ p.length = 0) := by
    show _ ∨ _
    rcases Nat.eq_zero_or_pos p.length with h0 | h0
    · exact .inr h0
    · obtain ⟨b0, off0, r0, R0, cr0, e, -, -, c00, -, -⟩ := rows_at hp (k := 0) h0
      exact .inl ⟨h0, b0, off0, r0.length, R0, cr0, e, c00⟩
  have CM := Lib.hid (ctMake_any A c p w hp H6.out)
  have HP := Lib.hid hp
  have HO := Lib.hid ho
  clear hp ho h6
  obtain ⟨n, hn⟩ : ∃ n, shopF p = n := ⟨_, rfl⟩
  have HN := Lib.hid hn
  have main : ∀ (Q : Prop), Q → Q := fun _ h => h
  clear main hn
  rcases HW.out with ⟨h0, b0, off0, r0, R0, cr0, rfl, c00⟩ | h0
  · have h0' : 0 < (p.length : Int) := by omega
    by_cases h4 : 4 < r0
    · have h4' : 4 < (r0 : Int) := by omega
      clear h4 h0 HW
      go_enter Try.func5, Try.ntmps5
      go_wp2
      go_ret
      exact ⟨rfl, Below.refl _ _⟩
    · have h4' : ¬ 4 < (r0 : Int) := by omega
      clear h4 h0 HW
      go_enter Try.func5, Try.ntmps5
      go_wp2_with fail
      refine CM.out.mono ?_
      rintro e w1 ⟨v1, vl, rfl, hb1, hbad, hgood⟩
      rw [HN.out] at hbad hgood ⊢
      have HB1 := Lib.hid hb1
      have HP1 := Lib.hid (Rep.below HP.out hb1)
      have HO1 := Lib.hid (Rep.below HO.out hb1)
      clear hb1
      by_cases hn0 : n = 0
      · obtain ⟨hv1, hvl⟩ := hgood hn0
        subst hn0
        have hok := shop_ok HN.out
        have hB := best10 hok H6.out
        obtain ⟨S, sc, rfl, -, -⟩ := slice_inv hv1
        obtain ⟨L, lc, e2, -, -⟩ := slice_inv hvl
        subst e2
        obtain ⟨q, hq⟩ : ∃ q, (bestB p 10000).1.order = q := ⟨_, rfl⟩
        obtain ⟨span, hspan⟩ : ∃ span, spanB p = span := ⟨_, rfl⟩
        have hfull := hB.full
        have hms := hB.span
        have hlst := hB.least
        have hagn := hB.again
        rw [hq] at hfull hms hv1
        rw [hspan] at hms hlst hagn
        have hfq : finE p q = 0 := finE_ok HN.out hfull.2 (seq_of.2 hfull.1)
        have hsq : spanF p q = span := by unfold spanF; rw [if_pos hfq, hms]
        have CS := Lib.hid (flSpan_any _ S p.length c _ sc p q w1 HP1.out hv1)
        unfold SpanPost at CS
        rw [hfq, hsq] at CS
        have hcl : certL p = cutsF p span p.length [] := by unfold certL; rw [hspan]
        have HCO : Hid (CertOk p (certL p)) := by show CertOk _ _; rw [hcl]; exact cert_made H6.out
        have HC1 : Hid (checkC p span (certL p) = 0) := by show _ = _; rw [hcl]; exact cert_yes hlst
        have HC2 : Hid (checkC p (span + 1) (certL p) = 13) := by show _ = _; rw [hcl]; exact cert_no hok hfull hms
        have HVL := Lib.hid hvl
        have HAG : Hid ((bestB p 100000).1.span = span) := hagn
        have HLS := Lib.hid hlst
        have hsb : 0 ≤ span ∧ span ≤ 10000000 := by
          rw [← hms]
          unfold msF
          have h1 := fin_bd hok q (nStat p - 1)
          have h2 := hfull.2
          have h3 := hok.jobs
          have h8 : nStat p - 1 ≤ 8 := by
            rcases Nat.eq_zero_or_pos p.length with h0 | h0
            · rw [List.eq_nil_of_length_eq_zero h0]; decide
            · have := hok.row p[0] (List.getElem_mem h0)
              omega
          omega
        have hsw : IntKind.i64.wrap (span + 1) = span + 1 := IntWalk.i64_in _ (by omega)
        have hql : (bestB p 10000).1.order.length = q.length := by rw [hq]
        rw [hql]
        obtain ⟨ln, hln⟩ : ∃ ln, (certL p).length = ln := ⟨_, rfl⟩
        have HLN := Lib.hid hln
        rw [hln] at HVL ⊢
        clear hbad hgood hB hfull hms hlst hagn hfq hsq hcl hvl hv1 hok hq hspan hql hln
        go_wp2_with fail
        refine CS.out.mono ?_
        rintro e w2 ⟨rfl, hb2⟩
        have HB2 := Lib.hid (bstep HB1.out HB1.out.size hb2)
        have C1 := ctCheck_any _ L c lc p span (certL p) w2 (Rep.below HP1.out hb2) (by rw [HLN.out]; exact Rep.below HVL.out hb2) HN.out HCO.out
        rw [HC1.out, HLN.out] at C1
        have HK1 := Lib.hid C1
        have HVL2 := Lib.hid (Rep.below HVL.out hb2)
        clear hb2 C1
        go_wp2_with fail
        refine HK1.out.mono ?_
        rintro e w3 ⟨rfl, hb3⟩
        have HB3 := Lib.hid (bstep HB2.out HB2.out.size hb3)
        have C2 := ctCheck_any _ L c lc p (span + 1) (certL p) w3 (Rep.below HP.out HB3.out) (by rw [HLN.out]; exact Rep.below HVL2.out hb3) HN.out HCO.out
        rw [HC2.out, HLN.out] at C2
        have HK2 := Lib.hid C2
        clear hb3 C2
        go_wp2_with fail
        refine HK2.out.mono ?_
        rintro e w4 ⟨rfl, hb4⟩
        have HB4 := Lib.hid (bstep HB3.out HB3.out.size hb4)
        have HCS := Lib.hid (flSpan_any _ O p.length c order.length d p order w4 (Rep.below HP.out HB4.out) (Rep.below HO.out HB4.out))
        unfold SpanPost at HCS
        obtain ⟨g, hg⟩ : ∃ g, finE p order = g := ⟨_, rfl⟩
        obtain ⟨z, hz⟩ : ∃ z, spanF p order = z := ⟨_, rfl⟩
        have hgz : g = 0 → span ≤ z := fun h => by
          rw [← hz]
          rw [h] at hg
          obtain ⟨h1, h2, h3⟩ := finE_inv hg
          unfold spanF
          rw [if_pos hg]
          exact HLS.out _ ⟨h3, h2⟩
        rw [hg, hz] at HCS
        have HGZ := Lib.hid hgz
        clear hb4 hg hz hgz
        go_wp2_with fail
        refine HCS.out.mono ?_
        rintro e w5 ⟨rfl, hb5⟩
        have HB5 := Lib.hid (bstep HB4.out HB4.out.size hb5)
        have CB := flBest_any _ p.length c p 100000 w5 (Rep.below HP.out HB5.out) (by decide) H6.out
        have hbr : bestR p 100000 = ((bestB p 100000).1.order, span, 0) := by unfold bestR; rw [if_neg (by rw [HN.out]; decide), HAG.out]
        rw [hbr] at CB
        have HCB := Lib.hid CB
        have q0 := beq_self_int span
        clear hb5 CB hbr
        go_wp2_with fail
        refine HCB.out.mono ?_
        rintro e w6 ⟨v6, rfl, -, hb6⟩
        have HB6 := Lib.hid (bstep HB5.out HB5.out.size hb6)
        clear hb6
        dsimp only
        by_cases hg0 : g = 0
        · have hzz := HGZ.out hg0
          have q1 : (g != 0) = false := ine_f hg0
          clear hg0
          go_wp2
          go_ret
          exact ⟨rfl, HB6.out⟩
        · have q1 : (g != 0) = true := ine_t hg0
          clear hg0
          go_wp2
          go_ret
          exact ⟨rfl, HB6.out⟩
      · obtain ⟨rfl, rfl⟩ := hbad hn0
        have z : (n != 0) = true := ine_t hn0
        have CR := rfMake_bad _ p.length c p 10000 w1 HP1.out (by rw [HN.out]; exact hn0)
        rw [HN.out] at CR
        have HCR := Lib.hid CR
        have q := beq_self_int n
        clear hbad hgood hn0 CR
        go_wp2_with fail
        refine HCR.out.mono ?_
        rintro e w2 ⟨rfl, hq⟩
        have HB2 := Lib.hid (bstep HB1.out HB1.out.size (hq.below _))
        clear hq
        go_wp2
        go_ret
        exact ⟨rfl, HB2.out⟩
  · have h0' : ¬ 0 < (p.length : Int) := by omega
    clear h0 HW
    go_enter Try.func5, Try.ntmps5
    go_wp2_with fail
    refine CM.out.mono ?_
    rintro e w1 ⟨v1, vl, rfl, hb1, hbad, hgood⟩
    rw [HN.out] at hbad hgood ⊢
    have HB1 := Lib.hid hb1
    have HP1 := Lib.hid (Rep.below HP.out hb1)
    have HO1 := Lib.hid (Rep.below HO.out hb1)
    clear hb1
    by_cases hn0 : n = 0
    · obtain ⟨hv1, hvl⟩ := hgood hn0
      subst hn0
      have hok := shop_ok HN.out
      have hB := best10 hok H6.out
      obtain ⟨S, sc, rfl, -, -⟩ := slice_inv hv1
      obtain ⟨L, lc, e2, -, -⟩ := slice_inv hvl
      subst e2
      obtain ⟨q, hq⟩ : ∃ q, (bestB p 10000).1.order = q := ⟨_, rfl⟩
      obtain ⟨span, hspan⟩ : ∃ span, spanB p = span := ⟨_, rfl⟩
      have hfull := hB.full
      have hms := hB.span
      have hlst := hB.least
      have hagn := hB.again
      rw [hq] at hfull hms hv1
      rw [hspan] at hms hlst hagn
      have hfq : finE p q = 0 := finE_ok HN.out hfull.2 (seq_of.2 hfull.1)
      have hsq : spanF p q = span := by unfold spanF; rw [if_pos hfq, hms]
      have CS := Lib.hid (flSpan_any _ S p.length c _ sc p q w1 HP1.out hv1)
      unfold SpanPost at CS
      rw [hfq, hsq] at CS
      have hcl : certL p = cutsF p span p.length [] := by unfold certL; rw [hspan]
      have HCO : Hid (CertOk p (certL p)) := by show CertOk _ _; rw [hcl]; exact cert_made H6.out
      have HC1 : Hid (checkC p span (certL p) = 0) := by show _ = _; rw [hcl]; exact cert_yes hlst
      have HC2 : Hid (checkC p (span + 1) (certL p) = 13) := by show _ = _; rw [hcl]; exact cert_no hok hfull hms
      have HVL := Lib.hid hvl
      have HAG : Hid ((bestB p 100000).1.span = span) := hagn
      have HLS := Lib.hid hlst
      have hsb : 0 ≤ span ∧ span ≤ 10000000 := by
        rw [← hms]
        unfold msF
        have h1 := fin_bd hok q (nStat p - 1)
        have h2 := hfull.2
        have h3 := hok.jobs
        have h8 : nStat p - 1 ≤ 8 := by
          rcases Nat.eq_zero_or_pos p.length with h0 | h0
          · rw [List.eq_nil_of_length_eq_zero h0]; decide
          · have := hok.row p[0] (List.getElem_mem h0)
            omega
        omega
      have hsw : IntKind.i64.wrap (span + 1) = span + 1 := IntWalk.i64_in _ (by omega)
      have hql : (bestB p 10000).1.order.length = q.length := by rw [hq]
      rw [hql]
      obtain ⟨ln, hln⟩ : ∃ ln, (certL p).length = ln := ⟨_, rfl⟩
      have HLN := Lib.hid hln
      rw [hln] at HVL ⊢
      clear hbad hgood hB hfull hms hlst hagn hfq hsq hcl hvl hv1 hok hq hspan hql hln
      go_wp2_with fail
      refine CS.out.mono ?_
      rintro e w2 ⟨rfl, hb2⟩
      have HB2 := Lib.hid (bstep HB1.out HB1.out.size hb2)
      have C1 := ctCheck_any _ L c lc p span (certL p) w2 (Rep.below HP1.out hb2) (by rw [HLN.out]; exact Rep.below HVL.out hb2) HN.out HCO.out
      rw [HC1.out, HLN.out] at C1
      have HK1 := Lib.hid C1
      have HVL2 := Lib.hid (Rep.below HVL.out hb2)
      clear hb2 C1
      go_wp2_with fail
      refine HK1.out.mono ?_
      rintro e w3 ⟨rfl, hb3⟩
      have HB3 := Lib.hid (bstep HB2.out HB2.out.size hb3)
      have C2 := ctCheck_any _ L c lc p (span + 1) (certL p) w3 (Rep.below HP.out HB3.out) (by rw [HLN.out]; exact Rep.below HVL2.out hb3) HN.out HCO.out
      rw [HC2.out, HLN.out] at C2
      have HK2 := Lib.hid C2
      clear hb3 C2
      go_wp2_with fail
      refine HK2.out.mono ?_
      rintro e w4 ⟨rfl, hb4⟩
      have HB4 := Lib.hid (bstep HB3.out HB3.out.size hb4)
      have HCS := Lib.hid (flSpan_any _ O p.length c order.length d p order w4 (Rep.below HP.out HB4.out) (Rep.below HO.out HB4.out))
      unfold SpanPost at HCS
      obtain ⟨g, hg⟩ : ∃ g, finE p order = g := ⟨_, rfl⟩
      obtain ⟨z, hz⟩ : ∃ z, spanF p order = z := ⟨_, rfl⟩
      have hgz : g = 0 → span ≤ z := fun h => by
        rw [← hz]
        rw [h] at hg
        obtain ⟨h1, h2, h3⟩ := finE_inv hg
        unfold spanF
        rw [if_pos hg]
        exact HLS.out _ ⟨h3, h2⟩
      rw [hg, hz] at HCS
      have HGZ := Lib.hid hgz
      clear hb4 hg hz hgz
      go_wp2_with fail
      refine HCS.out.mono ?_
      rintro e w5 ⟨rfl, hb5⟩
      have HB5 := Lib.hid (bstep HB4.out HB4.out.size hb5)
      have CB := flBest_any _ p.length c p 100000 w5 (Rep.below HP.out HB5.out) (by decide) H6.out
      have hbr : bestR p 100000 = ((bestB p 100000).1.order, span, 0) := by unfold bestR; rw [if_neg (by rw [HN.out]; decide), HAG.out]
      rw [hbr] at CB
      have HCB := Lib.hid CB
      have q0 := beq_self_int span
      clear hb5 CB hbr
      go_wp2_with fail
      refine HCB.out.mono ?_
      rintro e w6 ⟨v6, rfl, -, hb6⟩
      have HB6 := Lib.hid (bstep HB5.out HB5.out.size hb6)
      clear hb6
      dsimp only
      by_cases hg0 : g = 0
      · have hzz := HGZ.out hg0
        have q1 : (g != 0) = false := ine_f hg0
        clear hg0
        go_wp2
        go_ret
        exact ⟨rfl, HB6.out⟩
      · have q1 : (g != 0) = true := ine_t hg0
        clear hg0
        go_wp2
        go_ret
        exact ⟨rfl, HB6.out⟩
    · obtain ⟨rfl, rfl⟩ := hbad hn0
      have z : (n != 0) = true := ine_t hn0
      have CR := rfMake_bad _ p.length c p 10000 w1 HP1.out (by rw [HN.out]; exact hn0)
      rw [HN.out] at CR
      have HCR := Lib.hid CR
      have q := beq_self_int n
      clear hbad hgood hn0 CR
      go_wp2_with fail
      refine HCR.out.mono ?_
      rintro e w2 ⟨rfl, hq⟩
      have HB2 := Lib.hid (bstep HB1.out HB1.out.size (hq.below _))
      clear hq
      go_wp2
      go_ret
      exact ⟨rfl, HB2.out⟩
end Go.Proofs.Ytcnkocnajamclaa
