/- Flow shops: the search of Best, by walking its text. -/
import Derived.Test.YtcnkocnajamclaaFlKept
import Derived.Test.YtcnkocnajamclaaTorRg
namespace Go.Proofs.Ytcnkocnajamclaa
open Go Go.RowKit
set_option linter.unusedSimpArgs false

def SearchPostB (P F U O L G : Nat) (vp : Value) (p : Shop) (w : World) (r : Bs × Bool) (e : Ending) (w' : World) : Prop := e = .returned (.bool r.2) ∧ KeptS (SB F U O L) w w' ∧ StB P F U O L G vp p w' r.1
theorem SearchPostB.of {P F U O L G : Nat} {vp : Value} {p : Shop} {w w' : World} {r : Bs × Bool} {y : Bs} {b : Bool} (hr : r = (y, b)) (hk : KeptS (SB F U O L) w w') (h : StB P F U O L G vp p w' y) : SearchPostB P F U O L G vp p w r (.returned (.bool b)) w' := by
  subst hr; exact ⟨rfl, hk, h⟩
theorem flOwn_form {w : World} {base size n : Nat} {e : TypeId} {v : Value} {xs : List Value} (h : w.ownsRow base e size v n xs) : ∃ A c, v = .slice A n c := by
  rcases h.2 with ⟨rfl, h0⟩ | ⟨g, cap, cur, rfl, _⟩
  · exact ⟨_, _, by rw [h0]⟩
  · exact ⟨_, _, rfl⟩
theorem nstat_row {p : Shop} {r : List Int} (h : p[0]? = some r) : r.length = nStat p := (nstat_of h).symm
set_option maxRecDepth 100000 in
set_option maxHeartbeats 8000000 in
theorem flSearch_any (P F U O L G : Nat) (A : Option Addr) (c : Nat) (p : Shop) (ha : ApartB P F U O L G) (hok : ShopOk p) :
    ∀ (f : Nat) (v : Value) (pre : List Int) (x : Bs) (w : World), pre.length + f = p.length + 1 → Seq p.length pre → LeftOk x → StB P F U O L G (.slice A p.length c) p w x → Rep.int.slice.R w (OkS (SB F U O L) w) pre [v] →
      Calls Try.prog 51 #[v, .pointer (some ⟨P, 0, none⟩), .pointer (some ⟨F, 0, none⟩), .pointer (some ⟨U, 0, none⟩), .pointer (some ⟨O, 0, none⟩), .pointer (some ⟨L, 0, none⟩), .pointer (some ⟨G, 0, none⟩)] w
        (SearchPostB P F U O L G (.slice A p.length c) p w (searchB p f x pre)) := by
  intro f
  induction f with
  | zero => intro v pre x w hf hS; have := hS.len; omega
  | succ f ih =>
    have IH := Lib.hid ih
    clear ih
    intro v pre x w hf hS hL hst hv
    obtain ⟨B, cv, rfl, hmv, -⟩ := slice_inv hv
    obtain ⟨-, hmp⟩ := flSlice_ln hst.rp
    have h32 := hok.jobs
    have hpl := hS.len
    have HF := Lib.hid hf
    have HS := Lib.hid hS
    have HOK := Lib.hid hok
    have HL := Lib.hid hL
    have HA := Lib.hid ha
    have CF := Lib.hid (flFinish_any A B p.length c pre.length cv p pre w (okS_lt hst.rp) (okS_lt hv) hok hS)
    have k0 := hst.pc.c0
    clear hf hS hL hok ha
    by_cases hbn : pre.length = p.length
    · have HSF := Lib.hid (search_full (f := f) (x := x) hbn)
      have hbe : ((pre.length : Int) == (p.length : Int)) = true := ieq_t (by omega)
      have HBN := Lib.hid hbn
      clear hbn
      go_enter Try.func51, Try.ntmps51
      go_wp2_with fail
      refine CF.out.mono ?_
      rintro e w1 ⟨vt, rfl, hrt, hb1⟩
      have HS1 := Lib.hid (hst.below HA.out hb1)
      have HV1 := Lib.hid ((KeptS.of (S := SB F U O L) hb1).rep hv)
      have HT1 := Lib.hid hrt.rep
      have HK1 := Lib.hid (KeptS.of (S := SB F U O L) hb1)
      obtain ⟨T, tc, rfl⟩ := hrt.form
      clear hst hv hrt hb1 k0 CF
      have k0 := HS1.out.pc.c0
      obtain ⟨ms, hms⟩ : ∃ ms, msF p pre = ms := ⟨_, rfl⟩
      rw [hms] at HSF
      have HMS := Lib.hid hms
      clear hms
      by_cases hp0 : p.length = 0
      · have h0 : ¬ (0 : Int) < (p.length : Int) := by omega
        have : ms = 0 := by
          rw [← HMS.out]
          have : pre = [] := List.eq_nil_of_length_eq_zero (by have := HBN.out; omega)
          rw [this]; exact finT_nil _ _
        subst this
        clear hp0
        have hF0 := HS1.out.found.c0
        have hU0 := HS1.out.span.c0
        obtain ⟨ff, hff⟩ : ∃ ff, x.found = ff := ⟨_, rfl⟩
        obtain ⟨su, hsu⟩ : ∃ su, x.span = su := ⟨_, rfl⟩
        rw [hff] at hF0
        rw [hsu] at hU0
        rw [hff, hsu] at HSF
        have h1000 : pre.length ≤ 1000 := by omega
        have hpb : ∀ x ∈ pre, inI64 x := fun x hx => by have := HS.out.2 x hx; unfold inI64; omega
        have HPB := Lib.hid hpb
        clear hpb hsu
        cases ff with
        | false =>
          rw [if_pos (.inl rfl)] at HSF
          go_wp2_with fail
          refine (flCloneOwn_any _ _ _ pre _ (okS_lt HV1.out) h1000).mono ?_
          rintro e w6 ⟨v6, rfl, hown6, hb6⟩
          obtain ⟨A6, c6, rfl⟩ := flOwn_form hown6
          have HS6 := Lib.hid (HS1.out.below HA.out hb6)
          obtain ⟨vo, ho, hro⟩ := HS6.out.ord
          have f0 := HS6.out.found.free 0
          have f1 := HS6.out.span.free 0
          have f2 := ho.free 0
          have g0 := HS6.out.found.c0
          have g1 := HS6.out.span.c0
          have g2 := ho.c0
          have n1 := HA.out.fu
          have n2 := HA.out.fo
          have n3 := HA.out.uo
          have hj : Rep.int.slice.R w6 (OkS (SB F U O L) w6) pre [.slice A6 pre.length c6] := okS_new (flOwn_new hown6 HPB.out) HS1.out.olds
          have HJ := Lib.hid hj
          have HB6 := Lib.hid hb6
          have HO := Lib.hid ho
          clear hj hb6 hown6 hro ho
          go_wp2
          go_ret
          have hk := (((KeptS.refl (SB F U O L) w6).set (p := ⟨O, 0, none⟩) (.inr (.inr (.inl rfl))) (.slice A6 pre.length c6)).set (p := ⟨U, 0, none⟩) (.inr (.inl rfl)) (.int .i64 0)).set (p := ⟨F, 0, none⟩) (.inl rfl) (.bool true)
          exact SearchPostB.of HSF.out (HK1.out.trans ((KeptS.of HB6.out).trans hk)) (HS6.out.next (y := ⟨x.left, true, 0, pre⟩) HA.out hk (((HS6.out.found.far (p := ⟨O, 0, none⟩) n2 _).far (p := ⟨U, 0, none⟩) n1 _).set_ 0 _) (((HS6.out.span.far (p := ⟨O, 0, none⟩) n3 _).set_ 0 _).far (p := ⟨F, 0, none⟩) n1.symm _) ⟨_, ((HO.out.set_ 0 _).far (p := ⟨U, 0, none⟩) n3.symm _).far (p := ⟨F, 0, none⟩) n2.symm _, hk.rep HJ.out⟩ (((HS6.out.left.far (p := ⟨O, 0, none⟩) HA.out.ol.symm _).far (p := ⟨U, 0, none⟩) HA.out.ul.symm _).far (p := ⟨F, 0, none⟩) HA.out.fl.symm _))
        | true =>
          by_cases hlt : (0 : Int) < su
          · rw [if_pos (.inr hlt)] at HSF
            go_wp2_with fail
            refine (flCloneOwn_any _ _ _ pre _ (okS_lt HV1.out) h1000).mono ?_
            rintro e w6 ⟨v6, rfl, hown6, hb6⟩
            obtain ⟨A6, c6, rfl⟩ := flOwn_form hown6
            have HS6 := Lib.hid (HS1.out.below HA.out hb6)
            obtain ⟨vo, ho, hro⟩ := HS6.out.ord
            have f0 := HS6.out.found.free 0
            have f1 := HS6.out.span.free 0
            have f2 := ho.free 0
            have g0 := HS6.out.found.c0
            have g1 := HS6.out.span.c0
            have g2 := ho.c0
            have n1 := HA.out.fu
            have n2 := HA.out.fo
            have n3 := HA.out.uo
            have hj : Rep.int.slice.R w6 (OkS (SB F U O L) w6) pre [.slice A6 pre.length c6] := okS_new (flOwn_new hown6 HPB.out) HS1.out.olds
            have HJ := Lib.hid hj
            have HB6 := Lib.hid hb6
            have HO := Lib.hid ho
            clear hj hb6 hown6 hro ho
            go_wp2
            go_ret
            have hk := (((KeptS.refl (SB F U O L) w6).set (p := ⟨O, 0, none⟩) (.inr (.inr (.inl rfl))) (.slice A6 pre.length c6)).set (p := ⟨U, 0, none⟩) (.inr (.inl rfl)) (.int .i64 0)).set (p := ⟨F, 0, none⟩) (.inl rfl) (.bool true)
            exact SearchPostB.of HSF.out (HK1.out.trans ((KeptS.of HB6.out).trans hk)) (HS6.out.next (y := ⟨x.left, true, 0, pre⟩) HA.out hk (((HS6.out.found.far (p := ⟨O, 0, none⟩) n2 _).far (p := ⟨U, 0, none⟩) n1 _).set_ 0 _) (((HS6.out.span.far (p := ⟨O, 0, none⟩) n3 _).set_ 0 _).far (p := ⟨F, 0, none⟩) n1.symm _) ⟨_, ((HO.out.set_ 0 _).far (p := ⟨U, 0, none⟩) n3.symm _).far (p := ⟨F, 0, none⟩) n2.symm _, hk.rep HJ.out⟩ (((HS6.out.left.far (p := ⟨O, 0, none⟩) HA.out.ol.symm _).far (p := ⟨U, 0, none⟩) HA.out.ul.symm _).far (p := ⟨F, 0, none⟩) HA.out.fl.symm _))
          · rw [if_neg (by rw [not_or]; exact ⟨by decide, hlt⟩)] at HSF
            go_wp2
            go_ret
            exact SearchPostB.of HSF.out HK1.out HS1.out
      · have h0 : (0 : Int) < (p.length : Int) := by omega
        obtain ⟨b0, off0, r0, R0, cr0, rfl, hr0, hbD0, c00, -, hrl0⟩ := rows_at (okS_lt HS1.out.rp) (k := 0) (by omega)
        have hns := HOK.out.row p[0] (List.getElem_mem (by omega))
        have hn8 : 1 ≤ nStat p ∧ nStat p ≤ 8 := by omega
        rw [nstat_row hr0.out, Nat.add_zero] at c00
        have CL := Lib.hid (flLast_any T (timesF p pre).length tc (timesF p pre) (nStat p - 1) w1 HT1.out (times_wide (by omega)))
        rw [times_last (by omega)] at CL
        have HMS2 : Hid (finT p pre (nStat p - 1) = ms) := HMS.out
        rw [HMS2.out] at CL
        obtain ⟨m1, hm1⟩ : ∃ m1, nStat p = m1 + 1 := ⟨nStat p - 1, by omega⟩
        rw [hm1] at c00 hn8 CL
        rw [Nat.add_sub_cancel] at CL
        have hmw : IntKind.i64.wrap (((m1 + 1 : Nat) : Int) - 1) = (m1 : Int) := by rw [show ((m1 + 1 : Nat) : Int) - 1 = (m1 : Int) from by omega]; exact IntWalk.i64_in _ (by omega)
        clear hns hp0 hbD0 HMS2 hm1
        have hF0 := HS1.out.found.c0
        have hU0 := HS1.out.span.c0
        obtain ⟨ff, hff⟩ : ∃ ff, x.found = ff := ⟨_, rfl⟩
        obtain ⟨su, hsu⟩ : ∃ su, x.span = su := ⟨_, rfl⟩
        rw [hff] at hF0
        rw [hsu] at hU0
        rw [hff, hsu] at HSF
        have h1000 : pre.length ≤ 1000 := by omega
        have hpb : ∀ x ∈ pre, inI64 x := fun x hx => by have := HS.out.2 x hx; unfold inI64; omega
        have HPB := Lib.hid hpb
        clear hpb hsu
        cases ff with
        | false =>
          rw [if_pos (.inl rfl)] at HSF
          go_wp2_with fail
          refine CL.out.mono ?_
          rintro e w2 ⟨rfl, rfl⟩
          go_wp2_with fail
          refine (flCloneOwn_any _ _ _ pre _ (okS_lt HV1.out) h1000).mono ?_
          rintro e w6 ⟨v6, rfl, hown6, hb6⟩
          obtain ⟨A6, c6, rfl⟩ := flOwn_form hown6
          have HS6 := Lib.hid (HS1.out.below HA.out hb6)
          obtain ⟨vo, ho, hro⟩ := HS6.out.ord
          have f0 := HS6.out.found.free 0
          have f1 := HS6.out.span.free 0
          have f2 := ho.free 0
          have g0 := HS6.out.found.c0
          have g1 := HS6.out.span.c0
          have g2 := ho.c0
          have n1 := HA.out.fu
          have n2 := HA.out.fo
          have n3 := HA.out.uo
          have hj : Rep.int.slice.R w6 (OkS (SB F U O L) w6) pre [.slice A6 pre.length c6] := okS_new (flOwn_new hown6 HPB.out) HS1.out.olds
          have HJ := Lib.hid hj
          have HB6 := Lib.hid hb6
          have HO := Lib.hid ho
          clear hj hb6 hown6 hro ho
          go_wp2
          go_ret
          have hk := (((KeptS.refl (SB F U O L) w6).set (p := ⟨O, 0, none⟩) (.inr (.inr (.inl rfl))) (.slice A6 pre.length c6)).set (p := ⟨U, 0, none⟩) (.inr (.inl rfl)) (.int .i64 ms)).set (p := ⟨F, 0, none⟩) (.inl rfl) (.bool true)
          exact SearchPostB.of HSF.out (HK1.out.trans ((KeptS.of HB6.out).trans hk)) (HS6.out.next (y := ⟨x.left, true, ms, pre⟩) HA.out hk (((HS6.out.found.far (p := ⟨O, 0, none⟩) n2 _).far (p := ⟨U, 0, none⟩) n1 _).set_ 0 _) (((HS6.out.span.far (p := ⟨O, 0, none⟩) n3 _).set_ 0 _).far (p := ⟨F, 0, none⟩) n1.symm _) ⟨_, ((HO.out.set_ 0 _).far (p := ⟨U, 0, none⟩) n3.symm _).far (p := ⟨F, 0, none⟩) n2.symm _, hk.rep HJ.out⟩ (((HS6.out.left.far (p := ⟨O, 0, none⟩) HA.out.ol.symm _).far (p := ⟨U, 0, none⟩) HA.out.ul.symm _).far (p := ⟨F, 0, none⟩) HA.out.fl.symm _))
        | true =>
          by_cases hlt : ms < su
          · rw [if_pos (.inr hlt)] at HSF
            go_wp2_with fail
            refine CL.out.mono ?_
            rintro e w2 ⟨rfl, rfl⟩
            go_wp2_with fail
            refine (flCloneOwn_any _ _ _ pre _ (okS_lt HV1.out) h1000).mono ?_
            rintro e w6 ⟨v6, rfl, hown6, hb6⟩
            obtain ⟨A6, c6, rfl⟩ := flOwn_form hown6
            have HS6 := Lib.hid (HS1.out.below HA.out hb6)
            obtain ⟨vo, ho, hro⟩ := HS6.out.ord
            have f0 := HS6.out.found.free 0
            have f1 := HS6.out.span.free 0
            have f2 := ho.free 0
            have g0 := HS6.out.found.c0
            have g1 := HS6.out.span.c0
            have g2 := ho.c0
            have n1 := HA.out.fu
            have n2 := HA.out.fo
            have n3 := HA.out.uo
            have hj : Rep.int.slice.R w6 (OkS (SB F U O L) w6) pre [.slice A6 pre.length c6] := okS_new (flOwn_new hown6 HPB.out) HS1.out.olds
            have HJ := Lib.hid hj
            have HB6 := Lib.hid hb6
            have HO := Lib.hid ho
            clear hj hb6 hown6 hro ho
            go_wp2
            go_ret
            have hk := (((KeptS.refl (SB F U O L) w6).set (p := ⟨O, 0, none⟩) (.inr (.inr (.inl rfl))) (.slice A6 pre.length c6)).set (p := ⟨U, 0, none⟩) (.inr (.inl rfl)) (.int .i64 ms)).set (p := ⟨F, 0, none⟩) (.inl rfl) (.bool true)
            exact SearchPostB.of HSF.out (HK1.out.trans ((KeptS.of HB6.out).trans hk)) (HS6.out.next (y := ⟨x.left, true, ms, pre⟩) HA.out hk (((HS6.out.found.far (p := ⟨O, 0, none⟩) n2 _).far (p := ⟨U, 0, none⟩) n1 _).set_ 0 _) (((HS6.out.span.far (p := ⟨O, 0, none⟩) n3 _).set_ 0 _).far (p := ⟨F, 0, none⟩) n1.symm _) ⟨_, ((HO.out.set_ 0 _).far (p := ⟨U, 0, none⟩) n3.symm _).far (p := ⟨F, 0, none⟩) n2.symm _, hk.rep HJ.out⟩ (((HS6.out.left.far (p := ⟨O, 0, none⟩) HA.out.ol.symm _).far (p := ⟨U, 0, none⟩) HA.out.ul.symm _).far (p := ⟨F, 0, none⟩) HA.out.fl.symm _))
          · rw [if_neg (by rw [not_or]; exact ⟨by decide, hlt⟩)] at HSF
            go_wp2_with fail
            refine CL.out.mono ?_
            rintro e w2 ⟨rfl, rfl⟩
            go_wp2
            go_ret
            exact SearchPostB.of HSF.out HK1.out HS1.out
    · have hbe : ((pre.length : Int) == (p.length : Int)) = false := ieq_f (by omega)
      have hpl' : pre.length < p.length := by omega
      have h0 : (0 : Int) < (p.length : Int) := by omega
      have hns := HOK.out.row p[0] (List.getElem_mem (by omega))
      have hn8 : 1 ≤ nStat p ∧ nStat p ≤ 8 := by omega
      have HBN := Lib.hid hbn
      clear hbn hns
      go_enter Try.func51, Try.ntmps51
      go_wp2_with fail
      refine CF.out.mono ?_
      rintro e w1 ⟨vt, rfl, hrt, hb1⟩
      obtain ⟨b0, off0, r0, R0, cr0, rfl, hr0, hbD0, c00, -, hrl0⟩ := rows_at (Rep.at_ (okS_lt hst.rp) hb1) (k := 0) (by omega)
      have hrn0 := nstat_row hr0.out
      rw [hrn0, Nat.add_zero] at c00
      have HS1 := Lib.hid (hst.below HA.out hb1)
      have HV1 := Lib.hid ((KeptS.of (S := SB F U O L) hb1).rep hv)
      have HT1 := Lib.hid hrt.rep
      have HK1 := Lib.hid (KeptS.of (S := SB F U O L) hb1)
      clear hst hv hrt hb1 k0 CF hrn0 hbD0
      have k0 := HS1.out.pc.c0
      obtain ⟨ff, hff⟩ : ∃ ff, x.found = ff := ⟨_, rfl⟩
      obtain ⟨su, hsu⟩ : ∃ su, x.span = su := ⟨_, rfl⟩
      have HFF := Lib.hid hff
      have HSU := Lib.hid hsu
      clear hff hsu
      go_wp2
      go_loopw [45] (fun sv wr => ∃ s : Nat, s ≤ nStat p ∧ sv = .int .i64 s ∧ Hid (cutTo p x pre s = false) ∧ Hid (Below w1.heap.size w1 wr)) (fun sv _ => nStat p - (intOf sv).toNat)
      case atStart => exact ⟨0, Nat.zero_le _, rfl, by show _ = _; unfold cutTo; cases x.found <;> rfl, Below.refl _ _⟩
      case round =>
        obtain ⟨s, hs, rfl, hct, hbw⟩ := hrel
        have HSr := Lib.hid (HS1.out.below HA.out hbw.out)
        have hF0 := HSr.out.found.c0
        have hU0 := HSr.out.span.c0
        have hP0 := HSr.out.pc.c0
        rw [HFF.out] at hF0
        rw [HSU.out] at hU0
        by_cases hlt : s < nStat p
        · have hlt' : (s : Int) < (nStat p : Int) := by omega
          have hbd := (Below.refl wr.heap.size wr).drew
          have HSd := Lib.hid (HSr.out.below HA.out hbd)
          have HBd := Lib.hid (bstep hbw.out hbw.out.size hbd)
          have hF1 := HSd.out.found.c0
          have hU1 := HSd.out.span.c0
          have hP1 := HSd.out.pc.c0
          rw [HFF.out] at hF1
          rw [HSU.out] at hU1
          clear hbd hF0 hU0 hP0 c00
          cases ff with
          | false =>
            have HC2 : Hid (cutTo p x pre (s + 1) = false) := by show _ = _; rw [cutTo_succ, hct.out, HFF.out]; rfl
            go_upto_region 12 with fail
            refine wp_region_held_drew (S := fun x => x.cell? ⟨F, 0, none⟩ = some (.bool false) ∧ x.cell? ⟨U, 0, none⟩ = some (.int .i64 su) ∧ x.cell? ⟨P, 0, none⟩ = some (.slice (some ⟨b0, off0, none⟩) p.length c)) (by kernel_rfl) (⟨hF1, hU1, hP1⟩) (fun hH => ?_)
            refine take_run (i := 0) (v := ?_) (by decide) (by kernel_rfl) (by kernel_rfl) (by kernel_rfl) (fun _ _ _ _ h => h) hH rfl ?_ ?_
            rotate_left
            · (intro w hSw; (try dsimp only at hSw); (try go_split_ands); simp only [List.getElem_toArray, List.getElem_cons_zero, List.getElem_cons_succ]; go_simp; try with_reducible rfl)
            try simp (config := { failIfUnchanged := false }) only [Act.put, List.setIfInBounds_toArray, List.set_cons_zero, List.set_cons_succ, List.getElem_toArray, List.getElem_cons_zero, List.getElem_cons_succ]
            refine take_run (i := 1) (v := ?_) (by decide) (by kernel_rfl) (by kernel_rfl) (by kernel_rfl) (fun _ _ _ _ h => h) hH rfl ?_ ?_
            rotate_left
            · (intro w hSw; (try dsimp only at hSw); (try go_split_ands); simp only [List.getElem_toArray, List.getElem_cons_zero, List.getElem_cons_succ]; go_simp; try with_reducible rfl)
            try simp (config := { failIfUnchanged := false }) only [Act.put, List.setIfInBounds_toArray, List.set_cons_zero, List.set_cons_succ, List.getElem_toArray, List.getElem_cons_zero, List.getElem_cons_succ]
            refine take_skip (i := 2) (by decide) (by kernel_rfl) (by kernel_rfl) (by kernel_rfl) (fun _ _ _ _ h => h) hH (by first | rfl | kernel_rfl) ?_
            try simp (config := { failIfUnchanged := false }) only [Act.put, List.setIfInBounds_toArray, List.set_cons_zero, List.set_cons_succ, List.getElem_toArray, List.getElem_cons_zero, List.getElem_cons_succ]
            refine take_skip (i := 3) (by decide) (by kernel_rfl) (by kernel_rfl) (by kernel_rfl) (fun _ _ _ _ h => h) hH (by first | rfl | kernel_rfl) ?_
            try simp (config := { failIfUnchanged := false }) only [Act.put, List.setIfInBounds_toArray, List.set_cons_zero, List.set_cons_succ, List.getElem_toArray, List.getElem_cons_zero, List.getElem_cons_succ]
            refine take_skip (i := 4) (by decide) (by kernel_rfl) (by kernel_rfl) (by kernel_rfl) (fun _ _ _ _ h => h) hH (by first | rfl | kernel_rfl) ?_
            try simp (config := { failIfUnchanged := false }) only [Act.put, List.setIfInBounds_toArray, List.set_cons_zero, List.set_cons_succ, List.getElem_toArray, List.getElem_cons_zero, List.getElem_cons_succ]
            refine take_skip (i := 5) (by decide) (by kernel_rfl) (by kernel_rfl) (by kernel_rfl) (fun _ _ _ _ h => h) hH (by first | rfl | kernel_rfl) ?_
            try simp (config := { failIfUnchanged := false }) only [Act.put, List.setIfInBounds_toArray, List.set_cons_zero, List.set_cons_succ, List.getElem_toArray, List.getElem_cons_zero, List.getElem_cons_succ]
            refine take_skip (i := 6) (by decide) (by kernel_rfl) (by kernel_rfl) (by kernel_rfl) (fun _ _ _ _ h => h) hH (by first | rfl | kernel_rfl) ?_
            try simp (config := { failIfUnchanged := false }) only [Act.put, List.setIfInBounds_toArray, List.set_cons_zero, List.set_cons_succ, List.getElem_toArray, List.getElem_cons_zero, List.getElem_cons_succ]
            refine take_skip (i := 7) (by decide) (by kernel_rfl) (by kernel_rfl) (by kernel_rfl) (fun _ _ _ _ h => h) hH (by first | rfl | kernel_rfl) ?_
            try simp (config := { failIfUnchanged := false }) only [Act.put, List.setIfInBounds_toArray, List.set_cons_zero, List.set_cons_succ, List.getElem_toArray, List.getElem_cons_zero, List.getElem_cons_succ]
            refine take_skip (i := 8) (by decide) (by kernel_rfl) (by kernel_rfl) (by kernel_rfl) (fun _ _ _ _ h => h) hH (by first | rfl | kernel_rfl) ?_
            try simp (config := { failIfUnchanged := false }) only [Act.put, List.setIfInBounds_toArray, List.set_cons_zero, List.set_cons_succ, List.getElem_toArray, List.getElem_cons_zero, List.getElem_cons_succ]
            refine take_run (i := 9) (v := ?_) (by decide) (by kernel_rfl) (by kernel_rfl) (by kernel_rfl) (fun _ _ _ _ h => h) hH rfl ?_ ?_
            rotate_left
            · (intro w hSw; (try dsimp only at hSw); (try go_split_ands); simp only [List.getElem_toArray, List.getElem_cons_zero, List.getElem_cons_succ]; go_simp; try with_reducible rfl)
            try simp (config := { failIfUnchanged := false }) only [Act.put, List.setIfInBounds_toArray, List.set_cons_zero, List.set_cons_succ, List.getElem_toArray, List.getElem_cons_zero, List.getElem_cons_succ]
            refine wpAnyH_done (by kernel_rfl) ?_ _
            go_wp2
            go_roundw
            case rel => exact ⟨s + 1, by omega, by go_num, HC2.out, HBd.out⟩
            case measure => simp [intOf]; omega
          | true =>
            have CB := Lib.hid (flBound_any (some ⟨b0, off0, none⟩) B p.length c pre.length cv vt p pre s wr.drew (okS_lt HSd.out.rp) (Rep.below (okS_lt HV1.out) HBd.out) (Rep.below HT1.out HBd.out) HOK.out (by omega) hlt)
            obtain ⟨bn, hbn⟩ : ∃ bn, bndF p pre s = bn := ⟨_, rfl⟩
            rw [hbn] at CB
            have HBN2 := Lib.hid hbn
            clear hbn
            by_cases hle : su ≤ bn
            · have HC2 : Hid (cutB p x pre = true) := cut_hit hlt HFF.out (by rw [HSU.out, HBN2.out]; exact hle)
              have HR := Lib.hid (search_cutB (f := f) (x := x) HBN.out HC2.out)
              have dd := decide_eq_true hle
              go_upto_region 12 with fail
              refine wp_region_held_drew (S := fun x => x.cell? ⟨F, 0, none⟩ = some (.bool true) ∧ x.cell? ⟨U, 0, none⟩ = some (.int .i64 su) ∧ x.cell? ⟨P, 0, none⟩ = some (.slice (some ⟨b0, off0, none⟩) p.length c)) (by kernel_rfl) (⟨hF1, hU1, hP1⟩) (fun hH => ?_)
              refine take_run (i := 0) (v := ?_) (by decide) (by kernel_rfl) (by kernel_rfl) (by kernel_rfl) (fun _ _ _ _ h => h) hH rfl ?_ ?_
              rotate_left
              · (intro w hSw; (try dsimp only at hSw); (try go_split_ands); simp only [List.getElem_toArray, List.getElem_cons_zero, List.getElem_cons_succ]; go_simp; try with_reducible rfl)
              try simp (config := { failIfUnchanged := false }) only [Act.put, List.setIfInBounds_toArray, List.set_cons_zero, List.set_cons_succ, List.getElem_toArray, List.getElem_cons_zero, List.getElem_cons_succ]
              refine take_run (i := 1) (v := ?_) (by decide) (by kernel_rfl) (by kernel_rfl) (by kernel_rfl) (fun _ _ _ _ h => h) hH rfl ?_ ?_
              rotate_left
              · (intro w hSw; (try dsimp only at hSw); (try go_split_ands); simp only [List.getElem_toArray, List.getElem_cons_zero, List.getElem_cons_succ]; go_simp; try with_reducible rfl)
              try simp (config := { failIfUnchanged := false }) only [Act.put, List.setIfInBounds_toArray, List.set_cons_zero, List.set_cons_succ, List.getElem_toArray, List.getElem_cons_zero, List.getElem_cons_succ]
              refine take_run (i := 2) (v := ?_) (by decide) (by kernel_rfl) (by kernel_rfl) (by kernel_rfl) (fun _ _ _ _ h => h) hH rfl ?_ ?_
              rotate_left
              · (intro w hSw; (try dsimp only at hSw); (try go_split_ands); simp only [List.getElem_toArray, List.getElem_cons_zero, List.getElem_cons_succ]; go_simp; try with_reducible rfl)
              try simp (config := { failIfUnchanged := false }) only [Act.put, List.setIfInBounds_toArray, List.set_cons_zero, List.set_cons_succ, List.getElem_toArray, List.getElem_cons_zero, List.getElem_cons_succ]
              refine take_run (i := 3) (v := ?_) (by decide) (by kernel_rfl) (by kernel_rfl) (by kernel_rfl) (fun _ _ _ _ h => h) hH rfl ?_ ?_
              rotate_left
              · (intro w hSw; (try dsimp only at hSw); (try go_split_ands); simp only [List.getElem_toArray, List.getElem_cons_zero, List.getElem_cons_succ]; go_simp; try with_reducible rfl)
              try simp (config := { failIfUnchanged := false }) only [Act.put, List.setIfInBounds_toArray, List.set_cons_zero, List.set_cons_succ, List.getElem_toArray, List.getElem_cons_zero, List.getElem_cons_succ]
              refine take_run (i := 4) (v := ?_) (by decide) (by kernel_rfl) (by kernel_rfl) (by kernel_rfl) (fun _ _ _ _ h => h) hH rfl ?_ ?_
              rotate_left
              · (intro w hSw; (try dsimp only at hSw); (try go_split_ands); simp only [List.getElem_toArray, List.getElem_cons_zero, List.getElem_cons_succ]; go_simp; try with_reducible rfl)
              try simp (config := { failIfUnchanged := false }) only [Act.put, List.setIfInBounds_toArray, List.set_cons_zero, List.set_cons_succ, List.getElem_toArray, List.getElem_cons_zero, List.getElem_cons_succ]
              refine take_run (i := 5) (v := ?_) (by decide) (by kernel_rfl) (by kernel_rfl) (by kernel_rfl) (fun _ _ _ _ h => h) hH rfl ?_ ?_
              rotate_left
              · (intro w hSw; (try dsimp only at hSw); (try go_split_ands); simp only [List.getElem_toArray, List.getElem_cons_zero, List.getElem_cons_succ]; go_simp; try with_reducible rfl)
              try simp (config := { failIfUnchanged := false }) only [Act.put, List.setIfInBounds_toArray, List.set_cons_zero, List.set_cons_succ, List.getElem_toArray, List.getElem_cons_zero, List.getElem_cons_succ]
              refine take_run (i := 7) (v := ?_) (by decide) (by kernel_rfl) (by kernel_rfl) (by kernel_rfl) (fun _ _ _ _ h => h) hH rfl ?_ ?_
              rotate_left
              · (intro w hSw; (try dsimp only at hSw); (try go_split_ands); simp only [List.getElem_toArray, List.getElem_cons_zero, List.getElem_cons_succ]; go_simp; try with_reducible rfl)
              try simp (config := { failIfUnchanged := false }) only [Act.put, List.setIfInBounds_toArray, List.set_cons_zero, List.set_cons_succ, List.getElem_toArray, List.getElem_cons_zero, List.getElem_cons_succ]
              refine take_call (i := 6) (by decide) (by kernel_rfl) (fun K hK => ?_)
              simp only [List.getElem_toArray, List.getElem_cons_zero, List.getElem_cons_succ]
              go_simp
              go_at_call 54
              refine CB.out.mono ?_
              rintro e w5 ⟨rfl, rfl⟩
              dsimp only
              refine hK.out _ _ (by exact ⟨hF1, hU1, hP1⟩) (fun hH => ?_)
              clear hK K
              try simp (config := { failIfUnchanged := false }) only [Act.put, List.setIfInBounds_toArray, List.set_cons_zero, List.set_cons_succ, List.getElem_toArray, List.getElem_cons_zero, List.getElem_cons_succ]
              refine take_run (i := 8) (v := ?_) (by decide) (by kernel_rfl) (by kernel_rfl) (by kernel_rfl) (fun _ _ _ _ h => h) hH rfl ?_ ?_
              rotate_left
              · (intro w hSw; (try dsimp only at hSw); (try go_split_ands); simp only [List.getElem_toArray, List.getElem_cons_zero, List.getElem_cons_succ]; go_simp; try with_reducible rfl)
              try simp (config := { failIfUnchanged := false }) only [Act.put, List.setIfInBounds_toArray, List.set_cons_zero, List.set_cons_succ, List.getElem_toArray, List.getElem_cons_zero, List.getElem_cons_succ]
              refine take_run (i := 9) (v := ?_) (by decide) (by kernel_rfl) (by kernel_rfl) (by kernel_rfl) (fun _ _ _ _ h => h) hH rfl ?_ ?_
              rotate_left
              · (intro w hSw; (try dsimp only at hSw); (try go_split_ands); simp only [List.getElem_toArray, List.getElem_cons_zero, List.getElem_cons_succ]; go_simp; try with_reducible rfl)
              try simp (config := { failIfUnchanged := false }) only [Act.put, List.setIfInBounds_toArray, List.set_cons_zero, List.set_cons_succ, List.getElem_toArray, List.getElem_cons_zero, List.getElem_cons_succ]
              refine wpAnyH_done (by kernel_rfl) ?_ _
              go_wp2
              go_ret
              exact SearchPostB.of HR.out (HK1.out.trans (KeptS.of HBd.out)) HSd.out
            · have HC2 : Hid (cutTo p x pre (s + 1) = false) := by show _ = _; rw [cutTo_succ, hct.out, HFF.out, HSU.out, HBN2.out]; simp; omega
              have dd := decide_eq_false hle
              go_upto_region 12 with fail
              refine wp_region_held_drew (S := fun x => x.cell? ⟨F, 0, none⟩ = some (.bool true) ∧ x.cell? ⟨U, 0, none⟩ = some (.int .i64 su) ∧ x.cell? ⟨P, 0, none⟩ = some (.slice (some ⟨b0, off0, none⟩) p.length c)) (by kernel_rfl) (⟨hF1, hU1, hP1⟩) (fun hH => ?_)
              refine take_run (i := 0) (v := ?_) (by decide) (by kernel_rfl) (by kernel_rfl) (by kernel_rfl) (fun _ _ _ _ h => h) hH rfl ?_ ?_
              rotate_left
              · (intro w hSw; (try dsimp only at hSw); (try go_split_ands); simp only [List.getElem_toArray, List.getElem_cons_zero, List.getElem_cons_succ]; go_simp; try with_reducible rfl)
              try simp (config := { failIfUnchanged := false }) only [Act.put, List.setIfInBounds_toArray, List.set_cons_zero, List.set_cons_succ, List.getElem_toArray, List.getElem_cons_zero, List.getElem_cons_succ]
              refine take_run (i := 1) (v := ?_) (by decide) (by kernel_rfl) (by kernel_rfl) (by kernel_rfl) (fun _ _ _ _ h => h) hH rfl ?_ ?_
              rotate_left
              · (intro w hSw; (try dsimp only at hSw); (try go_split_ands); simp only [List.getElem_toArray, List.getElem_cons_zero, List.getElem_cons_succ]; go_simp; try with_reducible rfl)
              try simp (config := { failIfUnchanged := false }) only [Act.put, List.setIfInBounds_toArray, List.set_cons_zero, List.set_cons_succ, List.getElem_toArray, List.getElem_cons_zero, List.getElem_cons_succ]
              refine take_run (i := 2) (v := ?_) (by decide) (by kernel_rfl) (by kernel_rfl) (by kernel_rfl) (fun _ _ _ _ h => h) hH rfl ?_ ?_
              rotate_left
              · (intro w hSw; (try dsimp only at hSw); (try go_split_ands); simp only [List.getElem_toArray, List.getElem_cons_zero, List.getElem_cons_succ]; go_simp; try with_reducible rfl)
              try simp (config := { failIfUnchanged := false }) only [Act.put, List.setIfInBounds_toArray, List.set_cons_zero, List.set_cons_succ, List.getElem_toArray, List.getElem_cons_zero, List.getElem_cons_succ]
              refine take_run (i := 3) (v := ?_) (by decide) (by kernel_rfl) (by kernel_rfl) (by kernel_rfl) (fun _ _ _ _ h => h) hH rfl ?_ ?_
              rotate_left
              · (intro w hSw; (try dsimp only at hSw); (try go_split_ands); simp only [List.getElem_toArray, List.getElem_cons_zero, List.getElem_cons_succ]; go_simp; try with_reducible rfl)
              try simp (config := { failIfUnchanged := false }) only [Act.put, List.setIfInBounds_toArray, List.set_cons_zero, List.set_cons_succ, List.getElem_toArray, List.getElem_cons_zero, List.getElem_cons_succ]
              refine take_run (i := 4) (v := ?_) (by decide) (by kernel_rfl) (by kernel_rfl) (by kernel_rfl) (fun _ _ _ _ h => h) hH rfl ?_ ?_
              rotate_left
              · (intro w hSw; (try dsimp only at hSw); (try go_split_ands); simp only [List.getElem_toArray, List.getElem_cons_zero, List.getElem_cons_succ]; go_simp; try with_reducible rfl)
              try simp (config := { failIfUnchanged := false }) only [Act.put, List.setIfInBounds_toArray, List.set_cons_zero, List.set_cons_succ, List.getElem_toArray, List.getElem_cons_zero, List.getElem_cons_succ]
              refine take_run (i := 5) (v := ?_) (by decide) (by kernel_rfl) (by kernel_rfl) (by kernel_rfl) (fun _ _ _ _ h => h) hH rfl ?_ ?_
              rotate_left
              · (intro w hSw; (try dsimp only at hSw); (try go_split_ands); simp only [List.getElem_toArray, List.getElem_cons_zero, List.getElem_cons_succ]; go_simp; try with_reducible rfl)
              try simp (config := { failIfUnchanged := false }) only [Act.put, List.setIfInBounds_toArray, List.set_cons_zero, List.set_cons_succ, List.getElem_toArray, List.getElem_cons_zero, List.getElem_cons_succ]
              refine take_run (i := 7) (v := ?_) (by decide) (by kernel_rfl) (by kernel_rfl) (by kernel_rfl) (fun _ _ _ _ h => h) hH rfl ?_ ?_
              rotate_left
              · (intro w hSw; (try dsimp only at hSw); (try go_split_ands); simp only [List.getElem_toArray, List.getElem_cons_zero, List.getElem_cons_succ]; go_simp; try with_reducible rfl)
              try simp (config := { failIfUnchanged := false }) only [Act.put, List.setIfInBounds_toArray, List.set_cons_zero, List.set_cons_succ, List.getElem_toArray, List.getElem_cons_zero, List.getElem_cons_succ]
              refine take_call (i := 6) (by decide) (by kernel_rfl) (fun K hK => ?_)
              simp only [List.getElem_toArray, List.getElem_cons_zero, List.getElem_cons_succ]
              go_simp
              go_at_call 54
              refine CB.out.mono ?_
              rintro e w5 ⟨rfl, rfl⟩
              dsimp only
              refine hK.out _ _ (by exact ⟨hF1, hU1, hP1⟩) (fun hH => ?_)
              clear hK K
              try simp (config := { failIfUnchanged := false }) only [Act.put, List.setIfInBounds_toArray, List.set_cons_zero, List.set_cons_succ, List.getElem_toArray, List.getElem_cons_zero, List.getElem_cons_succ]
              refine take_run (i := 8) (v := ?_) (by decide) (by kernel_rfl) (by kernel_rfl) (by kernel_rfl) (fun _ _ _ _ h => h) hH rfl ?_ ?_
              rotate_left
              · (intro w hSw; (try dsimp only at hSw); (try go_split_ands); simp only [List.getElem_toArray, List.getElem_cons_zero, List.getElem_cons_succ]; go_simp; try with_reducible rfl)
              try simp (config := { failIfUnchanged := false }) only [Act.put, List.setIfInBounds_toArray, List.set_cons_zero, List.set_cons_succ, List.getElem_toArray, List.getElem_cons_zero, List.getElem_cons_succ]
              refine take_run (i := 9) (v := ?_) (by decide) (by kernel_rfl) (by kernel_rfl) (by kernel_rfl) (fun _ _ _ _ h => h) hH rfl ?_ ?_
              rotate_left
              · (intro w hSw; (try dsimp only at hSw); (try go_split_ands); simp only [List.getElem_toArray, List.getElem_cons_zero, List.getElem_cons_succ]; go_simp; try with_reducible rfl)
              try simp (config := { failIfUnchanged := false }) only [Act.put, List.setIfInBounds_toArray, List.set_cons_zero, List.set_cons_succ, List.getElem_toArray, List.getElem_cons_zero, List.getElem_cons_succ]
              refine wpAnyH_done (by kernel_rfl) ?_ _
              go_wp2
              go_roundw
              case rel => exact ⟨s + 1, by omega, by go_num, HC2.out, HBd.out⟩
              case measure => simp [intOf]; omega
        · have hlt' : ¬ (s : Int) < (nStat p : Int) := by omega
          have hse : s = nStat p := by omega
          have HC2 : Hid (cutB p x pre = false) := by show _ = _; rw [cutB_eq, ← hse]; exact hct.out
          have hL0 := HSr.out.left.c0
          have hLf := HSr.out.left.free 0
          obtain ⟨lf, hlf⟩ : ∃ lf, x.left = lf := ⟨_, rfl⟩
          have HLF := Lib.hid hlf
          rw [hlf] at hL0
          have hLr : 0 ≤ lf ∧ lf ≤ 100000 := by rw [← hlf]; exact HL.out
          have HKr : Hid (KeptS (SB F U O L) w wr) := HK1.out.trans (KeptS.of hbw.out)
          have hkset := (KeptS.refl (SB F U O L) wr).set (p := ⟨L, 0, none⟩) (.inr (.inr (.inr rfl))) (.int .i64 (lf - 1))
          have HSn : Hid (StB P F U O L G (.slice (some ⟨b0, off0, none⟩) p.length c) p (wr.setCell ⟨L, 0, none⟩ (.int .i64 (lf - 1))) (downB x)) := by
            obtain ⟨vo, ho, hro⟩ := HSr.out.ord
            exact HSr.out.next (y := downB x) HA.out hkset (HSr.out.found.far HA.out.fl _) (HSr.out.span.far HA.out.ul _) ⟨vo, ho.far HA.out.ol _, hkset.rep hro⟩ (by have := HSr.out.left.set_ 0 (.int .i64 (lf - 1)); show Blk _ L 3 #[.int .i64 (x.left - 1)]; rw [HLF.out]; exact this)
          have HKn : Hid (KeptS (SB F U O L) w (wr.setCell ⟨L, 0, none⟩ (.int .i64 (lf - 1)))) := HKr.out.trans hkset
          have HVn : Hid (Rep.int.slice.R (wr.setCell ⟨L, 0, none⟩ (.int .i64 (lf - 1))) (OkS (SB F U O L) (wr.setCell ⟨L, 0, none⟩ (.int .i64 (lf - 1)))) pre [.slice B pre.length cv]) := hkset.rep ((KeptS.of hbw.out).rep HV1.out)
          clear hlf hkset hse hF0 hU0 c00
          by_cases hneg : lf - 1 < 0
          · have HR := Lib.hid (search_out (f := f) (x := x) HBN.out HC2.out (by rw [HLF.out]; exact hneg))
            go_wp2
            go_ret
            exact SearchPostB.of HR.out HKn.out HSn.out
          · have HR := Lib.hid (search_loop (f := f) (x := x) HBN.out HC2.out (by rw [HLF.out]; exact hneg))
            have HLd : Hid (LeftOk (downB x)) := by show LeftOk _; unfold LeftOk downB; rw [HLF.out]; simp only; omega
            have hPn := HSn.out.pc.c0
            obtain ⟨Wn, hWn⟩ : ∃ Wn, Wn = wr.setCell ⟨L, 0, none⟩ (.int .i64 (lf - 1)) := ⟨_, rfl⟩
            rw [← hWn] at HSn HKn HVn
            have HWn := Lib.hid hWn
            have hpl1000 : pre.length ≤ 1000 := by omega
            obtain ⟨i0, hi0, hz0, hz1, hz2⟩ := info_parts fl_int_info
            clear hWn hct hbw HSr hP0 HKr hs hn8 hrl0 HBN HC2 HT1 HV1 HS1 HK1 HFF HSU HLF
            go_wp2
            rw [← HWn.out]
            go_loopw [65] (fun jv wx => ∃ (j : Nat) (y : Bs), j ≤ p.length ∧ jv = .int .i64 j ∧ Hid (loopB (stepB p f pre) (downB x) (jobsL j) = (y, true)) ∧ Hid (LeftOk y) ∧ Hid (KeptS (SB F U O L) Wn wx) ∧ Hid (StB P F U O L G (.slice (some ⟨b0, off0, none⟩) p.length c) p wx y)) (fun jv _ => p.length - (intOf jv).toNat)
            case atStart => exact ⟨0, downB x, Nat.zero_le _, rfl, rfl, HLd, KeptS.refl _ _, HSn⟩
            case round =>
              clear HSn hPn hL0 hLf hlt' hLr hneg
              obtain ⟨j, y, hj, rfl, HLP, HLy, HKr, HSr⟩ := hrel
              have hP0 := HSr.out.pc.c0
              by_cases hlt : j < p.length
              · have hlt' : (j : Int) < (p.length : Int) := by omega
                have hbd := (Below.refl wr.heap.size wr).drew
                have HS0 := Lib.hid (HSr.out.below HA.out hbd)
                have HK0 := Lib.hid (HKr.out.trans (KeptS.of hbd))
                have HV0 := Lib.hid (HK0.out.rep HVn.out)
                have HBW := Lib.hid (Below.refl wr.drew.heap.size wr.drew)
                have CC := Lib.hid (flContainsInt_any (.slice B pre.length cv) pre (j : Int) wr.drew (okS_lt HV0.out))
                have hG1 := HS0.out.sc.c0
                clear hbd hP0
                rcases Bool.eq_false_or_eq_true (pre.contains (j : Int)) with hc | hc
                · have HN : Hid (loopB (stepB p f pre) (downB x) (jobsL (j + 1)) = (y, true)) := loop_next HLP.out (by unfold stepB; rw [if_pos hc])
                  rw [hc] at CC
                  clear hc
                  go_upto_region 21 with fail
                  refine wp_region_held_drew (S := fun x => x.cell? ⟨G, 0, none⟩ = some (srchV P F U O L G)) (by kernel_rfl) (hG1) (fun hH => ?_)
                  refine take_run (i := 0) (v := ?_) (by decide) (by kernel_rfl) (by kernel_rfl) (by kernel_rfl) (fun _ _ _ _ h => h) hH rfl ?_ ?_
                  rotate_left
                  · (intro w hSw; (try dsimp only at hSw); (try go_split_ands); simp only [List.getElem_toArray, List.getElem_cons_zero, List.getElem_cons_succ]; go_simp; try with_reducible rfl)
                  try simp (config := { failIfUnchanged := false }) only [Act.put, List.setIfInBounds_toArray, List.set_cons_zero, List.set_cons_succ, List.getElem_toArray, List.getElem_cons_zero, List.getElem_cons_succ]
                  refine take_run (i := 1) (v := ?_) (by decide) (by kernel_rfl) (by kernel_rfl) (by kernel_rfl) (fun _ _ _ _ h => h) hH rfl ?_ ?_
                  rotate_left
                  · (intro w hSw; (try dsimp only at hSw); (try go_split_ands); simp only [List.getElem_toArray, List.getElem_cons_zero, List.getElem_cons_succ]; go_simp; try with_reducible rfl)
                  try simp (config := { failIfUnchanged := false }) only [Act.put, List.setIfInBounds_toArray, List.set_cons_zero, List.set_cons_succ, List.getElem_toArray, List.getElem_cons_zero, List.getElem_cons_succ]
                  refine take_call (i := 2) (by decide) (by kernel_rfl) (fun K hK => ?_)
                  simp only [List.getElem_toArray, List.getElem_cons_zero, List.getElem_cons_succ]
                  go_simp
                  go_at_call 55
                  refine CC.out.mono ?_
                  rintro e w5 ⟨rfl, rfl⟩
                  dsimp only
                  refine hK.out _ _ (by exact hG1) (fun hH => ?_)
                  clear hK K
                  try simp (config := { failIfUnchanged := false }) only [Act.put, List.setIfInBounds_toArray, List.set_cons_zero, List.set_cons_succ, List.getElem_toArray, List.getElem_cons_zero, List.getElem_cons_succ]
                  refine take_run (i := 3) (v := ?_) (by decide) (by kernel_rfl) (by kernel_rfl) (by kernel_rfl) (fun _ _ _ _ h => h) hH rfl ?_ ?_
                  rotate_left
                  · (intro w hSw; (try dsimp only at hSw); (try go_split_ands); simp only [List.getElem_toArray, List.getElem_cons_zero, List.getElem_cons_succ]; go_simp; try with_reducible rfl)
                  try simp (config := { failIfUnchanged := false }) only [Act.put, List.setIfInBounds_toArray, List.set_cons_zero, List.set_cons_succ, List.getElem_toArray, List.getElem_cons_zero, List.getElem_cons_succ]
                  refine take_run (i := 4) (v := ?_) (by decide) (by kernel_rfl) (by kernel_rfl) (by kernel_rfl) (fun _ _ _ _ h => h) hH rfl ?_ ?_
                  rotate_left
                  · (intro w hSw; (try dsimp only at hSw); (try go_split_ands); simp only [List.getElem_toArray, List.getElem_cons_zero, List.getElem_cons_succ]; go_simp; try with_reducible rfl)
                  try simp (config := { failIfUnchanged := false }) only [Act.put, List.setIfInBounds_toArray, List.set_cons_zero, List.set_cons_succ, List.getElem_toArray, List.getElem_cons_zero, List.getElem_cons_succ]
                  refine take_skip (i := 5) (by decide) (by kernel_rfl) (by kernel_rfl) (by kernel_rfl) (fun _ _ _ _ h => h) hH (by first | rfl | kernel_rfl) ?_
                  try simp (config := { failIfUnchanged := false }) only [Act.put, List.setIfInBounds_toArray, List.set_cons_zero, List.set_cons_succ, List.getElem_toArray, List.getElem_cons_zero, List.getElem_cons_succ]
                  refine take_skip (i := 6) (by decide) (by kernel_rfl) (by kernel_rfl) (by kernel_rfl) (fun _ _ _ _ h => h) hH (by first | rfl | kernel_rfl) ?_
                  try simp (config := { failIfUnchanged := false }) only [Act.put, List.setIfInBounds_toArray, List.set_cons_zero, List.set_cons_succ, List.getElem_toArray, List.getElem_cons_zero, List.getElem_cons_succ]
                  refine take_skip (i := 7) (by decide) (by kernel_rfl) (by kernel_rfl) (by kernel_rfl) (fun _ _ _ _ h => h) hH (by first | rfl | kernel_rfl) ?_
                  try simp (config := { failIfUnchanged := false }) only [Act.put, List.setIfInBounds_toArray, List.set_cons_zero, List.set_cons_succ, List.getElem_toArray, List.getElem_cons_zero, List.getElem_cons_succ]
                  refine take_skip (i := 8) (by decide) (by kernel_rfl) (by kernel_rfl) (by kernel_rfl) (fun _ _ _ _ h => h) hH (by first | rfl | kernel_rfl) ?_
                  try simp (config := { failIfUnchanged := false }) only [Act.put, List.setIfInBounds_toArray, List.set_cons_zero, List.set_cons_succ, List.getElem_toArray, List.getElem_cons_zero, List.getElem_cons_succ]
                  refine take_skip (i := 9) (by decide) (by kernel_rfl) (by kernel_rfl) (by kernel_rfl) (fun _ _ _ _ h => h) hH (by first | rfl | kernel_rfl) ?_
                  try simp (config := { failIfUnchanged := false }) only [Act.put, List.setIfInBounds_toArray, List.set_cons_zero, List.set_cons_succ, List.getElem_toArray, List.getElem_cons_zero, List.getElem_cons_succ]
                  refine take_skip (i := 10) (by decide) (by kernel_rfl) (by kernel_rfl) (by kernel_rfl) (fun _ _ _ _ h => h) hH (by first | rfl | kernel_rfl) ?_
                  try simp (config := { failIfUnchanged := false }) only [Act.put, List.setIfInBounds_toArray, List.set_cons_zero, List.set_cons_succ, List.getElem_toArray, List.getElem_cons_zero, List.getElem_cons_succ]
                  refine take_skip (i := 11) (by decide) (by kernel_rfl) (by kernel_rfl) (by kernel_rfl) (fun _ _ _ _ h => h) hH (by first | rfl | kernel_rfl) ?_
                  try simp (config := { failIfUnchanged := false }) only [Act.put, List.setIfInBounds_toArray, List.set_cons_zero, List.set_cons_succ, List.getElem_toArray, List.getElem_cons_zero, List.getElem_cons_succ]
                  refine take_skip (i := 12) (by decide) (by kernel_rfl) (by kernel_rfl) (by kernel_rfl) (fun _ _ _ _ h => h) hH (by first | rfl | kernel_rfl) ?_
                  try simp (config := { failIfUnchanged := false }) only [Act.put, List.setIfInBounds_toArray, List.set_cons_zero, List.set_cons_succ, List.getElem_toArray, List.getElem_cons_zero, List.getElem_cons_succ]
                  refine take_run (i := 13) (v := ?_) (by decide) (by kernel_rfl) (by kernel_rfl) (by kernel_rfl) (fun _ _ _ _ h => h) hH rfl ?_ ?_
                  rotate_left
                  · (intro w hSw; (try dsimp only at hSw); (try go_split_ands); simp only [List.getElem_toArray, List.getElem_cons_zero, List.getElem_cons_succ]; go_simp; try with_reducible rfl)
                  try simp (config := { failIfUnchanged := false }) only [Act.put, List.setIfInBounds_toArray, List.set_cons_zero, List.set_cons_succ, List.getElem_toArray, List.getElem_cons_zero, List.getElem_cons_succ]
                  refine wpAnyH_done (by kernel_rfl) ?_ _
                  go_wp2
                  go_roundw
                  case rel => exact ⟨j + 1, y, by omega, by go_num, HN, HLy, HK0, HS0⟩
                  case measure => simp [intOf]; omega
                · have hjn : (j : Int) ∉ pre := by simpa [List.contains_eq_mem] using hc
                  have HSN := Lib.hid (HS.out.snoc (j := (j : Int)) ⟨by omega, hlt'⟩ hjn)
                  have HPB : Hid (∀ x ∈ pre ++ [(j : Int)], inI64 x) := fun x hx => by have := HSN.out.2 x hx; unfold inI64; omega
                  obtain ⟨⟨z, b⟩, hq⟩ : ∃ q, searchB p f y (pre ++ [(j : Int)]) = q := ⟨_, rfl⟩
                  have HQ := Lib.hid hq
                  have HN : Hid (loopB (stepB p f pre) (downB x) (jobsL (j + 1)) = (z, b)) := loop_next HLP.out (by unfold stepB; rw [if_neg (by rw [hc]; decide)]; exact hq)
                  have HLz : Hid (b = true → LeftOk z) := fun hb => by have := search_left f y (pre ++ [(j : Int)]) HLy.out (by rw [hq]; exact hb); rw [hq] at this; exact this
                  rw [hc] at CC
                  clear hc hjn hq
                  cases b
                  · have HR2 := Lib.hid (HR.out.trans (loop_stop HN.out hlt))
                    go_upto_region 21 with fail
                    refine wp_region_held_drew (S := fun x => x.cell? ⟨G, 0, none⟩ = some (.func (.func 51) #[] #[.pointer (some ⟨P, 0, none⟩), .pointer (some ⟨F, 0, none⟩), .pointer (some ⟨U, 0, none⟩), .pointer (some ⟨O, 0, none⟩), .pointer (some ⟨L, 0, none⟩), .pointer (some ⟨G, 0, none⟩)])) (by kernel_rfl) (HS0.out.sc.c0) (fun hH => ?_)
                    refine take_run (i := 0) (v := ?_) (by decide) (by kernel_rfl) (by kernel_rfl) (by kernel_rfl) (fun _ _ _ _ h => h) hH rfl ?_ ?_
                    rotate_left
                    · (intro w hSw; (try dsimp only at hSw); (try go_split_ands); simp only [List.getElem_toArray, List.getElem_cons_zero, List.getElem_cons_succ]; go_simp; try with_reducible rfl)
                    try simp (config := { failIfUnchanged := false }) only [Act.put, List.setIfInBounds_toArray, List.set_cons_zero, List.set_cons_succ, List.getElem_toArray, List.getElem_cons_zero, List.getElem_cons_succ]
                    refine take_run (i := 1) (v := ?_) (by decide) (by kernel_rfl) (by kernel_rfl) (by kernel_rfl) (fun _ _ _ _ h => h) hH rfl ?_ ?_
                    rotate_left
                    · (intro w hSw; (try dsimp only at hSw); (try go_split_ands); simp only [List.getElem_toArray, List.getElem_cons_zero, List.getElem_cons_succ]; go_simp; try with_reducible rfl)
                    try simp (config := { failIfUnchanged := false }) only [Act.put, List.setIfInBounds_toArray, List.set_cons_zero, List.set_cons_succ, List.getElem_toArray, List.getElem_cons_zero, List.getElem_cons_succ]
                    refine take_call (i := 2) (by decide) (by kernel_rfl) (fun K hK => ?_)
                    simp only [List.getElem_toArray, List.getElem_cons_zero, List.getElem_cons_succ]
                    go_simp
                    go_at_call 55
                    refine CC.out.mono ?_
                    rintro e w5 ⟨rfl, rfl⟩
                    dsimp only
                    refine hK.out _ _ (by exact HS0.out.sc.c0) (fun hH => ?_)
                    clear hK K
                    try simp (config := { failIfUnchanged := false }) only [Act.put, List.setIfInBounds_toArray, List.set_cons_zero, List.set_cons_succ, List.getElem_toArray, List.getElem_cons_zero, List.getElem_cons_succ]
                    refine take_run (i := 3) (v := ?_) (by decide) (by kernel_rfl) (by kernel_rfl) (by kernel_rfl) (fun _ _ _ _ h => h) hH rfl ?_ ?_
                    rotate_left
                    · (intro w hSw; (try dsimp only at hSw); (try go_split_ands); simp only [List.getElem_toArray, List.getElem_cons_zero, List.getElem_cons_succ]; go_simp; try with_reducible rfl)
                    try simp (config := { failIfUnchanged := false }) only [Act.put, List.setIfInBounds_toArray, List.set_cons_zero, List.set_cons_succ, List.getElem_toArray, List.getElem_cons_zero, List.getElem_cons_succ]
                    refine take_run (i := 4) (v := ?_) (by decide) (by kernel_rfl) (by kernel_rfl) (by kernel_rfl) (fun _ _ _ _ h => h) hH rfl ?_ ?_
                    rotate_left
                    · (intro w hSw; (try dsimp only at hSw); (try go_split_ands); simp only [List.getElem_toArray, List.getElem_cons_zero, List.getElem_cons_succ]; go_simp; try with_reducible rfl)
                    try simp (config := { failIfUnchanged := false }) only [Act.put, List.setIfInBounds_toArray, List.set_cons_zero, List.set_cons_succ, List.getElem_toArray, List.getElem_cons_zero, List.getElem_cons_succ]
                    refine take_run (i := 5) (v := ?_) (by decide) (by kernel_rfl) (by kernel_rfl) (by kernel_rfl) (fun _ _ _ _ h => h) hH rfl ?_ ?_
                    rotate_left
                    · (intro w hSw; (try dsimp only at hSw); (try go_split_ands); simp only [List.getElem_toArray, List.getElem_cons_zero, List.getElem_cons_succ]; go_simp; try with_reducible rfl)
                    try simp (config := { failIfUnchanged := false }) only [Act.put, List.setIfInBounds_toArray, List.set_cons_zero, List.set_cons_succ, List.getElem_toArray, List.getElem_cons_zero, List.getElem_cons_succ]
                    refine take_run (i := 6) (v := ?_) (by decide) (by kernel_rfl) (by kernel_rfl) (by kernel_rfl) (fun _ _ _ _ h => h) hH rfl ?_ ?_
                    rotate_left
                    · (intro w hSw; (try dsimp only at hSw); (try go_split_ands); simp only [List.getElem_toArray, List.getElem_cons_zero, List.getElem_cons_succ]; go_simp; try with_reducible rfl)
                    try simp (config := { failIfUnchanged := false }) only [Act.put, List.setIfInBounds_toArray, List.set_cons_zero, List.set_cons_succ, List.getElem_toArray, List.getElem_cons_zero, List.getElem_cons_succ]
                    refine take_run (i := 8) (v := ?_) (by decide) (by kernel_rfl) (by kernel_rfl) (by kernel_rfl) (fun _ _ _ _ h => h) hH rfl ?_ ?_
                    rotate_left
                    · (intro w hSw; (try dsimp only at hSw); (try go_split_ands); simp only [List.getElem_toArray, List.getElem_cons_zero, List.getElem_cons_succ]; go_simp; try with_reducible rfl)
                    try simp (config := { failIfUnchanged := false }) only [Act.put, List.setIfInBounds_toArray, List.set_cons_zero, List.set_cons_succ, List.getElem_toArray, List.getElem_cons_zero, List.getElem_cons_succ]
                    refine take_two (i := 7) (j := 9) (by decide) (by decide) (by kernel_rfl) (fun K hK => ?_) (fun K hK => ?_)
                    focus
                      simp only [List.getElem_toArray, List.getElem_cons_zero, List.getElem_cons_succ]
                      go_simp
                      go_at_call 53
                      refine (flCloneOwn_any _ _ _ pre _ (Rep.below (okS_lt HV0.out) HBW.out) hpl1000).mono ?_
                      rintro e w6 ⟨v6, rfl, hown6, hb6⟩
                      have HBX := HBW
                      have HBW := Lib.hid (bstep HBW.out HBW.out.size hb6)
                      dsimp only
                      refine hK.out _ _ (by exact (HS0.out.below HA.out HBW.out).sc.c0) (fun hH => ?_)
                      clear hK K
                      try simp (config := { failIfUnchanged := false }) only [Act.put, List.setIfInBounds_toArray, List.set_cons_zero, List.set_cons_succ, List.getElem_toArray, List.getElem_cons_zero, List.getElem_cons_succ]
                      refine take_call (i := 9) (by decide) (by kernel_rfl) (fun K hK => ?_)
                      simp only [List.getElem_toArray, List.getElem_cons_zero, List.getElem_cons_succ]
                      go_simp
                      have HY : Hid (Rep.int.slice.R (w6.alloc (.cells #[.int .i64 (j : Int)] 3)) (Lt _) [(j : Int)] [.slice (some ⟨w6.heap.size, 0, none⟩) 1 1]) := Blk.ints (xs := [(j : Int)]) (Blk.new w6 3 #[.int .i64 (j : Int)]) (fun y hy => by rw [List.mem_singleton.1 hy]; unfold inI64; omega) (Nat.le_refl _) (by decide)
                      have HBW := Lib.hid (HBW.out.alloc HBW.out.size (.cells #[.int .i64 (j : Int)] 3))
                      refine hK.out _ _ (by exact (HS0.out.below HA.out HBW.out).sc.c0) (fun hH => ?_)
                      clear hK K
                      try simp (config := { failIfUnchanged := false }) only [Act.put, List.setIfInBounds_toArray, List.set_cons_zero, List.set_cons_succ, List.getElem_toArray, List.getElem_cons_zero, List.getElem_cons_succ]
                      have HO6 : Hid ((w6.alloc (.cells #[.int .i64 (j : Int)] 3)).ownsRow wr.drew.heap.size 3 1 v6 pre.length (pre.map (Value.int .i64))) := World.ownsRow.alloc hown6 _
                      have HB6 : Hid (wr.drew.heap.size ≤ wr.drew.heap.size ∧ wr.drew.heap.size ≤ (w6.alloc (.cells #[.int .i64 (j : Int)] 3)).heap.size) := ⟨Nat.le_refl _, HBW.out.size⟩
                      clear hown6 hb6 HBX
                      generalize w6.alloc (.cells #[.int .i64 (j : Int)] 3) = wz at *
                      generalize w6.heap.size = bz at *
                      obtain ⟨B6, HB6, HO6⟩ : ∃ B6, Hid (wr.drew.heap.size ≤ B6 ∧ B6 ≤ wz.heap.size) ∧ Hid (wz.ownsRow B6 3 1 v6 pre.length (pre.map (Value.int .i64))) := ⟨_, HB6, HO6⟩
                    rotate_left 1
                    focus
                      simp only [List.getElem_toArray, List.getElem_cons_zero, List.getElem_cons_succ]
                      go_simp
                      have HY : Hid (Rep.int.slice.R (wr.drew.alloc (.cells #[.int .i64 (j : Int)] 3)) (Lt _) [(j : Int)] [.slice (some ⟨wr.drew.heap.size, 0, none⟩) 1 1]) := Blk.ints (xs := [(j : Int)]) (Blk.new wr.drew 3 #[.int .i64 (j : Int)]) (fun y hy => by rw [List.mem_singleton.1 hy]; unfold inI64; omega) (Nat.le_refl _) (by decide)
                      have HBW := Lib.hid (HBW.out.alloc HBW.out.size (.cells #[.int .i64 (j : Int)] 3))
                      refine hK.out _ _ (by exact (HS0.out.below HA.out HBW.out).sc.c0) (fun hH => ?_)
                      clear hK K
                      try simp (config := { failIfUnchanged := false }) only [Act.put, List.setIfInBounds_toArray, List.set_cons_zero, List.set_cons_succ, List.getElem_toArray, List.getElem_cons_zero, List.getElem_cons_succ]
                      refine take_call (i := 7) (by decide) (by kernel_rfl) (fun K hK => ?_)
                      simp only [List.getElem_toArray, List.getElem_cons_zero, List.getElem_cons_succ]
                      go_simp
                      go_at_call 53
                      refine (flCloneOwn_any _ _ _ pre _ (Rep.below (okS_lt HV0.out) HBW.out) hpl1000).mono ?_
                      rintro e wz ⟨v6, rfl, hown6, hb6⟩
                      have HBX := HBW
                      have HBW := Lib.hid (bstep HBW.out HBW.out.size hb6)
                      dsimp only
                      have HY := Lib.hid (Rep.below HY.out hb6)
                      refine hK.out _ _ (by exact (HS0.out.below HA.out HBW.out).sc.c0) (fun hH => ?_)
                      clear hK K
                      try simp (config := { failIfUnchanged := false }) only [Act.put, List.setIfInBounds_toArray, List.set_cons_zero, List.set_cons_succ, List.getElem_toArray, List.getElem_cons_zero, List.getElem_cons_succ]
                      have HO6 : Hid (wz.ownsRow (wr.drew.alloc (.cells #[.int .i64 (j : Int)] 3)).heap.size 3 1 v6 pre.length (pre.map (Value.int .i64))) := hown6
                      have HB6 : Hid (wr.drew.heap.size ≤ (wr.drew.alloc (.cells #[.int .i64 (j : Int)] 3)).heap.size ∧ (wr.drew.alloc (.cells #[.int .i64 (j : Int)] 3)).heap.size ≤ wz.heap.size) := ⟨HBX.out.size, hb6.size⟩
                      clear hown6 hb6 HBX
                      obtain ⟨B6, HB6, HO6⟩ : ∃ B6, Hid (wr.drew.heap.size ≤ B6 ∧ B6 ≤ wz.heap.size) ∧ Hid (wz.ownsRow B6 3 1 v6 pre.length (pre.map (Value.int .i64))) := ⟨_, HB6, HO6⟩
                    all_goals
                      refine take_call (i := 10) (by decide) (by kernel_rfl) (fun K hK => ?_)
                      simp only [List.getElem_toArray, List.getElem_cons_zero, List.getElem_cons_succ]
                      rw [if_pos (by rfl)]
                      refine oper_append_flat flat_int _ _ _ (by rfl) B6 3 i0 (.int .i64 0) 8 Try.underlying23 hi0 hz0 hz1 hz2 rfl v6 _ _ (by rfl) HO6.out [(j : Int)] (by rfl) HY.out (by simp; omega) (by simp; omega) HB6.out.2 ?_
                      intro v7 w7 hown7 hg7
                      have HO7 : Hid (w7.ownsRow B6 3 1 v7 (pre.length + 1) ((pre ++ [(j : Int)]).map (Value.int .i64))) := by rw [fm_int] at hown7; rw [List.map_append]; exact hown7
                      have HBW := Lib.hid (HBW.out.grown hg7 HBW.out.size (fun g hg => Nat.le_trans HB6.out.1 (World.ownsRow.lt HO6.out g hg).1))
                      have HJ : Hid (Rep.int.slice.R w7 (OkS (SB F U O L) w7) (pre ++ [(j : Int)]) [v7]) := okS_new (flOwn_new HO7.out HPB.out) (fun i hi => Nat.lt_of_lt_of_le (HS0.out.olds i hi) HB6.out.1)
                      clear hown7 hg7 HO7 HO6 HY
                      refine hK.out _ _ (by exact (HS0.out.below HA.out HBW.out).sc.c0) (fun hH => ?_)
                      clear hK K
                      try simp (config := { failIfUnchanged := false }) only [Act.put, List.setIfInBounds_toArray, List.set_cons_zero, List.set_cons_succ, List.getElem_toArray, List.getElem_cons_zero, List.getElem_cons_succ]
                      refine take_call (i := 11) (by decide) (by kernel_rfl) (fun K hK => ?_)
                      simp only [List.getElem_toArray, List.getElem_cons_zero, List.getElem_cons_succ]
                      go_simp
                      go_at_call 51
                      refine (IH.out _ (pre ++ [(j : Int)]) y _ (by have := HF.out; simp; omega) HSN.out HLy.out (HS0.out.below HA.out HBW.out) HJ.out).mono ?_
                      rw [HQ.out]
                      rintro e w8 ⟨rfl, hk8, hs8⟩
                      dsimp only
                      have HS8 := Lib.hid hs8
                      have HK8 := Lib.hid (KeptS.trans (KeptS.of (S := SB F U O L) HBW.out) hk8)
                      clear hk8 hs8
                      refine hK.out _ _ (by exact HS8.out.sc.c0) (fun hH => ?_)
                      clear hK K
                      try simp (config := { failIfUnchanged := false }) only [Act.put, List.setIfInBounds_toArray, List.set_cons_zero, List.set_cons_succ, List.getElem_toArray, List.getElem_cons_zero, List.getElem_cons_succ]
                      refine take_run (i := 12) (v := ?_) (by decide) (by kernel_rfl) (by kernel_rfl) (by kernel_rfl) (fun _ _ _ _ h => h) hH rfl ?_ ?_
                      rotate_left
                      · (intro w hSw; (try dsimp only at hSw); (try go_split_ands); simp only [List.getElem_toArray, List.getElem_cons_zero, List.getElem_cons_succ]; go_simp; try with_reducible rfl)
                      try simp (config := { failIfUnchanged := false }) only [Act.put, List.setIfInBounds_toArray, List.set_cons_zero, List.set_cons_succ, List.getElem_toArray, List.getElem_cons_zero, List.getElem_cons_succ]
                      refine take_run (i := 13) (v := ?_) (by decide) (by kernel_rfl) (by kernel_rfl) (by kernel_rfl) (fun _ _ _ _ h => h) hH rfl ?_ ?_
                      rotate_left
                      · (intro w hSw; (try dsimp only at hSw); (try go_split_ands); simp only [List.getElem_toArray, List.getElem_cons_zero, List.getElem_cons_succ]; go_simp; try with_reducible rfl)
                      try simp (config := { failIfUnchanged := false }) only [Act.put, List.setIfInBounds_toArray, List.set_cons_zero, List.set_cons_succ, List.getElem_toArray, List.getElem_cons_zero, List.getElem_cons_succ]
                      refine wpAnyH_done (by kernel_rfl) ?_ _
                      go_wp2
                      go_ret
                      exact SearchPostB.of HR2.out ((HKn.out.trans HK0.out).trans HK8.out) HS8.out
                  · go_upto_region 21 with fail
                    refine wp_region_held_drew (S := fun x => x.cell? ⟨G, 0, none⟩ = some (.func (.func 51) #[] #[.pointer (some ⟨P, 0, none⟩), .pointer (some ⟨F, 0, none⟩), .pointer (some ⟨U, 0, none⟩), .pointer (some ⟨O, 0, none⟩), .pointer (some ⟨L, 0, none⟩), .pointer (some ⟨G, 0, none⟩)])) (by kernel_rfl) (HS0.out.sc.c0) (fun hH => ?_)
                    refine take_run (i := 0) (v := ?_) (by decide) (by kernel_rfl) (by kernel_rfl) (by kernel_rfl) (fun _ _ _ _ h => h) hH rfl ?_ ?_
                    rotate_left
                    · (intro w hSw; (try dsimp only at hSw); (try go_split_ands); simp only [List.getElem_toArray, List.getElem_cons_zero, List.getElem_cons_succ]; go_simp; try with_reducible rfl)
                    try simp (config := { failIfUnchanged := false }) only [Act.put, List.setIfInBounds_toArray, List.set_cons_zero, List.set_cons_succ, List.getElem_toArray, List.getElem_cons_zero, List.getElem_cons_succ]
                    refine take_run (i := 1) (v := ?_) (by decide) (by kernel_rfl) (by kernel_rfl) (by kernel_rfl) (fun _ _ _ _ h => h) hH rfl ?_ ?_
                    rotate_left
                    · (intro w hSw; (try dsimp only at hSw); (try go_split_ands); simp only [List.getElem_toArray, List.getElem_cons_zero, List.getElem_cons_succ]; go_simp; try with_reducible rfl)
                    try simp (config := { failIfUnchanged := false }) only [Act.put, List.setIfInBounds_toArray, List.set_cons_zero, List.set_cons_succ, List.getElem_toArray, List.getElem_cons_zero, List.getElem_cons_succ]
                    refine take_call (i := 2) (by decide) (by kernel_rfl) (fun K hK => ?_)
                    simp only [List.getElem_toArray, List.getElem_cons_zero, List.getElem_cons_succ]
                    go_simp
                    go_at_call 55
                    refine CC.out.mono ?_
                    rintro e w5 ⟨rfl, rfl⟩
                    dsimp only
                    refine hK.out _ _ (by exact HS0.out.sc.c0) (fun hH => ?_)
                    clear hK K
                    try simp (config := { failIfUnchanged := false }) only [Act.put, List.setIfInBounds_toArray, List.set_cons_zero, List.set_cons_succ, List.getElem_toArray, List.getElem_cons_zero, List.getElem_cons_succ]
                    refine take_run (i := 3) (v := ?_) (by decide) (by kernel_rfl) (by kernel_rfl) (by kernel_rfl) (fun _ _ _ _ h => h) hH rfl ?_ ?_
                    rotate_left
                    · (intro w hSw; (try dsimp only at hSw); (try go_split_ands); simp only [List.getElem_toArray, List.getElem_cons_zero, List.getElem_cons_succ]; go_simp; try with_reducible rfl)
                    try simp (config := { failIfUnchanged := false }) only [Act.put, List.setIfInBounds_toArray, List.set_cons_zero, List.set_cons_succ, List.getElem_toArray, List.getElem_cons_zero, List.getElem_cons_succ]
                    refine take_run (i := 4) (v := ?_) (by decide) (by kernel_rfl) (by kernel_rfl) (by kernel_rfl) (fun _ _ _ _ h => h) hH rfl ?_ ?_
                    rotate_left
                    · (intro w hSw; (try dsimp only at hSw); (try go_split_ands); simp only [List.getElem_toArray, List.getElem_cons_zero, List.getElem_cons_succ]; go_simp; try with_reducible rfl)
                    try simp (config := { failIfUnchanged := false }) only [Act.put, List.setIfInBounds_toArray, List.set_cons_zero, List.set_cons_succ, List.getElem_toArray, List.getElem_cons_zero, List.getElem_cons_succ]
                    refine take_run (i := 5) (v := ?_) (by decide) (by kernel_rfl) (by kernel_rfl) (by kernel_rfl) (fun _ _ _ _ h => h) hH rfl ?_ ?_
                    rotate_left
                    · (intro w hSw; (try dsimp only at hSw); (try go_split_ands); simp only [List.getElem_toArray, List.getElem_cons_zero, List.getElem_cons_succ]; go_simp; try with_reducible rfl)
                    try simp (config := { failIfUnchanged := false }) only [Act.put, List.setIfInBounds_toArray, List.set_cons_zero, List.set_cons_succ, List.getElem_toArray, List.getElem_cons_zero, List.getElem_cons_succ]
                    refine take_run (i := 6) (v := ?_) (by decide) (by kernel_rfl) (by kernel_rfl) (by kernel_rfl) (fun _ _ _ _ h => h) hH rfl ?_ ?_
                    rotate_left
                    · (intro w hSw; (try dsimp only at hSw); (try go_split_ands); simp only [List.getElem_toArray, List.getElem_cons_zero, List.getElem_cons_succ]; go_simp; try with_reducible rfl)
                    try simp (config := { failIfUnchanged := false }) only [Act.put, List.setIfInBounds_toArray, List.set_cons_zero, List.set_cons_succ, List.getElem_toArray, List.getElem_cons_zero, List.getElem_cons_succ]
                    refine take_run (i := 8) (v := ?_) (by decide) (by kernel_rfl) (by kernel_rfl) (by kernel_rfl) (fun _ _ _ _ h => h) hH rfl ?_ ?_
                    rotate_left
                    · (intro w hSw; (try dsimp only at hSw); (try go_split_ands); simp only [List.getElem_toArray, List.getElem_cons_zero, List.getElem_cons_succ]; go_simp; try with_reducible rfl)
                    try simp (config := { failIfUnchanged := false }) only [Act.put, List.setIfInBounds_toArray, List.set_cons_zero, List.set_cons_succ, List.getElem_toArray, List.getElem_cons_zero, List.getElem_cons_succ]
                    refine take_two (i := 7) (j := 9) (by decide) (by decide) (by kernel_rfl) (fun K hK => ?_) (fun K hK => ?_)
                    focus
                      simp only [List.getElem_toArray, List.getElem_cons_zero, List.getElem_cons_succ]
                      go_simp
                      go_at_call 53
                      refine (flCloneOwn_any _ _ _ pre _ (Rep.below (okS_lt HV0.out) HBW.out) hpl1000).mono ?_
                      rintro e w6 ⟨v6, rfl, hown6, hb6⟩
                      have HBX := HBW
                      have HBW := Lib.hid (bstep HBW.out HBW.out.size hb6)
                      dsimp only
                      refine hK.out _ _ (by exact (HS0.out.below HA.out HBW.out).sc.c0) (fun hH => ?_)
                      clear hK K
                      try simp (config := { failIfUnchanged := false }) only [Act.put, List.setIfInBounds_toArray, List.set_cons_zero, List.set_cons_succ, List.getElem_toArray, List.getElem_cons_zero, List.getElem_cons_succ]
                      refine take_call (i := 9) (by decide) (by kernel_rfl) (fun K hK => ?_)
                      simp only [List.getElem_toArray, List.getElem_cons_zero, List.getElem_cons_succ]
                      go_simp
                      have HY : Hid (Rep.int.slice.R (w6.alloc (.cells #[.int .i64 (j : Int)] 3)) (Lt _) [(j : Int)] [.slice (some ⟨w6.heap.size, 0, none⟩) 1 1]) := Blk.ints (xs := [(j : Int)]) (Blk.new w6 3 #[.int .i64 (j : Int)]) (fun y hy => by rw [List.mem_singleton.1 hy]; unfold inI64; omega) (Nat.le_refl _) (by decide)
                      have HBW := Lib.hid (HBW.out.alloc HBW.out.size (.cells #[.int .i64 (j : Int)] 3))
                      refine hK.out _ _ (by exact (HS0.out.below HA.out HBW.out).sc.c0) (fun hH => ?_)
                      clear hK K
                      try simp (config := { failIfUnchanged := false }) only [Act.put, List.setIfInBounds_toArray, List.set_cons_zero, List.set_cons_succ, List.getElem_toArray, List.getElem_cons_zero, List.getElem_cons_succ]
                      have HO6 : Hid ((w6.alloc (.cells #[.int .i64 (j : Int)] 3)).ownsRow wr.drew.heap.size 3 1 v6 pre.length (pre.map (Value.int .i64))) := World.ownsRow.alloc hown6 _
                      have HB6 : Hid (wr.drew.heap.size ≤ wr.drew.heap.size ∧ wr.drew.heap.size ≤ (w6.alloc (.cells #[.int .i64 (j : Int)] 3)).heap.size) := ⟨Nat.le_refl _, HBW.out.size⟩
                      clear hown6 hb6 HBX
                      generalize w6.alloc (.cells #[.int .i64 (j : Int)] 3) = wz at *
                      generalize w6.heap.size = bz at *
                      obtain ⟨B6, HB6, HO6⟩ : ∃ B6, Hid (wr.drew.heap.size ≤ B6 ∧ B6 ≤ wz.heap.size) ∧ Hid (wz.ownsRow B6 3 1 v6 pre.length (pre.map (Value.int .i64))) := ⟨_, HB6, HO6⟩
                    rotate_left 1
                    focus
                      simp only [List.getElem_toArray, List.getElem_cons_zero, List.getElem_cons_succ]
                      go_simp
                      have HY : Hid (Rep.int.slice.R (wr.drew.alloc (.cells #[.int .i64 (j : Int)] 3)) (Lt _) [(j : Int)] [.slice (some ⟨wr.drew.heap.size, 0, none⟩) 1 1]) := Blk.ints (xs := [(j : Int)]) (Blk.new wr.drew 3 #[.int .i64 (j : Int)]) (fun y hy => by rw [List.mem_singleton.1 hy]; unfold inI64; omega) (Nat.le_refl _) (by decide)
                      have HBW := Lib.hid (HBW.out.alloc HBW.out.size (.cells #[.int .i64 (j : Int)] 3))
                      refine hK.out _ _ (by exact (HS0.out.below HA.out HBW.out).sc.c0) (fun hH => ?_)
                      clear hK K
                      try simp (config := { failIfUnchanged := false }) only [Act.put, List.setIfInBounds_toArray, List.set_cons_zero, List.set_cons_succ, List.getElem_toArray, List.getElem_cons_zero, List.getElem_cons_succ]
                      refine take_call (i := 7) (by decide) (by kernel_rfl) (fun K hK => ?_)
                      simp only [List.getElem_toArray, List.getElem_cons_zero, List.getElem_cons_succ]
                      go_simp
                      go_at_call 53
                      refine (flCloneOwn_any _ _ _ pre _ (Rep.below (okS_lt HV0.out) HBW.out) hpl1000).mono ?_
                      rintro e wz ⟨v6, rfl, hown6, hb6⟩
                      have HBX := HBW
                      have HBW := Lib.hid (bstep HBW.out HBW.out.size hb6)
                      dsimp only
                      have HY := Lib.hid (Rep.below HY.out hb6)
                      refine hK.out _ _ (by exact (HS0.out.below HA.out HBW.out).sc.c0) (fun hH => ?_)
                      clear hK K
                      try simp (config := { failIfUnchanged := false }) only [Act.put, List.setIfInBounds_toArray, List.set_cons_zero, List.set_cons_succ, List.getElem_toArray, List.getElem_cons_zero, List.getElem_cons_succ]
                      have HO6 : Hid (wz.ownsRow (wr.drew.alloc (.cells #[.int .i64 (j : Int)] 3)).heap.size 3 1 v6 pre.length (pre.map (Value.int .i64))) := hown6
                      have HB6 : Hid (wr.drew.heap.size ≤ (wr.drew.alloc (.cells #[.int .i64 (j : Int)] 3)).heap.size ∧ (wr.drew.alloc (.cells #[.int .i64 (j : Int)] 3)).heap.size ≤ wz.heap.size) := ⟨HBX.out.size, hb6.size⟩
                      clear hown6 hb6 HBX
                      obtain ⟨B6, HB6, HO6⟩ : ∃ B6, Hid (wr.drew.heap.size ≤ B6 ∧ B6 ≤ wz.heap.size) ∧ Hid (wz.ownsRow B6 3 1 v6 pre.length (pre.map (Value.int .i64))) := ⟨_, HB6, HO6⟩
                    all_goals
                      refine take_call (i := 10) (by decide) (by kernel_rfl) (fun K hK => ?_)
                      simp only [List.getElem_toArray, List.getElem_cons_zero, List.getElem_cons_succ]
                      rw [if_pos (by rfl)]
                      refine oper_append_flat flat_int _ _ _ (by rfl) B6 3 i0 (.int .i64 0) 8 Try.underlying23 hi0 hz0 hz1 hz2 rfl v6 _ _ (by rfl) HO6.out [(j : Int)] (by rfl) HY.out (by simp; omega) (by simp; omega) HB6.out.2 ?_
                      intro v7 w7 hown7 hg7
                      have HO7 : Hid (w7.ownsRow B6 3 1 v7 (pre.length + 1) ((pre ++ [(j : Int)]).map (Value.int .i64))) := by rw [fm_int] at hown7; rw [List.map_append]; exact hown7
                      have HBW := Lib.hid (HBW.out.grown hg7 HBW.out.size (fun g hg => Nat.le_trans HB6.out.1 (World.ownsRow.lt HO6.out g hg).1))
                      have HJ : Hid (Rep.int.slice.R w7 (OkS (SB F U O L) w7) (pre ++ [(j : Int)]) [v7]) := okS_new (flOwn_new HO7.out HPB.out) (fun i hi => Nat.lt_of_lt_of_le (HS0.out.olds i hi) HB6.out.1)
                      clear hown7 hg7 HO7 HO6 HY
                      refine hK.out _ _ (by exact (HS0.out.below HA.out HBW.out).sc.c0) (fun hH => ?_)
                      clear hK K
                      try simp (config := { failIfUnchanged := false }) only [Act.put, List.setIfInBounds_toArray, List.set_cons_zero, List.set_cons_succ, List.getElem_toArray, List.getElem_cons_zero, List.getElem_cons_succ]
                      refine take_call (i := 11) (by decide) (by kernel_rfl) (fun K hK => ?_)
                      simp only [List.getElem_toArray, List.getElem_cons_zero, List.getElem_cons_succ]
                      go_simp
                      go_at_call 51
                      refine (IH.out _ (pre ++ [(j : Int)]) y _ (by have := HF.out; simp; omega) HSN.out HLy.out (HS0.out.below HA.out HBW.out) HJ.out).mono ?_
                      rw [HQ.out]
                      rintro e w8 ⟨rfl, hk8, hs8⟩
                      dsimp only
                      have HS8 := Lib.hid hs8
                      have HK8 := Lib.hid (KeptS.trans (KeptS.of (S := SB F U O L) HBW.out) hk8)
                      clear hk8 hs8
                      refine hK.out _ _ (by exact HS8.out.sc.c0) (fun hH => ?_)
                      clear hK K
                      try simp (config := { failIfUnchanged := false }) only [Act.put, List.setIfInBounds_toArray, List.set_cons_zero, List.set_cons_succ, List.getElem_toArray, List.getElem_cons_zero, List.getElem_cons_succ]
                      refine take_run (i := 12) (v := ?_) (by decide) (by kernel_rfl) (by kernel_rfl) (by kernel_rfl) (fun _ _ _ _ h => h) hH rfl ?_ ?_
                      rotate_left
                      · (intro w hSw; (try dsimp only at hSw); (try go_split_ands); simp only [List.getElem_toArray, List.getElem_cons_zero, List.getElem_cons_succ]; go_simp; try with_reducible rfl)
                      try simp (config := { failIfUnchanged := false }) only [Act.put, List.setIfInBounds_toArray, List.set_cons_zero, List.set_cons_succ, List.getElem_toArray, List.getElem_cons_zero, List.getElem_cons_succ]
                      refine take_run (i := 13) (v := ?_) (by decide) (by kernel_rfl) (by kernel_rfl) (by kernel_rfl) (fun _ _ _ _ h => h) hH rfl ?_ ?_
                      rotate_left
                      · (intro w hSw; (try dsimp only at hSw); (try go_split_ands); simp only [List.getElem_toArray, List.getElem_cons_zero, List.getElem_cons_succ]; go_simp; try with_reducible rfl)
                      try simp (config := { failIfUnchanged := false }) only [Act.put, List.setIfInBounds_toArray, List.set_cons_zero, List.set_cons_succ, List.getElem_toArray, List.getElem_cons_zero, List.getElem_cons_succ]
                      refine wpAnyH_done (by kernel_rfl) ?_ _
                      go_wp2
                      go_roundw
                      case rel => exact ⟨j + 1, z, by omega, by go_num, HN, HLz.out rfl, HK0.out.trans HK8.out, HS8⟩
                      case measure => simp [intOf]; omega
              · have hlt' : ¬ (j : Int) < (p.length : Int) := by omega
                have hje : j = p.length := by omega
                have HN : Hid (loopB (stepB p f pre) (downB x) (jobsL p.length) = (y, true)) := by rw [← hje]; exact HLP
                clear hje
                go_wp2
                go_ret
                exact SearchPostB.of (HR.out.trans HN.out) (HKn.out.trans HKr.out) HSr.out
end Go.Proofs.Ytcnkocnajamclaa
