/- Certificates: Check of certify at a certificate that is made, by walking its text. -/
import Derived.Test.YtcnkocnajamclaaCtW7
import Derived.Test.YtcnkocnajamclaaCtW6
import Derived.Test.YtcnkocnajamclaaFlW7
namespace Go.Proofs.Ytcnkocnajamclaa
open Go Go.RowKit
set_option linter.unusedSimpArgs false

/-- prefixes that a call lists: rows that lie elsewhere. -/
def PfxAt (B : Nat) (v : Value) (rs : List (List Int)) (w : World) : Prop :=
  ∃ ps : List (List Int × Value), rs = ps.map (·.1) ∧ w.ownsRow B 23 1 v ps.length (ps.map (·.2)) ∧ ∀ p ∈ ps, Rep.int.slice.R w (fun b => b < B) p.1 [p.2]
theorem pfxAt_nil (B : Nat) (w : World) : PfxAt B (.slice none 0 0) [] w := ⟨[], rfl, World.ownsRow_nil _ _ _ _, fun p h => by cases h⟩
theorem PfxAt.below {B : Nat} {v : Value} {rs : List (List Int)} {w w' : World} (h : PfxAt B v rs w) (hB : B ≤ w.heap.size) (hb : Below w.heap.size w w') : PfxAt B v rs w' := by
  obtain ⟨ps, h1, h2, h3⟩ := h
  exact ⟨ps, h1, own_below h2 hb, fun p hp => Rep.keep _ (fun b (hbb : b < B) => hb.block b (by omega)) (h3 p hp)⟩
theorem PfxAt.form {B : Nat} {v : Value} {rs : List (List Int)} {w : World} (h : PfxAt B v rs w) : ∃ A c, v = .slice A rs.length c := by
  obtain ⟨ps, rfl, h1, -⟩ := h
  rw [List.length_map]
  exact ctOwn_form h1
theorem PfxAt.open_ {B : Nat} {v : Value} {rs : List (List Int)} {w1 : World} (h : PfxAt B v rs w1) (hB : B ≤ w1.heap.size) : ∃ xs : List Value, w1.ownsRow B 23 1 v rs.length xs ∧
    ∀ (W2 : World) (o : Obj) (v2 u : Value) (r : List Int), (w1.alloc o).grownBy W2 v.ownBlock → W2.ownsRow B 23 1 v2 (rs.length + 1) (xs ++ [u]) → Rep.int.slice.R w1 (fun b => b < B) r [u] → PfxAt B v2 (rs ++ [r]) W2 := by
  obtain ⟨ps, rfl, hv, h3⟩ := h
  rw [List.length_map]
  refine ⟨_, hv, fun W2 o v2 u r hg hown hp => ?_⟩
  have hk : ∀ b, b < B → W2.heap[b]? = w1.heap[b]? := fun b hb => (hg.block b (by simp; omega) (fun e => by have := (World.ownsRow.lt hv b e.symm).1; omega)).trans (Below.heap_alloc _ _ b (by omega))
  refine ⟨ps ++ [(r, u)], by simp, by rw [List.length_append, List.map_append]; exact hown, fun p hp' => ?_⟩
  rcases List.mem_append.1 hp' with h4 | h4
  · exact Rep.keep _ hk (h3 p h4)
  · rw [List.mem_singleton.1 h4]; exact Rep.keep _ hk hp
theorem PfxAt.rep {B : Nat} {v : Value} {rs : List (List Int)} {w : World} (h : PfxAt B v rs w) (hB : B ≤ w.heap.size) : rowsR.R w (Lt w) rs [v] := by
  obtain ⟨ps, rfl, h1, h3⟩ := h
  refine fl_iso_map (E := Rep.int.slice) (f := fun p : List Int × Value => p.1) ?_
  refine own_enc (E := Rep.int.slice.iso (fun p : List Int × Value => p.1)) (enc := fun p => [p.2]) (fun _ => rfl) (by decide) (by rw [fm_one]; exact h1) (fun p hp => ?_)
  exact Rep.mono _ (fun b (hb : b < B) => by show b < w.heap.size; omega) (h3 p hp)
theorem cert_ord {p : Shop} {l : List Ct} (h : CertOk p l) : OrdOk p.length (nStat p) l :=
  ⟨h.len, fun c hc => ctree_seq h.tree ⟨List.nodup_nil, fun j hj => by cases hj⟩ c.1 (List.mem_map.2 ⟨c, hc, rfl⟩), fun c hc => ⟨(h.stat c hc).1, (h.stat c hc).2.1⟩, ctree_sorted h.tree⟩
theorem take_map {l : List Ct} {k : Nat} {x : List Int} {s : Int} (h : l[k]? = some (x, s)) : (l.take (k + 1)).map (·.1) = (l.take k).map (·.1) ++ [x] := by
  rw [take_one h, List.map_append]
  rfl
set_option maxRecDepth 100000 in
set_option maxHeartbeats 8000000 in
theorem ctCheck_any (P A : Option Addr) (np c : Nat) (p : Shop) (span : Int) (l : List Ct) (w : World) (hp : rowsR.R w (Lt w) p [.slice P p.length np]) (hl : cutsR.R w (Lt w) l [.slice A l.length c]) (hok : shopF p = 0) (hc : CertOk p l) :
    Calls Try.prog 21 #[.slice P p.length np, .int .i64 span, .slice A l.length c] w fun e w' => e = .returned (.int .i64 (checkC p span l)) ∧ Below w.heap.size w w' := by
  have hj := (shop_ok hok).jobs
  have CP := Lib.hid (ctPlain_any p.length w hj)
  have HP := Lib.hid hp
  have HL := Lib.hid hl
  have HOK := Lib.hid hok
  have HC := Lib.hid hc
  have hlen := hc.len
  have hl2 : ¬ (20000 : Int) < (l.length : Int) := by omega
  obtain ⟨r, hr⟩ : ∃ r, r = checkC p span l := ⟨_, rfl⟩
  have HR := Lib.hid hr
  rw [← hr]
  have hfin : finE p (jobsL p.length) = 0 := finE_ok hok (jobs_len _) (seq_of.2 ⟨jobs_nodup _, fun j hj => mem_jobs.1 hj⟩)
  have HF := Lib.hid hfin
  clear hp hl hok hc hr hfin
  obtain ⟨i0, hi0, hz0, hz1, hz2⟩ := info_parts fl_row_info
  go_enter Try.func21, Try.ntmps21
  go_wp2_with fail
  refine CP.out.mono ?_
  rintro e w1 ⟨v1, rfl, hr1, hb1⟩
  obtain ⟨J, jc, rfl, -, -⟩ := slice_inv hr1
  have CM := Lib.hid (flSpan_any P J p.length np _ jc p (jobsL p.length) w1 (Rep.below HP.out hb1) hr1)
  have HB1 := Lib.hid hb1
  unfold SpanPost at CM
  rw [HF.out] at CM
  clear hr1 hb1
  go_wp2_with fail
  refine CM.out.mono ?_
  rintro e w2 ⟨rfl, hb2⟩
  have HB2 := Lib.hid (bstep HB1.out HB1.out.size hb2)
  clear hb2
  have CS := Lib.hid (ctStations_any P p.length np p w2 (Rep.below HP.out HB2.out))
  have CO := Lib.hid (ctOrdered_any A c p.length (nStat p) l w2 (Rep.below HL.out HB2.out) (cert_ord HC.out))
  go_wp2_with fail
  refine CS.out.mono ?_
  rintro e w3 ⟨rfl, hw3⟩
  rw [hw3]
  clear hw3 w3
  go_wp2_with fail
  refine CO.out.mono ?_
  rintro e w3 ⟨rfl, hb3⟩
  have HB3 := Lib.hid (bstep HB2.out HB2.out.size hb3)
  clear hb3
  go_wp2_with fail
  go_loopw [11, 43] (fun v iv wr => ∃ k : Nat, k ≤ l.length ∧ iv = .int .i64 k ∧ Hid (Below w3.heap.size w3 wr) ∧ Hid (PfxAt w3.heap.size v ((l.take k).map (·.1)) wr)) (fun _ iv _ => l.length - (intOf iv).toNat)
  case atStart => exact ⟨0, Nat.zero_le _, rfl, Below.refl _ _, pfxAt_nil _ _⟩
  case round =>
    obtain ⟨k, hk, rfl, hbw, hpf⟩ := hrel
    by_cases hlt : k < l.length
    · have hlt' : (k : Int) < (l.length : Int) := by omega
      obtain ⟨b, off, R, cr, x, s, rfl, hx, hbb, c0, c1, hr⟩ := cuts_at (Rep.at_ (Rep.below HL.out HB3.out) hbw.out) hlt
      have hb0 : Below w3.heap.size w3 (wr.alloc (.cells #[.slice R x.length cr, .int .i64 s] 106)) := hbw.out.alloc hbw.out.size _
      have hbr : Below wr.heap.size wr (wr.alloc (.cells #[.slice R x.length cr, .int .i64 s] 106)) := (Below.refl _ _).alloc (Nat.le_refl _) _
      have s0 : (wr.alloc (.cells #[.slice R x.length cr, .int .i64 s] 106)).cell? ⟨wr.heap.size, 0, none⟩ = some (.slice R x.length cr) := (Blk.new wr _ _).cell 0
      obtain ⟨xs, hown, hsn⟩ := (hpf.out.below hbw.out.size hbr).open_ (Nat.le_trans hbw.out.size hbr.size)
      rw [List.length_map, List.length_take, Nat.min_eq_left hk] at hown hsn
      have HSN := Lib.hid hsn
      have HRX := Lib.hid (Rep.keep _ (fun i (hi : i < w3.heap.size) => hbr.block i (by have := hbw.out.size; omega)) hr)
      have HX := Lib.hid (take_map hx.out)
      have hz := hb0.size
      have hz2 := hbw.out.size
      have HB0 := Lib.hid hb0
      clear hbr hsn hr hbb hb0
      go_wp2_with (at_builtin; refine wpList_append_own _ rfl _ _ 31 rfl w3.heap.size 23 i0 (.slice none 0 0) 1 24 Try.underlying31 hi0 hz0 hz1 (by assumption) rfl (by decide) _ _ _ rfl (World.ownsRow.alloc hown _) ⟨wr.heap.size + 1, 0, none⟩ 1 1 [.slice R x.length cr] rfl rfl (by simpa using new1_cells (wr.alloc (.cells #[.slice R x.length cr, .int .i64 s] 106)) (.slice R x.length cr) 23) (one_oneCell rfl) (by unfold maxLen; omega) (by omega) (by simp; omega) ?_; intro v2 w4 hown2 hg2 _)
      go_wp2
      go_roundw
      case rel => exact ⟨k + 1, by omega, by go_num, (HB0.out.alloc hz _).grown hg2 (by simp; omega) (fun j hj => (World.ownsRow.lt hown j hj).1), by rw [HX.out]; exact HSN.out _ _ _ _ _ hg2 hown2 HRX.out⟩
      case measure => simp [intOf]; omega
    · have hlt' : ¬ (k : Int) < (l.length : Int) := by omega
      have hke : k = l.length := by omega
      subst hke
      rw [List.take_length] at hpf
      obtain ⟨Q, qc, hvq⟩ := hpf.out.form
      rw [List.length_map] at hvq
      subst hvq
      have hcv := ctCovers_any Q qc p.length (l.map (·.1)) wr (by rw [List.length_map]; exact hpf.out.rep hbw.out.size) hj HC.out.tree (by rw [List.length_map]; exact hlen)
      rw [List.length_map] at hcv
      have CV := Lib.hid hcv
      clear hcv
      have HB4 := Lib.hid (bstep HB3.out HB3.out.size hbw.out)
      clear hpf hbw
      go_wp2_with fail
      refine CV.out.mono ?_
      rintro e w5 ⟨rfl, hb5⟩
      have HB5 := Lib.hid (bstep HB4.out HB4.out.size hb5)
      clear hb5
      go_wp2_with fail
      go_loopw [16, 59] (fun _ iv wy => ∃ k : Nat, k ≤ l.length ∧ iv = .int .i64 k ∧ Hid (Below w.heap.size w wy) ∧ Hid ((l.take k).any (fun c => decide (cutV p c < span)) = false)) (fun _ iv _ => l.length - (intOf iv).toNat)
      case atStart => exact ⟨0, Nat.zero_le _, rfl, HB5.out, rfl⟩
      case round =>
        clear hlt' hk hlt
        obtain ⟨k, hk, rfl, hbw, hno⟩ := hrel
        by_cases hlt : k < l.length
        · have hlt' : (k : Int) < (l.length : Int) := by omega
          obtain ⟨b, off, R, cr, x, s, rfl, hx, hbb, c0, c1, hr⟩ := cuts_at (Rep.at_ HL.out hbw.out) hlt
          have hcm := HC.out.stat _ (List.mem_of_getElem? hx.out)
          have hsq := (cert_ord HC.out).seq _ (List.mem_of_getElem? hx.out)
          dsimp only at hcm hsq
          obtain ⟨sn, rfl⟩ := Int.eq_ofNat_of_zero_le hcm.1
          have hbr : Below wr.heap.size wr (wr.alloc (.cells #[.slice R x.length cr, .int .i64 sn] 106)) := (Below.refl _ _).alloc (Nat.le_refl _) _
          have HBA := Lib.hid (bstep hbw.out hbw.out.size hbr)
          have hbk : Blk (wr.alloc (.cells #[.slice R x.length cr, .int .i64 sn] 106)) wr.heap.size 106 #[.slice R x.length cr, .int .i64 sn] := Blk.new wr _ _
          have HBK := Lib.hid hbk
          have s0 : (wr.alloc (.cells #[.slice R x.length cr, .int .i64 sn] 106)).cell? ⟨wr.heap.size, 0, none⟩ = some (.slice R x.length cr) := hbk.cell 0
          have HRX : Hid (Rep.int.slice.R (wr.alloc (.cells #[.slice R x.length cr, .int .i64 sn] 106)) (Lt (wr.alloc (.cells #[.slice R x.length cr, .int .i64 sn] 106))) x [.slice R x.length cr]) := Rep.mono _ (fun i (hi : i < w.heap.size) => Nat.lt_of_lt_of_le hi HBA.out.size) (Rep.keep _ (fun i (hi : i < w.heap.size) => hbr.block i (by have := hbw.out.size; omega)) hr)
          have CM := Lib.hid (flSpan_any P R p.length np x.length cr p x _ (Rep.below HP.out HBA.out) HRX.out)
          have HSQ := Lib.hid hsq
          have HCM := Lib.hid hcm
          obtain ⟨sv, hsv⟩ : ∃ sv, spanF p x = sv := ⟨_, rfl⟩
          obtain ⟨fe, hfe⟩ : ∃ fe, finE p x = fe := ⟨_, rfl⟩
          unfold SpanPost at CM
          rw [hsv, hfe] at CM
          obtain ⟨cv, hcv⟩ : ∃ cv, cutV p (x, (sn : Int)) = cv := ⟨_, rfl⟩
          have hxl := hsq.len
          have HCV := Lib.hid hcv
          clear hbk hbr hr hbb hsq hcm hcv
          go_wp2_with fail
          refine CM.out.mono ?_
          rintro e w6 ⟨rfl, hb6⟩
          have HBK6 := HBK.out.below hb6 HBK.out.lt
          have t0 : w6.cell? ⟨wr.heap.size, 0, none⟩ = some (.slice R x.length cr) := HBK6.cell 0
          have t1 : w6.cell? ⟨wr.heap.size, 1, none⟩ = some (.int .i64 sn) := HBK6.cell 1
          have HB6 := Lib.hid (bstep HBA.out HBA.out.size hb6)
          have HRX6 := Lib.hid (Rep.below HRX.out hb6)
          clear hb6 HBK6 s0
          by_cases hlx : x.length < p.length
          · have hlx' : (x.length : Int) < (p.length : Int) := by omega
            have hst : sn < nStat p := by have := HCM.out.2.2 hlx; omega
            have CB := Lib.hid (ctBound_any P R p.length np x.length cr p x sn w6 (Rep.below HP.out HB6.out) HRX6.out HOK.out HSQ.out hst (by omega))
            have : bndF p x sn = cv := by rw [← HCV.out]; unfold cutV; rw [if_pos hlx]; rfl
            rw [this] at CB
            clear this hst hsv hfe
            go_wp2_with fail
            refine CB.out.mono ?_
            rintro e w7 ⟨rfl, hb7⟩
            have HB7 := Lib.hid (bstep HB6.out HB6.out.size hb7)
            clear hb7
            by_cases hv : cv < span
            · have : r = 13 := by rw [HR.out]; unfold checkC; rw [if_pos (flAny_hit (p := fun c : Ct => decide (cutV p c < span)) hx.out (by rw [HCV.out]; exact decide_eq_true hv))]
              subst this
              go_wp2
              go_ret
              exact ⟨rfl, HB7.out⟩
            · have HA := Lib.hid (flAny_succ (p := fun c : Ct => decide (cutV p c < span)) hno.out hx.out (by rw [HCV.out]; exact decide_eq_false hv))
              go_wp2
              go_roundw
              case rel => exact ⟨k + 1, by omega, by go_num, HB7.out, HA.out⟩
              case measure => simp [intOf]; omega
          · have hlx' : ¬ (x.length : Int) < (p.length : Int) := by omega
            have hfx : finE p x = 0 := finE_ok HOK.out (by omega) (seq_of.2 HSQ.out)
            have : sv = cv := by rw [← hsv, ← HCV.out]; unfold spanF cutV; rw [if_pos hfx, if_neg hlx]
            subst this
            clear hfx hsv hfe
            by_cases hv : sv < span
            · have : r = 13 := by rw [HR.out]; unfold checkC; rw [if_pos (flAny_hit (p := fun c : Ct => decide (cutV p c < span)) hx.out (by rw [HCV.out]; exact decide_eq_true hv))]
              subst this
              go_wp2
              go_ret
              exact ⟨rfl, HB6.out⟩
            · have HA := Lib.hid (flAny_succ (p := fun c : Ct => decide (cutV p c < span)) hno.out hx.out (by rw [HCV.out]; exact decide_eq_false hv))
              go_wp2
              go_roundw
              case rel => exact ⟨k + 1, by omega, by go_num, HB6.out, HA.out⟩
              case measure => simp [intOf]; omega
        · have hlt' : ¬ (k : Int) < (l.length : Int) := by omega
          have : r = 0 := by
            rw [HR.out]
            unfold checkC
            have := hno.out
            rw [List.take_of_length_le (by omega)] at this
            rw [if_neg (by rw [this]; decide)]
          subst this
          go_wp2
          go_ret
          exact ⟨rfl, hbw.out⟩
end Go.Proofs.Ytcnkocnajamclaa
