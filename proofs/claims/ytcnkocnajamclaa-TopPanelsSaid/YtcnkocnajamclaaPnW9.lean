/- The panel line: Plan of the program at a line that is right, by walking its text. -/
import Derived.Test.YtcnkocnajamclaaPnW6
import Derived.Test.YtcnkocnajamclaaFlW6
namespace Go.Proofs.Ytcnkocnajamclaa
open Go Go.RowKit
set_option linter.unusedSimpArgs false

def rowsF (l : List Pn) (x : Ln) : Shop := l.map fun p => minutesF p x
def planE (l : List Pn) (x : Ln) : Int := if l.all panB = true then shopF (rowsF l x) else 9
def planS (l : List Pn) (x : Ln) : Int := (bestB (rowsF l x) 100000).1.span
def PlanPost (l : List Pn) (x : Ln) (w : World) (e : Ending) (w' : World) : Prop :=
  ∃ v m n, e = .returned (.tuple #[v, .int .i64 m, .int .i64 n]) ∧ Below w.heap.size w w' ∧ n = planE l x ∧ (n ≠ 0 → m = 0 ∧ v = .slice none 0 0) ∧ (n = 0 → m = planS l x ∧ ∃ A c, v = .slice A l.length c)
theorem PlanPost.bad {l : List Pn} {x : Ln} {w w' : World} {n : Int} (h : planE l x = n) (hn : n ≠ 0) (hb : Below w.heap.size w w') : PlanPost l x w (.returned (.tuple #[.slice none 0 0, .int .i64 0, .int .i64 n])) w' :=
  ⟨_, _, _, rfl, hb, h.symm, fun _ => ⟨rfl, rfl⟩, fun h0 => absurd h0 hn⟩
theorem PlanPost.good {l : List Pn} {x : Ln} {w w' : World} {m : Int} {A : Option Addr} {c : Nat} (h : planE l x = 0) (hs : planS l x = m) (hb : Below w.heap.size w w') : PlanPost l x w (.returned (.tuple #[.slice A l.length c, .int .i64 m, .int .i64 0])) w' :=
  ⟨_, _, _, rfl, hb, h.symm, fun h0 => absurd rfl h0, fun _ => ⟨hs.symm, A, c, rfl⟩⟩
theorem pn_str_info : (Try.prog.info? 9).map (fun i => (i.zero, i.size, i.bytes)) = some (some (.string ⟨#[]⟩), 1, 16) := by kernel_rfl
theorem own_form {w : World} {base n : Nat} {e : TypeId} {v : Value} {xs : List Value} (h : w.ownsRow base e 1 v n xs) : ∃ A c, v = .slice A n c := by
  rcases h.2 with ⟨rfl, h0⟩ | ⟨g, cap, cur, rfl, _⟩
  · exact ⟨_, _, by rw [h0]⟩
  · exact ⟨_, _, rfl⟩
set_option maxRecDepth 100000 in
set_option maxHeartbeats 4000000 in
theorem pnPlan_any (P : Option Addr) (np : Nat) (A B C D : Option Addr) (a b c d : Nat) (l : List Pn) (x : Ln) (w : World) (hl : pnsR.R w (Lt w) l [.slice P l.length np]) (hx : LnAt w x A B C D a b c d) (hL : LineOk x) (h6 : l.length ≤ 6) :
    Calls Try.prog 7 #[.slice P l.length np, .agg (lnA x A B C D a b c d), .int .i64 100000] w (PlanPost l x w) := by
  obtain ⟨W, hW⟩ : ∃ W, W = w.alloc (.cells (lnA x A B C D a b c d) 25) := ⟨_, rfl⟩
  have hb0 : Below w.heap.size w W := by rw [hW]; exact (Below.refl w.heap.size w).alloc (Nat.le_refl _) _
  have bx : Blk W w.heap.size 25 (lnA x A B C D a b c d) := by rw [hW]; exact Blk.new _ _ _
  have CJ := Lib.hid (pnJobs_any P np A B C D a b c d l x W (Rep.below hl hb0) (hx.below hb0) hL h6)
  have HPN := Lib.hid (Rep.below hl hb0)
  have HB0 := Lib.hid hb0
  obtain ⟨pl, hpl⟩ : ∃ pl, planE l x = pl := ⟨_, rfl⟩
  have HPE := Lib.hid hpl
  have HL := Lib.hid hL
  have H6 := Lib.hid h6
  have s0 := bx.cell 0
  have s1 := bx.cell 1
  have s2 := bx.cell 2
  have s3 := bx.cell 3
  clear hx hb0 bx hL hl hpl
  obtain ⟨i0, hi0, hz0, hz1, hz2⟩ := info_parts pn_str_info
  unfold lnA at s0 s1 s2 s3 CJ hW ⊢
  go_enter Try.func7, Try.ntmps7
  go_wp2_with fail
  rw [← hW]
  refine CJ.out.mono ?_
  rintro e w1 ⟨v1, n1, rfl, hb1, hif⟩
  have HB1 := Lib.hid (bstep HB0.out HB0.out.size hb1)
  have HPN := Lib.hid (Rep.below HPN.out hb1)
  clear s0 s1 s2 s3 hW CJ
  by_cases hp : l.all panB = true
  · rw [if_pos hp] at hif
    obtain ⟨rfl, B, hB, hrw⟩ := hif
    obtain ⟨R, cr, hv⟩ := hrw.form
    rw [List.length_map] at hv
    subst hv
    have CB := Lib.hid (flBest_any R l.length cr (rowsF l x) 100000 w1 hrw.rep ⟨by decide, by decide⟩ (by unfold rowsF; rw [List.length_map]; exact H6.out))
    have hpe : planE l x = shopF (rowsF l x) := by unfold planE; rw [if_pos hp]
    have HPE := Lib.hid hpe
    clear hp hrw hB hb1 hpe
    go_wp2_with fail
    refine CB.out.mono ?_
    rintro e w2 ⟨v2, rfl, hr2, hb2⟩
    have HB2 := Lib.hid (bstep HB1.out HB1.out.size hb2)
    have HPN := Lib.hid (Rep.below HPN.out hb2)
    obtain ⟨se, hse⟩ : ∃ se, shopF (rowsF l x) = se := ⟨_, rfl⟩
    by_cases hs : se = 0
    · subst hs
      have HOK := shop_ok hse
      have hopt := best_opt HOK (steps := 100000) (by unfold rowsF; rw [List.length_map]; exact H6.out) (by decide)
      have hbr : bestR (rowsF l x) 100000 = ((bestB (rowsF l x) 100000).1.order, (bestB (rowsF l x) 100000).1.span, 0) := by unfold bestR; rw [if_neg (by rw [hse]; decide)]
      obtain ⟨y, hy⟩ : ∃ y, (bestB (rowsF l x) 100000).1 = y := ⟨_, rfl⟩
      have HS : Hid (planS l x = y.span) := by show _ = _; unfold planS; rw [hy]
      rw [hy] at hopt hbr
      rw [hbr] at hr2
      rw [hbr]
      have hfl : y.order.length = l.length := by have := hopt.2.1.2; rw [this]; unfold rowsF; rw [List.length_map]
      have HFL := Lib.hid hfl
      have HJ : Hid (∀ j ∈ y.order, 0 ≤ j ∧ j < (l.length : Int)) := by
        have := hopt.2.1.1.2
        unfold rowsF at this
        rw [List.length_map] at this
        exact this
      have HPE0 : Hid (planE l x = 0) := HPE.out.trans hse
      dsimp only at hr2 ⊢
      obtain ⟨O, co, hv2, -, -⟩ := slice_inv hr2
      rw [hfl] at hv2
      subst hv2
      have HR2 := Lib.hid hr2
      clear hopt hbr hy hfl hse HPE CB hb2 hr2 HOK
      go_wp2_with fail
      go_loopw [13, 37] (fun v iv wr => ∃ k : Nat, ∃ xs : List Value, k ≤ l.length ∧ iv = .int .i64 k ∧ Hid (Below w2.heap.size w2 wr) ∧ Hid (wr.ownsRow w2.heap.size 9 1 v k xs)) (fun _ iv _ => l.length - (intOf iv).toNat)
      case atStart => exact ⟨0, [], Nat.zero_le _, rfl, Below.refl _ _, World.ownsRow_nil _ _ _ _⟩
      case round =>
        obtain ⟨k, xs, hk, rfl, hbw, hown⟩ := hrel
        by_cases hlt : k < l.length
        · have hlt' : (k : Int) < (l.length : Int) := by omega
          obtain ⟨bo, oo, j, rfl, hj, -, cj, -, -⟩ := ints_at (Rep.below HR2.out hbw.out) (k := k) (by rw [HFL.out]; exact hlt)
          have hjb := HJ.out j (List.mem_of_getElem? hj.out)
          obtain ⟨jn, rfl⟩ := Int.eq_ofNat_of_zero_le hjb.1
          have hjl : jn < l.length := by omega
          have hjl' : (jn : Int) < (l.length : Int) := by omega
          obtain ⟨b0, o0, nm, p1, p2, p3, p4, ms, rfl, g, -, c0, -⟩ := pn_at (Rep.below HPN.out hbw.out) hjl
          have hz := hbw.out.size
          have h6 := H6.out
          clear hj hjb g
          go_wp2_with (at_builtin; refine wpList_append_own _ rfl _ _ 28 rfl w2.heap.size 9 i0 (.string ⟨#[]⟩) 1 16 Try.underlying28 hi0 hz0 hz1 hz2 rfl (by decide) _ _ _ rfl (World.ownsRow.alloc hown.out _) ⟨wr.heap.size, 0, none⟩ 1 1 [.string nm] rfl rfl (new1_cells _ _ _) (one_oneCell rfl) (by unfold maxLen; omega) (by omega) (by simp; omega) ?_; intro v3 w3 hown2 hg2 _)
          go_wp2
          go_roundw
          case rel => exact ⟨k + 1, _, by omega, by go_num, (hbw.out.alloc hz _).grown hg2 (by simp; omega) (fun j hj => (World.ownsRow.lt hown.out j hj).1), hown2⟩
          case measure => simp [intOf]; omega
        · have hlt' : ¬ (k : Int) < (l.length : Int) := by omega
          have hke : k = l.length := by omega
          subst hke
          obtain ⟨A2, c2, rfl⟩ := own_form hown.out
          go_wp2
          go_ret3
          exact PlanPost.good HPE0.out HS.out (bstep HB2.out HB2.out.size hbw.out)
    · have hb0 : (se != 0) = true := ine_t hs
      have hbr : bestR (rowsF l x) 100000 = ([], 0, se) := by unfold bestR; rw [hse, if_pos hs]
      have HE : Hid (planE l x = se) := HPE.out.trans hse
      have HS := Lib.hid hs
      rw [hbr]
      rw [hbr] at hr2
      obtain ⟨O, co, rfl, -, -⟩ := slice_inv hr2
      clear hbr hs hse hr2 hb2 CB
      go_wp2
      go_ret3
      exact PlanPost.bad HE.out HS.out HB2.out
  · rw [if_neg hp] at hif
    obtain ⟨rfl, rfl⟩ := hif
    have HE : Hid (planE l x = 9) := by show _ = _; unfold planE; rw [if_neg hp]
    clear hp hb1
    go_wp2
    go_ret3
    exact PlanPost.bad HE.out (by decide) HB1.out
end Go.Proofs.Ytcnkocnajamclaa
