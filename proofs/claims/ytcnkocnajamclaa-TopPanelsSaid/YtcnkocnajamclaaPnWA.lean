/- The panel line: Plan of the reference where it ends in an error, by walking its text. -/
import Derived.Test.YtcnkocnajamclaaPnW7
import Derived.Test.YtcnkocnajamclaaPnW8
import Derived.Test.YtcnkocnajamclaaPnW9
namespace Go.Proofs.Ytcnkocnajamclaa
open Go Go.RowKit
set_option linter.unusedSimpArgs false

set_option maxRecDepth 100000 in
set_option maxHeartbeats 4000000 in
theorem rfPlan_bad (P : Option Addr) (np : Nat) (A B C D : Option Addr) (a b c d : Nat) (l : List Pn) (x : Ln) (w : World) (hl : pnsR.R w (Lt w) l [.slice P l.length np]) (hx : LnAt w x A B C D a b c d) (hL : LineOk x) (h6 : l.length ≤ 6) (he : planE l x ≠ 0) :
    Calls Try.prog 8 #[.slice P l.length np, .agg (lnA x A B C D a b c d), .int .i64 100000] w (fun e w' => e = .returned (.tuple #[.slice none 0 0, .int .i64 0, .int .i64 (planE l x)]) ∧ Below w.heap.size w w') := by
  obtain ⟨W, hW⟩ : ∃ W, W = w.alloc (.cells (lnA x A B C D a b c d) 25) := ⟨_, rfl⟩
  have hb0 : Below w.heap.size w W := by rw [hW]; exact (Below.refl w.heap.size w).alloc (Nat.le_refl _) _
  have bx : Blk W w.heap.size 25 (lnA x A B C D a b c d) := by rw [hW]; exact Blk.new _ _ _
  have CJ := Lib.hid (rfJobs_any P np A B C D a b c d l x W (Rep.below hl hb0) (hx.below hb0) hL h6)
  have HB0 := Lib.hid hb0
  obtain ⟨pl, hpl⟩ : ∃ pl, planE l x = pl := ⟨_, rfl⟩
  rw [hpl] at he ⊢
  have z : (pl != 0) = true := ine_t he
  have HPL := Lib.hid hpl
  have s0 := bx.cell 0
  have s1 := bx.cell 1
  have s2 := bx.cell 2
  have s3 := bx.cell 3
  clear hx hb0 bx hL hl hpl
  unfold lnA at s0 s1 s2 s3 CJ hW ⊢
  by_cases hp : l.all panB = true
  · have hpe : planE l x = shopF (rowsF l x) := by unfold planE; rw [if_pos hp]
    have hse : shopF (rowsF l x) = pl := hpe.symm.trans HPL.out
    have HSE := Lib.hid hse
    have HE := Lib.hid he
    have HP := Lib.hid hp
    clear hpe hse he hp
    go_enter Try.func8, Try.ntmps8
    go_wp2_with fail
    rw [← hW]
    refine CJ.out.mono ?_
    rintro e w1 ⟨v1, n1, rfl, hb1, hif⟩
    rw [if_pos HP.out] at hif
    have HB1 := Lib.hid (bstep HB0.out HB0.out.size hb1)
    obtain ⟨rfl, B, hB, hrw⟩ := hif
    obtain ⟨R, cr, hv⟩ := hrw.form
    rw [List.length_map] at hv
    subst hv
    have CB := Lib.hid (rfBest_bad R l.length cr (rowsF l x) 100000 w1 hrw.rep (by rw [HSE.out]; exact HE.out))
    rw [HSE.out] at CB
    clear s0 s1 s2 s3 hW CJ hb1 hrw hB
    go_wp2_with fail
    refine CB.out.mono ?_
    rintro e w2 ⟨rfl, hq⟩
    have HB2 := Lib.hid (bstep HB1.out HB1.out.size (hq.below _))
    clear hq
    go_wp2
    go_ret3
    exact ⟨rfl, HB2.out⟩
  · have h9 : pl = 9 := by rw [← HPL.out]; unfold planE; rw [if_neg hp]
    subst h9
    have HP := Lib.hid hp
    clear hp he z
    go_enter Try.func8, Try.ntmps8
    go_wp2_with fail
    rw [← hW]
    refine CJ.out.mono ?_
    rintro e w1 ⟨v1, n1, rfl, hb1, hif⟩
    rw [if_neg HP.out] at hif
    obtain ⟨rfl, rfl⟩ := hif
    have HB1 := Lib.hid (bstep HB0.out HB0.out.size hb1)
    clear s0 s1 s2 s3 hW CJ hb1
    go_wp2
    go_ret3
    exact ⟨rfl, HB1.out⟩
end Go.Proofs.Ytcnkocnajamclaa
