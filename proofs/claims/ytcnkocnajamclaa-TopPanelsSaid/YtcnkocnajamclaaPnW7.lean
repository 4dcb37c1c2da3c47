/- The panel line: Jobs of the reference at a line that is right, by walking its text. -/
import Derived.Test.YtcnkocnajamclaaPnRows
import Derived.Test.YtcnkocnajamclaaPnW5
namespace Go.Proofs.Ytcnkocnajamclaa
open Go Go.RowKit
set_option linter.unusedSimpArgs false

def JobC (w : World) (A B C D : Option Addr) (a b c d n b0 o : Nat) (nm : ByteArray) (p1 p2 p3 p4 ms : Int) (W : World) : Prop :=
  W.cell? ⟨w.heap.size, 0, none⟩ = some (.slice A n a) ∧ W.cell? ⟨w.heap.size, 1, none⟩ = some (.slice B n b) ∧ W.cell? ⟨w.heap.size, 2, none⟩ = some (.slice C n c) ∧ W.cell? ⟨w.heap.size, 3, none⟩ = some (.slice D n d) ∧ W.cell? ⟨b0, o, none⟩ = some (.string nm) ∧ W.cell? ⟨b0, o + 1, none⟩ = some (.int .i64 p1) ∧ W.cell? ⟨b0, o + 2, none⟩ = some (.int .i64 p2) ∧ W.cell? ⟨b0, o + 3, none⟩ = some (.int .i64 p3) ∧ W.cell? ⟨b0, o + 4, none⟩ = some (.int .i64 p4) ∧ W.cell? ⟨b0, o + 5, none⟩ = some (.int .i64 ms)
theorem jobC_of {w : World} {A B C D : Option Addr} {a b c d n b0 o : Nat} {nm : ByteArray} {p1 p2 p3 p4 ms : Int} {W W' : World} (hb : Below W.heap.size W W') (h : JobC w A B C D a b c d n b0 o nm p1 p2 p3 p4 ms W) : JobC w A B C D a b c d n b0 o nm p1 p2 p3 p4 ms W' := by
  obtain ⟨h0, h1, h2, h3, h4, h5, h6, h7, h8, h9⟩ := h
  exact ⟨cell_kept hb h0, cell_kept hb h1, cell_kept hb h2, cell_kept hb h3, cell_kept hb h4, cell_kept hb h5, cell_kept hb h6, cell_kept hb h7, cell_kept hb h8, cell_kept hb h9⟩
set_option maxRecDepth 100000 in
set_option maxHeartbeats 4000000 in
theorem rfJobs_any (P : Option Addr) (np : Nat) (A B C D : Option Addr) (a b c d : Nat) (l : List Pn) (x : Ln) (w : World) (hl : pnsR.R w (Lt w) l [.slice P l.length np]) (hx : LnAt w x A B C D a b c d) (hL : LineOk x) (h6 : l.length ≤ 6) :
    Calls Try.prog 23 #[.slice P l.length np, .agg (lnA x A B C D a b c d)] w (JobsPost l x w) := by
  obtain ⟨W, hW⟩ : ∃ W, W = w.alloc (.cells (lnA x A B C D a b c d) 25) := ⟨_, rfl⟩
  have hb0 : Below w.heap.size w W := by rw [hW]; exact (Below.refl w.heap.size w).alloc (Nat.le_refl _) _
  have bx : Blk W w.heap.size 25 (lnA x A B C D a b c d) := by rw [hW]; exact Blk.new _ _ _
  have HXL := Lib.hid (hx.below hb0)
  have HPN := Lib.hid (Rep.below hl hb0)
  have CL := Lib.hid (fun W' (hb : Below W.heap.size W W') => (by have h := rfLine_any A B C D a b c d x W' ((hx.below hb0).below hb); rwa [line_zero hL] at h : Calls Try.prog 6 #[.agg (lnA x A B C D a b c d)] W' (LinePost 0 W')))
  have CM := Lib.hid (fun p W' (hb : Below W.heap.size W W') => rfMin_any A B C D a b c d p x W' ((hx.below hb0).below hb) hL)
  obtain ⟨q0, q1, q2, q3⟩ := x
  have l1 := hL.l1
  have l2 := hL.l2
  have l3 := hL.l3
  have HL := Lib.hid hL
  dsimp only at l1 l2 l3 bx
  unfold lnA at bx
  dsimp only at bx
  rw [l1, l2, l3] at bx
  have CL : Hid (∀ W', Below W.heap.size W W' → Calls Try.prog 6 #[.agg #[.slice A q0.length a, .slice B q0.length b, .slice C q0.length c, .slice D q0.length d]] W' (LinePost 0 W')) := by
    intro W' hb
    have h := CL.out W' hb
    unfold lnA at h
    dsimp only at h
    rwa [l1, l2, l3] at h
  have CM : Hid (∀ nm p1 p2 p3 p4 ms W', Below W.heap.size W W' → Calls Try.prog 56 #[.agg #[.string nm, .int .i64 p1, .int .i64 p2, .int .i64 p3, .int .i64 p4, .int .i64 ms], .agg #[.slice A q0.length a, .slice B q0.length b, .slice C q0.length c, .slice D q0.length d]] W' (MinPost (nm, p1, p2, p3, p4, ms) (q0, q1, q2, q3) W')) := by
    intro nm p1 p2 p3 p4 ms W' hb
    have h := CM.out (nm, p1, p2, p3, p4, ms) W' hb
    unfold lnA at h
    dsimp only at h
    rwa [l1, l2, l3] at h
  have HBX := Lib.hid bx
  have HB0 := Lib.hid hb0
  have s0 : W.cell? ⟨w.heap.size, 0, none⟩ = some (.slice A q0.length a) := bx.cell 0
  have s1 : W.cell? ⟨w.heap.size, 1, none⟩ = some (.slice B q0.length b) := bx.cell 1
  have s2 : W.cell? ⟨w.heap.size, 2, none⟩ = some (.slice C q0.length c) := bx.cell 2
  have s3 : W.cell? ⟨w.heap.size, 3, none⟩ = some (.slice D q0.length d) := bx.cell 3
  clear hx hb0 bx hL hl
  obtain ⟨i0, hi0, hz0, hz1, hz2⟩ := info_parts fl_row_info
  go_enter Try.func23, Try.ntmps23
  go_wp2_with fail
  rw [← hW]
  refine (CL.out _ (Below.refl _ _)).mono ?_
  rintro e w1 ⟨rfl, hb1⟩
  have HB1 := Lib.hid hb1
  have HBX := Lib.hid (HBX.out.below hb1 HBX.out.lt)
  have HPN := Lib.hid (Rep.below HPN.out hb1)
  have HB0 := Lib.hid (bstep HB0.out HB0.out.size hb1)
  clear s0 s1 s2 s3 hb1 hW
  go_wp2_with fail
  go_loopw [7, 8] (fun v iv wr => ∃ k : Nat, k ≤ l.length ∧ iv = .int .i64 k ∧ Hid (Below w1.heap.size w1 wr) ∧ Hid (RowsAt w1.heap.size v ((l.take k).map fun p => minutesF p (q0, q1, q2, q3)) wr) ∧ Hid ((l.take k).all panB = true)) (fun _ iv _ => l.length - (intOf iv).toNat)
  case atStart => exact ⟨0, Nat.zero_le _, rfl, Below.refl _ _, rowsAt_nil _ _, rfl⟩
  case round =>
    obtain ⟨k, hk, rfl, hbw, hrow, hall⟩ := hrel
    by_cases hlt : k < l.length
    · have hlt' : (k : Int) < (l.length : Int) := by omega
      obtain ⟨b0, o0, nm, p1, p2, p3, p4, ms, rfl, g, -, c0, c1, c2, c3, c4, c5⟩ := pn_at (Rep.below HPN.out hbw.out) hlt
      have hbx := HBX.out.below hbw.out HBX.out.lt
      have s0 : wr.cell? ⟨w.heap.size, 0, none⟩ = some (.slice A q0.length a) := hbx.cell 0
      have s1 : wr.cell? ⟨w.heap.size, 1, none⟩ = some (.slice B q0.length b) := hbx.cell 1
      have s2 : wr.cell? ⟨w.heap.size, 2, none⟩ = some (.slice C q0.length c) := hbx.cell 2
      have s3 : wr.cell? ⟨w.heap.size, 3, none⟩ = some (.slice D q0.length d) := hbx.cell 3
      have G := Lib.hid g
      have HC := Lib.hid (And.intro s0 (And.intro s1 (And.intro s2 (And.intro s3 (And.intro c0 (And.intro c1 (And.intro c2 (And.intro c3 (And.intro c4 c5)))))))))
      have HC2 : Hid (∀ W', Below wr.heap.size wr W' → JobC w A B C D a b c d q0.length b0 (o0 + k * 6) nm p1 p2 p3 p4 ms W') := fun W' h => jobC_of h HC.out
      clear hbx HC g
      go_wp2_with fail
      go_region_held3 (fun W => Below wr.heap.size wr W ∧ W.cell? ⟨w.heap.size, 0, none⟩ = some (.slice A q0.length a) ∧ W.cell? ⟨w.heap.size, 1, none⟩ = some (.slice B q0.length b) ∧ W.cell? ⟨w.heap.size, 2, none⟩ = some (.slice C q0.length c) ∧ W.cell? ⟨w.heap.size, 3, none⟩ = some (.slice D q0.length d) ∧ W.cell? ⟨b0, o0 + k * 6, none⟩ = some (.string nm) ∧ W.cell? ⟨b0, o0 + k * 6 + 1, none⟩ = some (.int .i64 p1) ∧ W.cell? ⟨b0, o0 + k * 6 + 2, none⟩ = some (.int .i64 p2) ∧ W.cell? ⟨b0, o0 + k * 6 + 3, none⟩ = some (.int .i64 p3) ∧ W.cell? ⟨b0, o0 + k * 6 + 4, none⟩ = some (.int .i64 p4) ∧ W.cell? ⟨b0, o0 + k * 6 + 5, none⟩ = some (.int .i64 ms))
        (first
          | exact ⟨(Below.refl _ _).drew, HC2.out _ (Below.refl _ _).drew⟩
          | exact ⟨hSa, HC2.out _ hSa⟩)
        (first
          | (go_at_call 56
             go_split_ands
             refine (CM.out nm p1 p2 p3 p4 ms _ (bstep HB1.out HB1.out.size (bstep hbw.out hbw.out.size (by assumption)))).mono ?_
             rintro e w2 ⟨v2, n2, rfl, hb2, hif⟩
             have hSa : Below wr.heap.size wr w2 := bstep (B := wr.heap.size) (a := wr) (by assumption) (Below.size (by assumption)) hb2))
      have hbw2 : Hid (Below w1.heap.size w1 w2) := bstep hbw.out hbw.out.size hSa
      have hbr : Hid (Below wr.heap.size wr w2) := hSa
      cases hp : panB (nm, p1, p2, p3, p4, ms) with
      | false =>
        rw [if_neg (by rw [hp]; decide)] at hif
        obtain ⟨rfl, rfl⟩ := hif
        have HN := Lib.hid (pan_bad G.out.out hp)
        clear hp s0 s1 s2 s3 c0 c1 c2 c3 c4 c5 hb2 hSa
        go_wp2
        go_ret2
        exact ⟨_, _, rfl, bstep HB0.out HB0.out.size hbw2.out, by rw [if_neg HN.out]; exact ⟨rfl, rfl⟩⟩
      | true =>
        rw [if_pos hp] at hif
        obtain ⟨rfl, B, hB, hown2⟩ := hif
        have hB : wr.heap.size ≤ B := hB
        have hsz := hbw.out.size
        have hrw := own_row (base := w1.heap.size) hown2 (minutes_in hp HL.out) (by omega)
        obtain ⟨R, cr, hv2, -, -⟩ := slice_inv hrw
        subst hv2
        obtain ⟨xs, hown, hsn⟩ := (hrow.out.below hbr.out).open_
        rw [List.length_map, List.length_take, Nat.min_eq_left hk] at hown hsn
        have HALL := Lib.hid (pan_next G.out.out hp hall.out)
        have HSN := Lib.hid hsn
        have HRW := Lib.hid hrw
        have HE := Lib.hid (pan_rows (x := (q0, q1, q2, q3)) G.out.out)
        have hz := hbw2.out.size
        clear hp s0 s1 s2 s3 c0 c1 c2 c3 c4 c5 hb2 hSa hown2 hsn hrw hsz hB
        go_wp2_with (at_builtin; refine wpList_append_own _ rfl _ _ 31 rfl w1.heap.size 23 i0 (.slice none 0 0) 1 24 Try.underlying31 hi0 hz0 hz1 hz2 rfl (by decide) _ _ _ rfl (World.ownsRow.alloc hown _) ⟨w2.heap.size, 0, none⟩ 1 1 [.slice R (minutesF (nm, p1, p2, p3, p4, ms) (q0, q1, q2, q3)).length cr] rfl rfl (new1_cells _ _ _) (one_oneCell rfl) (by unfold maxLen; omega) (by omega) (by simp; omega) ?_; intro v2 w3 hown2 hg2 _)
        go_wp2
        go_roundw
        case rel => exact ⟨k + 1, by omega, by go_num, (hbw2.out.alloc hz _).grown hg2 (by simp; omega) (fun j hj => (World.ownsRow.lt hown j hj).1), by rw [HE.out]; exact HSN.out _ _ _ _ _ hg2 hown2 HRW.out, HALL.out⟩
        case measure => simp [intOf]; omega
    · have hlt' : ¬ (k : Int) < (l.length : Int) := by omega
      have hke : k = l.length := by omega
      subst hke
      rw [List.take_length] at hrow hall
      go_wp2
      go_ret2
      exact ⟨_, _, rfl, bstep HB0.out HB0.out.size hbw.out, by rw [if_pos hall.out]; exact ⟨rfl, _, HB0.out.size, hrow.out⟩⟩
end Go.Proofs.Ytcnkocnajamclaa
