/- Chapter 34: free, of the program and of the reference, by walking their text. -/
import Derived.Test.YtgiphdjblnfjcaaWsW9
namespace Go.Proofs.Ytgiphdjblnfjcaa
open Go Go.RowKit

def okPair (b : List Int) (i : Int) (x : Int × Int) : Bool := !(x.2 == i) || b.contains x.1
theorem freeB_in {before : List (Int × Int)} {b : List Int} {i : Int} (h : b.contains i = true) : freeB before b i = false := by simp only [freeB, h]; rfl
theorem freeB_out {before : List (Int × Int)} {b : List Int} {i : Int} (h : b.contains i = false) : freeB before b i = before.all (okPair b i) := by simp only [freeB, h]; rfl
set_option maxHeartbeats 400000 in
theorem free_any (g : Nat) (vl vb vo : Value) (reach stiff tw : Int) (before : List (Int × Int)) (b : List Int) (i : Int) (w : World) (hg : Blk w g 68 (panelCells vl vb reach stiff tw)) (hb : prR.slice.R w (Lt w) before [vb]) (ho : Rep.int.slice.R w (Lt w) b [vo]) :
    Calls Try.prog 27 #[.pointer (some ⟨g, 0, none⟩), vo, .int .i64 i] w (Ret (.bool (freeB before b i)) w) := by
  obtain ⟨B, d, rfl, hmb, -⟩ := slice_inv hb
  have g3 := hg.cell 3
  simp only [panelCells, List.getElem?_toArray, List.getElem?_cons_zero, List.getElem?_cons_succ] at g3
  rcases Bool.eq_false_or_eq_true (b.contains i) with hc | hc
  · have HF := Lib.hid (freeB_in (before := before) hc)
    generalize hcb : b.contains i = cb at *
    subst hc
    have HC := Lib.hid hcb
    clear hcb
    go_enter Try.func27, Try.ntmps27
    go_wp2_with fail
    refine (contains_any _ _ _ _ ho).mono ?_
    rintro e w1 ⟨he, rfl⟩
    rw [HC.out] at he
    subst he
    go_wp2
    go_ret
    exact ⟨ret_bool HF.out.symm, Below.refl _ _⟩
  · have HF := Lib.hid (freeB_out (before := before) hc)
    generalize hcb : b.contains i = cb at *
    subst hc
    have HC := Lib.hid hcb
    clear hcb
    go_enter Try.func27, Try.ntmps27
    go_wp2_with fail
    refine (contains_any _ _ _ _ ho).mono ?_
    rintro e w1 ⟨he, rfl⟩
    rw [HC.out] at he
    subst he
    go_wp2
    clear g3
    go_loopw [17] (fun j wr => ∃ k : Nat, k ≤ before.length ∧ j = .int .i64 k ∧ Hid ((before.take k).all (okPair b i) = true) ∧ Below w1.heap.size w1 wr) (fun j _ => before.length - (intOf j).toNat)
    case atStart => exact ⟨0, Nat.zero_le _, rfl, rfl, Below.refl _ _⟩
    case round =>
      obtain ⟨k, hk, rfl, hall, hbw⟩ := hrel
      have hz := hbw.size
      by_cases hlt : k < before.length
      · obtain ⟨b1, off, p, s, rfl, hx, -, c0, c1, -⟩ := pairs_at (Rep.at_ hb hbw) hlt
        by_cases hsi : s = i
        · have e1 : (s == i) = true := ieq_t hsi
          have HS := Lib.hid hsi
          clear hsi
          rcases Bool.eq_false_or_eq_true (b.contains p) with hd | hd
          · have HP : Hid (okPair b i (p, s) = true) := by show okPair b i (p, s) = true; simp only [okPair, hd]; simp
            generalize hcp : b.contains p = cp at *
            subst hd
            have HCP := Lib.hid hcp
            clear hcp
            go_wp2_with (go_at_call 45; refine (contains_any _ b _ _ (Rep.below ho (hbw.alloc hz _))).mono ?_; rintro e W1 ⟨he, rfl⟩; rw [HCP.out] at he; subst he)
            go_roundw
            case rel => exact ⟨k + 1, by omega, by go_num, all_take_succ hall.out hx.out HP.out, hbw.alloc hz _⟩
            case measure => simp [intOf]; omega
          · have HP : Hid (okPair b i (p, s) = false) := by show okPair b i (p, s) = false; simp only [okPair, hd, e1]; rfl
            generalize hcp : b.contains p = cp at *
            subst hd
            have HCP := Lib.hid hcp
            clear hcp
            go_wp2_with (go_at_call 45; refine (contains_any _ b _ _ (Rep.below ho (hbw.alloc hz _))).mono ?_; rintro e W1 ⟨he, rfl⟩; rw [HCP.out] at he; subst he)
            go_ret
            exact ⟨ret_bool (by rw [HF.out, all_bad hx.out HP.out]), hbw.alloc hz _⟩
        · have e1 : (s == i) = false := ieq_f hsi
          have HP : Hid (okPair b i (p, s) = true) := by show okPair b i (p, s) = true; simp only [okPair, e1]; rfl
          clear hsi
          go_wp2
          go_roundw
          case rel => exact ⟨k + 1, by omega, by go_num, all_take_succ hall.out hx.out HP.out, hbw.alloc hz _⟩
          case measure => simp [intOf]; omega
      · go_wp2
        go_ret
        have h3 := hall.out
        rw [List.take_of_length_le (by omega)] at h3
        exact ⟨ret_bool (by rw [HF.out, h3]), hbw⟩
theorem place_neg_t {xs : List Int} {x : Int} (h : xs.contains x = false) : placeF xs x < 0 := by
  have := @placeF_neg xs x
  rw [h] at this
  simpa using this
theorem place_neg_f {xs : List Int} {x : Int} (h : xs.contains x = true) : ¬ placeF xs x < 0 := by
  have := @placeF_neg xs x
  rw [h] at this
  simpa using this
set_option maxHeartbeats 400000 in
theorem refFree_any (vb vo : Value) (before : List (Int × Int)) (b : List Int) (i : Int) (w : World) (hb : prR.slice.R w (Lt w) before [vb]) (ho : Rep.int.slice.R w (Lt w) b [vo]) :
    Calls Try.prog 30 #[vb, vo, .int .i64 i] w (fun e w' => e = .returned (.bool (freeB before b i)) ∧ Qt w w') := by
  obtain ⟨B, d, rfl, hmb, -⟩ := slice_inv hb
  rcases Bool.eq_false_or_eq_true (b.contains i) with hc | hc
  · have HF := Lib.hid (freeB_in (before := before) hc)
    have hp := place_neg_f hc
    have hp' : decide (0 ≤ placeF b i) = true := by rw [placeF_pos]; exact hc
    clear hc
    go_enter Try.func30, Try.ntmps30
    go_wp2_with fail
    refine (place_any _ _ _ _ ho).mono ?_
    rintro e w1 ⟨rfl, hq1⟩
    go_wp2
    go_ret
    exact ⟨ret_bool HF.out.symm, hq1⟩
  · have HF := Lib.hid (freeB_out (before := before) hc)
    have hp := place_neg_t hc
    have hp' : decide (0 ≤ placeF b i) = false := by rw [placeF_pos]; exact hc
    clear hc
    go_enter Try.func30, Try.ntmps30
    go_wp2_with fail
    refine (place_any _ _ _ _ ho).mono ?_
    rintro e w1 ⟨rfl, hq1⟩
    go_wp2
    clear hp hp'
    go_loopw [7] (fun j wr => ∃ k : Nat, k ≤ before.length ∧ j = .int .i64 k ∧ Hid ((before.take k).all (okPair b i) = true) ∧ Qt w wr) (fun j _ => before.length - (intOf j).toNat)
    case atStart => exact ⟨0, Nat.zero_le _, rfl, rfl, hq1⟩
    case round =>
      obtain ⟨k, hk, rfl, hall, hq⟩ := hrel
      by_cases hlt : k < before.length
      · obtain ⟨b1, off, p, s, rfl, hx, -, c0, c1, -⟩ := pairs_at (hq.rep hb) hlt
        by_cases hsi : s = i
        · have e1 : (s == i) = true := ieq_t hsi
          have HS := Lib.hid hsi
          clear hsi
          rcases Bool.eq_false_or_eq_true (b.contains p) with hd | hd
          · have HP : Hid (okPair b i (p, s) = true) := by show okPair b i (p, s) = true; simp only [okPair, hd]; simp
            have hn := place_neg_f hd
            clear hd
            go_wp2_with (go_at_call 25; refine (place_any _ b _ _ (Rep.below ho (hq.below _))).mono ?_; rintro e W1 ⟨rfl, hq2⟩)
            go_roundw
            case rel => exact ⟨k + 1, by omega, by go_num, all_take_succ hall.out hx.out HP.out, hq.trans hq2⟩
            case measure => simp [intOf]; omega
          · have HP : Hid (okPair b i (p, s) = false) := by show okPair b i (p, s) = false; simp only [okPair, hd, e1]; rfl
            have hn := place_neg_t hd
            clear hd
            go_wp2_with (go_at_call 25; refine (place_any _ b _ _ (Rep.below ho (hq.below _))).mono ?_; rintro e W1 ⟨rfl, hq2⟩)
            go_ret
            exact ⟨ret_bool (by rw [HF.out, all_bad hx.out HP.out]), hq.trans hq2⟩
        · have e1 : (s == i) = false := ieq_f hsi
          have HP : Hid (okPair b i (p, s) = true) := by show okPair b i (p, s) = true; simp only [okPair, e1]; rfl
          clear hsi
          go_wp2
          go_roundw
          case rel => exact ⟨k + 1, by omega, by go_num, all_take_succ hall.out hx.out HP.out, hq⟩
          case measure => simp [intOf]; omega
      · go_wp2
        go_ret
        have h3 := hall.out
        rw [List.take_of_length_le (by omega)] at h3
        exact ⟨ret_bool (by rw [HF.out, h3]), hq⟩
end Go.Proofs.Ytgiphdjblnfjcaa
