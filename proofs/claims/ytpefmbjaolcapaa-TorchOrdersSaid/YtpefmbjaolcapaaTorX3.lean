/- Chapter 26: Check, by walking the reference's text. -/
import Derived.Test.YtpefmbjaolcapaaTorX2
namespace Go.Proofs.Ytpefmbjaolcapaa
open Go Go.RowKit

theorem idx_neg_of {l : List Pt} {c : Pt} (h : l.contains c = false) : idxC l c < 0 := by rw [idxC_miss (by simpa using h)]; decide
theorem idx_pos_of {l : List Pt} {c : Pt} (h : l.contains c = true) : ¬ idxC l c < 0 := by
  obtain ⟨k, hk, _⟩ := idxC_mem (show c ∈ l by simpa using h); omega
theorem ct_nonneg {shapes : List Shp} {c : Pt} (h : c ∈ contoursF shapes) : 0 ≤ c.2 := by
  obtain ⟨i, k, _, _, _, rfl⟩ := mem_contours.1 h; simp only []; omega
set_option maxRecDepth 100000 in
set_option maxHeartbeats 1000000 in
theorem refCheckT_any (vs vo : Value) (shapes : List Shp) (order : List Pt) (w : World) (hs : shpsR.R w (Lt w) shapes [vs]) (ho : prR.slice.R w (Lt w) order [vo]) (hS : SmallS shapes) :
    Calls Try.prog 20 #[vs, vo] w (Ret (.int .i64 (checkT (contoursF shapes) order)) w) := by
  obtain ⟨A, c, rfl, hm, -⟩ := slice_inv hs
  obtain ⟨B, d, rfl, hmo, hdo⟩ := slice_inv ho
  have HBD := Lib.hid (ct_bd hS)
  have HNN := Lib.hid (fun c h => ct_nonneg (shapes := shapes) (c := c) h)
  by_cases h1 : 288 < (contoursF shapes).length
  · have HT := Lib.hid (checkT_many (order := order) h1)
    go_enter Try.func20, Try.ntmps20
    go_wp2_with fail
    refine (refContours_any A _ c shapes _ hs hS).mono ?_
    rintro e w1 ⟨v1, rfl, hown, hb1⟩
    obtain ⟨A1, c1, rfl⟩ := own_slice hown
    go_wp2
    go_ret
    exact ⟨by rw [HT.out]; rfl, hb1⟩
  · by_cases h2 : order.length < (contoursF shapes).length
    · have HT := Lib.hid (checkT_short h1 h2)
      go_enter Try.func20, Try.ntmps20
      go_wp2_with fail
      refine (refContours_any A _ c shapes _ hs hS).mono ?_
      rintro e w1 ⟨v1, rfl, hown, hb1⟩
      obtain ⟨A1, c1, rfl⟩ := own_slice hown
      go_wp2
      go_ret
      exact ⟨by rw [HT.out]; rfl, hb1⟩
    · by_cases h3 : (contoursF shapes).length < order.length
      · have HT := Lib.hid (checkT_long h1 h3)
        go_enter Try.func20, Try.ntmps20
        go_wp2_with fail
        refine (refContours_any A _ c shapes _ hs hS).mono ?_
        rintro e w1 ⟨v1, rfl, hown, hb1⟩
        obtain ⟨A1, c1, rfl⟩ := own_slice hown
        go_wp2
        go_ret
        exact ⟨by rw [HT.out]; rfl, hb1⟩
      · have HT := Lib.hid (checkT_run h1 (show order.length = (contoursF shapes).length by omega))
        have hol : order.length ≤ 288 := by omega
        go_enter Try.func20, Try.ntmps20
        go_wp2_with fail
        refine (refContours_any A _ c shapes _ hs hS).mono ?_
        rintro e w1 ⟨v1, rfl, hown, hb1⟩
        have hv1 := own_prs hown HBD.out
        obtain ⟨A1, c1, rfl⟩ := own_slice hown
        generalize hall : contoursF shapes = all at *
        have HALL := Lib.hid hall
        clear hall hown
        go_wp2
        go_loopw [6] (fun j wr => ∃ k : Nat, k ≤ order.length ∧ j = .int .i64 k ∧ Hid (firstErr all [] order = firstErr all (order.take k) (order.drop k)) ∧ Below w1.heap.size w1 wr) (fun j _ => order.length - (intOf j).toNat)
        case atStart => exact ⟨0, Nat.zero_le _, rfl, rfl, Below.refl _ _⟩
        case round =>
          obtain ⟨k, hk, rfl, hfe, hbr⟩ := hrel
          have hb := bstep hb1 hb1.size hbr
          have hz := hb.size
          have hva := Rep.below hv1 hbr
          by_cases hlt : k < order.length
          · obtain ⟨b, off, x, y, rfl, hx, hbD, d0, d1, -⟩ := pairs_at (Rep.at_ ho hb) hlt
            have hbl : b < w.heap.size := hbD
            rcases Bool.eq_false_or_eq_true (all.contains (x, y)) with hin | hin
            · have HE := Lib.hid (errC_in (before := order.take k) hin)
              have hn1 := idx_pos_of hin
              have HY := Lib.hid (HNN.out (x, y) (by simpa using hin))
              clear hin
              generalize hix : idxC all (x, y) = ix at *
              have HIX := Lib.hid hix
              clear hix
              go_wp2_with fail
              refine (find_any _ all x y _ hva).mono ?_
              rintro e w2 ⟨he, hb2⟩
              rw [HIX.out] at he
              subst he
              have hbr2 := bstep hbr hbr.size hb2
              have hbw2 := bstep hb hz hb2
              have hva2 := Rep.below hva hb2
              have hz2 := hbw2.size
              have e0 := ((bcell hb2).1 b (off + k * 2) (by omega)).trans d0
              have e1 := ((bcell hb2).1 b (off + k * 2 + 1) (by omega)).trans d1
              have hlb2 : b < w2.heap.size := by omega
              have q1 := run_take (P := Try.prog) Try.underlying32 Try.sizeOf24 (some ⟨b, off, none⟩) order.length d k (by omega)
              have hto : prR.slice.R w2 (Lt w2) (order.take k) [.slice (some ⟨b, off, none⟩) k d] := Rep.slice_take (Rep.below ho hbw2) hk
              clear hb2 hva hb hz d0 d1 hbr
              rcases Bool.eq_false_or_eq_true ((order.take k).contains (x, y)) with hdo | hdo
              · have HS : Hid (firstErr all [] order = 7) := chk_stop hfe.out hx.out (n := 7) (by rw [HE.out, hdo]; rfl) (by decide)
                have hn2 := idx_pos_of hdo
                have hn3 : 0 ≤ idxC (order.take k) (x, y) := by omega
                generalize hiy : idxC (order.take k) (x, y) = iy at *
                have HIY := Lib.hid hiy
                clear hiy hdo
                go_wp2
                go_region_held3 (fun W => Below w2.heap.size w2 W ∧ W.cell? ⟨b, off + k * 2, none⟩ = some (.int .i64 x) ∧ W.cell? ⟨b, off + k * 2 + 1, none⟩ = some (.int .i64 y))
                  (first
                    | exact ⟨(Below.refl _ _).drew, e0, e1⟩
                    | exact ⟨hSa, (hSa.cell (p := ⟨b, off + k * 2, none⟩) hlb2).trans e0, (hSa.cell (p := ⟨b, off + k * 2 + 1, none⟩) hlb2).trans e1⟩)
                  (first
                    | (go_at_call 30
                       refine (find_any _ (order.take k) x y _ (Rep.below hto ((Below.refl _ _).drew))).mono ?_
                       rintro e W1 ⟨he, hq⟩
                       rw [HIY.out] at he
                       subst he
                       have hSa : Below w2.heap.size w2 W1 := bstep ((Below.refl _ _).drew) (Nat.le_refl _) hq))
                go_wp2
                go_ret
                exact ⟨by rw [HT.out, HS.out]; rfl, bstep hbw2 hz2 hSa⟩
              · have hn2 := idx_neg_of hdo
                have hn3 : ¬ 0 ≤ idxC (order.take k) (x, y) := by omega
                have HE2 : Hid (errC all (order.take k) (x, y) = if freeC all (order.take k) (x, y) then 0 else 11) := by show errC _ _ _ = _; rw [HE.out, hdo]; rfl
                generalize hiy : idxC (order.take k) (x, y) = iy at *
                have HIY := Lib.hid hiy
                clear hiy hdo
                rcases Bool.eq_false_or_eq_true (freeC all (order.take k) (x, y)) with hfr | hfr
                all_goals
                  have HFR := Lib.hid hfr
                  clear hfr
                  go_wp2
                  go_region_held3 (fun W => Below w2.heap.size w2 W ∧ W.cell? ⟨b, off + k * 2, none⟩ = some (.int .i64 x) ∧ W.cell? ⟨b, off + k * 2 + 1, none⟩ = some (.int .i64 y))
                    (first
                      | exact ⟨(Below.refl _ _).drew, e0, e1⟩
                      | exact ⟨hSa, (hSa.cell (p := ⟨b, off + k * 2, none⟩) hlb2).trans e0, (hSa.cell (p := ⟨b, off + k * 2 + 1, none⟩) hlb2).trans e1⟩)
                    (first
                      | (go_at_call 30
                         refine (find_any _ (order.take k) x y _ (Rep.below hto ((Below.refl _ _).drew))).mono ?_
                         rintro e W1 ⟨he, hq⟩
                         rw [HIY.out] at he
                         subst he
                         have hSa : Below w2.heap.size w2 W1 := bstep ((Below.refl _ _).drew) (Nat.le_refl _) hq))
                  have e2 := ((bcell hSa).1 b (off + k * 2) hlb2).trans e0
                  have e3 := ((bcell hSa).1 b (off + k * 2 + 1) hlb2).trans e1
                  have hlb3 : b < W1.heap.size := Nat.lt_of_lt_of_le hlb2 hSa.size
                  have hto3 := Rep.below hto hSa
                  have hva3 := Rep.below hva2 hSa
                  have hbr3 := bstep hbr2 hbr2.size hSa
                  clear hto hva2 hbr2 e0 e1 hSa
                  go_wp2
                  go_region_held3 (fun W => Below W1.heap.size W1 W ∧ W.cell? ⟨b, off + k * 2, none⟩ = some (.int .i64 x) ∧ W.cell? ⟨b, off + k * 2 + 1, none⟩ = some (.int .i64 y))
                    (first
                      | exact ⟨(Below.refl _ _).drew, e2, e3⟩
                      | exact ⟨hSb, (hSb.cell (p := ⟨b, off + k * 2, none⟩) hlb3).trans e2, (hSb.cell (p := ⟨b, off + k * 2 + 1, none⟩) hlb3).trans e3⟩)
                    (first
                      | (go_at_call 38
                         refine (refFreeT_any _ _ all (order.take k) x y _ (Rep.below hva3 ((Below.refl _ _).drew)) (Rep.below hto3 ((Below.refl _ _).drew)) HY.out).mono ?_
                         rintro e W2 ⟨he, hq⟩
                         rw [HFR.out] at he
                         subst he
                         have hSb : Below W1.heap.size W1 W2 := bstep ((Below.refl _ _).drew) (Nat.le_refl _) hq))
                  have hbr4 := bstep hbr3 hbr3.size hSb
                · have HN : Hid (firstErr all [] order = firstErr all (order.take (k + 1)) (order.drop (k + 1))) := chk_next hfe.out hx.out (by rw [HE2.out, HFR.out]; rfl)
                  go_wp2
                  go_roundw
                  case rel => exact ⟨k + 1, by omega, by go_num, HN.out, hbr4⟩
                  case measure => simp [intOf]; omega
                · have HS : Hid (firstErr all [] order = 11) := chk_stop hfe.out hx.out (n := 11) (by rw [HE2.out, HFR.out]; rfl) (by decide)
                  go_wp2
                  go_ret
                  exact ⟨by rw [HT.out, HS.out]; rfl, bstep hb1 hb1.size hbr4⟩
            · have HS : Hid (firstErr all [] order = 9) := chk_stop hfe.out hx.out (n := 9) (by unfold errC; rw [hin]; rfl) (by decide)
              have hn1 := idx_neg_of hin
              clear hin
              generalize hix : idxC all (x, y) = ix at *
              have HIX := Lib.hid hix
              clear hix
              go_wp2_with fail
              refine (find_any _ all x y _ hva).mono ?_
              rintro e w2 ⟨he, hb2⟩
              rw [HIX.out] at he
              subst he
              go_wp2
              go_ret
              exact ⟨by rw [HT.out, HS.out]; rfl, bstep hb hz hb2⟩
          · have HS := Lib.hid (chk_end hfe.out (by omega))
            go_wp2
            go_ret
            exact ⟨by rw [HT.out, HS.out]; rfl, hb⟩
end Go.Proofs.Ytpefmbjaolcapaa
