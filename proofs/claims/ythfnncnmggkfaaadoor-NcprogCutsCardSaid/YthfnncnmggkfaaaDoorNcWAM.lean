/- Chapter 26: Check, by walking the reference's text. -/
/- Chapter 27: Make, by walking the reference's text. -/
import Derived.Test.YthfnncnmggkfaaaDoorTorX2M
import Derived.Test.YthfnncnmggkfaaaDoorTorW4M
import Derived.Test.YthfnncnmggkfaaaDoorTorR1
import Derived.Test.YthfnncnmggkfaaaDoorNcW8M
import Derived.Test.YthfnncnmggkfaaaDoorNcW9
namespace Go.Proofs.YthfnncnmggkfaaaDoor
open Go Go.RowKit

theorem idx_neg_of {l : List Pt} {c : Pt} (h : l.contains c = false) : idxC l c < 0 := by rw [idxC_miss (by simpa using h)]; decide
theorem idx_pos_of {l : List Pt} {c : Pt} (h : l.contains c = true) : ¬ idxC l c < 0 := by
  obtain ⟨k, hk, _⟩ := idxC_mem (show c ∈ l by simpa using h); omega
set_option maxRecDepth 100000 in
set_option maxHeartbeats 1000000 in
theorem refCheckT_any (vs vo : Value) (shapes : List Shp) (order : List Pt) (w : World) (hs : shpsR.R w (Lt w) shapes [vs]) (ho : prR.slice.R w (Lt w) order [vo]) (hS : SmallS shapes) :
    Calls Tryd.prog 24 #[vs, vo] w (Ret (.int .i64 (checkT (contoursF shapes) order)) w) := by
  obtain ⟨A, c, rfl, hm, -⟩ := slice_inv hs
  obtain ⟨B, d, rfl, hmo, hdo⟩ := slice_inv ho
  have HBD := Lib.hid (ct_bd hS)
  have HNN := Lib.hid (fun c h => ct_nonneg (shapes := shapes) (c := c) h)
  by_cases h1 : 288 < (contoursF shapes).length
  · have HT := Lib.hid (checkT_many (order := order) h1)
    go_enter Tryd.func24, Tryd.ntmps24
    go_wp2_with fail
    refine (refContours_any A _ c shapes _ hs hS).mono ?_
    rintro e w1 ⟨v1, rfl, hown, hb1⟩
    obtain ⟨A1, c1, rfl⟩ := own_slice hown
    go_wp2
    go_ret
    exact ⟨by rw [HT.out]; rfl, hb1⟩
  · by_cases h2 : order.length < (contoursF shapes).length
    · have HT := Lib.hid (checkT_short h1 h2)
      go_enter Tryd.func24, Tryd.ntmps24
      go_wp2_with fail
      refine (refContours_any A _ c shapes _ hs hS).mono ?_
      rintro e w1 ⟨v1, rfl, hown, hb1⟩
      obtain ⟨A1, c1, rfl⟩ := own_slice hown
      go_wp2
      go_ret
      exact ⟨by rw [HT.out]; rfl, hb1⟩
    · by_cases h3 : (contoursF shapes).length < order.length
      · have HT := Lib.hid (checkT_long h1 h3)
        go_enter Tryd.func24, Tryd.ntmps24
        go_wp2_with fail
        refine (refContours_any A _ c shapes _ hs hS).mono ?_
        rintro e w1 ⟨v1, rfl, hown, hb1⟩
        obtain ⟨A1, c1, rfl⟩ := own_slice hown
        go_wp2
        go_ret
        exact ⟨by rw [HT.out]; rfl, hb1⟩
      · have HT := Lib.hid (checkT_run h1 (show order.length = (contoursF shapes).length by omega))
        have hol : order.length ≤ 288 := by omega
        go_enter Tryd.func24, Tryd.ntmps24
        go_wp2_with fail
        refine (refContours_any A _ c shapes _ hs hS).mono ?_
        rintro e w1 ⟨v1, rfl, hown, hb1⟩
        have hv1 := own_prs hown HBD.out
        obtain ⟨A1, c1, rfl⟩ := own_slice hown
        generalize hall : contoursF shapes = all at *
        have HALL := Lib.hid hall
        clear hall hown
        go_wp2
        go_loopw [6] (fun j wr => ∃ k : Nat, k ≤ order.length ∧ j = .int .i64 k ∧ Hid (firstErr all [] order = firstErr all (order.take k) (order.drop k)) ∧ Below w1.heap.size w1 wr) (fun j _ => order.length - (intOf j).toNat)
        case atStart => exact ⟨0, Nat.zero_le _, rfl, rfl, Below.refl _ _⟩
        case round =>
          obtain ⟨k, hk, rfl, hfe, hbr⟩ := hrel
          have hb := bstep hb1 hb1.size hbr
          have hz := hb.size
          have hva := Rep.below hv1 hbr
          by_cases hlt : k < order.length
          · obtain ⟨b, off, x, y, rfl, hx, hbD, d0, d1, -⟩ := pairs_at (Rep.at_ ho hb) hlt
            have hbl : b < w.heap.size := hbD
            rcases Bool.eq_false_or_eq_true (all.contains (x, y)) with hin | hin
            · have HE := Lib.hid (errC_in (before := order.take k) hin)
              have hn1 := idx_pos_of hin
              have HY := Lib.hid (HNN.out (x, y) (by simpa using hin))
              clear hin
              generalize hix : idxC all (x, y) = ix at *
              have HIX := Lib.hid hix
              clear hix
              go_wp2_with fail
              refine (find_any _ all x y _ hva).mono ?_
              rintro e w2 ⟨he, hb2⟩
              rw [HIX.out] at he
              subst he
              have hbr2 := bstep hbr hbr.size hb2
              have hbw2 := bstep hb hz hb2
              have hva2 := Rep.below hva hb2
              have hz2 := hbw2.size
              have e0 := ((bcell hb2).1 b (off + k * 2) (by omega)).trans d0
              have e1 := ((bcell hb2).1 b (off + k * 2 + 1) (by omega)).trans d1
              have hlb2 : b < w2.heap.size := by omega
              have q1 := run_take (P := Tryd.prog) Tryd.underlying23 Tryd.sizeOf57 (some ⟨b, off, none⟩) order.length d k (by omega)
              have hto : prR.slice.R w2 (Lt w2) (order.take k) [.slice (some ⟨b, off, none⟩) k d] := Rep.slice_take (Rep.below ho hbw2) hk
              clear hb2 hva hb hz d0 d1 hbr
              rcases Bool.eq_false_or_eq_true ((order.take k).contains (x, y)) with hdo | hdo
              · have HS : Hid (firstErr all [] order = 7) := chk_stop hfe.out hx.out (n := 7) (by rw [HE.out, hdo]; rfl) (by decide)
                have hn2 := idx_pos_of hdo
                have hn3 : 0 ≤ idxC (order.take k) (x, y) := by omega
                generalize hiy : idxC (order.take k) (x, y) = iy at *
                have HIY := Lib.hid hiy
                clear hiy hdo
                go_wp2
                go_region_held3 (fun W => Below w2.heap.size w2 W ∧ W.cell? ⟨b, off + k * 2, none⟩ = some (.int .i64 x) ∧ W.cell? ⟨b, off + k * 2 + 1, none⟩ = some (.int .i64 y))
                  (first
                    | exact ⟨(Below.refl _ _).drew, e0, e1⟩
                    | exact ⟨hSa, (hSa.cell (p := ⟨b, off + k * 2, none⟩) hlb2).trans e0, (hSa.cell (p := ⟨b, off + k * 2 + 1, none⟩) hlb2).trans e1⟩)
                  (first
                    | (go_at_call 46
                       refine (find_any _ (order.take k) x y _ (Rep.below hto ((Below.refl _ _).drew))).mono ?_
                       rintro e W1 ⟨he, hq⟩
                       rw [HIY.out] at he
                       subst he
                       have hSa : Below w2.heap.size w2 W1 := bstep ((Below.refl _ _).drew) (Nat.le_refl _) hq))
                go_wp2
                go_ret
                exact ⟨by rw [HT.out, HS.out]; rfl, bstep hbw2 hz2 hSa⟩
              · have hn2 := idx_neg_of hdo
                have hn3 : ¬ 0 ≤ idxC (order.take k) (x, y) := by omega
                have HE2 : Hid (errC all (order.take k) (x, y) = if freeC all (order.take k) (x, y) then 0 else 11) := by show errC _ _ _ = _; rw [HE.out, hdo]; rfl
                generalize hiy : idxC (order.take k) (x, y) = iy at *
                have HIY := Lib.hid hiy
                clear hiy hdo
                rcases Bool.eq_false_or_eq_true (freeC all (order.take k) (x, y)) with hfr | hfr
                all_goals
                  have HFR := Lib.hid hfr
                  clear hfr
                  go_wp2
                  go_region_held3 (fun W => Below w2.heap.size w2 W ∧ W.cell? ⟨b, off + k * 2, none⟩ = some (.int .i64 x) ∧ W.cell? ⟨b, off + k * 2 + 1, none⟩ = some (.int .i64 y))
                    (first
                      | exact ⟨(Below.refl _ _).drew, e0, e1⟩
                      | exact ⟨hSa, (hSa.cell (p := ⟨b, off + k * 2, none⟩) hlb2).trans e0, (hSa.cell (p := ⟨b, off + k * 2 + 1, none⟩) hlb2).trans e1⟩)
                    (first
                      | (go_at_call 46
                         refine (find_any _ (order.take k) x y _ (Rep.below hto ((Below.refl _ _).drew))).mono ?_
                         rintro e W1 ⟨he, hq⟩
                         rw [HIY.out] at he
                         subst he
                         have hSa : Below w2.heap.size w2 W1 := bstep ((Below.refl _ _).drew) (Nat.le_refl _) hq))
                  have e2 := ((bcell hSa).1 b (off + k * 2) hlb2).trans e0
                  have e3 := ((bcell hSa).1 b (off + k * 2 + 1) hlb2).trans e1
                  have hlb3 : b < W1.heap.size := Nat.lt_of_lt_of_le hlb2 hSa.size
                  have hto3 := Rep.below hto hSa
                  have hva3 := Rep.below hva2 hSa
                  have hbr3 := bstep hbr2 hbr2.size hSa
                  clear hto hva2 hbr2 e0 e1 hSa
                  go_wp2
                  go_region_held3 (fun W => Below W1.heap.size W1 W ∧ W.cell? ⟨b, off + k * 2, none⟩ = some (.int .i64 x) ∧ W.cell? ⟨b, off + k * 2 + 1, none⟩ = some (.int .i64 y))
                    (first
                      | exact ⟨(Below.refl _ _).drew, e2, e3⟩
                      | exact ⟨hSb, (hSb.cell (p := ⟨b, off + k * 2, none⟩) hlb3).trans e2, (hSb.cell (p := ⟨b, off + k * 2 + 1, none⟩) hlb3).trans e3⟩)
                    (first
                      | (go_at_call 47
                         refine (refFreeT_any _ _ all (order.take k) x y _ (Rep.below hva3 ((Below.refl _ _).drew)) (Rep.below hto3 ((Below.refl _ _).drew)) HY.out).mono ?_
                         rintro e W2 ⟨he, hq⟩
                         rw [HFR.out] at he
                         subst he
                         have hSb : Below W1.heap.size W1 W2 := bstep ((Below.refl _ _).drew) (Nat.le_refl _) hq))
                  have hbr4 := bstep hbr3 hbr3.size hSb
                · have HN : Hid (firstErr all [] order = firstErr all (order.take (k + 1)) (order.drop (k + 1))) := chk_next hfe.out hx.out (by rw [HE2.out, HFR.out]; rfl)
                  go_wp2
                  go_roundw
                  case rel => exact ⟨k + 1, by omega, by go_num, HN.out, hbr4⟩
                  case measure => simp [intOf]; omega
                · have HS : Hid (firstErr all [] order = 11) := chk_stop hfe.out hx.out (n := 11) (by rw [HE2.out, HFR.out]; rfl) (by decide)
                  go_wp2
                  go_ret
                  exact ⟨by rw [HT.out, HS.out]; rfl, bstep hb1 hb1.size hbr4⟩
            · have HS : Hid (firstErr all [] order = 9) := chk_stop hfe.out hx.out (n := 9) (by unfold errC; rw [hin]; rfl) (by decide)
              have hn1 := idx_neg_of hin
              clear hin
              generalize hix : idxC all (x, y) = ix at *
              have HIX := Lib.hid hix
              clear hix
              go_wp2_with fail
              refine (find_any _ all x y _ hva).mono ?_
              rintro e w2 ⟨he, hb2⟩
              rw [HIX.out] at he
              subst he
              go_wp2
              go_ret
              exact ⟨by rw [HT.out, HS.out]; rfl, bstep hb hz hb2⟩
          · have HS := Lib.hid (chk_end hfe.out (by omega))
            go_wp2
            go_ret
            exact ⟨by rw [HT.out, HS.out]; rfl, hb⟩
end Go.Proofs.YthfnncnmggkfaaaDoor

namespace Go.Proofs.YthfnncnmggkfaaaDoor
open Go Go.RowKit

theorem nc_rot_len {p : List Pt} {f : Nat} (hf : f < p.length) : (p.drop f ++ p.take f).length = p.length := by rw [List.length_append, List.length_drop, List.length_take]; omega
theorem rot_at {p : List Pt} {f j : Nat} (hf : f < p.length) (hj : j < p.length) : (p.drop f ++ p.take f)[j]? = p[(f + j) % p.length]? := by
  by_cases h : j < p.length - f
  · rw [List.getElem?_append_left (by rw [List.length_drop]; exact h), List.getElem?_drop, Nat.mod_eq_of_lt (by omega)]
  · rw [List.getElem?_append_right (by rw [List.length_drop]; omega), List.length_drop, List.getElem?_take, if_pos (by omega)]
    congr 1
    rw [Nat.mod_eq_sub_mod (by omega), Nat.mod_eq_of_lt (by omega)]
    omega
theorem step_row_ne {w : World} {B b n : Nat} {v : Value} {vs : List Value} (h : w.ownsRow B 49 3 v n vs) (hp : IsPt w b) : some b ≠ v.ownBlock := by
  intro e
  obtain ⟨cs, hc⟩ := hp
  rcases h.2 with ⟨rfl, _⟩ | ⟨g, cap, cur, rfl, _, hh, _⟩
  · cases e
  · have e : some b = some g := e
    injection e with e
    subst e
    have hc2 : w.heap[b]? = some (.cells cs 47 (0, 0)) := hc
    rw [hc2] at hh
    injection hh with hh
    injection hh with _ h2 _
    exact absurd h2 (by decide)
theorem rot_keep {wr w8 : World} {GB g9 cap n : Nat} {v : Value} {vs : List Value} {B : Nat} {rot : List Pt} {L : Nat} {cs : Array Value} {t : TypeId} (hR : OwnP wr GB 47 (.slice (some ⟨g9, 0, none⟩) L cap) rot) (hown : wr.ownsRow B 49 3 v n vs) (hg : (wr.alloc (.cells cs t)).grownBy w8 v.ownBlock) : OwnP w8 GB 47 (.slice (some ⟨g9, 0, none⟩) L cap) rot := by
  have hl := (World.ownsRow.lt hR g9 rfl).2
  exact own_keep hR (fun g hg' => by
    have e : g9 = g := by
      have h : some g9 = some g := hg'
      injection h
    subst e
    exact (hg.block g9 (by simp; omega) (step_row_ne hown (own_isPt hR))).trans (Below.heap_alloc wr _ g9 hl))
set_option maxRecDepth 100000 in
set_option maxHeartbeats 4000000 in
theorem refMake_any (vs vo : Value) (shapes : List Shp) (order : List Pt) (w : World) (hs : shpsR.R w (Lt w) shapes [vs]) (ho : prR.slice.R w (Lt w) order [vo]) (hS : SmallS shapes) (hR : SmallR shapes) :
    Calls Tryd.prog 14 #[vs, vo] w (MakePost (makeF shapes order) w) := by
  obtain ⟨A, c, rfl, hm, -⟩ := slice_inv hs
  obtain ⟨B, d, rfl, hmo, -⟩ := slice_inv ho
  by_cases hck : checkT (contoursF shapes) order = 0
  · obtain ⟨h288, hoe, hfe⟩ := checkT_zero hck
    have HMF := Lib.hid (makeF_yes hck)
    have HCK := Lib.hid hck
    have HM : Hid (∀ c ∈ order, c ∈ contoursF shapes) := fun c h => first_mem hfe c h
    have hol : order.length ≤ 288 := by omega
    obtain ⟨i0, hinf, hz0, hz1, hz2⟩ := info_parts step_info
    clear hck hfe h288 hoe
    go_enter Tryd.func14, Tryd.ntmps14
    go_wp2_with fail
    have hC := refCheckT_any _ _ shapes order w hs ho hS
    rw [HCK.out] at hC
    refine hC.mono ?_
    rintro e w1 ⟨rfl, hb1⟩
    clear hC
    go_wp2
    go_loopw [7, 8] (fun v iv wr => ∃ k : Nat, k ≤ order.length ∧ iv = .int .i64 k ∧ OwnS wr w.heap.size v (makeT shapes (order.take k)) ∧ Below w.heap.size w wr) (fun _ iv _ => order.length - (intOf iv).toNat)
    case atStart => exact ⟨0, Nat.zero_le _, rfl, World.ownsRow_nil _ _ _ _, hb1⟩
    case round =>
      obtain ⟨k, hk, rfl, hown, hb⟩ := hrel
      have hz := hb.size
      by_cases hlt : k < order.length
      · obtain ⟨bo, oo, x, y, rfl, hx, hbD, c0, c1, -⟩ := pairs_at (Rep.at_ ho hb) hlt
        have hki : (k : Int) < (order.length : Int) := by omega
        have hmem := HM.out (x, y) (List.mem_of_getElem? hx.out)
        have hlen := make_len hR (order.take k) (fun c hc => HM.out c (List.mem_of_mem_take hc))
        have hlen2 : (makeT shapes (order.take k)).length ≤ 288864 := by
          rw [List.length_take] at hlen
          have : min k order.length * 1003 ≤ 288 * 1003 := Nat.mul_le_mul_right _ (by omega)
          omega
        obtain ⟨pre, hpre⟩ : ∃ r, makeT shapes (order.take k) = r := ⟨_, rfl⟩
        have hC := refRing_any A _ c shapes x y wr (Rep.below hs hb) hmem hS (hR (x, y) hmem)
        obtain ⟨⟨sx, sy⟩, hbg⟩ : ∃ r, beginF shapes (x, y) = r := ⟨_, rfl⟩
        obtain ⟨p, hp⟩ : ∃ r, ringC shapes (x, y) = r := ⟨_, rfl⟩
        have hpl : p.length ≤ 1000 := by rw [← hp]; exact hR (x, y) hmem
        obtain ⟨hbm, hok⟩ := begin_mem hmem
        have hmp : minPt p = (sx, sy) := by rw [← hp]; exact hbg
        rw [hbg, hp] at hbm
        rw [hp] at hok hC
        obtain ⟨f, hfi, hfg, -⟩ := idxC_mem hbm
        have hfl := lt_of_get hfg
        have HRO : Hid (rotF p = p.drop f ++ p.take f) := by
          show _ = _
          unfold rotF
          rw [hmp, hfi, Int.toNat_natCast]
        have HSC : Hid (stepsC shapes (x, y) = (1, (sx, sy)) :: (2, (0, 0)) :: (cutsP p f ++ [(4, (0, 0))])) := by
          show _ = _
          unfold stepsC
          rw [hbg, hp, hfi, Int.toNat_natCast]
        have HMT : Hid (makeT shapes (order.take (k + 1)) = pre ++ stepsC shapes (x, y)) := by show _ = _; rw [make_take hx.out, hpre]
        rw [hpre] at hown hlen2
        obtain ⟨rot, hrot⟩ : ∃ r, p.drop f ++ p.take f = r := ⟨_, rfl⟩
        have hrl : rot.length = p.length := by rw [← hrot]; exact nc_rot_len hfl
        have HRA : Hid (∀ j, j < p.length → rot[j]? = p[(f + j) % p.length]?) := fun j hj => by rw [← hrot]; exact rot_at hfl hj
        have HRB : Hid (∀ q ∈ rot, inI64 q.1 ∧ inI64 q.2) := fun q hq => by
          have hq2 : q ∈ p := by
            rw [← hrot] at hq
            rcases List.mem_append.1 hq with h | h
            · exact List.mem_of_mem_drop h
            · exact List.mem_of_mem_take h
          obtain ⟨⟨a, b⟩, c, d⟩ := near_mem hok hq2
          unfold inI64
          omega
        rw [hrot] at HRO
        rw [HRO.out] at hC
        have HRL := Lib.hid hrl
        have hrot0 : rot[0]? = some (sx, sy) := by
          rw [HRA.out 0 (by omega), Nat.add_zero, Nat.mod_eq_of_lt hfl]; exact hfg
        have HR0 := Lib.hid hrot0
        clear hlen hpre hbg hp hbm hok hfi hfg hmem hmp hrot hrot0
        go_wp2_with fail
        refine hC.mono ?_
        rintro e w3 ⟨v9, rfl, hR3, hq⟩
        obtain ⟨g9, cap9, hv9, hg9, hg9l⟩ := nc_own_form hR3 (by omega)
        rw [hrl] at hv9
        subst hv9
        obtain ⟨GB, hGB⟩ : ∃ g, g = wr.heap.size := ⟨_, rfl⟩
        rw [← hGB] at hR3 hg9
        have hown3 := own_below hown hq
        have hb3 := bstep hb hb.size hq
        have hz3 := hb3.size
        have hR3' : OwnP w3 GB 47 (.slice (some ⟨g9, 0, none⟩) rot.length cap9) rot := by rw [hrl]; exact hR3
        obtain ⟨s0, s1⟩ := nc_own_at hR3' HR0.out
        rw [Nat.zero_mul] at s0 s1
        have s1 : w3.cell? ⟨g9, 1, none⟩ = some (.int .i64 sy) := s1
        have hp0 : (0 : Int) < (p.length : Int) := by omega
        have HB3 := Lib.hid hb3
        have HR3 := Lib.hid hR3
        clear hC hq hown hb c0 c1 hrl hR3' hb3 hR3 hfl hGB
        go_wp2_with (at_builtin; refine wpList_append_own _ rfl _ _ 26 rfl w.heap.size 49 i0 (.agg #[.int .i64 0, .int .i64 0, .int .i64 0]) 3 24 Tryd.underlying26 hinf hz0 hz1 hz2 rfl (by decide) _ _ _ rfl (World.ownsRow.alloc hown3 _) ⟨w3.heap.size, 0, none⟩ 2 2 [.int .i64 1, .int .i64 sx, .int .i64 sy, .int .i64 2, .int .i64 0, .int .i64 0] (by rfl) rfl (new_cells w3 _ _) (fun u hu => by simp at hu; rcases hu with rfl | rfl | rfl | rfl | rfl | rfl <;> rfl) (by unfold maxLen; omega) (by omega) (by simp; omega) ?_; intro v7 w7 hown7 hg7 _)
        have hown7' : OwnS w7 w.heap.size v7 (pre ++ [(1, (sx, sy)), (2, (0, 0))]) := ownS_app (ys := [(1, (sx, sy)), (2, (0, 0))]) hown7
        have hb7 := (HB3.out.alloc HB3.out.size (.cells #[.int .i64 1, .int .i64 sx, .int .i64 sy, .int .i64 2, .int .i64 0, .int .i64 0] 49)).grown hg7 (by simp; omega) (fun j hj => (World.ownsRow.lt hown3 j hj).1)
        have hR7 := rot_keep HR3.out hown3 hg7
        obtain ⟨pre2, hpre2⟩ : ∃ r, pre ++ [(1, (sx, sy)), (2, (0, 0))] = r := ⟨_, rfl⟩
        rw [hpre2] at hown7'
        have HP2 := Lib.hid hpre2
        have hl2 : pre2.length ≤ 288866 := by rw [← hpre2]; simp; omega
        clear hown7 hg7 hown3 s0 s1 hz3 hpre2 hlen2 HB3 HR3
        go_loopw [7, 10] (fun v jv wq => ∃ j : Nat, j ≤ p.length ∧ jv = .int .i64 ((j + 1 : Nat) : Int) ∧ OwnS wq w.heap.size v (pre2 ++ (cutsP p f).take j) ∧ OwnP wq GB 47 (.slice (some ⟨g9, 0, none⟩) p.length cap9) rot ∧ Below w.heap.size w wq) (fun _ jv _ => p.length + 1 - (intOf jv).toNat)
        case atStart => exact ⟨0, Nat.zero_le _, rfl, by rw [List.take_zero, List.append_nil]; exact hown7', hR7, hb7⟩
        case round =>
          obtain ⟨j, hj, rfl, hown, hRr, hb⟩ := hrel
          have hz := hb.size
          have hcl : (pre2 ++ (cutsP p f).take j).length ≤ 289866 := by rw [List.length_append, List.length_take]; omega
          by_cases hjl : j < p.length
          · obtain ⟨qi, hqi⟩ : ∃ r, (j + 1) % p.length = r := ⟨_, rfl⟩
            have hql : qi < p.length := by rw [← hqi]; exact Nat.mod_lt _ (by omega)
            have hrem : ((j : Int) + 1) % (p.length : Int) = (qi : Int) := by rw [← hqi]; push_cast; rfl
            have hRr' : OwnP wr GB 47 (.slice (some ⟨g9, 0, none⟩) rot.length cap9) rot := by rw [HRL.out]; exact hRr
            obtain ⟨⟨qx, qy⟩, hq⟩ : ∃ q, rot[qi]? = some q := ⟨_, List.getElem?_eq_getElem (by rw [HRL.out]; exact hql)⟩
            obtain ⟨d0, d1⟩ := nc_own_at hRr' hq
            have HCT : Hid ((cutsP p f).take (j + 1) = (cutsP p f).take j ++ [(3, (qx, qy))]) := cuts_take (by
              rw [HRA.out qi hql] at hq
              rw [← hq, ← hqi, Nat.add_mod_mod, Nat.add_assoc]) hjl
            have hji : ((j + 1 : Nat) : Int) ≤ (p.length : Int) := by omega
            have hqI : (qi : Int) < (p.length : Int) := by omega
            have hne0 : ¬ (p.length : Int) = 0 := by omega
            have HBB := Lib.hid hb
            have HRR := Lib.hid hRr
            clear hqi hb hRr hRr' hq
            go_wp2_with (at_builtin; refine wpList_append_own _ rfl _ _ 26 rfl w.heap.size 49 i0 (.agg #[.int .i64 0, .int .i64 0, .int .i64 0]) 3 24 Tryd.underlying26 hinf hz0 hz1 hz2 rfl (by decide) _ _ _ rfl (World.ownsRow.alloc hown _) ⟨wr.heap.size, 0, none⟩ 1 1 [.int .i64 3, .int .i64 qx, .int .i64 qy] (by rfl) rfl (new_cells wr _ _) (three_one _ _ _) (by unfold maxLen; omega) (by omega) (by simp; omega) ?_; intro v8 w8 hown8 hg8 _)
            have hb8 := (HBB.out.alloc HBB.out.size (.cells #[.int .i64 3, .int .i64 qx, .int .i64 qy] 49)).grown hg8 (by simp; omega) (fun j hj => (World.ownsRow.lt hown j hj).1)
            have hR8 := rot_keep HRR.out hown hg8
            go_roundw
            case rel => exact ⟨j + 1, by omega, by go_num, by rw [HCT.out, ← List.append_assoc]; exact ownS_one hown8, hR8, hb8⟩
            case measure => simp [intOf]; omega
          · have hjl2 : j = p.length := by omega
            have HTK : Hid ((cutsP p f).take j = cutsP p f) := by show _ = _; rw [hjl2]; exact List.take_of_length_le (by rw [cuts_len]; exact Nat.le_refl _)
            have hji : ¬ ((j + 1 : Nat) : Int) ≤ (p.length : Int) := by omega
            have HBB := Lib.hid hb
            clear hjl2 hb hRr
            go_wp2_with (at_builtin; refine wpList_append_own _ rfl _ _ 26 rfl w.heap.size 49 i0 (.agg #[.int .i64 0, .int .i64 0, .int .i64 0]) 3 24 Tryd.underlying26 hinf hz0 hz1 hz2 rfl (by decide) _ _ _ rfl (World.ownsRow.alloc hown _) ⟨wr.heap.size, 0, none⟩ 1 1 [.int .i64 4, .int .i64 0, .int .i64 0] (by rfl) rfl (new_cells wr _ _) (three_one _ _ _) (by unfold maxLen; omega) (by omega) (by simp; omega) ?_; intro v8 w8 hown8 hg8 _)
            have hb8 := (HBB.out.alloc HBB.out.size (.cells #[.int .i64 4, .int .i64 0, .int .i64 0] 49)).grown hg8 (by simp; omega) (fun j hj => (World.ownsRow.lt hown j hj).1)
            have hown9 := ownS_one hown8
            rw [HTK.out, ← HP2.out] at hown9
            go_roundw
            case rel => exact ⟨k + 1, by omega, by go_num, by rw [HMT.out, HSC.out]; simpa using hown9, hb8⟩
            case measure => simp [intOf]; omega
      · have hkl : k = order.length := by omega
        rw [hkl, List.take_length] at hown
        have hki : ¬ (k : Int) < (order.length : Int) := by omega
        have hrep := own_steps hown (make_bd HM.out)
        clear hkl
        go_wp2
        go_ret2
        rw [HMF.out]
        exact ⟨_, rfl, hrep, hb⟩
  · have HMF := Lib.hid (makeF_bad hck)
    obtain ⟨ck, hc⟩ : ∃ r, checkT (contoursF shapes) order = r := ⟨_, rfl⟩
    rw [hc] at hck HMF
    have hcb : (ck != 0) = true := ine_t hck
    have HCK := Lib.hid hc
    clear hck hc
    go_enter Tryd.func14, Tryd.ntmps14
    go_wp2_with fail
    have hC := refCheckT_any _ _ shapes order w hs ho hS
    rw [HCK.out] at hC
    refine hC.mono ?_
    rintro e w1 ⟨rfl, hb1⟩
    go_wp2
    go_ret2
    rw [HMF.out]
    exact ⟨_, rfl, Rep.slice_nil _ _ _, hb1⟩
end Go.Proofs.YthfnncnmggkfaaaDoor
