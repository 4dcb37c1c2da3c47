/- Chapter 26: free, by walking the program's text. -/
/- Chapter 26: Check, by walking the program's text. -/
import Derived.Test.YthfnncnmggkfaaaDoorTorW8M
namespace Go.Proofs.YthfnncnmggkfaaaDoor
open Go Go.RowKit

/-- which contours are done: a block of Bools. -/
structure DoneIs (all before : List Pt) (cs : Array Value) : Prop where
  size : cs.size = all.length
  at_ : ∀ (k : Nat) (a : Pt), all[k]? = some a → cs[k]? = some (.bool (before.contains a))
def okAt (before : List Pt) (x : Int) (a : Pt) : Bool := !(a.1 == x && decide (0 < a.2)) || before.contains a
theorem freeC_ring {all before : List Pt} {x y : Int} (h : 0 < y) : freeC all before (x, y) = true := by simp [freeC, h]
theorem freeC_all {all before : List Pt} {x y : Int} (h : ¬ 0 < y) : freeC all before (x, y) = all.all (okAt before x) := by simp only [freeC, h, decide_false, Bool.false_or]; rfl
set_option maxRecDepth 100000 in
set_option maxHeartbeats 1000000 in
theorem freeT_any (v : Value) (all before : List Pt) (g : Nat) (cs : Array Value) (i : Nat) (x y : Int) (w : World) (hv : prR.slice.R w (Lt w) all [v]) (hg : Blk w g 4 cs) (hd : DoneIs all before cs) (hi : all[i]? = some (x, y)) :
    Calls Tryd.prog 51 #[v, .slice (some ⟨g, 0, none⟩) all.length all.length, .int .i64 i] w (Ret (.bool (freeC all before (x, y))) w) := by
  obtain ⟨A, c, rfl, hm, -⟩ := slice_inv hv
  have hil := lt_of_get hi
  obtain ⟨b, off, x', y', rfl, hx', hbD, c0, c1, -⟩ := pairs_at hv hil
  have hxe := hx'.out.symm.trans hi
  injection hxe with hxe
  injection hxe with h1 h2
  subst h1 h2
  have hbl : b < w.heap.size := hbD
  by_cases hy : 0 < y'
  · have HF := Lib.hid (freeC_ring (all := all) (before := before) (x := x') hy)
    clear hi hx'
    go_enter Tryd.func51, Tryd.ntmps51
    go_wp2
    go_ret
    exact ⟨ret_bool HF.out.symm, Below.refl _ _⟩
  · have HF := Lib.hid (freeC_all (all := all) (before := before) (x := x') hy)
    clear hi
    go_enter Tryd.func51, Tryd.ntmps51
    go_wp2
    go_loopw [17] (fun j wr => ∃ k : Nat, k ≤ all.length ∧ j = .int .i64 k ∧ Hid ((all.take k).all (okAt before x') = true) ∧ Below w.heap.size w wr) (fun j _ => all.length - (intOf j).toNat)
    case atStart => exact ⟨0, Nat.zero_le _, rfl, rfl, Below.refl _ _⟩
    case round =>
      obtain ⟨k, hk, rfl, hall, hb⟩ := hrel
      have hz := hb.size
      by_cases hlt : k < all.length
      · obtain ⟨b2, off2, p, q, e, hx, -, d0, d1, -⟩ := pairs_at (Rep.at_ hv hb) hlt
        injection e with e
        injection e with e5 e6 _
        subst e5 e6
        have hbr : b < wr.heap.size := Nat.lt_of_lt_of_le hbl hz
        have hbn : ¬ b = wr.heap.size := by omega
        have c0' := ((bcell hb).1 b (off + i * 2) hbl).trans c0
        have c1' := ((bcell hb).1 b (off + i * 2 + 1) hbl).trans c1
        have hgl := hg.lt
        have hgr : g < wr.heap.size := Nat.lt_of_lt_of_le hgl hz
        have hgn : ¬ g = wr.heap.size := by omega
        have hg' := hg.below hb hgl
        have hdk := hd.at_ k _ hx.out
        have k0 := hg'.cell k
        rw [hdk] at k0
        have hil1 : (i : Int) < (all.length : Int) := by omega
        clear hg' hdk
        by_cases e1 : p = x'
        · have b1 : (p == x') = true := ieq_t e1
          by_cases e2 : 0 < q
          · have b2 : decide (0 < q) = true := decide_eq_true e2
            rcases Bool.eq_false_or_eq_true (before.contains (p, q)) with hc | hc
            · have HP : Hid (okAt before x' (p, q) = true) := by show okAt before x' (p, q) = true; simp only [okAt, hc, Bool.or_true]
              rw [hc] at k0
              clear hc e1
              go_wp2
              go_quiet (fail)
              go_wp2
              go_roundw
              case rel => exact ⟨k + 1, by omega, by go_num, all_take_succ hall.out hx.out HP.out, below_drewN (hb.alloc hz _) _⟩
              case measure => simp [intOf]; omega
            · have HP : Hid (okAt before x' (p, q) = false) := by show okAt before x' (p, q) = false; simp only [okAt, hc, b1, b2]; rfl
              rw [hc] at k0
              clear hc e1
              go_wp2
              go_quiet (fail)
              go_wp2
              go_ret
              exact ⟨ret_bool (by rw [HF.out, all_bad hx.out HP.out]), below_drewN (hb.alloc hz _) _⟩
          · have b2 : decide (0 < q) = false := decide_eq_false e2
            have HP : Hid (okAt before x' (p, q) = true) := by show okAt before x' (p, q) = true; simp only [okAt, b2, Bool.and_false]; rfl
            clear e1
            go_wp2
            go_quiet (fail)
            go_wp2
            go_roundw
            case rel => exact ⟨k + 1, by omega, by go_num, all_take_succ hall.out hx.out HP.out, below_drewN (hb.alloc hz _) _⟩
            case measure => simp [intOf]; omega
        · have b1 : (p == x') = false := ieq_f e1
          have HP : Hid (okAt before x' (p, q) = true) := by show okAt before x' (p, q) = true; simp only [okAt, b1, Bool.false_and]; rfl
          clear e1
          go_wp2
          go_quiet (fail)
          go_wp2
          go_roundw
          case rel => exact ⟨k + 1, by omega, by go_num, all_take_succ hall.out hx.out HP.out, below_drewN (hb.alloc hz _) _⟩
          case measure => simp [intOf]; omega
      · go_wp2
        go_ret
        have h3 := hall.out
        rw [List.take_of_length_le (by omega)] at h3
        exact ⟨ret_bool (by rw [HF.out, h3]), hb⟩
end Go.Proofs.YthfnncnmggkfaaaDoor

namespace Go.Proofs.YthfnncnmggkfaaaDoor
open Go Go.RowKit

theorem rep_up {α : Type} {E : Rep α} {w : World} {G : Nat} {x : α} {cs : List Value} (h : E.R w (fun b => b < G) x cs) (hG : G ≤ w.heap.size) : E.R w (Lt w) x cs := E.mono (fun _ hi => Nat.lt_of_lt_of_le hi hG) h
theorem ctOf_nodup (i : Nat) (s : Shp) : ∀ n, (ctOf i s n).Nodup
  | 0 => by simp [ctOf]
  | n + 1 => by
    rw [ctOf]; split
    · rw [List.nodup_append]
      refine ⟨ctOf_nodup i s n, by simp, fun a ha c hc => ?_⟩
      simp at hc; subst hc
      rintro rfl
      obtain ⟨k, h1, _, h3⟩ := ctOf_mem.1 ha
      injection h3 with _ h3
      omega
    · exact ctOf_nodup i s n
theorem ctTo_nodup (shapes : List Shp) : ∀ n, (ctTo shapes n).Nodup
  | 0 => by simp [ctTo]
  | n + 1 => by
    rw [ctTo, List.nodup_append]
    refine ⟨ctTo_nodup shapes n, ctOf_nodup _ _ _, fun a ha c hc => ?_⟩
    rintro rfl
    obtain ⟨i, k, h1, _, _, h4⟩ := ctTo_mem.1 ha
    obtain ⟨k', _, _, h5⟩ := ctOf_mem.1 hc
    rw [h4] at h5
    injection h5 with h5 _
    omega
theorem contours_nodup (shapes : List Shp) : (contoursF shapes).Nodup := ctTo_nodup shapes _
theorem nodup_at {α : Type} {l : List α} (h : l.Nodup) {i j : Nat} {x : α} (hi : l[i]? = some x) (hj : l[j]? = some x) : i = j := by
  obtain ⟨h1, e1⟩ := List.getElem?_eq_some_iff.1 hi
  obtain ⟨h2, e2⟩ := List.getElem?_eq_some_iff.1 hj
  rcases Nat.lt_trichotomy i j with hl | hl | hl
  · exact absurd (e1.trans e2.symm) ((List.pairwise_iff_getElem.1 h) i j h1 h2 hl)
  · exact hl
  · exact absurd (e2.trans e1.symm) ((List.pairwise_iff_getElem.1 h) j i h2 h1 hl)
theorem done_nil (all : List Pt) : DoneIs all [] (Array.replicate all.length (.bool false)) := ⟨by simp, fun k a ha => by
  have := lt_of_get ha
  rw [Array.getElem?_replicate, if_pos this]; rfl⟩
theorem done_snoc {all before : List Pt} {cs : Array Value} {i : Nat} {c : Pt} (h : DoneIs all before cs) (hn : all.Nodup) (hi : all[i]? = some c) : DoneIs all (before ++ [c]) (cs.setIfInBounds i (.bool true)) := by
  refine ⟨by simp [h.size], fun k a ha => ?_⟩
  have hk := lt_of_get ha
  rw [Array.getElem?_setIfInBounds]
  by_cases hik : i = k
  · subst hik
    rw [if_pos rfl, if_pos (by rw [h.size]; exact hk)]
    have : a = c := by have := ha.symm.trans hi; injection this
    subst this
    simp
  · rw [if_neg hik, h.at_ k a ha]
    have hac : a ≠ c := fun e => hik (nodup_at hn hi (by rw [← e]; exact ha))
    have e : (before ++ [c]).contains a = before.contains a := by
      rw [Bool.eq_iff_iff]; simp [hac]
    rw [e]
theorem errC_in {all before : List Pt} {c : Pt} (h : all.contains c = true) : errC all before c = if before.contains c then 7 else if freeC all before c then 0 else 11 := if_pos h
theorem first_next {all b r : List Pt} {c : Pt} (h : errC all b c = 0) : firstErr all b (c :: r) = firstErr all (b ++ [c]) r := by rw [firstErr, if_neg (by simpa using h)]
theorem first_stop {all b r : List Pt} {c : Pt} {n : Int} (h : errC all b c = n) (hn : n ≠ 0) : firstErr all b (c :: r) = n := by rw [firstErr, h, if_pos hn]
theorem drop_of {α : Type} {l : List α} {k : Nat} {x : α} (h : l[k]? = some x) : l.drop k = x :: l.drop (k + 1) := by
  obtain ⟨hk, rfl⟩ := List.getElem?_eq_some_iff.1 h
  exact List.drop_eq_getElem_cons hk
theorem chk_next {all order : List Pt} {k : Nat} {c : Pt} (h : firstErr all [] order = firstErr all (order.take k) (order.drop k)) (hx : order[k]? = some c) (h0 : errC all (order.take k) c = 0) : firstErr all [] order = firstErr all (order.take (k + 1)) (order.drop (k + 1)) := by
  rw [h, drop_of hx, first_next h0, ← take_one hx]
theorem chk_stop {all order : List Pt} {k : Nat} {c : Pt} {n : Int} (h : firstErr all [] order = firstErr all (order.take k) (order.drop k)) (hx : order[k]? = some c) (h0 : errC all (order.take k) c = n) (hn : n ≠ 0) : firstErr all [] order = n := by
  rw [h, drop_of hx, first_stop h0 hn]
theorem chk_end {all order : List Pt} {k : Nat} (h : firstErr all [] order = firstErr all (order.take k) (order.drop k)) (hk : order.length ≤ k) : firstErr all [] order = 0 := by
  rw [h, List.drop_of_length_le hk, firstErr]
theorem checkT_many {all order : List Pt} (h : 288 < all.length) : checkT all order = 13 := if_pos h
theorem checkT_short {all order : List Pt} (h : ¬ 288 < all.length) (h1 : order.length < all.length) : checkT all order = 3 := by unfold checkT; rw [if_neg h, if_pos h1]
theorem checkT_long {all order : List Pt} (h : ¬ 288 < all.length) (h1 : all.length < order.length) : checkT all order = 4 := by unfold checkT; rw [if_neg h, if_neg (by omega), if_pos h1]
theorem checkT_run {all order : List Pt} (h : ¬ 288 < all.length) (h1 : order.length = all.length) : checkT all order = firstErr all [] order := by unfold checkT; rw [if_neg h, if_neg (by omega), if_neg (by omega)]
theorem boolT_info : (Tryd.prog.info? 4).map (fun i => (i.zero, i.size, i.bytes)) = some (some (.bool false), 1, 1) := by kernel_rfl
set_option maxRecDepth 100000 in
set_option maxHeartbeats 1000000 in
theorem checkT_any (vs vo : Value) (shapes : List Shp) (order : List Pt) (w : World) (hs : shpsR.R w (Lt w) shapes [vs]) (ho : prR.slice.R w (Lt w) order [vo]) (hS : SmallS shapes) :
    Calls Tryd.prog 28 #[vs, vo] w (Ret (.int .i64 (checkT (contoursF shapes) order)) w) := by
  obtain ⟨A, c, rfl, hm, -⟩ := slice_inv hs
  obtain ⟨B, d, rfl, hmo, -⟩ := slice_inv ho
  have HBD := Lib.hid (ct_bd hS)
  have HND := Lib.hid (contours_nodup shapes)
  have HCL := Lib.hid (contours_len hS)
  by_cases h1 : 288 < (contoursF shapes).length
  · have HT := Lib.hid (checkT_many (order := order) h1)
    go_enter Tryd.func28, Tryd.ntmps28
    go_wp2_with fail
    refine (contours_any A _ c shapes _ hs hS).mono ?_
    rintro e w1 ⟨v1, rfl, hown, hb1⟩
    have hl9 : (contoursF shapes).length ≤ 9223372036854775807 := by have := HCL.out; omega
    obtain ⟨A1, c1, rfl⟩ := own_slice hown
    go_wp2
    go_ret
    exact ⟨by rw [HT.out]; rfl, hb1⟩
  · by_cases h2 : order.length < (contoursF shapes).length
    · have HT := Lib.hid (checkT_short h1 h2)
      go_enter Tryd.func28, Tryd.ntmps28
      go_wp2_with fail
      refine (contours_any A _ c shapes _ hs hS).mono ?_
      rintro e w1 ⟨v1, rfl, hown, hb1⟩
      obtain ⟨A1, c1, rfl⟩ := own_slice hown
      go_wp2
      go_ret
      exact ⟨by rw [HT.out]; rfl, hb1⟩
    · by_cases h3 : (contoursF shapes).length < order.length
      · have HT := Lib.hid (checkT_long h1 h3)
        go_enter Tryd.func28, Tryd.ntmps28
        go_wp2_with fail
        refine (contours_any A _ c shapes _ hs hS).mono ?_
        rintro e w1 ⟨v1, rfl, hown, hb1⟩
        obtain ⟨A1, c1, rfl⟩ := own_slice hown
        go_wp2
        go_ret
        exact ⟨by rw [HT.out]; rfl, hb1⟩
      · have hlen : order.length = (contoursF shapes).length := by omega
        have HT := Lib.hid (checkT_run h1 hlen)
        have HL := Lib.hid hlen
        have hol : order.length ≤ 288 := by omega
        clear hlen
        have hmk := fun u => run_make1 (P := Tryd.prog) Tryd.underlying104 boolT_info rfl (contoursF shapes).length (by omega) (by omega) u
        go_enter Tryd.func28, Tryd.ntmps28
        go_wp2_with fail
        refine (contours_any A _ c shapes _ hs hS).mono ?_
        rintro e w1 ⟨v1, rfl, hown, hb1⟩
        have hv1 := own_prs hown HBD.out
        obtain ⟨A1, c1, rfl⟩ := own_slice hown
        generalize hall : contoursF shapes = all at *
        have HALL := Lib.hid hall
        clear hall
        go_wp2
        clear hmk
        have g0 := Blk.new w1 4 (Array.replicate all.length (.bool false))
        obtain ⟨G, hG⟩ : ∃ G, G = w1.heap.size := ⟨_, rfl⟩
        have hGw : w.heap.size ≤ G := by rw [hG]; exact hb1.size
        have hb1' := hb1.alloc hb1.size (.cells (Array.replicate all.length (.bool false)) 4)
        have hv1' := Rep.below hv1 ((Below.refl _ _).alloc (Nat.le_refl _) (.cells (Array.replicate all.length (.bool false)) 4))
        have hGl : G < (w1.alloc (.cells (Array.replicate all.length (.bool false)) 4)).heap.size := by rw [hG]; simp
        obtain ⟨w2, hw2⟩ : ∃ w2, w2 = w1.alloc (.cells (Array.replicate all.length (.bool false)) 4) := ⟨_, rfl⟩
        have hD1 : prR.slice.R w2 (fun b => b < w1.heap.size) all [.slice A1 all.length c1] := by rw [hw2]; exact Rep.at_ hv1 ((Below.refl _ _).alloc (Nat.le_refl _) _)
        rw [← hG, ← hw2]
        rw [← hG, ← hw2] at g0
        rw [← hw2] at hb1' hv1' hGl
        rw [← hG] at hD1
        clear hw2 hG hown hv1 hb1
        go_loopw [33] (fun j wr => ∃ (k : Nat) (cs : Array Value), k ≤ order.length ∧ j = .int .i64 k ∧ Hid (firstErr all [] order = firstErr all (order.take k) (order.drop k)) ∧ Hid (DoneIs all (order.take k) cs) ∧ Blk wr G 4 cs ∧ G < wr.heap.size ∧ prR.slice.R wr (fun b => b < G) all [.slice A1 all.length c1] ∧ Below w.heap.size w wr) (fun j _ => order.length - (intOf j).toNat)
        case atStart => exact ⟨0, _, Nat.zero_le _, rfl, rfl, done_nil all, g0, hGl, hD1, hb1'⟩
        case round =>
          obtain ⟨k, cs, hk, rfl, hfe, hdn, hblk, hGr, hva, hb⟩ := hrel
          have hz := hb.size
          by_cases hlt : k < order.length
          · obtain ⟨b, off, x, y, rfl, hx, hbD, d0, d1, -⟩ := pairs_at (Rep.at_ ho hb) hlt
            have hbl : b < w.heap.size := hbD
            have hbn : ¬ b = wr.heap.size := by omega
            have hb2 := hb.alloc hz (.cells #[.int .i64 x, .int .i64 y] 57)
            have hA : Below wr.heap.size wr (wr.alloc (.cells #[.int .i64 x, .int .i64 y] 57)) := (Below.refl _ _).alloc (Nat.le_refl _) _
            have hvaL : prR.slice.R (wr.alloc (.cells #[.int .i64 x, .int .i64 y] 57)) (Lt _) all [.slice A1 all.length c1] := rep_up (G := G) (Rep.keep _ (fun i hi => hA.block i (by omega)) hva) (by simp; omega)
            have hblk2 := hblk.alloc (.cells #[.int .i64 x, .int .i64 y] 57)
            rcases Bool.eq_false_or_eq_true (all.contains (x, y)) with hin | hin
            · obtain ⟨i, hi, hia, -⟩ := idxC_mem (show (x, y) ∈ all by simpa using hin)
              have HI := Lib.hid hi
              have HIA := Lib.hid hia
              have hil := lt_of_get hia
              have HE := Lib.hid (errC_in (before := order.take k) hin)
              have k0 := hblk.cell i
              rw [hdn.out.at_ i _ hia] at k0
              have hni : ¬ (i : Int) < 0 := by omega
              clear hi hia hin
              rcases Bool.eq_false_or_eq_true ((order.take k).contains (x, y)) with hdo | hdo
              · have HS : Hid (firstErr all [] order = 7) := chk_stop hfe.out hx.out (n := 7) (by rw [HE.out, hdo]; rfl) (by decide)
                rw [hdo] at k0
                have k0' : (wr.alloc (.cells #[.int .i64 x, .int .i64 y] 57)).cell? ⟨G, i, none⟩ = some (.bool true) := (hA.cell (p := ⟨G, i, none⟩) hGr).trans k0
                clear hdo k0
                go_wp2_with fail
                refine (indexC_any _ all x y _ hvaL).mono ?_
                rintro e w3 ⟨he, hb3⟩
                rw [HI.out] at he
                subst he
                have k1 := ((bcell hb3).1 G i (by simp; omega)).trans k0'
                have hb4 := bstep hb2 hb2.size hb3
                go_wp2
                go_ret
                exact ⟨by rw [HT.out, HS.out]; rfl, hb4⟩
              · rw [hdo] at k0
                have k0' : (wr.alloc (.cells #[.int .i64 x, .int .i64 y] 57)).cell? ⟨G, i, none⟩ = some (.bool false) := (hA.cell (p := ⟨G, i, none⟩) hGr).trans k0
                rcases Bool.eq_false_or_eq_true (freeC all (order.take k) (x, y)) with hfr | hfr
                all_goals
                  have HFR := Lib.hid hfr
                  have HE2 : Hid (errC all (order.take k) (x, y) = if freeC all (order.take k) (x, y) then 0 else 11) := by show errC _ _ _ = _; rw [HE.out, hdo]; rfl
                  clear hfr hdo k0
                  go_wp2_with fail
                  refine (indexC_any _ all x y _ hvaL).mono ?_
                  rintro e w3 ⟨he, hb3⟩
                  rw [HI.out] at he
                  subst he
                  have k1 := ((bcell hb3).1 G i (by simp; omega)).trans k0'
                  have hb4 := bstep hb2 hb2.size hb3
                  have hbk3 := hblk2.below hb3 (by simp; omega)
                  have hva3 : prR.slice.R w3 (fun b => b < G) all [.slice A1 all.length c1] := Rep.keep _ (fun i hi => (hb3.block i (by simp; omega)).trans (hA.block i (by omega))) hva
                  have hG3 : G < w3.heap.size := Nat.lt_of_lt_of_le (by simp; omega) hb3.size
                  clear hb3 hvaL hA hblk2 k0'
                  go_wp2_with fail
                  refine (freeT_any _ all (order.take k) G cs i x y _ (rep_up hva3 (Nat.le_of_lt hG3)) hbk3 hdn.out HIA.out).mono ?_
                  rintro e w4 ⟨he, hb5⟩
                  rw [HFR.out] at he
                  subst he
                  have hb6 := bstep hb4 hb4.size hb5
                · have hbk4 := hbk3.below hb5 hG3
                  have hG4 : G < w4.heap.size := Nat.lt_of_lt_of_le hG3 hb5.size
                  have q0 := hbk4.cell i
                  rw [hdn.out.at_ i _ HIA.out] at q0
                  have f0 := hbk4.free i
                  have HN : Hid (firstErr all [] order = firstErr all (order.take (k + 1)) (order.drop (k + 1))) := chk_next hfe.out hx.out (by rw [HE2.out, HFR.out]; rfl)
                  have hdn2 : Hid (DoneIs all (order.take (k + 1)) (cs.setIfInBounds i (.bool true))) := by
                    show DoneIs _ _ _
                    rw [take_one hx.out]; exact done_snoc hdn.out HND.out HIA.out
                  go_wp2
                  go_roundw
                  case rel =>
                    exact ⟨k + 1, _, by omega, by go_num, HN.out, hdn2.out, hbk4.set_ i (.bool true), by simpa [World.setCell] using hG4, Rep.keep _ (fun j (hj : j < G) => (Below.heap_setCell w4 ⟨G, i, none⟩ (.bool true) j (by show j ≠ G; omega)).trans (hb5.block j (by omega))) hva3, hb6.setCell (p := ⟨G, i, none⟩) hGw _⟩
                  case measure => simp [intOf]; omega
                · have HS : Hid (firstErr all [] order = 11) := chk_stop hfe.out hx.out (n := 11) (by rw [HE2.out, HFR.out]; rfl) (by decide)
                  go_wp2
                  go_ret
                  exact ⟨by rw [HT.out, HS.out]; rfl, hb6⟩
            · have HS : Hid (firstErr all [] order = 9) := chk_stop hfe.out hx.out (n := 9) (by unfold errC; rw [hin]; rfl) (by decide)
              have HI : Hid (idxC all (x, y) = -1) := idxC_miss (by simpa using hin)
              clear hin
              go_wp2_with fail
              refine (indexC_any _ all x y _ hvaL).mono ?_
              rintro e w3 ⟨he, hb3⟩
              rw [HI.out] at he
              subst he
              have hb4 := bstep hb2 hb2.size hb3
              go_wp2
              go_ret
              exact ⟨by rw [HT.out, HS.out]; rfl, hb4⟩
          · have HS := Lib.hid (chk_end hfe.out (by omega))
            go_wp2
            go_ret
            exact ⟨by rw [HT.out, HS.out]; rfl, hb⟩
theorem ct_nonneg {shapes : List Shp} {c : Pt} (h : c ∈ contoursF shapes) : 0 ≤ c.2 := by
  obtain ⟨i, k, _, _, _, rfl⟩ := mem_contours.1 h; simp only []; omega
end Go.Proofs.YthfnncnmggkfaaaDoor
