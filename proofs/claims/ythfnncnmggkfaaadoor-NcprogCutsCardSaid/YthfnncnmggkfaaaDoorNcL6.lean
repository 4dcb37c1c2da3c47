/- Chapter 27: the law NcprogCuts, by walking its text. -/
import Derived.Test.YthfnncnmggkfaaaDoorNcL3
import Derived.Test.YthfnncnmggkfaaaDoorNcOrdM
import Derived.Test.YthfnncnmggkfaaaDoorNcW9
import Derived.Test.YthfnncnmggkfaaaDoorNcWAM
import Derived.Test.YthfnncnmggkfaaaDoorNcW1M
import Derived.Test.YthfnncnmggkfaaaDoorNcOpM
namespace Go.Proofs.YthfnncnmggkfaaaDoor
open Go Go.RowKit

theorem nc_own_cut2 {w : World} {base g cap n : Nat} {e : TypeId} {L : Nat} {xs : List Pt} (h : OwnP w base e (.slice (some ⟨g, 0, none⟩) L cap) xs) (hR : ∀ x ∈ xs, inI64 x.1 ∧ inI64 x.2) (hn : n ≤ xs.length) :
    ptsR.R w (fun b => b = g) (xs.take n) [.slice (some ⟨g, 0, none⟩) n cap] := by
  have h1 := Rep.slice_take (own_prs h hR) hn
  obtain ⟨A, c, e1, l1, l2, h3⟩ := h1
  injection e1 with e1 _
  injection e1 with e2 e3 e4
  subst e2 e4
  refine ⟨some ⟨g, 0, none⟩, cap, by rw [← e3], l1, l2, fun k hk => ?_⟩
  obtain ⟨b, off, es, e5, hb, hr, hc⟩ := h3 k hk
  have e6 := e5
  injection e6 with e6
  injection e6 with e7 _ _
  exact ⟨b, off, es, e5, e7.symm, hr, hc⟩
theorem cut_rot {shapes : List Shp} {c : Pt} : rotF (ringC shapes c) = cutOf shapes c := rfl
theorem cut_bd {shapes : List Shp} {c : Pt} (hc : c ∈ contoursF shapes) : 0 < (cutOf shapes c).length ∧ ∀ x ∈ cutOf shapes c, inI64 x.1 ∧ inI64 x.2 := by
  obtain ⟨f, hf, hlt, -⟩ := begin_idx hc
  unfold cutOf
  rw [hf]
  refine ⟨by rw [rot_len _ (by omega)]; omega, fun x hx => ?_⟩
  have hx : x ∈ ringC shapes c := by
    unfold rot at hx
    rcases List.mem_append.1 hx with h | h
    · exact List.mem_of_mem_drop h
    · exact List.mem_of_mem_take h
  have hn := near_mem (begin_mem hc).2 hx
  obtain ⟨⟨a, b⟩, c, d⟩ := hn
  unfold inI64
  omega
/-- one contour more is wanted. -/
theorem want_step {B : Nat} {v v2 : Value} {rings : List (List Pt)} {r : List Pt} {wr w2 : World} (hR : RingsAt B wr.heap.size v rings wr) (hO : OwnP w2 wr.heap.size 47 v2 r) (hb : Below wr.heap.size wr w2) (hr0 : 0 < r.length) (hri : ∀ x ∈ r, inI64 x.1 ∧ inI64 x.2) (hB : B ≤ wr.heap.size) :
    ∃ vs : List Value, w2.ownsRow B 54 1 v vs.length vs ∧ vs.length = rings.length ∧ v2.oneCell' = true ∧
      (∀ v' w', w'.ownsRow B 54 1 v' (vs.length + 1) (vs ++ [v2]) → (w2.alloc (.cells #[v2] 54)).grownBy w' v.ownBlock → RingsAt B w'.heap.size v' (rings ++ [r]) w' ∧ Below B w2 w') := by
  have hR2 : RingsAt B wr.heap.size v rings w2 := hR.keep (fun i _ hi => hb.block i hi)
  obtain ⟨vs, h1, h2, h3⟩ := hR2.ex
  have hlt := hR2.lt
  obtain ⟨g, cap, rfl, hgb, hgl⟩ := nc_own_form hO hr0
  refine ⟨vs, h1, h2, rfl, fun v' w' hown hg => ?_⟩
  have hbB : Below B w2 w' := ((Below.refl B w2).alloc (Nat.le_trans hB hb.size) _).grown hg (by have := hb.size; simp; omega) (fun j hj => (World.ownsRow.lt h1 j hj).1)
  have hws : w2.heap.size + 1 ≤ w'.heap.size := by have := hg.size; simpa using this
  have hk : ∀ i, i < w2.heap.size → some i ≠ v.ownBlock → w'.heap[i]? = w2.heap[i]? := fun i hi hne => (hg.block i (by simp; omega) hne).trans (Below.heap_alloc _ _ i hi)
  have hgne : some g ≠ v.ownBlock := fun e => by have := hlt g e.symm; omega
  have hsz := hb.size
  refine ⟨RingsAt.snoc h1 h2 h3 hown (fun i hi hib hp => hk i (by omega) (row_ne h1 hp)) (by omega) (fun g hg => (World.ownsRow.lt hown g hg).2) ?_, hbB⟩
  have hcut := nc_own_cut2 (n := r.length) hO hri (Nat.le_refl _)
  rw [List.take_length] at hcut
  refine Rep.mono _ (D := fun b => b = g) (fun b hb => ?_) (Rep.keep _ (fun i hi => ?_) hcut)
  · subst hb
    refine ⟨by omega, by omega, ?_⟩
    obtain ⟨cs, hc⟩ := own_isPt hO
    exact ⟨cs, (hk _ hgl hgne).trans hc⟩
  · subst hi
    exact hk _ hgl hgne
theorem one_cell {v : Value} (h : v.oneCell' = true) : ∀ u ∈ [v], u.oneCell' = true := fun u hu => by
  rw [List.mem_singleton.1 hu]; exact h
theorem new_one (w : World) (v : Value) (e : TypeId) : ∀ j u, [v][j]? = some u → (w.alloc (.cells #[v] e)).cell? ((⟨w.heap.size, 0, none⟩ : Addr).add j) = some u := new_cells w #[v] e
set_option maxRecDepth 100000 in
set_option maxHeartbeats 4000000 in
theorem nc_cuts_law (vs vo : Value) (shapes : List Shp) (order : List Pt) (w : World) (hT : TabP w) (hs : shpsR.R w (Lt w) shapes [vs]) (ho : prR.slice.R w (Lt w) order [vo]) :
    Calls Tryd.prog 9 #[vs, vo] w (Ret (.bool true) w) := by
  obtain ⟨A, c, rfl, hm, -⟩ := slice_inv hs
  obtain ⟨B, d, rfl, hmo, -⟩ := slice_inv ho
  have HT := Lib.hid hT
  have CF := Lib.hid (few_any _ shapes w hs)
  clear hT
  rcases Bool.eq_false_or_eq_true (fewF shapes) with hf | hf
  · have hS := few_small hf
    have hR := few_smallR hf
    rw [hf] at CF
    by_cases h : 300 < order.length
    · have h' : (300 : Int) < (order.length : Int) := by omega
      clear h hf hS hR
      go_enter Tryd.func9, Tryd.ntmps9
      go_wp2_with fail
      refine CF.out.mono ?_
      rintro e w1 ⟨rfl, hb1⟩
      have hT1 := HT.out.below hb1
      go_wp2_with fail
      refine (alive_any _ hT1).mono ?_
      rintro e w2 ⟨rfl, hb2⟩
      have hbw2 := bstep hb1 hb1.size hb2
      clear hT1
      go_wp2
      go_ret
      exact ⟨rfl, hbw2⟩
    · have h' : ¬ (300 : Int) < (order.length : Int) := by omega
      have CK := Lib.hid (fun w1 (hb : Below w.heap.size w w1) => refCheckT_any _ _ shapes order w1 (Rep.below hs hb) (Rep.below ho hb) hS)
      by_cases hck : checkT (contoursF shapes) order = 0
      · rw [hck] at CK
        have C1 := Lib.hid (fun w1 (hb : Below w.heap.size w w1) => make_any _ _ shapes order w1 (Rep.below hs hb) (Rep.below ho hb) hS hR)
        have C2 := Lib.hid (fun w1 (hb : Below w.heap.size w w1) => travel_any _ _ shapes order w1 (Rep.below hs hb) (Rep.below ho hb) hS)
        rw [makeF_yes hck] at C1
        rw [travelF_yes hck] at C2
        have HR := Lib.hid (run_order hck)
        have HM : Hid (∀ c ∈ order, c ∈ contoursF shapes) := fun c hc => (order_perm hck).mem_iff.1 hc
        have HSM := Lib.hid hS
        have HSR := Lib.hid hR
        obtain ⟨L, hL⟩ : ∃ x, x = makeT shapes order := ⟨_, rfl⟩
        obtain ⟨T, hTr⟩ : ∃ x, x = travelTo shapes (0, 0) order := ⟨_, rfl⟩
        obtain ⟨bu, hbu⟩ : ∃ x, x = sumOf (burnC shapes) order := ⟨_, rfl⟩
        rw [← hL] at C1 HR
        rw [← hTr] at C2 HR
        rw [← hbu] at HR
        have hol : order.length ≤ 300 := by omega
        clear h hf hS hR hck hL hTr hbu
        go_enter Tryd.func9, Tryd.ntmps9
        go_wp2_with fail
        refine CF.out.mono ?_
        rintro e w1 ⟨rfl, hb1⟩
        go_wp2_with fail
        refine (CK.out _ hb1).mono ?_
        rintro e w2 ⟨rfl, hb2⟩
        have hbw2 := bstep hb1 hb1.size hb2
        clear hb1 hb2
        go_wp2_with fail
        refine (C1.out _ hbw2).mono ?_
        rintro e w3 ⟨v1, he, hl1, hb3⟩
        have he : e = .returned (.tuple #[v1, .int .i64 0]) := he
        subst he
        have hl1 : stR.slice.R w3 (Lt w3) L [v1] := hl1
        obtain ⟨A1, c1, rfl, -, -⟩ := slice_inv hl1
        have hbw3 := bstep hbw2 hbw2.size hb3
        clear hbw2 hb3
        go_wp2_with fail
        refine (C2.out _ hbw3).mono ?_
        rintro e w4 ⟨he, hb4⟩
        have he : e = .returned (.tuple #[.int .i64 T, .int .i64 0]) := he
        subst he
        have hl1 := Rep.below hl1 hb4
        have hbw4 := bstep hbw3 hbw3.size hb4
        clear hbw3 hb4
        have C3 := Lib.hid (run_any _ L w4 hl1)
        clear hl1
        by_cases hlong : 20000 < L.length
        · have hl' : (20000 : Int) < (L.length : Int) := by omega
          rw [HR.out.1 hlong] at C3
          clear hlong
          go_wp2_with fail
          refine C3.out.mono ?_
          rintro e w5 ⟨v3, he, hr3, hb5⟩
          have he : e = .returned (.tuple #[.agg #[.int .i64 0, .int .i64 0, .int .i64 0], v3, .int .i64 4]) := he
          subst he
          have hr3 : holesR.R w5 (Lt w5) [] [v3] := hr3
          obtain ⟨A3, c3, rfl, -, -⟩ := slice_inv hr3
          have hbw5 := bstep hbw4 hbw4.size hb5
          have hbw6 := hbw5.alloc hbw5.size (.cells #[.int .i64 0, .int .i64 0, .int .i64 0] 38)
          have hT6 := HT.out.below hbw6
          clear hr3 hb5 hbw4
          go_wp2_with fail
          refine (alive_any _ hT6).mono ?_
          rintro e w7 ⟨rfl, hb7⟩
          have hbw7 := bstep hbw6 hbw6.size hb7
          go_wp2
          go_ret
          exact ⟨rfl, hbw7⟩
        · have hl' : ¬ (20000 : Int) < (L.length : Int) := by omega
          obtain ⟨a, r, hk⟩ := HR.out.2 hlong
          rw [hk] at C3
          obtain ⟨n, hn⟩ : ∃ n : Nat, n = order.length := ⟨_, rfl⟩
          rw [← hn] at C3
          have HN := Lib.hid hn
          clear hlong hk hn
          go_wp2_with fail
          refine C3.out.mono ?_
          rintro e w5 ⟨v3, he, hr3, hb5⟩
          have he : e = .returned (.tuple #[.agg #[.int .i64 T, .int .i64 bu, .int .i64 (n : Int)], v3, .int .i64 0]) := he
          subst he
          have hr3 : holesR.R w5 (Lt w5) (order.map (cutOf shapes)) [v3] := hr3
          have hbw5 := bstep hbw4 hbw4.size hb5
          have hbx := hbw5.alloc hbw5.size (.cells #[.int .i64 T, .int .i64 bu, .int .i64 (n : Int)] 38)
          have hby := (Below.refl w5.heap.size w5).alloc (Nat.le_refl _) (.cells #[.int .i64 T, .int .i64 bu, .int .i64 (n : Int)] 38)
          have bt := Blk.new w5 38 #[.int .i64 T, .int .i64 bu, .int .i64 (n : Int)]
          have hr3 := Rep.below hr3 hby
          have hsz : w.heap.size ≤ w5.heap.size := hbw5.size
          clear hb5 hbw4 hbw5 hby
          obtain ⟨C, cc, rfl, -, -⟩ := slice_inv hr3
          rw [List.length_map] at hr3 ⊢
          go_wp2
          obtain ⟨w6, hw6⟩ : ∃ x, x = w5.alloc (.cells #[.int .i64 T, .int .i64 bu, .int .i64 (n : Int)] 38) := ⟨_, rfl⟩
          obtain ⟨bx, hbx0⟩ : ∃ x, x = w5.heap.size := ⟨_, rfl⟩
          have hbl : bx < w6.heap.size := by rw [hw6, hbx0]; simp
          rw [← hw6] at hbx hr3 bt
          rw [← hbx0] at bt
          rw [← hw6, ← hbx0]
          have HR3 : Hid (holesR.R w6 (Lt w6) (order.map (cutOf shapes)) [.slice C order.length cc]) := hr3
          have HBT := Lib.hid bt
          have hws : w.heap.size ≤ w6.heap.size := hbx.size
          obtain ⟨i1, hinf, hz0, hz1, hz2⟩ := info_parts nc_pts_info
          clear hw6 hbx0 hr3 bt hsz
          go_loopw [12, 13] (fun wv iv wr => ∃ k : Nat, k ≤ order.length ∧ iv = .int .i64 k ∧ RingsAt w6.heap.size wr.heap.size wv ((order.take k).map (cutOf shapes)) wr ∧ Below w6.heap.size w6 wr) (fun _ iv _ => order.length - (intOf iv).toNat)
          case atStart => exact ⟨0, Nat.zero_le _, rfl, RingsAt.nil _ _ _, Below.refl _ _⟩
          case round =>
            obtain ⟨k, hk, rfl, hRA, hb⟩ := hrel
            have hbw := bstep hbx hbx.size hb
            have hz6 := hb.size
            by_cases hlt : k < order.length
            · have hki : (k : Int) < (order.length : Int) := by omega
              obtain ⟨b, off, x, y, rfl, hx, -, c0, c1, -, -, -, -⟩ := pairs_at (Rep.at_ ho hbw) hlt
              have hmem : (x, y) ∈ contoursF shapes := HM.out _ (List.mem_of_getElem? hx.out)
              have CG := Lib.hid (refRing_any _ _ _ shapes x y wr (Rep.below hs hbw) hmem HSM.out (HSR.out _ hmem))
              obtain ⟨r, hr⟩ : ∃ r, r = cutOf shapes (x, y) := ⟨_, rfl⟩
              have hrb := cut_bd hmem
              have hNX : (order.take (k + 1)).map (cutOf shapes) = (order.take k).map (cutOf shapes) ++ [r] := by
                rw [take_one hx.out, List.map_append, hr]; rfl
              rw [← hr] at hrb
              rw [cut_rot, ← hr] at CG
              have HNX := Lib.hid hNX
              have HLK : Hid (((order.take k).map (cutOf shapes)).length = k) := by show _ = _; rw [List.length_map, List.length_take]; omega
              have HRB := Lib.hid hrb
              clear hmem hr hrb hNX hx hlt
              go_wp2_with fail
              refine CG.out.mono ?_
              rintro e w7 ⟨v2, rfl, hO, hq⟩
              obtain ⟨g, cap, rfl, -, -⟩ := nc_own_form hO HRB.out.1
              obtain ⟨vs, h1, h2, hone, hst⟩ := want_step hRA hO hq HRB.out.1 HRB.out.2 hz6
              have hvk : vs.length = k := by rw [h2]; exact HLK.out
              have HST := Lib.hid hst
              have hb7 := bstep hb hb.size hq
              have HB7 := Lib.hid hb7
              have HZ7 : Hid (w6.heap.size ≤ w7.heap.size) := hb7.size
              clear hO hRA hb h2 hst hb7 hq
              go_wp2_with (at_builtin; refine wpList_append_own _ rfl _ _ 39 rfl w6.heap.size 54 i1 (.slice none 0 0) 1 24 Tryd.underlying39 hinf hz0 hz1 hz2 rfl (by decide) _ _ _ rfl (World.ownsRow.alloc h1 _) ⟨w7.heap.size, 0, none⟩ 1 1 [.slice (some ⟨g, 0, none⟩) r.length cap] (by rfl) rfl (new1_cells w7 _ _) (one_cell hone) (by unfold maxLen; omega) (by omega) (by have := HZ7.out; simp; omega) ?_; intro v8 w8 hown8 hg8 _)
              obtain ⟨hR8, hb8⟩ := HST.out v8 w8 hown8 hg8
              have hbN := HB7.out.trans hb8
              have HR8 : Hid (RingsAt w6.heap.size w8.heap.size v8 ((order.take (k + 1)).map (cutOf shapes)) w8) := by show RingsAt _ _ _ _ _; rw [HNX.out]; exact hR8
              clear hown8 hg8 hR8 hb8 h1
              go_wp2
              go_roundw
              case rel => exact ⟨k + 1, by omega, by go_num, HR8.out, hbN⟩
              case measure => simp [intOf]; omega
            · have hki : ¬ (k : Int) < (order.length : Int) := by omega
              rw [List.take_of_length_le (by omega)] at hRA
              have hwr := hRA.rep (Nat.le_refl _)
              have bt := HBT.out.below hb hbl
              have k0 : wr.cell? ⟨bx, 0, none⟩ = some (.int .i64 T) := bt.cell 0
              have k1 : wr.cell? ⟨bx, 1, none⟩ = some (.int .i64 bu) := bt.cell 1
              have k2 : wr.cell? ⟨bx, 2, none⟩ = some (.int .i64 (n : Int)) := bt.cell 2
              have e0 : (T == T) = true := by simp
              have e1 : ((n : Int) == (order.length : Int)) = true := by rw [HN.out]; simp
              obtain ⟨WA, wc, rfl, -, -⟩ := slice_inv hwr
              have hcr := Rep.below HR3.out hb
              obtain ⟨n2, hn2⟩ : ∃ m, m = (order.map (cutOf shapes)).length := ⟨_, rfl⟩
              have C5 := Lib.hid (fun w (h1 : holesR.R w (Lt w) (order.map (cutOf shapes)) [.slice C order.length cc]) (h2 : holesR.R w (Lt w) (order.map (cutOf shapes)) [.slice WA (order.map (cutOf shapes)).length wc]) => rings27_any (.slice C order.length cc) (.slice WA (order.map (cutOf shapes)).length wc) (order.map (cutOf shapes)) (order.map (cutOf shapes)) w h1 h2)
              rw [← hn2] at hwr C5 ⊢
              have HN2 := Lib.hid hn2
              clear hRA bt hlt hn2 hk
              go_wp2_with fail
              refine (C5.out _ hcr hwr).mono ?_
              rintro e w8 ⟨rfl, hq⟩
              have hb8 := bstep hbw hbw.size hq
              have hT8 := HT.out.below hb8
              simp only [decide_true]
              go_wp2_with fail
              refine (alive_any _ hT8).mono ?_
              rintro e w9 ⟨rfl, hq9⟩
              have hb9 := bstep hb8 hb8.size hq9
              go_wp2
              go_ret
              exact ⟨rfl, hb9⟩
      · have hcb : (checkT (contoursF shapes) order != 0) = true := by simp [hck]
        have hcb2 : (checkT (contoursF shapes) order == 0) = false := by simp [hck]
        generalize checkT (contoursF shapes) order = ck at *
        clear h hf hS hR hck
        go_enter Tryd.func9, Tryd.ntmps9
        go_wp2_with fail
        refine CF.out.mono ?_
        rintro e w1 ⟨rfl, hb1⟩
        go_wp2_with fail
        refine (CK.out _ hb1).mono ?_
        rintro e w2 ⟨rfl, hb2⟩
        have hbw2 := bstep hb1 hb1.size hb2
        have hT2 := HT.out.below hbw2
        go_wp2_with fail
        refine (alive_any _ hT2).mono ?_
        rintro e w3 ⟨rfl, hb3⟩
        have hbw3 := bstep hbw2 hbw2.size hb3
        clear hT2
        go_wp2
        go_ret
        exact ⟨rfl, hbw3⟩
  · rw [hf] at CF
    clear hf
    go_enter Tryd.func9, Tryd.ntmps9
    go_wp2_with fail
    refine CF.out.mono ?_
    rintro e w1 ⟨rfl, hb1⟩
    have hT1 := HT.out.below hb1
    go_wp2_with fail
    refine (alive_any _ hT1).mono ?_
    rintro e w2 ⟨rfl, hb2⟩
    have hbw2 := bstep hb1 hb1.size hb2
    clear hT1
    go_wp2
    go_ret
    exact ⟨rfl, hbw2⟩
theorem cuts_card (vs vo : Value) (shapes : List Shp) (order : List Pt) (w : World) (hT : TabP w) (hs : shpsR.R w (Lt w) shapes [vs]) (_ : True) (ho : prR.slice.R w (Lt w) order [vo]) (_ : True) :
    Calls Tryd.prog 9 #[vs, vo] w (Ret (.bool true) w) := nc_cuts_law vs vo shapes order w hT hs ho
end Go.Proofs.YthfnncnmggkfaaaDoor
