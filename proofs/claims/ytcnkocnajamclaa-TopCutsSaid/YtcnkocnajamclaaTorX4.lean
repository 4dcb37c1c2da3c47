/- Chapter 26: Travel, by walking the program's text. -/
import Derived.Test.YtcnkocnajamclaaTorX2
namespace Go.Proofs.Ytcnkocnajamclaa
open Go Go.RowKit

theorem min_mem {p : List Pt} (hp : 0 < p.length) : ∀ k, k ≤ p.length → minTo p k ∈ p
  | 0, _ => by
    rw [minTo, List.getD_eq_getElem?_getD, List.getElem?_eq_getElem hp]; exact List.getElem_mem hp
  | k + 1, hk => by
    have ih := min_mem hp k (by omega)
    rw [minTo]; split
    · rw [List.getD_eq_getElem?_getD, List.getElem?_eq_getElem (by omega)]; exact List.getElem_mem _
    · exact ih
theorem begin_mem {shapes : List Shp} {c : Pt} (h : c ∈ contoursF shapes) : beginF shapes c ∈ ringC shapes c ∧ okRing (ringC shapes c) = true := by
  obtain ⟨i, k, hi, hk, hok, rfl⟩ := mem_contours.1 h
  have e : ringC shapes ((i : Int), (k : Int)) = ringOf (shapes.getD i default) k := by unfold ringC; simp
  rw [← e] at hok
  exact ⟨min_mem (okRing_pos hok) _ (Nat.le_refl _), hok⟩
theorem near_mem {p : List Pt} (h : okRing p = true) {q : Pt} (hq : q ∈ p) : Near q := by
  have := okRing_near h q hq; exact ⟨⟨this.1, this.2.1⟩, this.2.2⟩
theorem begin_near {shapes : List Shp} {c : Pt} (h : c ∈ contoursF shapes) : Near (beginF shapes c) := by
  obtain ⟨h1, h2⟩ := begin_mem h; exact near_mem h2 h1
theorem move_bd {a b : Pt} (ha : Near a) (hb : Near b) : 0 ≤ moveF a b ∧ moveF a b ≤ 2199023255552 := by
  obtain ⟨⟨a1, a2⟩, a3, a4⟩ := ha
  obtain ⟨⟨b1, b2⟩, b3, b4⟩ := hb
  unfold moveF; omega
theorem first_mem {all : List Pt} : ∀ {r b : List Pt}, firstErr all b r = 0 → ∀ c ∈ r, c ∈ all
  | [], _, _, c, hc => by cases hc
  | x :: r, b, h, c, hc => by
    have h0 : errC all b x = 0 := by
      by_cases h0 : errC all b x = 0
      · exact h0
      · rw [firstErr, if_pos h0] at h; exact absurd h h0
    have hx : x ∈ all := by
      unfold errC at h0
      rcases Bool.eq_false_or_eq_true (all.contains x) with h1 | h1
      · simpa using h1
      · rw [h1] at h0; simp at h0
    rw [first_next h0] at h
    rcases List.mem_cons.1 hc with rfl | hc
    · exact hx
    · exact first_mem h c hc
theorem checkT_zero {all order : List Pt} (h : checkT all order = 0) : all.length ≤ 288 ∧ order.length = all.length ∧ firstErr all [] order = 0 := by
  by_cases h1 : 288 < all.length
  · rw [checkT_many h1] at h; omega
  · by_cases h2 : order.length < all.length
    · rw [checkT_short h1 h2] at h; omega
    · by_cases h3 : all.length < order.length
      · rw [checkT_long h1 h3] at h; omega
      · exact ⟨by omega, by omega, by rw [← checkT_run h1 (by omega)]; exact h⟩
theorem travelF_bad {shapes : List Shp} {order : List Pt} (h : checkT (contoursF shapes) order ≠ 0) : travelF shapes order = (0, checkT (contoursF shapes) order) := if_pos h
theorem travelF_yes {shapes : List Shp} {order : List Pt} (h : checkT (contoursF shapes) order = 0) : travelF shapes order = (travelTo shapes (0, 0) order, 0) := by unfold travelF; rw [if_neg (by simpa using h)]
theorem travel_next {shapes : List Shp} {order : List Pt} {t : Int} {k : Nat} {n : Int} {a c : Pt} (h : t = n + travelTo shapes a (order.drop k)) (hx : order[k]? = some c) : t = n + moveF a (beginF shapes c) + travelTo shapes (beginF shapes c) (order.drop (k + 1)) := by
  rw [h, drop_of hx, travelTo]; omega
def TravelPost (r : Int × Int) (w : World) (e : Ending) (w' : World) : Prop := e = .returned (.tuple #[.int .i64 r.1, .int .i64 r.2]) ∧ Below w.heap.size w w'
theorem TravelPost.of {r : Int × Int} {x y : Int} {w w' : World} (h : r = (x, y)) (hb : Below w.heap.size w w') : TravelPost r w (.returned (.tuple #[.int .i64 x, .int .i64 y])) w' := ⟨by rw [h], hb⟩
set_option maxRecDepth 100000 in
set_option maxHeartbeats 1000000 in
theorem travel_any (vs vo : Value) (shapes : List Shp) (order : List Pt) (w : World) (hs : shpsR.R w (Lt w) shapes [vs]) (ho : prR.slice.R w (Lt w) order [vo]) (hS : SmallS shapes) :
    Calls Try.prog 14 #[vs, vo] w (TravelPost (travelF shapes order) w) := by
  obtain ⟨A, c, rfl, hm, -⟩ := slice_inv hs
  obtain ⟨B, d, rfl, hmo, -⟩ := slice_inv ho
  by_cases hc : checkT (contoursF shapes) order = 0
  · have hb0 : (checkT (contoursF shapes) order != 0) = false := by simp [hc]
    have HT := Lib.hid (travelF_yes hc)
    have HCE := Lib.hid hc
    obtain ⟨h1, h2, h3⟩ := checkT_zero hc
    have hol : order.length ≤ 288 := by omega
    have HM := Lib.hid (first_mem h3)
    clear hc h1 h2 h3
    go_enter Try.func14, Try.ntmps14
    go_wp2_with fail
    refine (checkT_any _ _ shapes order _ hs ho hS).mono ?_
    rintro e w1 ⟨rfl, hb1⟩
    go_wp2
    obtain ⟨G, hG⟩ : ∃ G, G = w1.heap.size := ⟨_, rfl⟩
    have g0 := Blk.new w1 74 #[.int .i64 0, .int .i64 0]
    have hGw : w.heap.size ≤ G := by rw [hG]; exact hb1.size
    have hb2 := hb1.alloc hb1.size (.cells #[.int .i64 0, .int .i64 0] 74)
    have hGl : G < (w1.alloc (.cells #[.int .i64 0, .int .i64 0] 74)).heap.size := by rw [hG]; simp
    rw [← hG]
    rw [← hG] at g0
    clear hG hb1
    go_loopw [4, 19] (fun v j wr => ∃ (k : Nat) (n ax ay : Int), k ≤ order.length ∧ j = .int .i64 k ∧ v = .int .i64 n ∧ 0 ≤ n ∧ n ≤ (k : Int) * 2199023255552 ∧ Hid (travelTo shapes (0, 0) order = n + travelTo shapes (ax, ay) (order.drop k)) ∧ Hid (Near (ax, ay)) ∧ Blk wr G 74 #[.int .i64 ax, .int .i64 ay] ∧ G < wr.heap.size ∧ Below w.heap.size w wr) (fun _ j _ => order.length - (intOf j).toNat)
    case atStart => exact ⟨0, 0, 0, 0, Nat.zero_le _, rfl, rfl, by omega, by omega, by show _ = _; simp, ⟨⟨by decide, by decide⟩, by decide, by decide⟩, g0, hGl, hb2⟩
    case round =>
      obtain ⟨k, n, ax, ay, hk, rfl, rfl, hn0, hn1, htr, hnear, hblk, hGr, hb⟩ := hrel
      have hz := hb.size
      by_cases hlt : k < order.length
      · obtain ⟨b, off, x, y, rfl, hx, hbD, d0, d1, -⟩ := pairs_at (Rep.at_ ho hb) hlt
        have hbl : b < w.heap.size := hbD
        have hbn : ¬ b = wr.heap.size := by omega
        have hmem := HM.out (x, y) (List.mem_of_getElem? hx.out)
        have HMEM := Lib.hid hmem
        have HTN := Lib.hid (travel_next htr.out hx.out)
        have HBN := Lib.hid (begin_near hmem)
        have hmv := move_bd hnear.out (begin_near hmem)
        obtain ⟨hmv0, hmv1⟩ := hmv
        generalize hbg : beginF shapes (x, y) = bp at *
        obtain ⟨bx, by_⟩ := bp
        have HM1 : Hid (prArr (beginF shapes (x, y)) = #[.int .i64 bx, .int .i64 by_]) := by show prArr _ = _; rw [hbg]; rfl
        generalize hmvv : moveF (ax, ay) (bx, by_) = mv at *
        have HMV := Lib.hid hmvv
        have hn2 : n ≤ 635000000000000 := by omega
        clear hbg hmem hmvv
        go_wp2_with fail
        have hb3 := hb.alloc hz (.cells #[.int .i64 x, .int .i64 y] 78)
        have g1 := hblk.alloc (.cells #[.int .i64 x, .int .i64 y] 78)
        refine (begin_any _ _ c shapes (x, y) _ (Rep.below hs hb3) HMEM.out hS).mono ?_
        rintro e w3 ⟨he, hb4⟩
        rw [HM1.out] at he
        subst he
        have g2 := g1.below hb4 g1.lt
        have hb5 := bstep hb3 hb3.size hb4
        have hz4 := hb4.size
        simp only [World.size_alloc] at hz4
        have hGn : ¬ G = w3.heap.size := by omega
        have hG3 : G < w3.heap.size := by omega
        clear hb3 hb4 g1
        have j0 := g2.c20
        have j1 := g2.c21
        have hb6 := hb5.alloc hb5.size (.cells #[.int .i64 bx, .int .i64 by_] 74)
        have g3 := g2.alloc (.cells #[.int .i64 bx, .int .i64 by_] 74)
        have p3 := Blk.new w3 74 #[.int .i64 bx, .int .i64 by_]
        go_wp2_with fail
        refine (move_any (ax, ay) (bx, by_) _ hnear.out.1 hnear.out.2 HBN.out.1 HBN.out.2).mono ?_
        rintro e w4 ⟨he, hb7⟩
        rw [HMV.out] at he
        subst he
        have g4 := g3.below hb7 g3.lt
        have p4 := p3.below hb7 p3.lt
        have hb8 := bstep hb6 hb6.size hb7
        have hG4 : G < w4.heap.size := g4.lt
        clear j0 j1
        have j0 := g4.c20
        have j1 := g4.c21
        have f0 := g4.free 0
        have f1 := g4.free 1
        have i0 := p4.c20
        have i1 := p4.c21
        go_wp2
        go_roundw
        case rel =>
          refine ⟨k + 1, n + mv, bx, by_, by omega, by go_num, rfl, by omega, by push_cast; omega, HTN.out, HBN, ?_, by simpa [World.setCell] using hG4, ?_⟩
          · exact (g4.set_ 0 (.int .i64 bx)).set_ 1 (.int .i64 by_)
          · exact (hb8.setCell (p := ⟨G, 0, none⟩) hGw _).setCell (p := ⟨G, 1, none⟩) hGw _
        case measure => simp [intOf]; omega
      · obtain rfl : k = order.length := by omega
        have HR : Hid (travelTo shapes (0, 0) order = n) := by show _ = _; rw [htr.out, List.drop_of_length_le (Nat.le_refl _), travelTo]; omega
        go_wp2
        go_ret2
        exact TravelPost.of (by rw [HT.out, HR.out]) hb
  · have hb0 : (checkT (contoursF shapes) order != 0) = true := by simp [hc]
    have HT := Lib.hid (travelF_bad hc)
    clear hc
    go_enter Try.func14, Try.ntmps14
    go_wp2_with fail
    refine (checkT_any _ _ shapes order _ hs ho hS).mono ?_
    rintro e w1 ⟨rfl, hb1⟩
    go_wp2
    go_ret2
    exact TravelPost.of HT.out hb1
end Go.Proofs.Ytcnkocnajamclaa
