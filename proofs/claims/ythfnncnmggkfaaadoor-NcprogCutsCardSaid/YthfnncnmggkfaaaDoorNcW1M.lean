/- Chapter 26: Travel, by walking the program's text. -/
/- Chapter 27: steps, and what executing them does, in plain words; steps and contours as memory reads. -/
/- Chapter 27: what a step does, whether a point is too far, the length of a way, by walking the program's text. -/
import Derived.Test.YthfnncnmggkfaaaDoorTorX2M
import Derived.Laws.OwnMore
import Derived.IntWalk
namespace Go.Proofs.YthfnncnmggkfaaaDoor
open Go Go.RowKit

theorem min_mem {p : List Pt} (hp : 0 < p.length) : ∀ k, k ≤ p.length → minTo p k ∈ p
  | 0, _ => by
    rw [minTo, List.getD_eq_getElem?_getD, List.getElem?_eq_getElem hp]; exact List.getElem_mem hp
  | k + 1, hk => by
    have ih := min_mem hp k (by omega)
    rw [minTo]; split
    · rw [List.getD_eq_getElem?_getD, List.getElem?_eq_getElem (by omega)]; exact List.getElem_mem _
    · exact ih
theorem begin_mem {shapes : List Shp} {c : Pt} (h : c ∈ contoursF shapes) : beginF shapes c ∈ ringC shapes c ∧ okRing (ringC shapes c) = true := by
  obtain ⟨i, k, hi, hk, hok, rfl⟩ := mem_contours.1 h
  have e : ringC shapes ((i : Int), (k : Int)) = ringOf (shapes.getD i default) k := by unfold ringC; simp
  rw [← e] at hok
  exact ⟨min_mem (okRing_pos hok) _ (Nat.le_refl _), hok⟩
theorem near_mem {p : List Pt} (h : okRing p = true) {q : Pt} (hq : q ∈ p) : Near q := by
  have := okRing_near h q hq; exact ⟨⟨this.1, this.2.1⟩, this.2.2⟩
theorem begin_near {shapes : List Shp} {c : Pt} (h : c ∈ contoursF shapes) : Near (beginF shapes c) := by
  obtain ⟨h1, h2⟩ := begin_mem h; exact near_mem h2 h1
theorem move_bd {a b : Pt} (ha : Near a) (hb : Near b) : 0 ≤ moveF a b ∧ moveF a b ≤ 2199023255552 := by
  obtain ⟨⟨a1, a2⟩, a3, a4⟩ := ha
  obtain ⟨⟨b1, b2⟩, b3, b4⟩ := hb
  unfold moveF; omega
theorem first_mem {all : List Pt} : ∀ {r b : List Pt}, firstErr all b r = 0 → ∀ c ∈ r, c ∈ all
  | [], _, _, c, hc => by cases hc
  | x :: r, b, h, c, hc => by
    have h0 : errC all b x = 0 := by
      by_cases h0 : errC all b x = 0
      · exact h0
      · rw [firstErr, if_pos h0] at h; exact absurd h h0
    have hx : x ∈ all := by
      unfold errC at h0
      rcases Bool.eq_false_or_eq_true (all.contains x) with h1 | h1
      · simpa using h1
      · rw [h1] at h0; simp at h0
    rw [first_next h0] at h
    rcases List.mem_cons.1 hc with rfl | hc
    · exact hx
    · exact first_mem h c hc
theorem checkT_zero {all order : List Pt} (h : checkT all order = 0) : all.length ≤ 288 ∧ order.length = all.length ∧ firstErr all [] order = 0 := by
  by_cases h1 : 288 < all.length
  · rw [checkT_many h1] at h; omega
  · by_cases h2 : order.length < all.length
    · rw [checkT_short h1 h2] at h; omega
    · by_cases h3 : all.length < order.length
      · rw [checkT_long h1 h3] at h; omega
      · exact ⟨by omega, by omega, by rw [← checkT_run h1 (by omega)]; exact h⟩
theorem travelF_bad {shapes : List Shp} {order : List Pt} (h : checkT (contoursF shapes) order ≠ 0) : travelF shapes order = (0, checkT (contoursF shapes) order) := if_pos h
theorem travelF_yes {shapes : List Shp} {order : List Pt} (h : checkT (contoursF shapes) order = 0) : travelF shapes order = (travelTo shapes (0, 0) order, 0) := by unfold travelF; rw [if_neg (by simpa using h)]
theorem travel_next {shapes : List Shp} {order : List Pt} {t : Int} {k : Nat} {n : Int} {a c : Pt} (h : t = n + travelTo shapes a (order.drop k)) (hx : order[k]? = some c) : t = n + moveF a (beginF shapes c) + travelTo shapes (beginF shapes c) (order.drop (k + 1)) := by
  rw [h, drop_of hx, travelTo]; omega
def TravelPost (r : Int × Int) (w : World) (e : Ending) (w' : World) : Prop := e = .returned (.tuple #[.int .i64 r.1, .int .i64 r.2]) ∧ Below w.heap.size w w'
theorem TravelPost.of {r : Int × Int} {x y : Int} {w w' : World} (h : r = (x, y)) (hb : Below w.heap.size w w') : TravelPost r w (.returned (.tuple #[.int .i64 x, .int .i64 y])) w' := ⟨by rw [h], hb⟩
set_option maxRecDepth 100000 in
set_option maxHeartbeats 1000000 in
theorem travel_any (vs vo : Value) (shapes : List Shp) (order : List Pt) (w : World) (hs : shpsR.R w (Lt w) shapes [vs]) (ho : prR.slice.R w (Lt w) order [vo]) (hS : SmallS shapes) :
    Calls Tryd.prog 25 #[vs, vo] w (TravelPost (travelF shapes order) w) := by
  obtain ⟨A, c, rfl, hm, -⟩ := slice_inv hs
  obtain ⟨B, d, rfl, hmo, -⟩ := slice_inv ho
  by_cases hc : checkT (contoursF shapes) order = 0
  · have hb0 : (checkT (contoursF shapes) order != 0) = false := by simp [hc]
    have HT := Lib.hid (travelF_yes hc)
    have HCE := Lib.hid hc
    obtain ⟨h1, h2, h3⟩ := checkT_zero hc
    have hol : order.length ≤ 288 := by omega
    have HM := Lib.hid (first_mem h3)
    clear hc h1 h2 h3
    go_enter Tryd.func25, Tryd.ntmps25
    go_wp2_with fail
    refine (checkT_any _ _ shapes order _ hs ho hS).mono ?_
    rintro e w1 ⟨rfl, hb1⟩
    go_wp2
    obtain ⟨G, hG⟩ : ∃ G, G = w1.heap.size := ⟨_, rfl⟩
    have g0 := Blk.new w1 47 #[.int .i64 0, .int .i64 0]
    have hGw : w.heap.size ≤ G := by rw [hG]; exact hb1.size
    have hb2 := hb1.alloc hb1.size (.cells #[.int .i64 0, .int .i64 0] 47)
    have hGl : G < (w1.alloc (.cells #[.int .i64 0, .int .i64 0] 47)).heap.size := by rw [hG]; simp
    rw [← hG]
    rw [← hG] at g0
    clear hG hb1
    go_loopw [4, 19] (fun v j wr => ∃ (k : Nat) (n ax ay : Int), k ≤ order.length ∧ j = .int .i64 k ∧ v = .int .i64 n ∧ 0 ≤ n ∧ n ≤ (k : Int) * 2199023255552 ∧ Hid (travelTo shapes (0, 0) order = n + travelTo shapes (ax, ay) (order.drop k)) ∧ Hid (Near (ax, ay)) ∧ Blk wr G 47 #[.int .i64 ax, .int .i64 ay] ∧ G < wr.heap.size ∧ Below w.heap.size w wr) (fun _ j _ => order.length - (intOf j).toNat)
    case atStart => exact ⟨0, 0, 0, 0, Nat.zero_le _, rfl, rfl, by omega, by omega, by show _ = _; simp, ⟨⟨by decide, by decide⟩, by decide, by decide⟩, g0, hGl, hb2⟩
    case round =>
      obtain ⟨k, n, ax, ay, hk, rfl, rfl, hn0, hn1, htr, hnear, hblk, hGr, hb⟩ := hrel
      have hz := hb.size
      by_cases hlt : k < order.length
      · obtain ⟨b, off, x, y, rfl, hx, hbD, d0, d1, -⟩ := pairs_at (Rep.at_ ho hb) hlt
        have hbl : b < w.heap.size := hbD
        have hbn : ¬ b = wr.heap.size := by omega
        have hmem := HM.out (x, y) (List.mem_of_getElem? hx.out)
        have HMEM := Lib.hid hmem
        have HTN := Lib.hid (travel_next htr.out hx.out)
        have HBN := Lib.hid (begin_near hmem)
        have hmv := move_bd hnear.out (begin_near hmem)
        obtain ⟨hmv0, hmv1⟩ := hmv
        generalize hbg : beginF shapes (x, y) = bp at *
        obtain ⟨bx, by_⟩ := bp
        have HM1 : Hid (prArr (beginF shapes (x, y)) = #[.int .i64 bx, .int .i64 by_]) := by show prArr _ = _; rw [hbg]; rfl
        generalize hmvv : moveF (ax, ay) (bx, by_) = mv at *
        have HMV := Lib.hid hmvv
        have hn2 : n ≤ 635000000000000 := by omega
        clear hbg hmem hmvv
        go_wp2_with fail
        have hb3 := hb.alloc hz (.cells #[.int .i64 x, .int .i64 y] 57)
        have g1 := hblk.alloc (.cells #[.int .i64 x, .int .i64 y] 57)
        refine (begin_any _ _ c shapes (x, y) _ (Rep.below hs hb3) HMEM.out hS).mono ?_
        rintro e w3 ⟨he, hb4⟩
        rw [HM1.out] at he
        subst he
        have g2 := g1.below hb4 g1.lt
        have hb5 := bstep hb3 hb3.size hb4
        have hz4 := hb4.size
        simp only [World.size_alloc] at hz4
        have hGn : ¬ G = w3.heap.size := by omega
        have hG3 : G < w3.heap.size := by omega
        clear hb3 hb4 g1
        have j0 := g2.c20
        have j1 := g2.c21
        have hb6 := hb5.alloc hb5.size (.cells #[.int .i64 bx, .int .i64 by_] 47)
        have g3 := g2.alloc (.cells #[.int .i64 bx, .int .i64 by_] 47)
        have p3 := Blk.new w3 47 #[.int .i64 bx, .int .i64 by_]
        go_wp2_with fail
        refine (move_any (ax, ay) (bx, by_) _ hnear.out.1 hnear.out.2 HBN.out.1 HBN.out.2).mono ?_
        rintro e w4 ⟨he, hb7⟩
        rw [HMV.out] at he
        subst he
        have g4 := g3.below hb7 g3.lt
        have p4 := p3.below hb7 p3.lt
        have hb8 := bstep hb6 hb6.size hb7
        have hG4 : G < w4.heap.size := g4.lt
        clear j0 j1
        have j0 := g4.c20
        have j1 := g4.c21
        have f0 := g4.free 0
        have f1 := g4.free 1
        have i0 := p4.c20
        have i1 := p4.c21
        go_wp2
        go_roundw
        case rel =>
          refine ⟨k + 1, n + mv, bx, by_, by omega, by go_num, rfl, by omega, by push_cast; omega, HTN.out, HBN, ?_, by simpa [World.setCell] using hG4, ?_⟩
          · exact (g4.set_ 0 (.int .i64 bx)).set_ 1 (.int .i64 by_)
          · exact (hb8.setCell (p := ⟨G, 0, none⟩) hGw _).setCell (p := ⟨G, 1, none⟩) hGw _
        case measure => simp [intOf]; omega
      · obtain rfl : k = order.length := by omega
        have HR : Hid (travelTo shapes (0, 0) order = n) := by show _ = _; rw [htr.out, List.drop_of_length_le (Nat.le_refl _), travelTo]; omega
        go_wp2
        go_ret2
        exact TravelPost.of (by rw [HT.out, HR.out]) hb
  · have hb0 : (checkT (contoursF shapes) order != 0) = true := by simp [hc]
    have HT := Lib.hid (travelF_bad hc)
    clear hc
    go_enter Tryd.func25, Tryd.ntmps25
    go_wp2_with fail
    refine (checkT_any _ _ shapes order _ hs ho hS).mono ?_
    rintro e w1 ⟨rfl, hb1⟩
    go_wp2
    go_ret2
    exact TravelPost.of HT.out hb1
end Go.Proofs.YthfnncnmggkfaaaDoor

namespace Go.Proofs.YthfnncnmggkfaaaDoor
open Go Go.RowKit

abbrev Stp := Int × Pt
def stR : Rep Stp := Rep.int.pair prR
def stEnc (s : Stp) : List Value := [.int .i64 s.1, .int .i64 s.2.1, .int .i64 s.2.2]
theorem flat_st : Flat stR stEnc := ⟨fun h => by obtain ⟨a, b, rfl, ⟨rfl, _⟩, ⟨c, d, rfl, ⟨rfl, _⟩, ⟨rfl, _⟩⟩⟩ := h; rfl, fun x u hu => by simp [stEnc] at hu; rcases hu with rfl | rfl | rfl <;> rfl, fun _ => rfl, by decide⟩
theorem steps_at {w : World} {D : Nat → Prop} {l : List Stp} {A : Option Addr} {n c : Nat} (h : stR.slice.R w D l [.slice A n c]) {k : Nat} (hk : k < l.length) :
    ∃ b off o x y, A = some ⟨b, off, none⟩ ∧ Hid (l[k]? = some (o, (x, y))) ∧ D b ∧ w.cell? ⟨b, off + k * 3, none⟩ = some (.int .i64 o) ∧ w.cell? ⟨b, off + k * 3 + 1, none⟩ = some (.int .i64 x) ∧ w.cell? ⟨b, off + k * 3 + 2, none⟩ = some (.int .i64 y) ∧
      inI64 o ∧ inI64 x ∧ inI64 y := by
  obtain ⟨A', c', e, _, _, h3⟩ := h
  injection e with e _
  injection e with e1 e2 e3
  subst e1
  obtain ⟨b, off, es, rfl, hb, hr, hc⟩ := h3 k hk
  obtain ⟨a, b', rfl, ⟨rfl, h1⟩, ⟨c, d, rfl, ⟨rfl, h2⟩, ⟨rfl, h4⟩⟩⟩ := hr
  have c0 := hc 0 (by decide)
  have c1 := hc 1 (by decide)
  have c2 := hc 2 (by decide)
  rw [show stR.size = 3 from rfl] at c0 c1 c2
  exact ⟨b, off, l[k].1, l[k].2.1, l[k].2.2, rfl, List.getElem?_eq_getElem hk, hb, by simpa using c0, by simpa using c1, by simpa using c2, h1, h2, h4⟩
/-- what a torch has done. -/
structure Mc where
  tr : Int
  bu : Int
  pi : Int
  at_ : Pt
  lit : Bool
  ring : List Pt
  rings : List (List Pt)
def Mc.start : Mc := ⟨0, 0, 0, (0, 0), false, [], []⟩
/-- whether a ring is closed: it ends where it began, and has more than one corner. -/
def closedB (r : List Pt) : Bool := decide (1 < r.length) && r.getD (r.length - 1) default == r.getD 0 default
def offRings (m : Mc) : List (List Pt) := if closedB m.ring then m.rings ++ [m.ring.take (m.ring.length - 1)] else m.rings
/-- one step: what error it has, and what it leaves. -/
def doF (m : Mc) (s : Stp) : Int × Mc :=
  if s.1 = 1 then (if farB s.2 then (9, m) else if m.lit then (14, m) else (0, { m with tr := m.tr + moveF m.at_ s.2, at_ := s.2 }))
  else if s.1 = 2 then (if m.lit then (14, m) else (0, { m with pi := m.pi + 1, lit := true, ring := [m.at_] }))
  else if s.1 = 3 then (if farB s.2 then (9, m) else if m.lit then (0, { m with bu := m.bu + moveF m.at_ s.2, at_ := s.2, ring := m.ring ++ [s.2] }) else (14, m))
  else if s.1 = 4 then (if m.lit then (0, { m with lit := false, rings := offRings m }) else (14, m))
  else (10, m)
/-- all steps, until one has an error. -/
def runTo : Mc → List Stp → Int × Mc
  | m, [] => (0, m)
  | m, s :: r => if (doF m s).1 ≠ 0 then doF m s else runTo (doF m s).2 r
def runF (l : List Stp) : Mc × Int :=
  if 20000 < l.length then (Mc.start, 4)
  else if (runTo Mc.start l).1 ≠ 0 then (Mc.start, (runTo Mc.start l).1)
  else if (runTo Mc.start l).2.lit then (Mc.start, 14) else ((runTo Mc.start l).2, 0)
/-- what holds of a torch behind k steps. -/
structure Fit (m : Mc) (k : Nat) : Prop where
  tr0 : 0 ≤ m.tr
  tr1 : m.tr ≤ (k : Int) * 2199023255552
  bu0 : 0 ≤ m.bu
  bu1 : m.bu ≤ (k : Int) * 2199023255552
  pi0 : 0 ≤ m.pi
  pi1 : m.pi ≤ (k : Int)
  near : Near m.at_
  rl : m.ring.length ≤ k
  rp : m.lit = true → 0 < m.ring.length
  rn : ∀ p ∈ m.ring, Near p
  rsl : m.rings.length ≤ k
  rsn : ∀ r ∈ m.rings, ∀ p ∈ r, Near p
theorem Fit.start : Fit Mc.start 0 := by
  refine ⟨by decide, by decide, by decide, by decide, by decide, by decide, ⟨by decide, by decide⟩, Nat.le_refl _, fun h => (by cases h), fun p h => (by cases h), Nat.le_refl _, fun r h => (by cases h)⟩
theorem far_near {p : Pt} (h : farB p = false) : Near p := by
  unfold farB at h
  rw [Bool.or_eq_false_iff] at h
  obtain ⟨h1, h2⟩ := h
  have h1 := of_decide_eq_false h1
  have h2 := of_decide_eq_false h2
  unfold Near
  omega
theorem near_far {p : Pt} (h : Near p) : farB p = false := by
  unfold farB
  obtain ⟨⟨a, b⟩, c, d⟩ := h
  rw [Bool.or_eq_false_iff]
  exact ⟨decide_eq_false (by omega), decide_eq_false (by omega)⟩
section
variable {m : Mc} {k : Nat} {p : Pt}
theorem do_move (h : farB p = false) (hl : m.lit = false) : doF m (1, p) = (0, { m with tr := m.tr + moveF m.at_ p, at_ := p }) := by simp [doF, h, hl]
theorem do_move_far (h : farB p = true) : doF m (1, p) = (9, m) := by simp [doF, h]
theorem do_move_lit (h : farB p = false) (hl : m.lit = true) : doF m (1, p) = (14, m) := by simp [doF, h, hl]
theorem do_pierce (hl : m.lit = false) : doF m (2, p) = (0, { m with pi := m.pi + 1, lit := true, ring := [m.at_] }) := by simp [doF, hl]
theorem do_pierce_lit (hl : m.lit = true) : doF m (2, p) = (14, m) := by simp [doF, hl]
theorem do_cut (h : farB p = false) (hl : m.lit = true) : doF m (3, p) = (0, { m with bu := m.bu + moveF m.at_ p, at_ := p, ring := m.ring ++ [p] }) := by simp [doF, h, hl]
theorem do_cut_far (h : farB p = true) : doF m (3, p) = (9, m) := by simp [doF, h]
theorem do_cut_off (h : farB p = false) (hl : m.lit = false) : doF m (3, p) = (14, m) := by simp [doF, h, hl]
theorem do_off (hl : m.lit = true) : doF m (4, p) = (0, { m with lit := false, rings := offRings m }) := by simp [doF, hl]
theorem do_off_off (hl : m.lit = false) : doF m (4, p) = (14, m) := by simp [doF, hl]
theorem do_none {o : Int} (h1 : o ≠ 1) (h2 : o ≠ 2) (h3 : o ≠ 3) (h4 : o ≠ 4) : doF m (o, p) = (10, m) := by simp [doF, h1, h2, h3, h4]
theorem Fit.move (hf : Fit m k) (h : Near p) : Fit { m with tr := m.tr + moveF m.at_ p, at_ := p } (k + 1) := by
  have hm := move_bd hf.near h
  obtain ⟨a1, a2, a3, a4, a5, a6, a7, a8, a9, a10, a11, a12⟩ := hf
  exact ⟨by show 0 ≤ m.tr + moveF m.at_ p; omega, by show m.tr + moveF m.at_ p ≤ _; push_cast; omega, a3, by show m.bu ≤ _; push_cast; omega, a5, by show m.pi ≤ _; push_cast; omega, h, by show m.ring.length ≤ _; omega, a9, a10, by show m.rings.length ≤ _; omega, a12⟩
theorem Fit.pierce (hf : Fit m k) : Fit { m with pi := m.pi + 1, lit := true, ring := [m.at_] } (k + 1) := by
  obtain ⟨a1, a2, a3, a4, a5, a6, a7, a8, a9, a10, a11, a12⟩ := hf
  refine ⟨a1, by show m.tr ≤ _; push_cast; omega, a3, by show m.bu ≤ _; push_cast; omega, by show 0 ≤ m.pi + 1; omega, by show m.pi + 1 ≤ _; push_cast; omega, a7, by show 1 ≤ _; omega, fun _ => by show 0 < 1; omega, fun q hq => ?_, by show m.rings.length ≤ _; omega, a12⟩
  have : q = m.at_ := by simpa using hq
  rw [this]; exact a7
theorem Fit.cut (hf : Fit m k) (h : Near p) : Fit { m with bu := m.bu + moveF m.at_ p, at_ := p, ring := m.ring ++ [p] } (k + 1) := by
  have hm := move_bd hf.near h
  obtain ⟨a1, a2, a3, a4, a5, a6, a7, a8, a9, a10, a11, a12⟩ := hf
  refine ⟨a1, by show m.tr ≤ _; push_cast; omega, by show 0 ≤ m.bu + moveF m.at_ p; omega, by show m.bu + moveF m.at_ p ≤ _; push_cast; omega, a5, by show m.pi ≤ _; push_cast; omega, h, by show (m.ring ++ [p]).length ≤ _; rw [List.length_append]; simp; omega, fun _ => by show 0 < (m.ring ++ [p]).length; simp, fun q hq => ?_, by show m.rings.length ≤ _; omega, a12⟩
  rcases List.mem_append.1 hq with h' | h'
  · exact a10 q h'
  · rw [List.mem_singleton.1 h']; exact h
theorem Fit.off (hf : Fit m k) : Fit { m with lit := false, rings := offRings m } (k + 1) := by
  obtain ⟨a1, a2, a3, a4, a5, a6, a7, a8, a9, a10, a11, a12⟩ := hf
  refine ⟨a1, by show m.tr ≤ _; push_cast; omega, a3, by show m.bu ≤ _; push_cast; omega, a5, by show m.pi ≤ _; push_cast; omega, a7, by show m.ring.length ≤ _; omega, fun h => (by cases h), a10, ?_, ?_⟩
  · show (offRings m).length ≤ _
    unfold offRings
    split
    · rw [List.length_append]; simp; omega
    · omega
  · intro r hr
    have hr : r ∈ offRings m := hr
    unfold offRings at hr
    split at hr
    · rcases List.mem_append.1 hr with h | h
      · exact a12 r h
      · rw [List.mem_singleton.1 h]
        exact fun q hq => a10 q (List.mem_of_mem_take hq)
    · exact a12 r hr
theorem Fit.same (hf : Fit m k) : Fit m (k + 1) := by
  obtain ⟨a1, a2, a3, a4, a5, a6, a7, a8, a9, a10, a11, a12⟩ := hf
  exact ⟨a1, by push_cast; omega, a3, by push_cast; omega, a5, by push_cast; omega, a7, by omega, a9, a10, by omega, a12⟩
theorem Fit.do (hf : Fit m k) (s : Stp) : Fit (doF m s).2 (k + 1) := by
  obtain ⟨o, p⟩ := s
  rcases Bool.eq_false_or_eq_true (farB p) with hfa | hfa <;> rcases Bool.eq_false_or_eq_true m.lit with hl | hl <;> by_cases h1 : o = 1 <;> by_cases h2 : o = 2 <;> by_cases h3 : o = 3 <;> by_cases h4 : o = 4
  all_goals first
    | omega
    | (subst h1; first | (rw [do_move_far hfa]; exact hf.same) | (rw [do_move_lit hfa hl]; exact hf.same) | (rw [do_move hfa hl]; exact hf.move (far_near hfa)))
    | (subst h2; first | (rw [do_pierce_lit hl]; exact hf.same) | (rw [do_pierce hl]; exact hf.pierce))
    | (subst h3; first | (rw [do_cut_far hfa]; exact hf.same) | (rw [do_cut_off hfa hl]; exact hf.same) | (rw [do_cut hfa hl]; exact hf.cut (far_near hfa)))
    | (subst h4; first | (rw [do_off_off hl]; exact hf.same) | (rw [do_off hl]; exact hf.off))
    | (rw [do_none h1 h2 h3 h4]; exact hf.same)
end
end Go.Proofs.YthfnncnmggkfaaaDoor

namespace Go.Proofs.YthfnncnmggkfaaaDoor
open Go Go.RowKit

section
variable (x y : Int) (w : World)
theorem op_move : Calls Tryd.prog 32 #[.agg #[.int .i64 1, .int .i64 x, .int .i64 y]] w (Ret (.iface 80 (.agg #[.int .i64 x, .int .i64 y])) w) := by
  go_enter Tryd.func32, Tryd.ntmps32
  go_wp2
  go_ret
  exact ⟨rfl, (Below.refl _ _).alloc (Nat.le_refl _) _⟩
theorem op_pierce : Calls Tryd.prog 32 #[.agg #[.int .i64 2, .int .i64 x, .int .i64 y]] w (Ret (.iface 72 (.agg #[])) w) := by
  go_enter Tryd.func32, Tryd.ntmps32
  go_wp2
  go_ret
  exact ⟨rfl, (Below.refl _ _).alloc (Nat.le_refl _) _⟩
theorem op_cut : Calls Tryd.prog 32 #[.agg #[.int .i64 3, .int .i64 x, .int .i64 y]] w (Ret (.iface 81 (.agg #[.int .i64 x, .int .i64 y])) w) := by
  go_enter Tryd.func32, Tryd.ntmps32
  go_wp2
  go_ret
  exact ⟨rfl, (Below.refl _ _).alloc (Nat.le_refl _) _⟩
theorem op_off : Calls Tryd.prog 32 #[.agg #[.int .i64 4, .int .i64 x, .int .i64 y]] w (Ret (.iface 73 (.agg #[])) w) := by
  go_enter Tryd.func32, Tryd.ntmps32
  go_wp2
  go_ret
  exact ⟨rfl, (Below.refl _ _).alloc (Nat.le_refl _) _⟩
theorem op_none (o : Int) (h1 : (o == 1) = false) (h2 : (o == 2) = false) (h3 : (o == 3) = false) (h4 : (o == 4) = false) : Calls Tryd.prog 32 #[.agg #[.int .i64 o, .int .i64 x, .int .i64 y]] w (Ret .nilIface w) := by
  go_enter Tryd.func32, Tryd.ntmps32
  go_wp2
  go_ret
  exact ⟨rfl, (Below.refl _ _).alloc (Nat.le_refl _) _⟩
theorem farB_t {x y : Int} (h : x < -1099511627776 ∨ 1099511627776 < x ∨ y < -1099511627776 ∨ 1099511627776 < y) : farB (x, y) = true := by
  unfold farB
  rw [Bool.or_eq_true, decide_eq_true_eq, decide_eq_true_eq]
  show 1099511627776 < max x y ∨ min x y < -1099511627776
  omega
theorem farB_f {x y : Int} (h : ¬ (x < -1099511627776 ∨ 1099511627776 < x ∨ y < -1099511627776 ∨ 1099511627776 < y)) : farB (x, y) = false := by
  unfold farB
  rw [Bool.or_eq_false_iff]
  exact ⟨decide_eq_false (by show ¬ 1099511627776 < max x y; omega), decide_eq_false (by show ¬ min x y < -1099511627776; omega)⟩
theorem ncfar_any : Calls Tryd.prog 63 #[.agg #[.int .i64 x, .int .i64 y]] w (Ret (.bool (farB (x, y))) w) := by
  have hb := (Below.refl w.heap.size w).alloc (Nat.le_refl _) (.cells #[.int .i64 x, .int .i64 y] 47)
  rcases (show (x < -1099511627776) ∨ (¬ x < -1099511627776 ∧ 1099511627776 < x) ∨ (¬ x < -1099511627776 ∧ ¬ 1099511627776 < x ∧ y < -1099511627776) ∨ (¬ x < -1099511627776 ∧ ¬ 1099511627776 < x ∧ ¬ y < -1099511627776 ∧ 1099511627776 < y) ∨ (¬ x < -1099511627776 ∧ ¬ 1099511627776 < x ∧ ¬ y < -1099511627776 ∧ ¬ 1099511627776 < y) from by omega) with h | ⟨h, h1⟩ | ⟨h, h1, h2⟩ | ⟨h, h1, h2, h3⟩ | ⟨h, h1, h2, h3⟩
  · have HF := Lib.hid (farB_t (x := x) (y := y) (by omega))
    rw [HF.out]
    go_enter Tryd.func63, Tryd.ntmps63
    go_wp2
    go_ret
    exact ⟨rfl, hb⟩
  · have HF := Lib.hid (farB_t (x := x) (y := y) (by omega))
    rw [HF.out]
    go_enter Tryd.func63, Tryd.ntmps63
    go_wp2
    go_ret
    exact ⟨rfl, hb⟩
  · have HF := Lib.hid (farB_t (x := x) (y := y) (by omega))
    rw [HF.out]
    go_enter Tryd.func63, Tryd.ntmps63
    go_wp2
    go_ret
    exact ⟨rfl, hb⟩
  · have HF := Lib.hid (farB_t (x := x) (y := y) (by omega))
    rw [HF.out]
    go_enter Tryd.func63, Tryd.ntmps63
    go_wp2
    go_ret
    exact ⟨rfl, hb⟩
  · have HF := Lib.hid (farB_f (x := x) (y := y) (by omega))
    rw [HF.out]
    go_enter Tryd.func63, Tryd.ntmps63
    go_wp2
    go_ret
    exact ⟨rfl, hb⟩
end
set_option maxHeartbeats 800000 in
theorem way_any (x y x' y' : Int) (w : World) (h : Near (x, y)) (h' : Near (x', y')) :
    Calls Tryd.prog 64 #[.agg #[.int .i64 x, .int .i64 y], .agg #[.int .i64 x', .int .i64 y']] w (Ret (.int .i64 (moveF (x, y) (x', y'))) w) := by
  obtain ⟨⟨a1, a2⟩, a3, a4⟩ := h
  obtain ⟨⟨b1, b2⟩, b3, b4⟩ := h'
  simp only [] at a1 a2 a3 a4 b1 b2 b3 b4
  have e1 : IntKind.i64.wrap (x' - x) = x' - x := IntWalk.i64_in _ (by omega)
  have e2 : IntKind.i64.wrap (y' - y) = y' - y := IntWalk.i64_in _ (by omega)
  have e3 : IntKind.i64.wrap (-(x' - x)) = -(x' - x) := IntWalk.i64_in _ (by omega)
  have e4 : IntKind.i64.wrap (-(y' - y)) = -(y' - y) := IntWalk.i64_in _ (by omega)
  have hb := ((Below.refl w.heap.size w).alloc (Nat.le_refl _) (.cells #[.int .i64 x, .int .i64 y] 47)).alloc (by simp) (.cells #[.int .i64 x', .int .i64 y'] 47)
  go_enter Tryd.func64, Tryd.ntmps64
  go_wp2
  go_quiet (fail)
  go_wp2
  all_goals
    go_ret
    exact ⟨ret_int (by unfold moveF; simp only []; omega), below_drewN hb _⟩
end Go.Proofs.YthfnncnmggkfaaaDoor
