/- Chapter 26: far points in a contour, by walking the text of the program, of the library and of the reference. -/
/- Chapter 26: Contours, by walking the program's text. -/
/- Chapter 26: begin, and the library's MinFunc at points, by walking their text. -/
import Derived.Test.YthfnncnmggkfaaaDoorTorRgM
import Derived.Maps.AppendAt
namespace Go.Proofs.YthfnncnmggkfaaaDoor
open Go Go.RowKit

def IdxPost (b : Bool) (w : World) (e : Ending) (w' : World) : Prop := ∃ n : Int, e = .returned (.int .i64 n) ∧ Hid (decide (0 ≤ n) = b) ∧ Below w.heap.size w w'
theorem any_take_succ {α : Type} {l : List α} {p : α → Bool} {k : Nat} {x : α} (h : (l.take k).any p = false) (hx : l[k]? = some x) (hp : p x = false) : (l.take (k + 1)).any p = false := by
  rw [List.take_add_one, hx]; simp [h, hp]
theorem any_hit {α : Type} {l : List α} {p : α → Bool} {k : Nat} {x : α} (hx : l[k]? = some x) (hp : p x = true) : l.any p = true := by
  rw [List.any_eq_true]; exact ⟨x, List.mem_of_getElem? hx, hp⟩
set_option maxHeartbeats 400000 in
theorem indexFar_any (A : Option Addr) (n c : Nat) (p : List Pt) (w : World) (hp : ptsR.R w (Lt w) p [.slice A n c]) :
    Calls Tryd.prog 90 #[.slice A n c, .func (.func 70) #[] #[]] w (IdxPost (p.any farB) w) := by
  obtain ⟨rfl, hm⟩ := slice_len hp
  go_enter Tryd.func90, Tryd.ntmps90
  go_wp2
  go_loopw [8] (fun i wr => ∃ k : Nat, k ≤ p.length ∧ i = .int .i64 k ∧ Hid ((p.take k).any farB = false) ∧ Below w.heap.size w wr) (fun i _ => p.length - (intOf i).toNat)
  case atStart => exact ⟨0, Nat.zero_le _, rfl, rfl, Below.refl _ _⟩
  case round =>
    obtain ⟨k, hk, rfl, hno, hb⟩ := hrel
    by_cases hlt : k < p.length
    · obtain ⟨b, off, x, y, rfl, hx, -, c0, c1, -⟩ := pairs_at (Rep.at_ hp hb) hlt
      rcases Bool.eq_false_or_eq_true (farB (x, y)) with hf | hf
      · have HA := Lib.hid (any_hit hx.out hf)
        have HF := Lib.hid hf
        clear hf
        go_wp2_with fail
        refine (far_any _ _ _).mono ?_
        rintro e w1 ⟨he, hb1⟩
        rw [HF.out] at he
        subst he
        go_wp2
        go_ret
        exact ⟨k, rfl, by show decide _ = _; rw [HA.out]; simp, bstep hb hb.size hb1⟩
      · have HF := Lib.hid hf
        clear hf
        go_wp2_with fail
        refine (far_any _ _ _).mono ?_
        rintro e w1 ⟨he, hb1⟩
        rw [HF.out] at he
        subst he
        go_wp2
        go_roundw
        case rel => exact ⟨k + 1, by omega, by go_num, any_take_succ hno.out hx.out HF.out, bstep hb hb.size hb1⟩
        case measure => simp [intOf]; omega
    · go_wp2
      go_ret
      have h3 := hno.out
      rw [List.take_of_length_le (by omega)] at h3
      exact ⟨-1, rfl, by show decide _ = _; rw [h3]; rfl, hb⟩
set_option maxHeartbeats 400000 in
theorem containsFar_any (A : Option Addr) (n c : Nat) (p : List Pt) (w : World) (hp : ptsR.R w (Lt w) p [.slice A n c]) :
    Calls Tryd.prog 69 #[.slice A n c, .func (.func 70) #[] #[]] w (Ret (.bool (p.any farB)) w) := by
  go_enter Tryd.func69, Tryd.ntmps69
  go_wp2_with fail
  refine (indexFar_any A n c p _ hp).mono ?_
  rintro e w1 ⟨i, rfl, hi, hb⟩
  go_wp2
  go_ret
  exact ⟨ret_bool hi.out, hb⟩
theorem far_cases {x y : Int} (h : farB (x, y) = true) : x < -1099511627776 ∨ (-1099511627776 ≤ x ∧ 1099511627776 < x) ∨ ((-1099511627776 ≤ x ∧ x ≤ 1099511627776) ∧ y < -1099511627776) ∨ ((-1099511627776 ≤ x ∧ x ≤ 1099511627776) ∧ -1099511627776 ≤ y ∧ 1099511627776 < y) := by
  simp only [farB, Bool.or_eq_true, decide_eq_true_eq] at h; omega
theorem near_of {x y : Int} (h : farB (x, y) = false) : (-1099511627776 ≤ x ∧ x ≤ 1099511627776) ∧ -1099511627776 ≤ y ∧ y ≤ 1099511627776 := by
  simp only [farB, Bool.or_eq_false_iff, decide_eq_false_iff_not] at h; omega
theorem okRing_bad {p : List Pt} (h : p.any farB = true) : okRing p = false := by unfold okRing; rw [h]; simp
theorem okRing_is {p : List Pt} (h : p.any farB = false) : okRing p = decide (0 < p.length) := by unfold okRing; rw [h]; simp
end Go.Proofs.YthfnncnmggkfaaaDoor

namespace Go.Proofs.YthfnncnmggkfaaaDoor
open Go Go.RowKit

theorem ct_info : (Tryd.prog.info? 57).map (fun i => (i.zero, i.size, i.bytes)) = some (some (.agg #[.int .i64 0, .int .i64 0]), 2, 16) := by kernel_rfl
theorem ctTo_next {shapes : List Shp} {k : Nat} {s : Shp} (h : shapes[k]? = some s) : ctTo shapes (k + 1) = ctTo shapes k ++ ctOf k s (s.2.length + 1) := by rw [ctTo, getD_at h]
theorem ctOf_yes {i n : Nat} {s : Shp} (h : okRing (ringOf s n) = true) : ctOf i s (n + 1) = ctOf i s n ++ [((i : Int), (n : Int))] := by rw [ctOf, if_pos h]
theorem ctOf_no {i n : Nat} {s : Shp} (h : okRing (ringOf s n) = false) : ctOf i s (n + 1) = ctOf i s n := by rw [ctOf, if_neg (by rw [h]; decide)]
theorem ct_bd {shapes : List Shp} (h : SmallS shapes) : ∀ x ∈ contoursF shapes, inI64 x.1 ∧ inI64 x.2 := by
  intro x hx
  obtain ⟨i, k, h1, h2, -, rfl⟩ := mem_contours.1 hx
  have h3 := getD_small h i
  have h4 := h.len
  constructor <;> (unfold inI64; simp only []; omega)
def CtPost (xs : List Pt) (w : World) (e : Ending) (w' : World) : Prop := ∃ v, e = .returned v ∧ OwnP w' w.heap.size 57 v xs ∧ Below w.heap.size w w'
set_option maxRecDepth 100000 in
set_option maxHeartbeats 1000000 in
theorem contours_any (A : Option Addr) (n c : Nat) (shapes : List Shp) (w : World) (hs : shpsR.R w (Lt w) shapes [.slice A n c]) (hS : SmallS shapes) :
    Calls Tryd.prog 50 #[.slice A n c] w (CtPost (contoursF shapes) w) := by
  obtain ⟨rfl, hm⟩ := slice_len hs
  have hsl := hS.len
  obtain ⟨i0, hinf, hz0, hz1, hz2⟩ := info_parts ct_info
  go_enter Tryd.func50, Tryd.ntmps50
  go_wp2
  go_loopw [2, 9] (fun v i wr => ∃ k : Nat, k ≤ shapes.length ∧ i = .int .i64 k ∧ OwnP wr w.heap.size 57 v (ctTo shapes k) ∧ Below w.heap.size w wr) (fun _ i _ => shapes.length - (intOf i).toNat)
  case atStart => exact ⟨0, Nat.zero_le _, rfl, World.ownsRow_nil _ _ _ _, Below.refl _ _⟩
  case round =>
    obtain ⟨k, hk, rfl, hown, hb⟩ := hrel
    have hz := hb.size
    by_cases hlt : k < shapes.length
    · obtain ⟨b, off, s, O, no, co, H, nh, ch, rfl, hx, hbD, c0', c1', hno, hnh, hO, hH, -, hnhm⟩ := shape_at hs hlt
      have c0 := ((bcell hb).1 b (off + k * 2) hbD).trans c0'
      have c1 := ((bcell hb).1 b (off + k * 2 + 1) hbD).trans c1'
      clear c0' c1'
      have hbl : b < wr.heap.size := Nat.lt_of_lt_of_le hbD hz
      have hnb : ¬ b = wr.heap.size := by omega
      have hh := hS.holes s (List.mem_of_getElem? hx.out)
      have hno' := hno.out
      have hnh' := hnh.out
      subst hno' hnh'
      have HN := Lib.hid (ctTo_next hx.out)
      have HTL := Lib.hid (ctTo_len hS k)
      have HOL := Lib.hid (fun m => ctOf_len k s m)
      have hnot : u2.ownBlock ≠ some wr.heap.size := fun e => by have := (World.ownsRow.lt hown _ e).2; omega
      have hlen1 : (ctTo shapes k).length ≤ 1001000 := by have := HTL.out; omega
      go_wp2
      obtain ⟨G, hG⟩ : ∃ G, G = wr.heap.size := ⟨_, rfl⟩
      have bk := Blk.new wr 60 #[.slice O s.1.length co, .slice H s.2.length ch]
      have hown1 : OwnP (wr.alloc (.cells #[.slice O s.1.length co, .slice H s.2.length ch] 60)) w.heap.size 57 u2 (ctTo shapes k ++ ctOf k s 0) := by
        rw [ctOf, List.append_nil]; exact World.ownsRow.alloc hown _
      have hb1 := hb.alloc hz (.cells #[.slice O s.1.length co, .slice H s.2.length ch] 60)
      rw [← hG] at bk hnot hbl ⊢
      have hGlt : G < (wr.alloc (.cells #[.slice O s.1.length co, .slice H s.2.length ch] 60)).heap.size := by rw [hG]; simp
      have HGE : Hid (w.heap.size ≤ G) := by show w.heap.size ≤ G; omega
      clear hG
      go_loopw [2, 18] (fun v i wq => ∃ m : Nat, m ≤ s.2.length + 1 ∧ i = .int .i64 m ∧ OwnP wq w.heap.size 57 v (ctTo shapes k ++ ctOf k s m) ∧ v.ownBlock ≠ some G ∧ G < wq.heap.size ∧ Blk wq G 60 #[.slice O s.1.length co, .slice H s.2.length ch] ∧ Below w.heap.size w wq) (fun _ i _ => s.2.length + 1 - (intOf i).toNat)
      case atStart => exact ⟨0, Nat.zero_le _, rfl, hown1, hnot, hGlt, bk, hb1⟩
      case round =>
        obtain ⟨m, hmk, rfl, hown, hnot, hGl, bk, hbq⟩ := hrel
        have hzq := hbq.size
        by_cases hml : m < s.2.length + 1
        · have g0 := bk.c20
          have g1 := bk.c21
          have hmd : (m : Int) < (s.2.length : Int) + 1 := by omega
          have hlen2 : (ctTo shapes k ++ ctOf k s m).length ≤ 2003000 := by have := HOL.out m; rw [List.length_append]; omega
          go_wp2_with fail
          refine (ring_any O H s.1.length co s.2.length ch m s (Lt w) _ (Rep.at_ hO hbq) (Rep.at_ hH hbq) (fun b hb => Nat.lt_of_lt_of_le hb hzq) (by omega)).mono ?_
          rintro e w3 ⟨P, np, cp, rfl, hnp, hP, hb3⟩
          subst hnp
          have hown3 : OwnP w3 w.heap.size 57 _ _ := own_below hown hb3
          have bk3 := bk.below hb3 hGl
          have hG3 : G < w3.heap.size := Nat.lt_of_lt_of_le hGl hb3.size
          have hbw3 := bstep hbq hzq hb3
          have hz3 := hbw3.size
          have hP3 : ptsR.R w3 (Lt w3) (ringOf s m) [.slice P (ringOf s m).length cp] := Rep.mono _ (fun i (hi : i < w.heap.size) => (Nat.lt_of_lt_of_le hi hz3 : i < w3.heap.size)) (Rep.keep _ (fun i hi => hb3.block i (Nat.lt_of_lt_of_le hi hzq)) hP)
          clear hown bk hGl hbq hb3 g0 g1
          by_cases h0 : 0 < (ringOf s m).length
          · rcases Bool.eq_false_or_eq_true ((ringOf s m).any farB) with hf | hf
            · have HC := Lib.hid (ctOf_no (i := k) (okRing_bad hf))
              have HF := Lib.hid hf
              clear hf
              go_wp2_with fail
              refine (containsFar_any P _ cp (ringOf s m) _ hP3).mono ?_
              rintro e w4 ⟨he, hb4⟩
              rw [HF.out] at he
              subst he
              go_wp2
              go_roundw
              case rel => exact ⟨m + 1, by omega, by go_num, by rw [HC.out]; exact own_below hown3 hb4, hnot, Nat.lt_of_lt_of_le hG3 hb4.size, bk3.below hb4 hG3, bstep hbw3 hz3 hb4⟩
              case measure => simp [intOf]; omega
            · have HC : Hid (ctOf k s (m + 1) = ctOf k s m ++ [((k : Int), (m : Int))]) := ctOf_yes (by rw [okRing_is hf]; exact decide_eq_true h0)
              have HF := Lib.hid hf
              clear hf
              go_wp2_with fail
              refine (containsFar_any P _ cp (ringOf s m) _ hP3).mono ?_
              rintro e w4 ⟨he, hb4⟩
              rw [HF.out] at he
              subst he
              have hown4 : OwnP w4 w.heap.size 57 _ _ := own_below hown3 hb4
              have bk4 := bk3.below hb4 hG3
              have hG4 : G < w4.heap.size := Nat.lt_of_lt_of_le hG3 hb4.size
              have hbw4 := bstep hbw3 hz3 hb4
              have hz4 := hbw4.size
              clear hown3 bk3 hG3 hbw3 hb4 hP3
              go_wp2_with (at_builtin; refine wpList_append_own_at _ rfl _ _ 23 rfl w.heap.size 57 i0 (.agg #[.int .i64 0, .int .i64 0]) 2 16 Tryd.underlying23 hinf hz0 hz1 hz2 rfl (by decide) _ _ _ rfl (World.ownsRow.alloc hown4 _) ⟨w4.heap.size, 0, none⟩ 1 1 [.int .i64 k, .int .i64 m] rfl rfl (new_pr _ _ _ _) (pr_one _ _) (by unfold maxLen; omega) (by omega) (by simp; omega) ?_; intro v5 w5 hown5 hg5 _ hob5)
              go_roundw
              case rel =>
                refine ⟨m + 1, by omega, by go_num, by rw [HC.out, ← List.append_assoc]; exact ownP_snoc hown5, ?_, ?_, ?_, ?_⟩
                · intro e
                  rcases hob5 with h | h
                  · exact hnot (h.symm.trans e)
                  · rw [h] at e
                    have e := Option.some.inj e
                    simp at e; omega
                · have := hg5.size; simp at this; omega
                · exact Blk.grown (bk4.alloc _) hg5 (fun e => hnot e.symm)
                · exact (hbw4.alloc hz4 _).grown hg5 (by simp; omega) (fun j hj => (World.ownsRow.lt hown4 j hj).1)
              case measure => simp [intOf]; omega
          · have HC : Hid (ctOf k s (m + 1) = ctOf k s m) := ctOf_no (by unfold okRing; rw [decide_eq_false h0]; rfl)
            have hd : decide (0 < (ringOf s m).length) = false := decide_eq_false h0
            go_wp2
            go_roundw
            case rel => exact ⟨m + 1, by omega, by go_num, by rw [HC.out]; exact hown3, hnot, hG3, bk3, hbw3⟩
            case measure => simp [intOf]; omega
        · obtain rfl : m = s.2.length + 1 := by omega
          have hmd : ¬ ((s.2.length + 1 : Nat) : Int) < (s.2.length : Int) + 1 := by omega
          go_wp2
          go_roundw
          case rel => exact ⟨k + 1, by omega, by go_num, by rw [HN.out]; exact hown, hbq⟩
          case measure => simp [intOf]; omega
    · obtain rfl : k = shapes.length := by omega
      go_wp2
      go_ret
      exact ⟨_, rfl, hown, hb⟩
end Go.Proofs.YthfnncnmggkfaaaDoor

namespace Go.Proofs.YthfnncnmggkfaaaDoor
open Go Go.RowKit

def Near (q : Pt) : Prop := (-1099511627776 ≤ q.1 ∧ q.1 ≤ 1099511627776) ∧ -1099511627776 ≤ q.2 ∧ q.2 ≤ 1099511627776
def cmpP (p q : Pt) : Int := if p.2 != q.2 then p.2 - q.2 else p.1 - q.1
theorem lowB_cmp (p q : Pt) : lowB p q = decide (cmpP p q < 0) := by
  unfold lowB cmpP
  split
  · rw [Bool.eq_iff_iff, decide_eq_true_eq, decide_eq_true_eq]; omega
  · rw [Bool.eq_iff_iff, decide_eq_true_eq, decide_eq_true_eq]; omega
theorem lowB_irrefl (p : Pt) : lowB p p = false := by rw [lowB_cmp]; unfold cmpP; simp
theorem min_one {p : List Pt} {q : Pt} (h : p[0]? = some q) : minTo p 1 = q := by
  rw [minTo, minTo, getD_at h, lowB_irrefl]; simp
theorem min_lt {p : List Pt} {k : Nat} {q m : Pt} (h : p[k]? = some q) (hm : minTo p k = m) (hl : cmpP q m < 0) : minTo p (k + 1) = q := by
  rw [minTo, getD_at h, hm, lowB_cmp, if_pos (decide_eq_true hl)]
theorem min_ge {p : List Pt} {k : Nat} {q m : Pt} (h : p[k]? = some q) (hm : minTo p k = m) (hl : ¬ cmpP q m < 0) : minTo p (k + 1) = m := by
  rw [minTo, getD_at h, hm, lowB_cmp, if_neg (by rw [decide_eq_false hl]; decide)]
set_option maxHeartbeats 400000 in
theorem cmp_any (x y x' y' : Int) (w : World) (h : Near (x, y)) (h' : Near (x', y')) :
    Calls Tryd.prog 68 #[.agg #[.int .i64 x, .int .i64 y], .agg #[.int .i64 x', .int .i64 y']] w (Ret (.int .i64 (cmpP (x, y) (x', y'))) w) := by
  obtain ⟨⟨a1, a2⟩, a3, a4⟩ := h
  obtain ⟨⟨b1, b2⟩, b3, b4⟩ := h'
  simp only [] at a1 a2 a3 a4 b1 b2 b3 b4
  have hw : Below w.heap.size w ((w.alloc (.cells #[.int .i64 x, .int .i64 y] 47)).alloc (.cells #[.int .i64 x', .int .i64 y'] 47)) := ((Below.refl _ _).alloc (Nat.le_refl _) _).alloc (by simp) _
  by_cases he : y = y'
  · have HC : Hid (cmpP (x, y) (x', y') = x - x') := by show cmpP (x, y) (x', y') = _; unfold cmpP; simp [he]
    have hb : (y != y') = false := ine_f he
    clear he
    go_enter Tryd.func68, Tryd.ntmps68
    go_wp2
    go_ret
    exact ⟨by rw [HC.out]; rfl, hw⟩
  · have HC : Hid (cmpP (x, y) (x', y') = y - y') := by show cmpP (x, y) (x', y') = _; unfold cmpP; simp [he]
    have hb : (y != y') = true := ine_t he
    clear he
    go_enter Tryd.func68, Tryd.ntmps68
    go_wp2
    go_ret
    exact ⟨by rw [HC.out]; rfl, hw⟩
theorem pt_size : (Tryd.prog.info? 47).map (·.size) = some 2 := by kernel_rfl
theorem cell2_size {z : Array Value} (h : z.size = 2) : ∃ z0 z1, z = #[z0, z1] := by
  rcases z with ⟨zl⟩
  match zl, h with
  | [a, b], _ => exact ⟨a, b, rfl⟩
set_option maxRecDepth 100000 in
set_option maxHeartbeats 800000 in
theorem minPt_any (A : Option Addr) (n c : Nat) (p : List Pt) (w : World) (hp : ptsR.R w (Lt w) p [.slice A n c]) (hok : okRing p = true) :
    Calls Tryd.prog 66 #[.slice A n c, .func (.func 68) #[] #[]] w (Ret (.agg (prArr (minPt p))) w) := by
  obtain ⟨rfl, hm⟩ := slice_len hp
  have hpos := okRing_pos hok
  have HN : Hid (∀ q ∈ p, Near q) := fun q hq => by have := okRing_near hok q hq; exact ⟨⟨this.1, this.2.1⟩, this.2.2⟩
  obtain ⟨b, off, x0, y0, rfl, hx0, hbD, a0, a1, -⟩ := pairs_at hp hpos
  have hbl : b < w.heap.size := hbD
  have hbn : ¬ b = w.heap.size := by omega
  clear hbD
  rw [Nat.zero_mul, Nat.add_zero] at a0 a1
  have H1 := Lib.hid (min_one hx0.out)
  have HN0 := Lib.hid (HN.out _ (List.mem_of_getElem? hx0.out))
  go_enter Tryd.func66, Tryd.ntmps66
  go_wp2
  go_loopw [6] (fun i wr => ∃ (k : Nat) (x y : Int), 1 ≤ k ∧ k ≤ p.length ∧ i = .int .i64 k ∧ Hid (minTo p k = (x, y)) ∧ Hid (Near (x, y)) ∧ Blk wr (w.heap.size + 1) 47 #[.int .i64 x, .int .i64 y] ∧
      (∃ z, Blk wr w.heap.size 47 z ∧ z.size = 2) ∧ Below w.heap.size w wr) (fun i _ => p.length - (intOf i).toNat)
  case atStart =>
    exact ⟨1, x0, y0, Nat.le_refl _, hpos, rfl, H1, HN0, by simpa using Blk.new (w.alloc (.cells #[.int .i64 0, .int .i64 0] 47)) 47 #[.int .i64 x0, .int .i64 y0], ⟨_, (Blk.new w 47 #[.int .i64 0, .int .i64 0]).alloc _, rfl⟩, ((Below.refl _ _).alloc (Nat.le_refl _) _).alloc (by simp) _⟩
  case round =>
    obtain ⟨k, x, y, hk1, hk, rfl, hlo, hxb, hblk, ⟨z, hz, hzs⟩, hb⟩ := hrel
    have hbz := hb.size
    have hCz := hblk.lt
    by_cases hlt : k < p.length
    · obtain ⟨b2, off2, px, py, e, hx, hbD, c0, c1, -⟩ := pairs_at (Rep.at_ hp hb) hlt
      injection e with e
      injection e with e1 e2 _
      subst e1 e2
      have hbr : b < wr.heap.size := by omega
      have HB := Lib.hid (HN.out _ (List.mem_of_getElem? hx.out))
      have k0 := hblk.c20
      have k1 := hblk.c21
      by_cases hps : cmpP (px, py) (x, y) < 0
      all_goals
        first
          | have HNX := Lib.hid (min_lt hx.out hlo.out hps)
          | have HNX := Lib.hid (min_ge hx.out hlo.out hps)
        generalize hcm : cmpP (px, py) (x, y) = cm at *
        have HCM := Lib.hid hcm
        clear hcm
        go_wp2
        go_region_held3 (fun W => Below wr.heap.size wr W ∧ W.cell? ⟨b, off + k * 2, none⟩ = some (.int .i64 px) ∧ W.cell? ⟨b, off + k * 2 + 1, none⟩ = some (.int .i64 py) ∧ W.cell? ⟨w.heap.size + 1, 0, none⟩ = some (.int .i64 x) ∧ W.cell? ⟨w.heap.size + 1, 1, none⟩ = some (.int .i64 y))
          (first
            | exact ⟨(Below.refl _ _).drew, c0, c1, k0, k1⟩
            | exact ⟨hSa, (hSa.cell (p := ⟨b, off + k * 2, none⟩) hbr).trans c0, (hSa.cell (p := ⟨b, off + k * 2 + 1, none⟩) hbr).trans c1, (hSa.cell (p := ⟨w.heap.size + 1, 0, none⟩) hCz).trans k0, (hSa.cell (p := ⟨w.heap.size + 1, 1, none⟩) hCz).trans k1⟩)
          (first
            | (go_at_call 68
               go_split_ands
               refine (cmp_any _ _ _ _ _ HB.out hxb.out).mono ?_
               rintro e W1 ⟨he, hq⟩
               rw [HCM.out] at he
               subst he
               have hSa := bstep (B := wr.heap.size) (a := wr) (by assumption) (Below.size (by assumption)) hq))
        all_goals
          go_split_ands
          have q := hblk.below (w' := W1) (by assumption) hCz
          have qz := hz.below (w' := W1) (by assumption) (by omega)
          have f0 := q.free 0
          have f1 := q.free 1
          go_wp2
          go_roundw
          case rel =>
            first
              | exact ⟨k + 1, x, y, by omega, by omega, by go_num, HNX.out, hxb, q, ⟨z, qz, hzs⟩, bstep hb hbz (by assumption)⟩
              | (refine ⟨k + 1, px, py, by omega, by omega, by go_num, HNX.out, HB, ?_, ⟨z, (qz.far (p := ⟨w.heap.size + 1, 0, none⟩) (by show w.heap.size ≠ w.heap.size + 1; omega) _).far (p := ⟨w.heap.size + 1, 1, none⟩) (by show w.heap.size ≠ w.heap.size + 1; omega) _, hzs⟩, ?_⟩
                 · exact (q.set_ 0 (.int .i64 px)).set_ 1 (.int .i64 py)
                 · exact ((bstep hb hbz (by assumption)).setCell (p := ⟨w.heap.size + 1, 0, none⟩) (by show w.heap.size ≤ w.heap.size + 1; omega) _).setCell (p := ⟨w.heap.size + 1, 1, none⟩) (by show w.heap.size ≤ w.heap.size + 1; omega) _)
          case measure => simp [intOf]; omega
    · obtain rfl : k = p.length := by omega
      have k0 := hblk.c20
      have k1 := hblk.c21
      obtain ⟨z0, z1, rfl⟩ := cell2_size hzs
      have z0' := hz.c20
      have z1' := hz.c21
      have f0 := hz.free 0
      have f1 := hz.free 1
      have hb2 : Below w.heap.size w ((wr.setCell ⟨w.heap.size, 0, none⟩ (.int .i64 x)).setCell ⟨w.heap.size, 1, none⟩ (.int .i64 y)) := (hb.setCell (p := ⟨w.heap.size, 0, none⟩) (Nat.le_refl _) _).setCell (p := ⟨w.heap.size, 1, none⟩) (Nat.le_refl _) _
      have hz2 : Blk ((wr.setCell ⟨w.heap.size, 0, none⟩ (.int .i64 x)).setCell ⟨w.heap.size, 1, none⟩ (.int .i64 y)) w.heap.size 47 #[.int .i64 x, .int .i64 y] := (hz.set_ 0 (.int .i64 x)).set_ 1 (.int .i64 y)
      go_wp2
      exact bodyPost_ret (v := .agg #[.int .i64 x, .int .i64 y]) (results_cell_row (ty := 47) rfl _ _ w.heap.size 47 #[.int .i64 x, .int .i64 y] (0, 0) _ rfl hz2 Tryd.underlying47 rfl pt_size) rfl ⟨by unfold minPt; rw [hlo.out]; rfl, hb2⟩
end Go.Proofs.YthfnncnmggkfaaaDoor
