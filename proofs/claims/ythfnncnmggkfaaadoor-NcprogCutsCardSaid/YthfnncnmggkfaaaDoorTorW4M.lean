/- Chapter 26: the start of a contour is its lowest corner. In plain words. -/
/- Chapter 26: find of the reference, by walking its text. -/
/- Chapter 26: free, by walking the reference's text. -/
/- Chapter 26: counts of the reference, by walking its text. -/
/- Chapter 26: Contours, by walking the reference's text. -/
import Derived.Test.YthfnncnmggkfaaaDoorNcW1M
import Derived.Test.YthfnncnmggkfaaaDoorTorW8M
import Derived.Test.YthfnncnmggkfaaaDoorTorX2M
import Derived.Test.YthfnncnmggkfaaaDoorTorW5M
namespace Go.Proofs.YthfnncnmggkfaaaDoor
open Go Go.RowKit

theorem lowB_cases (x y lx ly : Int) : (lowB (x, y) (lx, ly) = true ∧ y < ly) ∨ (lowB (x, y) (lx, ly) = true ∧ ¬ y < ly ∧ y = ly ∧ x < lx) ∨ (lowB (x, y) (lx, ly) = false ∧ ¬ y < ly ∧ y = ly ∧ ¬ x < lx) ∨ (lowB (x, y) (lx, ly) = false ∧ ¬ y < ly ∧ y ≠ ly) := by
  unfold lowB
  simp only [bne_iff_ne, ne_eq]
  by_cases h : y = ly
  · by_cases h2 : x < lx
    · exact .inr (.inl ⟨by simp [h, h2], by omega, h, h2⟩)
    · exact .inr (.inr (.inl ⟨by simp [h, h2], by omega, h, h2⟩))
  · by_cases h2 : y < ly
    · exact .inl ⟨by simp [h, h2], h2⟩
    · exact .inr (.inr (.inr ⟨by simp [h, h2], h2, h⟩))
theorem minp_step {p : List Pt} {k : Nat} {q m : Pt} {b : Bool} (h : p[k]? = some q) (hm : minTo p k = m) (hl : lowB q m = b) : minTo p (k + 1) = if b then q else m := by
  rw [minTo, getD_at h, hm, hl]
def lowP (a b : Pt) : Prop := a.2 < b.2 ∨ (a.2 = b.2 ∧ a.1 < b.1)
theorem low_iff (a b : Pt) : lowB a b = true ↔ lowP a b := by
  unfold lowB lowP
  by_cases h : a.2 = b.2
  · simp [h]
  · simp [h]
theorem min_low {p : List Pt} : ∀ k, k ≤ p.length → ∀ j q, j < k → p[j]? = some q → ¬ lowP q (minTo p k)
  | 0, _, j, _, h, _ => by omega
  | k + 1, hk, j, q, hj, hq => by
    have hx : p[k]? = some p[k] := List.getElem?_eq_getElem (by omega)
    rw [minTo, getD_at hx]
    by_cases hl : lowB p[k] (minTo p k) = true
    · rw [if_pos hl]
      have hl' := (low_iff _ _).1 hl
      by_cases e : j = k
      · subst e
        have : q = p[j] := by have := hq.symm.trans hx; injection this
        subst this
        unfold lowP; omega
      · have ih := min_low k (by omega) j q (by omega) hq
        unfold lowP at hl' ih ⊢
        omega
    · rw [if_neg hl]
      by_cases e : j = k
      · subst e
        have : q = p[j] := by have := hq.symm.trans hx; injection this
        subst this
        rw [low_iff] at hl; exact hl
      · exact min_low k (by omega) j q (by omega) hq
theorem begin_low {shapes : List Shp} {c : Pt} {j : Nat} {q : Pt} (h : (ringC shapes c)[j]? = some q) : ¬ lowP q (beginF shapes c) :=
  min_low _ (Nat.le_refl _) j q (lt_of_get h) h
theorem pairs_more {w : World} {D : Nat → Prop} {l : List Pt} {b off n c : Nat} (h : prR.slice.R w D l [.slice (some ⟨b, off, none⟩) n c]) {k : Nat} (hk : k < l.length) :
    ∃ x y, Hid (l[k]? = some (x, y)) ∧ w.cell? ⟨b, off + k * 2, none⟩ = some (.int .i64 x) ∧ w.cell? ⟨b, off + k * 2 + 1, none⟩ = some (.int .i64 y) := by
  obtain ⟨b', off', x, y, e, hx, -, c0, c1, -⟩ := pairs_at h hk
  injection e with e
  injection e with e1 e2 _
  subst e1 e2
  exact ⟨x, y, hx, c0, c1⟩
end Go.Proofs.YthfnncnmggkfaaaDoor

namespace Go.Proofs.YthfnncnmggkfaaaDoor
open Go Go.RowKit

set_option maxHeartbeats 800000 in
theorem find_any (v : Value) (l : List Pt) (x y : Int) (w : World) (hl : prR.slice.R w (Lt w) l [v]) :
    Calls Tryd.prog 46 #[v, .agg #[.int .i64 x, .int .i64 y]] w (Ret (.int .i64 (idxC l (x, y))) w) := by
  obtain ⟨A, c, rfl, hm, -⟩ := slice_inv hl
  have hw0 : Below w.heap.size w (w.alloc (.cells #[.int .i64 x, .int .i64 y] 57)) := (Below.refl _ _).alloc (Nat.le_refl _) _
  have b0 := Blk.new w 57 #[.int .i64 x, .int .i64 y]
  have q1 := ct_eql
  have q2 := ct_eqg
  go_enter Tryd.func46, Tryd.ntmps46
  go_wp2
  go_loopw [5] (fun i wr => ∃ k : Nat, k ≤ l.length ∧ i = .int .i64 k ∧ Hid ((x, y) ∉ l.take k) ∧ Blk wr w.heap.size 57 #[.int .i64 x, .int .i64 y] ∧ Below w.heap.size w wr) (fun i _ => l.length - (intOf i).toNat)
  case atStart => exact ⟨0, Nat.zero_le _, rfl, by show (x, y) ∉ l.take 0; simp, b0, hw0⟩
  case round =>
    obtain ⟨k, hk, rfl, hno, hblk, hb⟩ := hrel
    have k0 := hblk.c20
    have k1 := hblk.c21
    by_cases hlt : k < l.length
    · obtain ⟨b, off, p, q, rfl, hx, -, c0, c1, -⟩ := pairs_at (Rep.at_ hl hb) hlt
      by_cases he : (p, q) = (x, y)
      · injection he with e1 e2
        subst e1 e2
        have HE := Lib.hid (idxC_hit hx.out hno.out)
        have e3 : (p == p && q == q) = true := by simp
        go_wp2
        go_quiet (fail)
        go_wp2
        go_ret
        exact ⟨ret_int HE.out.symm, below_drewN hb _⟩
      · have HE := Lib.hid (notin_one hno.out hx.out he)
        have e3 := pr_ne he
        clear he
        go_wp2
        go_quiet (fail)
        go_wp2
        go_roundw
        case rel => exact ⟨k + 1, by omega, by go_num, HE.out, hblk, below_drewN hb _⟩
        case measure => simp [intOf]; omega
    · go_wp2
      go_ret
      have h := hno.out
      rw [List.take_of_length_le (by omega)] at h
      exact ⟨ret_int (idxC_miss h).symm, hb⟩
end Go.Proofs.YthfnncnmggkfaaaDoor

namespace Go.Proofs.YthfnncnmggkfaaaDoor
open Go Go.RowKit

set_option maxRecDepth 100000 in
set_option maxHeartbeats 1000000 in
theorem refFreeT_any (va vb : Value) (all before : List Pt) (x y : Int) (w : World) (hv : prR.slice.R w (Lt w) all [va]) (hb' : prR.slice.R w (Lt w) before [vb]) (hy : 0 ≤ y) :
    Calls Tryd.prog 47 #[va, vb, .agg #[.int .i64 x, .int .i64 y]] w (Ret (.bool (freeC all before (x, y))) w) := by
  obtain ⟨A, c, rfl, hm, -⟩ := slice_inv hv
  have hw0 : Below w.heap.size w (w.alloc (.cells #[.int .i64 x, .int .i64 y] 57)) := (Below.refl _ _).alloc (Nat.le_refl _) _
  have bk := Blk.new w 57 #[.int .i64 x, .int .i64 y]
  by_cases hy0 : 0 < y
  · have HF := Lib.hid (freeC_ring (all := all) (before := before) (x := x) hy0)
    have b0 : (y == 0) = false := ieq_f (by omega)
    clear hy
    go_enter Tryd.func47, Tryd.ntmps47
    go_wp2
    go_loopw [7] (fun j wr => ∃ k : Nat, k ≤ all.length ∧ j = .int .i64 k ∧ Blk wr w.heap.size 57 #[.int .i64 x, .int .i64 y] ∧ Below w.heap.size w wr) (fun j _ => all.length - (intOf j).toNat)
    case atStart => exact ⟨0, Nat.zero_le _, rfl, bk, hw0⟩
    case round =>
      obtain ⟨k, hk, rfl, bk, hb⟩ := hrel
      have k0 := bk.c20
      have k1 := bk.c21
      by_cases hlt : k < all.length
      · go_wp2
        go_quiet (fail)
        go_wp2
        go_roundw
        case rel => exact ⟨k + 1, by omega, by go_num, bk.drewN _, below_drewN hb _⟩
        case measure => simp [intOf]; omega
      · go_wp2
        go_ret
        exact ⟨ret_bool HF.out.symm, hb⟩
  · obtain rfl : y = 0 := by omega
    have HF := Lib.hid (freeC_all (all := all) (before := before) (x := x) hy0)
    clear hy hy0
    go_enter Tryd.func47, Tryd.ntmps47
    go_wp2
    go_loopw [7] (fun j wr => ∃ k : Nat, k ≤ all.length ∧ j = .int .i64 k ∧ Hid ((all.take k).all (okAt before x) = true) ∧ Blk wr w.heap.size 57 #[.int .i64 x, .int .i64 0] ∧ Below w.heap.size w wr) (fun j _ => all.length - (intOf j).toNat)
    case atStart => exact ⟨0, Nat.zero_le _, rfl, rfl, bk, hw0⟩
    case round =>
      obtain ⟨k, hk, rfl, hall, bk, hb⟩ := hrel
      have hz := hb.size
      have k0 := bk.c20
      have k1 := bk.c21
      have lk := bk.lt
      by_cases hlt : k < all.length
      · obtain ⟨b, off, p, q, rfl, hx, hbD, d0, d1, -⟩ := pairs_at (Rep.at_ hv hb) hlt
        have hbl : b < w.heap.size := hbD
        have hbr : b < wr.heap.size := Nat.lt_of_lt_of_le hbl hz
        by_cases e2 : 0 < q
        · have b2 : decide (0 < q) = true := decide_eq_true e2
          by_cases e1 : p = x
          · have b1 : (p == x) = true := ieq_t e1
            rcases Bool.eq_false_or_eq_true (before.contains (p, q)) with hc | hc
            · have HP : Hid (okAt before x (p, q) = true) := by show okAt before x (p, q) = true; simp only [okAt, hc, Bool.or_true]
              have hn : ¬ idxC before (p, q) < 0 := by have := idxC_contains before (p, q); rw [hc] at this; simp at this; omega
              generalize hix : idxC before (p, q) = ix at *
              have HIX : Hid (idxC before (p, q) = ix) := hix
              clear hix hc e1
              go_wp2
              go_region_held3 (fun W => Below wr.heap.size wr W ∧ W.cell? ⟨b, off + k * 2, none⟩ = some (.int .i64 p) ∧ W.cell? ⟨b, off + k * 2 + 1, none⟩ = some (.int .i64 q) ∧ W.cell? ⟨w.heap.size, 0, none⟩ = some (.int .i64 x) ∧ W.cell? ⟨w.heap.size, 1, none⟩ = some (.int .i64 0))
                (first
                  | exact ⟨(Below.refl _ _).drew, d0, d1, k0, k1⟩
                  | exact ⟨hSa, (hSa.cell (p := ⟨b, off + k * 2, none⟩) hbr).trans d0, (hSa.cell (p := ⟨b, off + k * 2 + 1, none⟩) hbr).trans d1, (hSa.cell (p := ⟨w.heap.size, 0, none⟩) lk).trans k0, (hSa.cell (p := ⟨w.heap.size, 1, none⟩) lk).trans k1⟩)
                (first
                  | (go_at_call 46
                     refine (find_any vb before p q _ (Rep.below hb' hb.drew)).mono ?_
                     rintro e W1 ⟨he, hq⟩
                     rw [HIX.out] at he
                     subst he
                     have hSa : Below wr.heap.size wr W1 := bstep ((Below.refl _ _).drew) (Nat.le_refl _) hq))
              go_wp2
              go_roundw
              case rel => exact ⟨k + 1, by omega, by go_num, all_take_succ hall.out hx.out HP.out, bk.below hSa lk, bstep hb hz hSa⟩
              case measure => simp [intOf]; omega
            · have HP : Hid (okAt before x (p, q) = false) := by show okAt before x (p, q) = false; simp only [okAt, hc, b1, b2]; rfl
              have hn : idxC before (p, q) < 0 := by have := idxC_contains before (p, q); rw [hc] at this; simp at this; omega
              generalize hix : idxC before (p, q) = ix at *
              have HIX : Hid (idxC before (p, q) = ix) := hix
              clear hix hc e1
              go_wp2
              go_region_held3 (fun W => Below wr.heap.size wr W ∧ W.cell? ⟨b, off + k * 2, none⟩ = some (.int .i64 p) ∧ W.cell? ⟨b, off + k * 2 + 1, none⟩ = some (.int .i64 q) ∧ W.cell? ⟨w.heap.size, 0, none⟩ = some (.int .i64 x) ∧ W.cell? ⟨w.heap.size, 1, none⟩ = some (.int .i64 0))
                (first
                  | exact ⟨(Below.refl _ _).drew, d0, d1, k0, k1⟩
                  | exact ⟨hSa, (hSa.cell (p := ⟨b, off + k * 2, none⟩) hbr).trans d0, (hSa.cell (p := ⟨b, off + k * 2 + 1, none⟩) hbr).trans d1, (hSa.cell (p := ⟨w.heap.size, 0, none⟩) lk).trans k0, (hSa.cell (p := ⟨w.heap.size, 1, none⟩) lk).trans k1⟩)
                (first
                  | (go_at_call 46
                     refine (find_any vb before p q _ (Rep.below hb' hb.drew)).mono ?_
                     rintro e W1 ⟨he, hq⟩
                     rw [HIX.out] at he
                     subst he
                     have hSa : Below wr.heap.size wr W1 := bstep ((Below.refl _ _).drew) (Nat.le_refl _) hq))
              go_wp2
              go_ret
              exact ⟨ret_bool (by rw [HF.out, all_bad hx.out HP.out]), bstep hb hz hSa⟩
          · have b1 : (p == x) = false := ieq_f e1
            have HP : Hid (okAt before x (p, q) = true) := by show okAt before x (p, q) = true; simp only [okAt, b1, Bool.false_and]; rfl
            clear e1
            go_wp2
            go_quiet (fail)
            go_wp2
            go_roundw
            case rel => exact ⟨k + 1, by omega, by go_num, all_take_succ hall.out hx.out HP.out, bk.drewN _, below_drewN hb _⟩
            case measure => simp [intOf]; omega
        · have b2 : decide (0 < q) = false := decide_eq_false e2
          have HP : Hid (okAt before x (p, q) = true) := by show okAt before x (p, q) = true; simp only [okAt, b2, Bool.and_false]; rfl
          go_wp2
          go_quiet (fail)
          go_wp2
          go_roundw
          case rel => exact ⟨k + 1, by omega, by go_num, all_take_succ hall.out hx.out HP.out, bk.drewN _, below_drewN hb _⟩
          case measure => simp [intOf]; omega
      · go_wp2
        go_ret
        have h3 := hall.out
        rw [List.take_of_length_le (by omega)] at h3
        exact ⟨ret_bool (by rw [HF.out, h3]), hb⟩
end Go.Proofs.YthfnncnmggkfaaaDoor

namespace Go.Proofs.YthfnncnmggkfaaaDoor
open Go Go.RowKit

set_option maxHeartbeats 400000 in
theorem counts_any (A : Option Addr) (n c : Nat) (p : List Pt) (w : World) (hp : ptsR.R w (Lt w) p [.slice A n c]) :
    Calls Tryd.prog 65 #[.slice A n c] w (fun e w' => e = .returned (.bool (okRing p)) ∧ w = w') := by
  obtain ⟨rfl, hm⟩ := slice_len hp
  go_enter Tryd.func65, Tryd.ntmps65
  go_wp2
  go_loop [3] (fun i => ∃ k : Nat, k ≤ p.length ∧ i = .int .i64 k ∧ Hid ((p.take k).any farB = false)) (fun i => p.length - (intOf i).toNat)
  case atStart => exact ⟨0, Nat.zero_le _, rfl, rfl⟩
  case round =>
    obtain ⟨k, hk, rfl, hno⟩ := hrel
    by_cases hlt : k < p.length
    · obtain ⟨b, off, x, y, rfl, hx, -, c0, c1, -⟩ := pairs_at hp hlt
      rcases Bool.eq_false_or_eq_true (farB (x, y)) with hf | hf
      · have HA := Lib.hid (okRing_bad (any_hit hx.out hf))
        rcases far_cases hf with h | ⟨h1, h2⟩ | ⟨⟨h1, h2⟩, h3⟩ | ⟨⟨h1, h2⟩, h3, h4⟩
        all_goals
          clear hf
          go_wp2
          go_ret
          exact ⟨ret_bool HA.out.symm, by trivial⟩
      · have HF := Lib.hid hf
        obtain ⟨⟨h1, h2⟩, h3, h4⟩ := near_of hf
        clear hf
        go_wp2
        go_round
        case rel => exact ⟨k + 1, by omega, by go_num, any_take_succ hno.out hx.out HF.out⟩
        case measure => simp [intOf]; omega
    · have h3 := hno.out
      rw [List.take_of_length_le (by omega)] at h3
      have HK := Lib.hid (okRing_is h3)
      clear h3
      go_wp2
      go_ret
      exact ⟨by rw [HK.out]; apply ret_bool; simp, by trivial⟩
end Go.Proofs.YthfnncnmggkfaaaDoor

namespace Go.Proofs.YthfnncnmggkfaaaDoor
open Go Go.RowKit

theorem ring0 (s : Shp) : ringOf s 0 = s.1 := rfl
theorem ring_hole {s : Shp} {m : Nat} {p : List Pt} (h : s.2[m]? = some p) : ringOf s (m + 1) = p := by
  unfold ringOf; rw [if_neg (by omega), Nat.add_sub_cancel, getD_of' h]
theorem ownP_snoc' {w : World} {base k : Nat} {e : TypeId} {v : Value} {xs : List (Int × Int)} {x y : Int} (h : w.ownsRow base e 2 v (xs.length + 1) (xs.flatMap prEnc ++ [.int .i64 x, .int .i64 y])) (hy : y = (k : Int)) : OwnP w base e v (xs ++ [(x, (k : Int))]) := by
  subst hy; exact ownP_snoc h
set_option maxRecDepth 100000 in
set_option maxHeartbeats 1000000 in
theorem refContours_any (A : Option Addr) (n c : Nat) (shapes : List Shp) (w : World) (hs : shpsR.R w (Lt w) shapes [.slice A n c]) (hS : SmallS shapes) :
    Calls Tryd.prog 45 #[.slice A n c] w (CtPost (contoursF shapes) w) := by
  obtain ⟨rfl, hm⟩ := slice_len hs
  have hsl := hS.len
  obtain ⟨i0, hinf, hz0, hz1, hz2⟩ := info_parts ct_info
  go_enter Tryd.func45, Tryd.ntmps45
  go_wp2
  go_loopw [3, 4] (fun v i wr => ∃ k : Nat, k ≤ shapes.length ∧ i = .int .i64 k ∧ OwnP wr w.heap.size 57 v (ctTo shapes k) ∧ Below w.heap.size w wr) (fun _ i _ => shapes.length - (intOf i).toNat)
  case atStart => exact ⟨0, Nat.zero_le _, rfl, World.ownsRow_nil _ _ _ _, Below.refl _ _⟩
  case round =>
    obtain ⟨k, hk, rfl, hown, hb⟩ := hrel
    have hz := hb.size
    by_cases hlt : k < shapes.length
    · obtain ⟨b, off, s, O, no, co, H, nh, ch, rfl, hx, hbD, c0', c1', hno, hnh, hO, hH, hnom, hnhm⟩ := shape_at hs hlt
      have c0 := ((bcell hb).1 b (off + k * 2) hbD).trans c0'
      have c1 := ((bcell hb).1 b (off + k * 2 + 1) hbD).trans c1'
      have hh := hS.holes s (List.mem_of_getElem? hx.out)
      have hno' := hno.out
      have hnh' := hnh.out
      subst hno' hnh'
      have HN := Lib.hid (ctTo_next hx.out)
      have HTL := Lib.hid (ctTo_len hS k)
      have HOL := Lib.hid (fun m => ctOf_len k s m)
      have hlen1 : (ctTo shapes k).length ≤ 1001000 := by have := HTL.out; omega
      rcases Bool.eq_false_or_eq_true (okRing s.1) with hf | hf
      · have HC : Hid (ctOf k s 1 = [((k : Int), ((0 : Nat) : Int))]) := by
          show ctOf k s 1 = _
          rw [ctOf_yes (by rw [ring0]; exact hf), ctOf]; rfl
        have HF := Lib.hid hf
        clear hf
        go_wp2_with fail
        refine (counts_any O _ co s.1 _ (Rep.below hO hb)).mono ?_
        rintro e w1 ⟨he, rfl⟩
        rw [HF.out] at he
        subst he
        have d0 : wr.heap.size = wr.heap.size := rfl
        go_wp2_with (at_builtin; refine wpList_append_own _ rfl _ _ 23 rfl w.heap.size 57 i0 (.agg #[.int .i64 0, .int .i64 0]) 2 16 Tryd.underlying23 hinf hz0 hz1 hz2 rfl (by decide) _ _ _ rfl (World.ownsRow.alloc hown _) ⟨wr.heap.size, 0, none⟩ 1 1 [.int .i64 k, .int .i64 0] rfl rfl (new_pr _ _ _ _) (pr_one _ _) (by unfold maxLen; omega) (by omega) (by simp; omega) ?_; intro v5 w5 hown5 hg5 _)
        have hownI : OwnP w5 w.heap.size 57 v5 (ctTo shapes k ++ ctOf k s 1) := by rw [HC.out]; exact ownP_snoc' (k := 0) hown5 rfl
        have hbI := (hb.alloc hz (.cells #[.int .i64 (k : Int), .int .i64 0] 57)).grown hg5 (by simp; omega) (fun j hj => (World.ownsRow.lt hown j hj).1)
        clear hb hz hown hown5 hg5 c0 c1 d0
        go_loopw [3, 5] (fun v i wq => ∃ m : Nat, m ≤ s.2.length ∧ i = .int .i64 m ∧ OwnP wq w.heap.size 57 v (ctTo shapes k ++ ctOf k s (m + 1)) ∧ Below w.heap.size w wq) (fun _ i _ => s.2.length - (intOf i).toNat)
        case atStart => exact ⟨0, Nat.zero_le _, rfl, hownI, hbI⟩
        case round =>
          obtain ⟨m, hmk, rfl, hown, hbq⟩ := hrel
          have hzq := hbq.size
          have c1 := ((bcell hbq).1 b (off + k * 2 + 1) hbD).trans c1'
          have c0 := ((bcell hbq).1 b (off + k * 2) hbD).trans c0'
          by_cases hml : m < s.2.length
          · have hlen2 : (ctTo shapes k ++ ctOf k s (m + 1)).length ≤ 2003000 := by have := HOL.out (m + 1); rw [List.length_append]; omega
            obtain ⟨b2, off2, p, P, np, cp, rfl, hp, hbD2, d0, hnp, hP, -⟩ := hole_at (Rep.at_ hH hbq) hml
            rcases Bool.eq_false_or_eq_true (okRing p) with hf | hf
            · have HC : Hid (ctOf k s (m + 1 + 1) = ctOf k s (m + 1) ++ [((k : Int), ((m + 1 : Nat) : Int))]) := ctOf_yes (by rw [ring_hole hp.out]; exact hf)
              have HF := Lib.hid hf
              clear hf
              go_wp2_with fail
              refine (counts_any P _ cp p _ (Rep.mono _ (fun i (hi : i < w.heap.size) => (Nat.lt_of_lt_of_le hi hzq : i < wr.heap.size)) hP)).mono ?_
              rintro e w6 ⟨he, rfl⟩
              rw [HF.out] at he
              subst he
              go_wp2_with (at_builtin; refine wpList_append_own _ rfl _ _ 23 rfl w.heap.size 57 i0 (.agg #[.int .i64 0, .int .i64 0]) 2 16 Tryd.underlying23 hinf hz0 hz1 hz2 rfl (by decide) _ _ _ rfl (World.ownsRow.alloc hown _) ⟨wr.heap.size, 0, none⟩ 1 1 [.int .i64 k, .int .i64 ((m : Int) + 1)] rfl rfl (new_pr _ _ _ _) (pr_one _ _) (by unfold maxLen; omega) (by omega) (by simp; omega) ?_; intro v7 w7 hown7 hg7 _)
              go_roundw
              case rel => exact ⟨m + 1, by omega, by go_num, by rw [HC.out, ← List.append_assoc]; exact ownP_snoc' hown7 (by omega), (hbq.alloc hzq _).grown hg7 (by simp; omega) (fun j hj => (World.ownsRow.lt hown j hj).1)⟩
              case measure => simp [intOf]; omega
            · have HC : Hid (ctOf k s (m + 1 + 1) = ctOf k s (m + 1)) := ctOf_no (by rw [ring_hole hp.out]; exact hf)
              have HF := Lib.hid hf
              clear hf
              go_wp2_with fail
              refine (counts_any P _ cp p _ (Rep.mono _ (fun i (hi : i < w.heap.size) => (Nat.lt_of_lt_of_le hi hzq : i < wr.heap.size)) hP)).mono ?_
              rintro e w6 ⟨he, rfl⟩
              rw [HF.out] at he
              subst he
              go_wp2
              go_roundw
              case rel => exact ⟨m + 1, by omega, by go_num, by rw [HC.out]; exact hown, hbq⟩
              case measure => simp [intOf]; omega
          · obtain rfl : m = s.2.length := by omega
            go_wp2
            go_roundw
            case rel => exact ⟨k + 1, by omega, by go_num, by rw [HN.out]; exact hown, hbq⟩
            case measure => simp [intOf]; omega
      · have HC : Hid (ctOf k s 1 = []) := by
          show ctOf k s 1 = _
          rw [ctOf_no (by rw [ring0]; exact hf), ctOf]
        have HF := Lib.hid hf
        clear hf
        go_wp2_with fail
        refine (counts_any O _ co s.1 _ (Rep.below hO hb)).mono ?_
        rintro e w1 ⟨he, rfl⟩
        rw [HF.out] at he
        subst he
        go_wp2
        have hownI : OwnP wr w.heap.size 57 u3 (ctTo shapes k ++ ctOf k s 1) := by rw [HC.out, List.append_nil]; exact hown
        have hbI := hb
        clear hb hz hown c0 c1
        obtain ⟨wo, hwo⟩ : ∃ wo : World, wo = wr := ⟨_, rfl⟩
        subst hwo
        go_loopw [3, 5] (fun v i wq => ∃ m : Nat, m ≤ s.2.length ∧ i = .int .i64 m ∧ OwnP wq w.heap.size 57 v (ctTo shapes k ++ ctOf k s (m + 1)) ∧ Below w.heap.size w wq) (fun _ i _ => s.2.length - (intOf i).toNat)
        case atStart => exact ⟨0, Nat.zero_le _, rfl, hownI, hbI⟩
        case round =>
          obtain ⟨m, hmk, rfl, hown, hbq⟩ := hrel
          have hzq := hbq.size
          have c1 := ((bcell hbq).1 b (off + k * 2 + 1) hbD).trans c1'
          have c0 := ((bcell hbq).1 b (off + k * 2) hbD).trans c0'
          by_cases hml : m < s.2.length
          · have hlen2 : (ctTo shapes k ++ ctOf k s (m + 1)).length ≤ 2003000 := by have := HOL.out (m + 1); rw [List.length_append]; omega
            obtain ⟨b2, off2, p, P, np, cp, rfl, hp, hbD2, d0, hnp, hP, -⟩ := hole_at (Rep.at_ hH hbq) hml
            rcases Bool.eq_false_or_eq_true (okRing p) with hf | hf
            · have HC : Hid (ctOf k s (m + 1 + 1) = ctOf k s (m + 1) ++ [((k : Int), ((m + 1 : Nat) : Int))]) := ctOf_yes (by rw [ring_hole hp.out]; exact hf)
              have HF := Lib.hid hf
              clear hf
              go_wp2_with fail
              refine (counts_any P _ cp p _ (Rep.mono _ (fun i (hi : i < w.heap.size) => (Nat.lt_of_lt_of_le hi hzq : i < wr.heap.size)) hP)).mono ?_
              rintro e w6 ⟨he, rfl⟩
              rw [HF.out] at he
              subst he
              go_wp2_with (at_builtin; refine wpList_append_own _ rfl _ _ 23 rfl w.heap.size 57 i0 (.agg #[.int .i64 0, .int .i64 0]) 2 16 Tryd.underlying23 hinf hz0 hz1 hz2 rfl (by decide) _ _ _ rfl (World.ownsRow.alloc hown _) ⟨wr.heap.size, 0, none⟩ 1 1 [.int .i64 k, .int .i64 ((m : Int) + 1)] rfl rfl (new_pr _ _ _ _) (pr_one _ _) (by unfold maxLen; omega) (by omega) (by simp; omega) ?_; intro v7 w7 hown7 hg7 _)
              go_roundw
              case rel => exact ⟨m + 1, by omega, by go_num, by rw [HC.out, ← List.append_assoc]; exact ownP_snoc' hown7 (by omega), (hbq.alloc hzq _).grown hg7 (by simp; omega) (fun j hj => (World.ownsRow.lt hown j hj).1)⟩
              case measure => simp [intOf]; omega
            · have HC : Hid (ctOf k s (m + 1 + 1) = ctOf k s (m + 1)) := ctOf_no (by rw [ring_hole hp.out]; exact hf)
              have HF := Lib.hid hf
              clear hf
              go_wp2_with fail
              refine (counts_any P _ cp p _ (Rep.mono _ (fun i (hi : i < w.heap.size) => (Nat.lt_of_lt_of_le hi hzq : i < wr.heap.size)) hP)).mono ?_
              rintro e w6 ⟨he, rfl⟩
              rw [HF.out] at he
              subst he
              go_wp2
              go_roundw
              case rel => exact ⟨m + 1, by omega, by go_num, by rw [HC.out]; exact hown, hbq⟩
              case measure => simp [intOf]; omega
          · obtain rfl : m = s.2.length := by omega
            go_wp2
            go_roundw
            case rel => exact ⟨k + 1, by omega, by go_num, by rw [HN.out]; exact hown, hbq⟩
            case measure => simp [intOf]; omega
    · obtain rfl : k = shapes.length := by omega
      go_wp2
      go_ret
      exact ⟨_, rfl, hown, hb⟩
end Go.Proofs.YthfnncnmggkfaaaDoor
