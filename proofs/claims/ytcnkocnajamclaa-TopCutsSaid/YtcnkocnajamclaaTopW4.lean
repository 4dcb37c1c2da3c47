/- Chapter 12: simple contours, by walking the reference's text. -/
import Derived.Test.YtcnkocnajamclaaTopChk
import Derived.Test.YtcnkocnajamclaaTopW3
import Derived.Test.YtcnkocnajamclaaNcW7
import Derived.Deep.RegionHeld3
import Derived.Deep.LoopGhost
import Derived.Deep.DeepCutAuto
namespace Go.Proofs.Ytcnkocnajamclaa
open Go Go.RowKit

theorem pt_of {w : World} {D : Nat → Prop} {p : List Pt} {A : Option Addr} {n c : Nat} (h : ptsR.R w D p [.slice A n c]) {k : Nat} (hk : k < p.length) :
    ∃ b off q, A = some ⟨b, off, none⟩ ∧ Hid (cn p k = q) ∧ D b ∧ w.cell? ⟨b, off + k * 2, none⟩ = some (.int .i64 q.1) ∧ w.cell? ⟨b, off + k * 2 + 1, none⟩ = some (.int .i64 q.2) := by
  obtain ⟨b, off, x, y, rfl, hx, hb, c0, c1, -⟩ := pairs_at h hk
  exact ⟨b, off, (x, y), rfl, cn_at hx.out, hb, c0, c1⟩
theorem six_of {w W : World} {b o0 o1 o2 o3 o4 o5 : Nat} {v0 v1 v2 v3 v4 v5 : Option Value} (hb : b < w.heap.size) (k0 : w.cell? ⟨b, o0, none⟩ = v0) (k1 : w.cell? ⟨b, o1, none⟩ = v1) (k2 : w.cell? ⟨b, o2, none⟩ = v2) (k3 : w.cell? ⟨b, o3, none⟩ = v3)
    (k4 : w.cell? ⟨b, o4, none⟩ = v4) (k5 : w.cell? ⟨b, o5, none⟩ = v5) (h : Below w.heap.size w W) :
    b < W.heap.size ∧ W.cell? ⟨b, o0, none⟩ = v0 ∧ W.cell? ⟨b, o1, none⟩ = v1 ∧ W.cell? ⟨b, o2, none⟩ = v2 ∧ W.cell? ⟨b, o3, none⟩ = v3 ∧ W.cell? ⟨b, o4, none⟩ = v4 ∧ W.cell? ⟨b, o5, none⟩ = v5 := by
  have hz := h.size
  exact ⟨by omega, ((bcell h).1 b o0 hb).trans k0, ((bcell h).1 b o1 hb).trans k1, ((bcell h).1 b o2 hb).trans k2, ((bcell h).1 b o3 hb).trans k3, ((bcell h).1 b o4 hb).trans k4, ((bcell h).1 b o5 hb).trans k5⟩
/-- three points in blocks of their own. -/
def Three (w : World) (a b c : Pt) (s7 s8 s9 : Value) (W : World) : Prop :=
  ∃ g1 g2 g3 : Nat, s7 = .pointer (some ⟨g1, 0, none⟩) ∧ s8 = .pointer (some ⟨g2, 0, none⟩) ∧ s9 = .pointer (some ⟨g3, 0, none⟩) ∧ Blk W g1 74 (prArr a) ∧ Blk W g2 74 (prArr b) ∧ Blk W g3 74 (prArr c) ∧ Below w.heap.size w W
theorem three_blks {w wr : World} (hb : Below w.heap.size w wr) (x y z : Pt) :
    Blk (((wr.alloc (.cells (prArr x) 74)).alloc (.cells (prArr y) 74)).alloc (.cells (prArr z) 74)).drew wr.heap.size 74 (prArr x) ∧
    Blk (((wr.alloc (.cells (prArr x) 74)).alloc (.cells (prArr y) 74)).alloc (.cells (prArr z) 74)).drew (wr.heap.size + 1) 74 (prArr y) ∧
    Blk (((wr.alloc (.cells (prArr x) 74)).alloc (.cells (prArr y) 74)).alloc (.cells (prArr z) 74)).drew (wr.heap.size + 1 + 1) 74 (prArr z) ∧
    Below w.heap.size w (((wr.alloc (.cells (prArr x) 74)).alloc (.cells (prArr y) 74)).alloc (.cells (prArr z) 74)).drew := by
  have hz := hb.size
  have h2 := Blk.new (wr.alloc (.cells (prArr x) 74)) 74 (prArr y)
  have h3 := Blk.new ((wr.alloc (.cells (prArr x) 74)).alloc (.cells (prArr y) 74)) 74 (prArr z)
  simp only [World.size_alloc] at h2 h3
  exact ⟨((Blk.new wr 74 (prArr x)).alloc _).alloc _, h2.alloc _, h3, (((hb.alloc hz _).alloc (by simp; omega) _).alloc (by simp; omega) _).drew⟩
section
variable {w W : World} {x y z : Pt} {i j k : Nat} (h : Blk W i 74 (prArr x) ∧ Blk W j 74 (prArr y) ∧ Blk W k 74 (prArr z) ∧ Below w.heap.size w W)
include h
theorem three_is : Three w x y z (.pointer (some ⟨i, 0, none⟩)) (.pointer (some ⟨j, 0, none⟩)) (.pointer (some ⟨k, 0, none⟩)) W := ⟨i, j, k, rfl, rfl, rfl, h.1, h.2.1, h.2.2.1, h.2.2.2⟩
theorem three_is1 : Three w x z y (.pointer (some ⟨i, 0, none⟩)) (.pointer (some ⟨k, 0, none⟩)) (.pointer (some ⟨j, 0, none⟩)) W := ⟨i, k, j, rfl, rfl, rfl, h.1, h.2.2.1, h.2.1, h.2.2.2⟩
theorem three_is2 : Three w y x z (.pointer (some ⟨j, 0, none⟩)) (.pointer (some ⟨i, 0, none⟩)) (.pointer (some ⟨k, 0, none⟩)) W := ⟨j, i, k, rfl, rfl, rfl, h.2.1, h.1, h.2.2.1, h.2.2.2⟩
theorem three_is3 : Three w z x y (.pointer (some ⟨k, 0, none⟩)) (.pointer (some ⟨i, 0, none⟩)) (.pointer (some ⟨j, 0, none⟩)) W := ⟨k, i, j, rfl, rfl, rfl, h.2.2.1, h.1, h.2.1, h.2.2.2⟩
theorem three_is4 : Three w y z x (.pointer (some ⟨j, 0, none⟩)) (.pointer (some ⟨k, 0, none⟩)) (.pointer (some ⟨i, 0, none⟩)) W := ⟨j, k, i, rfl, rfl, rfl, h.2.1, h.2.2.1, h.1, h.2.2.2⟩
theorem three_is5 : Three w z y x (.pointer (some ⟨k, 0, none⟩)) (.pointer (some ⟨j, 0, none⟩)) (.pointer (some ⟨i, 0, none⟩)) W := ⟨k, j, i, rfl, rfl, rfl, h.2.2.1, h.2.1, h.1, h.2.2.2⟩
end
theorem eight_of {w W : World} {b g1 g2 o0 o1 o2 o3 : Nat} {v0 v1 v2 v3 v4 v5 v6 v7 : Option Value} (hb : b < w.heap.size) (hg1 : g1 < w.heap.size) (hg2 : g2 < w.heap.size) (c0 : w.cell? ⟨b, o0, none⟩ = v0) (c1 : w.cell? ⟨b, o1, none⟩ = v1) (d0 : w.cell? ⟨b, o2, none⟩ = v2) (d1 : w.cell? ⟨b, o3, none⟩ = v3)
    (k0 : w.cell? ⟨g1, 0, none⟩ = v4) (k1 : w.cell? ⟨g1, 1, none⟩ = v5) (k2 : w.cell? ⟨g2, 0, none⟩ = v6) (k3 : w.cell? ⟨g2, 1, none⟩ = v7) (h : Below w.heap.size w W) :
    Below w.heap.size w W ∧ W.cell? ⟨b, o0, none⟩ = v0 ∧ W.cell? ⟨b, o1, none⟩ = v1 ∧ W.cell? ⟨b, o2, none⟩ = v2 ∧ W.cell? ⟨b, o3, none⟩ = v3 ∧ W.cell? ⟨g1, 0, none⟩ = v4 ∧ W.cell? ⟨g1, 1, none⟩ = v5 ∧ W.cell? ⟨g2, 0, none⟩ = v6 ∧ W.cell? ⟨g2, 1, none⟩ = v7 :=
  ⟨h, ((bcell h).1 b o0 hb).trans c0, ((bcell h).1 b o1 hb).trans c1, ((bcell h).1 b o2 hb).trans d0, ((bcell h).1 b o3 hb).trans d1, ((bcell h).1 g1 0 hg1).trans k0, ((bcell h).1 g1 1 hg1).trans k1, ((bcell h).1 g2 0 hg2).trans k2, ((bcell h).1 g2 1 hg2).trans k3⟩
theorem bad_edge {p : List Pt} {i : Nat} (hi : i < p.length) (h : edB p i = false) : simpleB p = false := by
  unfold simpleB
  have h1 : edA p p.length = false := all_fail (f := fun i => edB p i) h hi
  rw [h1, Bool.and_false]
set_option maxRecDepth 100000 in
set_option maxHeartbeats 2000000 in
/-- no two corners are equal, and no edges meet. -/
theorem simple12_any (A : Option Addr) (n c : Nat) (p : List Pt) (w : World) (hp : ptsR.R w (Lt w) p [.slice A n c]) (hn : p.all nearQ = true) (hlen : p.length ≤ 32) (h3 : 3 ≤ p.length) :
    Calls Try.prog 63 #[.slice A n c] w (Ret (.bool (simpleB p)) w) := by
  obtain ⟨rfl, hm⟩ := slice_len hp
  have HN : Hid (∀ i, NearP (cn p i)) := near_cn hn (by omega)
  have q1 := nc_pt_eql
  have q2 := nc_pt_eqg
  clear hn
  go_enter Try.func63, Try.ntmps63
  go_wp2
  go_loopw [4] (fun iv wr => ∃ i : Nat, i ≤ p.length ∧ iv = .int .i64 i ∧ Hid (neA p i = true) ∧ Below w.heap.size w wr) (fun iv _ => p.length - (intOf iv).toNat)
  case atStart => exact ⟨0, Nat.zero_le _, rfl, rfl, Below.refl _ _⟩
  case round =>
    obtain ⟨i, hi, rfl, hA, hb⟩ := hrel
    have hz := hb.size
    by_cases hlt : i < p.length
    · have hli : (i : Int) < (p.length : Int) := by omega
      obtain ⟨w1, hw1⟩ : ∃ W, W = wr := ⟨_, rfl⟩
      subst hw1
      go_wp2
      go_loopw [5] (fun kv wr => ∃ k : Nat, k ≤ i ∧ kv = .int .i64 k ∧ Hid (neI p i k = true) ∧ Below w.heap.size w wr) (fun kv _ => i - (intOf kv).toNat)
      case atStart => exact ⟨0, Nat.zero_le _, rfl, rfl, hb⟩
      case round =>
        obtain ⟨k, hk, rfl, hI, hb2⟩ := hrel
        by_cases hlt2 : k < i
        · have hki : (k : Int) < (i : Int) := by omega
          obtain ⟨b, off, ⟨x, y⟩, rfl, hx, -, c0, c1⟩ := pt_of (Rep.at_ hp hb2) hlt
          obtain ⟨b', off', ⟨x', y'⟩, e, hx', -, d0, d1⟩ := pt_of (Rep.at_ hp hb2) (show k < p.length by omega)
          injection e with e
          injection e with e5 e6 _
          subst e5 e6
          by_cases he : (x, y) = (x', y')
          · have HE : Hid (simpleB p = false) := by
              show _ = _
              unfold simpleB
              have h1 : (!(cn p i == cn p k)) = false := by rw [hx.out, hx'.out, he]; simp
              have h2 : neI p i i = false := all_fail (f := fun j => !(cn p i == cn p j)) h1 hlt2
              have h3 : neA p p.length = false := all_fail (f := fun i => neI p i i) h2 hlt
              rw [h3]; rfl
            injection he with e1 e2
            subst e1 e2
            have e3 : (x == x && y == y) = true := by simp
            clear hlt2
            go_wp2
            go_quiet (fail)
            go_wp2
            go_ret
            exact ⟨ret_bool HE.out.symm, below_drewN hb2 _⟩
          · have HE : Hid (neI p i (k + 1) = true) := all_succ (f := fun j => !(cn p i == cn p j)) hI.out (by
              show (!(cn p i == cn p k)) = true
              rw [hx.out, hx'.out]
              simp only [Bool.not_eq_true', beq_eq_false_iff_ne]
              exact he)
            have e3 := pr_ne he
            clear he hlt2
            go_wp2
            go_quiet (fail)
            go_wp2
            go_roundw
            case rel => exact ⟨k + 1, by omega, by go_num, HE.out, below_drewN hb2 _⟩
            case measure => simp [intOf]; omega
        · have hki : ¬ (k : Int) < (i : Int) := by omega
          have HE : Hid (neA p (i + 1) = true) := all_succ (f := fun i => neI p i i) hA.out (by
            have : k = i := by omega
            rw [← this]
            have h := hI.out
            rw [this] at h ⊢
            exact h)
          clear hlt2
          go_wp2
          go_roundw
          case rel => exact ⟨i + 1, by omega, by go_num, HE.out, hb2⟩
          case measure => simp [intOf]; omega
    · have hli : ¬ (i : Int) < (p.length : Int) := by omega
      have HA : Hid (neA p p.length = true) := by
        have : i = p.length := by omega
        rw [this] at hA; exact hA
      clear hA hlt
      go_wp2
      go_loopg [6] p.length (fun g iv wr => ∃ i : Nat, i + g = p.length ∧ iv = .int .i64 i ∧ Hid (edA p i = true) ∧ Below w.heap.size w wr)
      case atStart => exact ⟨0, Nat.zero_add _, rfl, rfl, hb⟩
      case round =>
        clear hz hi hli hb
        obtain ⟨i, hi, rfl, hE, hb⟩ := hrel
        have hz := hb.size
        by_cases hlt : i < p.length
        · have hli : (i : Int) < (p.length : Int) := by omega
          have hne0 : ¬ (p.length : Int) = 0 := by omega
          have hne1 : ¬ p.length = 0 := by omega
          have hne2 : ¬ p = [] := fun e => by rw [e] at hlt; simp at hlt
          obtain ⟨j1, hj1⟩ : ∃ r, (i + 1) % p.length = r := ⟨_, rfl⟩
          obtain ⟨j2, hj2⟩ : ∃ r, (i + 2) % p.length = r := ⟨_, rfl⟩
          have hl1 : j1 < p.length := by rw [← hj1]; exact Nat.mod_lt _ (by omega)
          have hl2 : j2 < p.length := by rw [← hj2]; exact Nat.mod_lt _ (by omega)
          have hrem1 : ((i : Int) + 1) % (p.length : Int) = (j1 : Int) := by rw [← hj1]; push_cast; rfl
          have hrem2 : ((i : Int) + 2) % (p.length : Int) = (j2 : Int) := by rw [← hj2]; push_cast; rfl
          have hL1 : (j1 : Int) < (p.length : Int) := by omega
          have hL2 : (j2 : Int) < (p.length : Int) := by omega
          obtain ⟨b, off, ⟨ax, ay⟩, rfl, ha, hbD, c0, c1⟩ := pt_of (Rep.at_ hp hb) hlt
          obtain ⟨b', off', ⟨bx, by_⟩, e, hbb, -, d0, d1⟩ := pt_of (Rep.at_ hp hb) hl1
          injection e with e
          injection e with e5 e6 _
          subst e5 e6
          obtain ⟨b', off', ⟨cx, cy⟩, e, hc, -, e0, e1⟩ := pt_of (Rep.at_ hp hb) hl2
          injection e with e
          injection e with e5 e6 _
          subst e5 e6
          have hbw : b < w.heap.size := hbD
          have hbl : b < wr.heap.size := by omega
          have hB : Hid (cn p (i + 1) = (bx, by_)) := by show _ = _; rw [← cn_mod, hj1, hbb.out]
          have hC : Hid (cn p (i + 2) = (cx, cy)) := by show _ = _; rw [← cn_mod, hj2, hc.out]
          have ht1 : ((i : Int) + 1).tmod (p.length : Int) = (j1 : Int) := by rw [Int.tmod_eq_emod_of_nonneg (by omega)]; exact hrem1
          have ht2 : ((i : Int) + 2).tmod (p.length : Int) = (j2 : Int) := by rw [Int.tmod_eq_emod_of_nonneg (by omega)]; exact hrem2
          have hw1 : IntKind.i64.wrap ((i : Int) + 1) = (i : Int) + 1 := IntWalk.i64_in _ (by omega)
          have hw2 : IntKind.i64.wrap ((i : Int) + 2) = (i : Int) + 2 := IntWalk.i64_in _ (by omega)
          clear hj1 hj2 hbb hc hlt
          go_upto_region 13 with fail
          go_cut [7, 8, 9] (fun s7 s8 s9 wx => Three w (ax, ay) (bx, by_) (cx, cy) s7 s8 s9 wx)
          case first =>
            go_region_held3 (fun W => b < W.heap.size ∧ W.cell? ⟨b, off + i * 2, none⟩ = some (.int .i64 ax) ∧ W.cell? ⟨b, off + i * 2 + 1, none⟩ = some (.int .i64 ay) ∧ W.cell? ⟨b, off + j1 * 2, none⟩ = some (.int .i64 bx) ∧ W.cell? ⟨b, off + j1 * 2 + 1, none⟩ = some (.int .i64 by_) ∧ W.cell? ⟨b, off + j2 * 2, none⟩ = some (.int .i64 cx) ∧ W.cell? ⟨b, off + j2 * 2 + 1, none⟩ = some (.int .i64 cy))
              (first
                | exact ⟨hbl, c0, c1, d0, d1, e0, e1⟩
                | exact six_of hbl c0 c1 d0 d1 e0 e1 (by (repeat (first | exact Below.refl _ _ | refine Below.drew ?_ | refine Below.alloc ?_ (by simp <;> omega) _ | refine Below.setCell ?_ (by simp <;> omega) _))))
              (fail)
            all_goals
              go_wp2
              go_meet
              first
                | exact three_is (three_blks hb (ax, ay) (bx, by_) (cx, cy))
                | exact three_is1 (three_blks hb (ax, ay) (cx, cy) (bx, by_))
                | exact three_is2 (three_blks hb (bx, by_) (ax, ay) (cx, cy))
                | exact three_is3 (three_blks hb (bx, by_) (cx, cy) (ax, ay))
                | exact three_is4 (three_blks hb (cx, cy) (ax, ay) (bx, by_))
                | exact three_is5 (three_blks hb (cx, cy) (bx, by_) (ax, ay))
          case rest =>
            clear c0 c1 d0 d1 e0 e1 hb hbl hz hrem1 hrem2 ht1 ht2 hw1 hw2 hL1 hL2 hl1 hl2
            obtain ⟨g1, g2, g3, rfl, rfl, rfl, B1, B2, B3, hb⟩ := hcut
            have HNa : Hid (NearP (ax, ay)) := by show NearP _; rw [← ha.out]; exact HN.out i
            have HNb : Hid (NearP (bx, by_)) := by show NearP _; rw [← hB.out]; exact HN.out (i + 1)
            have HNc : Hid (NearP (cx, cy)) := by show NearP _; rw [← hC.out]; exact HN.out (i + 2)
            have HFB : Hid (flatB p i = !(onP (ax, ay) (bx, by_) (cx, cy) || onP (cx, cy) (ax, ay) (bx, by_))) := by show _ = _; unfold flatB; rw [ha.out, hB.out, hC.out]
            have hlt : i < p.length := by omega
            have k0 := B1.c20
            have k1 := B1.c21
            have k2 := B2.c20
            have k3 := B2.c21
            have k4 := B3.c20
            have k5 := B3.c21
            simp only [] at k0 k1 k2 k3 k4 k5
            go_wp2_with fail
            refine (on12_any (ax, ay) (bx, by_) (cx, cy) _ HNa.out HNb.out HNc.out).mono ?_
            rintro e v1 ⟨rfl, hq⟩
            have B1 := B1.below hq B1.lt
            have B2 := B2.below hq B2.lt
            have B3 := B3.below hq B3.lt
            have hb := bstep hb hb.size hq
            have k0 := B1.c20
            have k1 := B1.c21
            have k2 := B2.c20
            have k3 := B2.c21
            have k4 := B3.c20
            have k5 := B3.c21
            simp only [] at k0 k1 k2 k3 k4 k5
            clear hq
            rcases Bool.eq_false_or_eq_true (onP (ax, ay) (bx, by_) (cx, cy)) with h1 | h1
            · have HE : Hid (simpleB p = false) := bad_edge hlt (by unfold edB; rw [HFB.out, h1]; rfl)
              rw [h1]
              clear h1
              go_wp2
              go_ret
              exact ⟨ret_bool HE.out.symm, hb⟩
            have G1 := Lib.hid h1
            rw [h1]
            clear h1
            go_wp2_with fail
            refine (on12_any (cx, cy) (ax, ay) (bx, by_) _ HNc.out HNa.out HNb.out).mono ?_
            rintro e v2 ⟨rfl, hq⟩
            have B1 := B1.below hq B1.lt
            have B2 := B2.below hq B2.lt
            have B3 := B3.below hq B3.lt
            have hb := bstep hb hb.size hq
            clear k0 k1 k2 k3 k4 k5 hq
            rcases Bool.eq_false_or_eq_true (onP (cx, cy) (ax, ay) (bx, by_)) with h2 | h2
            · have HE : Hid (simpleB p = false) := bad_edge hlt (by unfold edB; rw [HFB.out, h2, Bool.or_true]; rfl)
              rw [h2]
              clear h2
              go_wp2
              go_ret
              exact ⟨ret_bool HE.out.symm, hb⟩
            have HFL : Hid (flatB p i = true) := by show _ = _; rw [HFB.out, G1.out, h2]; rfl
            rw [h2]
            clear h2 HFB G1 B3
            go_wp2
            clear k0 k1 k2 k3 k4 k5
            have hi2 : i + 2 ≤ p.length + 1 := by omega
            go_loopw [10] (fun kv wr => ∃ k : Nat, i + 2 ≤ k ∧ k ≤ p.length + 1 ∧ kv = .int .i64 k ∧ Hid (apI p i (k - (i + 2)) = true) ∧ Blk wr g1 74 (prArr (ax, ay)) ∧ Blk wr g2 74 (prArr (bx, by_)) ∧ Below w.heap.size w wr) (fun kv _ => p.length + 1 - (intOf kv).toNat)
            case atStart => exact ⟨i + 2, Nat.le_refl _, hi2, by go_num, by show apI p i (i + 2 - (i + 2)) = true; rw [Nat.sub_self]; rfl, B1, B2, hb⟩
            case round =>
              clear B1 B2 hb
              obtain ⟨k, hk2, hk, rfl, hI, B1, B2, hb⟩ := hrel
              have hz := hb.size
              have hbl : b < wr.heap.size := by omega
              have hg1 := B1.lt
              have hg2 := B2.lt
              have k0 := B1.c20
              have k1 := B1.c21
              have k2 := B2.c20
              have k3 := B2.c21
              simp only [] at k0 k1 k2 k3
              by_cases hkl : k < p.length
              · have hki : (k : Int) < (p.length : Int) := by omega
                obtain ⟨j, hj⟩ : ∃ r, (k + 1) % p.length = r := ⟨_, rfl⟩
                have hjl : j < p.length := by rw [← hj]; exact Nat.mod_lt _ (by omega)
                have hrem : ((k : Int) + 1) % (p.length : Int) = (j : Int) := by rw [← hj]; push_cast; rfl
                have htm : ((k : Int) + 1).tmod (p.length : Int) = (j : Int) := by rw [Int.tmod_eq_emod_of_nonneg (by omega)]; exact hrem
                have hwk : IntKind.i64.wrap ((k : Int) + 1) = (k : Int) + 1 := IntWalk.i64_in _ (by omega)
                have hji : (j : Int) < (p.length : Int) := by omega
                have HJ := Lib.hid hj
                have hks : k + 1 - (i + 2) = k - (i + 2) + 1 := by omega
                have hkk : i + 2 + (k - (i + 2)) = k := by omega
                have HKS := Lib.hid hks
                have HKK := Lib.hid hkk
                clear hj hks hkk
                by_cases hje : j = i
                · have HE : Hid (apI p i (k + 1 - (i + 2)) = true) := by
                    show _ = _
                    rw [HKS.out]
                    refine all_succ (f := fun j => apB p i (i + 2 + j)) hI.out ?_
                    show apB p i (i + 2 + (k - (i + 2))) = true
                    rw [HKK.out]
                    unfold apB
                    rw [HJ.out, hje]
                    simp
                  have n1 : ((j : Int) != (i : Int)) = false := by rw [hje]; simp
                  have n2 : (j != i) = false := by rw [hje]; simp
                  clear hje HJ
                  go_wp2
                  go_quiet (fail)
                  go_wp2
                  go_roundw
                  case rel => exact ⟨k + 1, by omega, by omega, by go_num, HE.out, B1.drewN _, B2.drewN _, below_drewN hb _⟩
                  case measure => simp [intOf]; omega
                · have n1 : ((j : Int) != (i : Int)) = true := by simp; omega
                  have n2 : (j != i) = true := by simp; exact hje
                  obtain ⟨b', off', ⟨cx, cy⟩, e, hck, -, c0, c1⟩ := pt_of (Rep.at_ hp hb) hkl
                  injection e with e
                  injection e with e5 e6 _
                  subst e5 e6
                  obtain ⟨b', off', ⟨dx, dy⟩, e, hcj, -, d0, d1⟩ := pt_of (Rep.at_ hp hb) hjl
                  injection e with e
                  injection e with e5 e6 _
                  subst e5 e6
                  have HNk : Hid (NearP (cx, cy)) := by show NearP _; rw [← hck.out]; exact HN.out k
                  have HNj : Hid (NearP (dx, dy)) := by show NearP _; rw [← hcj.out]; exact HN.out j
                  have HAP : Hid (apB p i k = !meetP (ax, ay) (bx, by_) (cx, cy) (dx, dy)) := by
                    show _ = _
                    unfold apB
                    rw [ha.out, hB.out, hck.out, HJ.out, ← cn_mod p (k + 1), HJ.out, hcj.out]
                    simp [hje]
                  obtain ⟨mb, hmb⟩ : ∃ r, meetP (ax, ay) (bx, by_) (cx, cy) (dx, dy) = r := ⟨_, rfl⟩
                  have HMB := Lib.hid hmb
                  rw [hmb] at HAP
                  clear hmb hje HJ
                  have hS0 := eight_of hbl hg1 hg2 c0 c1 d0 d1 k0 k1 k2 k3 ((Below.refl wr.heap.size wr).drew)
                  cases mb
                  · have HE : Hid (apI p i (k + 1 - (i + 2)) = true) := by
                      show _ = _
                      rw [HKS.out]
                      refine all_succ (f := fun j => apB p i (i + 2 + j)) hI.out ?_
                      show apB p i (i + 2 + (k - (i + 2))) = true
                      rw [HKK.out, HAP.out]
                      rfl
                    go_wp2
                    go_region_held3 (fun W => Below wr.heap.size wr W ∧ W.cell? ⟨b, off + k * 2, none⟩ = some (.int .i64 cx) ∧ W.cell? ⟨b, off + k * 2 + 1, none⟩ = some (.int .i64 cy) ∧ W.cell? ⟨b, off + j * 2, none⟩ = some (.int .i64 dx) ∧ W.cell? ⟨b, off + j * 2 + 1, none⟩ = some (.int .i64 dy) ∧ W.cell? ⟨g1, 0, none⟩ = some (.int .i64 ax) ∧ W.cell? ⟨g1, 1, none⟩ = some (.int .i64 ay) ∧ W.cell? ⟨g2, 0, none⟩ = some (.int .i64 bx) ∧ W.cell? ⟨g2, 1, none⟩ = some (.int .i64 by_))
                      (first
                        | exact hS0
                        | exact eight_of hbl hg1 hg2 c0 c1 d0 d1 k0 k1 k2 k3 hSa)
                      (first
                        | (go_at_call 98
                           refine (meet12_any (ax, ay) (bx, by_) (cx, cy) (dx, dy) _ HNa.out HNb.out HNk.out HNj.out).mono ?_
                           rintro e W1 ⟨he, hq⟩
                           rw [HMB.out] at he
                           subst he
                           have hSa : Below wr.heap.size wr W1 := bstep ((Below.refl wr.heap.size wr).drew) (Nat.le_refl _) hq))
                    go_wp2
                    go_roundw
                    case rel => exact ⟨k + 1, by omega, by omega, by go_num, HE.out, B1.below hSa hg1, B2.below hSa hg2, bstep hb hb.size hSa⟩
                    case measure => simp [intOf]; omega
                  · have HE : Hid (simpleB p = false) := bad_edge hlt (by
                      unfold edB
                      have h1 : apI p i (p.length - (i + 2)) = false := all_fail (f := fun j => apB p i (i + 2 + j)) (k := k - (i + 2)) (by
                        show apB p i (i + 2 + (k - (i + 2))) = false
                        rw [HKK.out, HAP.out]
                        rfl) (by omega)
                      rw [h1, Bool.and_false])
                    go_wp2
                    go_region_held3 (fun W => Below wr.heap.size wr W ∧ W.cell? ⟨b, off + k * 2, none⟩ = some (.int .i64 cx) ∧ W.cell? ⟨b, off + k * 2 + 1, none⟩ = some (.int .i64 cy) ∧ W.cell? ⟨b, off + j * 2, none⟩ = some (.int .i64 dx) ∧ W.cell? ⟨b, off + j * 2 + 1, none⟩ = some (.int .i64 dy) ∧ W.cell? ⟨g1, 0, none⟩ = some (.int .i64 ax) ∧ W.cell? ⟨g1, 1, none⟩ = some (.int .i64 ay) ∧ W.cell? ⟨g2, 0, none⟩ = some (.int .i64 bx) ∧ W.cell? ⟨g2, 1, none⟩ = some (.int .i64 by_))
                      (first
                        | exact hS0
                        | exact eight_of hbl hg1 hg2 c0 c1 d0 d1 k0 k1 k2 k3 hSa)
                      (first
                        | (go_at_call 98
                           refine (meet12_any (ax, ay) (bx, by_) (cx, cy) (dx, dy) _ HNa.out HNb.out HNk.out HNj.out).mono ?_
                           rintro e W1 ⟨he, hq⟩
                           rw [HMB.out] at he
                           subst he
                           have hSa : Below wr.heap.size wr W1 := bstep ((Below.refl wr.heap.size wr).drew) (Nat.le_refl _) hq))
                    go_wp2
                    go_ret
                    exact ⟨ret_bool HE.out.symm, bstep hb hb.size hSa⟩
              · have hki : ¬ (k : Int) < (p.length : Int) := by omega
                have HE : Hid (edA p (i + 1) = true) := by
                  refine all_succ (f := fun i => edB p i) hE.out ?_
                  show edB p i = true
                  unfold edB
                  rw [HFL.out, Bool.true_and]
                  exact List.all_eq_true.2 fun j hj => all_get (f := fun j => apB p i (i + 2 + j)) hI.out (by have := List.mem_range.1 hj; omega)
                go_wp2
                go_roundg (gk - 1)
                case measure => omega
                case rel => exact ⟨i + 1, by omega, by go_num, HE.out, hb⟩
        · have hli : ¬ (i : Int) < (p.length : Int) := by omega
          have HE : Hid (simpleB p = true) := by
            have : i = p.length := by omega
            have h := hE.out
            rw [this] at h
            show _ = _
            unfold simpleB
            rw [HA.out, h]; rfl
          clear hE hlt
          go_wp2
          go_ret
          exact ⟨ret_bool HE.out.symm, hb⟩
end Go.Proofs.Ytcnkocnajamclaa
