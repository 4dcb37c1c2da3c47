/- Chapter 12: Check and Area2, by walking the reference's text. -/
import Derived.Test.YtcnkocnajamclaaTopW4
namespace Go.Proofs.Ytcnkocnajamclaa
open Go Go.RowKit

set_option maxHeartbeats 800000 in
theorem check12_any (A : Option Addr) (n c : Nat) (p : List Pt) (w : World) (hp : ptsR.R w (Lt w) p [.slice A n c]) :
    Calls Try.prog 29 #[.slice A n c] w (Ret (.int .i64 (check12 p)) w) := by
  obtain ⟨rfl, hm⟩ := slice_len hp
  by_cases h1 : p.length < 3
  · have HC : Hid (check12 p = 3) := by show _ = _; unfold check12; rw [if_pos h1]
    have h1' : (p.length : Int) < 3 := by omega
    rw [HC.out]
    clear h1
    go_enter Try.func29, Try.ntmps29
    go_wp2
    go_ret
    exact ⟨rfl, Below.refl _ _⟩
  have h1' : ¬ (p.length : Int) < 3 := by omega
  by_cases h2 : 32 < p.length
  · have HC : Hid (check12 p = 4) := by show _ = _; unfold check12; rw [if_neg h1, if_pos h2]
    have h2' : 32 < (p.length : Int) := by omega
    rw [HC.out]
    clear h1 h2
    go_enter Try.func29, Try.ntmps29
    go_wp2
    go_ret
    exact ⟨rfl, Below.refl _ _⟩
  have h2' : ¬ 32 < (p.length : Int) := by omega
  rcases Bool.eq_false_or_eq_true (p.all nearQ) with h3 | h3
  · have H3 := Lib.hid h3
    have HS := Lib.hid (fun w1 hp1 => simple12_any A p.length c p w1 hp1 h3 (by omega) (by omega))
    rcases Bool.eq_false_or_eq_true (simpleB p) with h4 | h4
    · have HC : Hid (check12 p = 0) := by show _ = _; unfold check12; rw [if_neg h1, if_neg h2, h3, h4]; rfl
      have H4 := Lib.hid h4
      rw [HC.out]
      clear h1 h2 h3 h4
      go_enter Try.func29, Try.ntmps29
      go_wp2_with fail
      refine (near12s_any A p.length c p _ hp).mono ?_
      rintro e w1 ⟨rfl, hb1⟩
      rw [H3.out]
      go_wp2_with fail
      refine (HS.out _ (Rep.below hp hb1)).mono ?_
      rintro e w2 ⟨rfl, hb2⟩
      rw [H4.out]
      go_wp2
      go_ret
      exact ⟨rfl, bstep hb1 hb1.size hb2⟩
    · have HC : Hid (check12 p = 17) := by show _ = _; unfold check12; rw [if_neg h1, if_neg h2, h3, h4]; rfl
      have H4 := Lib.hid h4
      rw [HC.out]
      clear h1 h2 h3 h4
      go_enter Try.func29, Try.ntmps29
      go_wp2_with fail
      refine (near12s_any A p.length c p _ hp).mono ?_
      rintro e w1 ⟨rfl, hb1⟩
      rw [H3.out]
      go_wp2_with fail
      refine (HS.out _ (Rep.below hp hb1)).mono ?_
      rintro e w2 ⟨rfl, hb2⟩
      rw [H4.out]
      go_wp2
      go_ret
      exact ⟨rfl, bstep hb1 hb1.size hb2⟩
  · have HC : Hid (check12 p = 9) := by show _ = _; unfold check12; rw [if_neg h1, if_neg h2, h3, if_pos rfl]
    have H3 := Lib.hid h3
    rw [HC.out]
    clear h1 h2 h3
    go_enter Try.func29, Try.ntmps29
    go_wp2_with fail
    refine (near12s_any A p.length c p _ hp).mono ?_
    rintro e w1 ⟨rfl, hb1⟩
    rw [H3.out]
    go_wp2
    go_ret
    exact ⟨rfl, hb1⟩
/-- two points in blocks of their own. -/
def Two (w : World) (a b : Pt) (s7 s8 : Value) (W : World) : Prop :=
  ∃ g1 g2 : Nat, s7 = .pointer (some ⟨g1, 0, none⟩) ∧ s8 = .pointer (some ⟨g2, 0, none⟩) ∧ w.heap.size ≤ g1 ∧ w.heap.size ≤ g2 ∧ Blk W g1 74 (prArr a) ∧ Blk W g2 74 (prArr b) ∧ Below w.heap.size w W
theorem two_blks (w : World) (x y : Pt) :
    Blk ((w.alloc (.cells (prArr x) 74)).alloc (.cells (prArr y) 74)).drew w.heap.size 74 (prArr x) ∧
    Blk ((w.alloc (.cells (prArr x) 74)).alloc (.cells (prArr y) 74)).drew (w.heap.size + 1) 74 (prArr y) ∧
    Below w.heap.size w ((w.alloc (.cells (prArr x) 74)).alloc (.cells (prArr y) 74)).drew := by
  have h2 := Blk.new (w.alloc (.cells (prArr x) 74)) 74 (prArr y)
  simp only [World.size_alloc] at h2
  exact ⟨(Blk.new w 74 (prArr x)).alloc _, h2, (((Below.refl _ _).alloc (Nat.le_refl _) _).alloc (by simp) _).drew⟩
theorem two_is {w W : World} {x y : Pt} (h : Blk W w.heap.size 74 (prArr x) ∧ Blk W (w.heap.size + 1) 74 (prArr y) ∧ Below w.heap.size w W) :
    Two w x y (.pointer (some ⟨w.heap.size, 0, none⟩)) (.pointer (some ⟨w.heap.size + 1, 0, none⟩)) W := ⟨_, _, rfl, rfl, Nat.le_refl _, by omega, h.1, h.2.1, h.2.2⟩
theorem two_is1 {w W : World} {x y : Pt} (h : Blk W w.heap.size 74 (prArr x) ∧ Blk W (w.heap.size + 1) 74 (prArr y) ∧ Below w.heap.size w W) :
    Two w y x (.pointer (some ⟨w.heap.size + 1, 0, none⟩)) (.pointer (some ⟨w.heap.size, 0, none⟩)) W := ⟨_, _, rfl, rfl, by omega, Nat.le_refl _, h.2.1, h.1, h.2.2⟩
theorem four_of {w W : World} {b o0 o1 o2 o3 : Nat} {v0 v1 v2 v3 : Option Value} (hb : b < w.heap.size) (k0 : w.cell? ⟨b, o0, none⟩ = v0) (k1 : w.cell? ⟨b, o1, none⟩ = v1) (k2 : w.cell? ⟨b, o2, none⟩ = v2) (k3 : w.cell? ⟨b, o3, none⟩ = v3) (h : Below w.heap.size w W) :
    b < W.heap.size ∧ W.cell? ⟨b, o0, none⟩ = v0 ∧ W.cell? ⟨b, o1, none⟩ = v1 ∧ W.cell? ⟨b, o2, none⟩ = v2 ∧ W.cell? ⟨b, o3, none⟩ = v3 := by
  have hz := h.size
  exact ⟨by omega, ((bcell h).1 b o0 hb).trans k0, ((bcell h).1 b o1 hb).trans k1, ((bcell h).1 b o2 hb).trans k2, ((bcell h).1 b o3 hb).trans k3⟩
theorem areaTo_next (p : List Pt) (k : Nat) {a b : Pt} (ha : cn p k = a) (hb : cn p (k + 1) = b) : areaTo p 0 (k + 1) = areaTo p 0 k + a.1 * b.2 - a.2 * b.1 := by
  rw [areaTo, Nat.zero_add, ha, hb]
  unfold crossP
  omega
set_option maxRecDepth 100000 in
set_option maxHeartbeats 2000000 in
theorem area12_any (A : Option Addr) (n c : Nat) (p : List Pt) (w : World) (hp : ptsR.R w (Lt w) p [.slice A n c]) :
    Calls Try.prog 18 #[.slice A n c] w (Ret (.int .i64 (area12 p)) w) := by
  obtain ⟨rfl, hm⟩ := slice_len hp
  have HK := Lib.hid (fun w1 hp1 => check12_any A p.length c p w1 hp1)
  by_cases hc : check12 p = 0
  · have hf := check12_fine hc
    have HA : Hid (area12 p = areaP p) := by show _ = _; unfold area12; rw [if_pos hc]
    have hnq : p.all nearQ = true := List.all_eq_true.2 fun q hq => (nearQ_iff q).2 (by have := hf.near q hq; exact ⟨⟨this.1, this.2.1⟩, this.2.2⟩)
    have hlo := hf.lo
    have hhi := hf.hi
    have HN : Hid (∀ i, NearP (cn p i)) := near_cn hnq (by omega)
    have hc1 : (check12 p != 0) = false := by rw [hc]; rfl
    have HC := Lib.hid hc
    clear hc hf hnq hc1
    rw [HC.out] at HK
    go_enter Try.func18, Try.ntmps18
    go_wp2_with fail
    refine (HK.out _ hp).mono ?_
    rintro e w1 ⟨rfl, hb1⟩
    go_wp2
    go_loopg [3, 4] p.length (fun g sv iv wr => ∃ i : Nat, i + g = p.length ∧ iv = .int .i64 i ∧ sv = .int .i64 (areaTo p 0 i) ∧ Below w.heap.size w wr)
    case atStart => exact ⟨0, Nat.zero_add _, rfl, rfl, hb1⟩
    case round =>
      obtain ⟨i, hi, rfl, rfl, hb⟩ := hrel
      have hz := hb.size
      have hbd := areaTo_bd HN.out 0 i
      by_cases hlt : i < p.length
      · have hli : (i : Int) < (p.length : Int) := by omega
        have hne0 : ¬ (p.length : Int) = 0 := by omega
        have hne1 : ¬ p.length = 0 := by omega
        have hne2 : ¬ p = [] := fun e => by rw [e] at hlt; simp at hlt
        obtain ⟨j, hj⟩ : ∃ r, (i + 1) % p.length = r := ⟨_, rfl⟩
        have hjl : j < p.length := by rw [← hj]; exact Nat.mod_lt _ (by omega)
        have hrem : ((i : Int) + 1) % (p.length : Int) = (j : Int) := by rw [← hj]; push_cast; rfl
        have htm : ((i : Int) + 1).tmod (p.length : Int) = (j : Int) := by rw [Int.tmod_eq_emod_of_nonneg (by omega)]; exact hrem
        have hwk : IntKind.i64.wrap ((i : Int) + 1) = (i : Int) + 1 := IntWalk.i64_in _ (by omega)
        have hji : (j : Int) < (p.length : Int) := by omega
        obtain ⟨b, off, ⟨ax, ay⟩, rfl, ha, hbD, c0, c1⟩ := pt_of (Rep.at_ hp hb) hlt
        obtain ⟨b', off', ⟨bx, by_⟩, e, hbb, -, d0, d1⟩ := pt_of (Rep.at_ hp hb) hjl
        injection e with e
        injection e with e5 e6 _
        subst e5 e6
        have hbw : b < w.heap.size := hbD
        have hbl : b < wr.heap.size := by omega
        have hB : Hid (cn p (i + 1) = (bx, by_)) := by show _ = _; rw [← cn_mod, hj, hbb.out]
        have HNX := Lib.hid (areaTo_next p i ha.out hB.out)
        have hna := HN.out i
        have hnb := HN.out (i + 1)
        rw [ha.out] at hna
        rw [hB.out] at hnb
        obtain ⟨⟨x1, x2⟩, x3, x4⟩ := hna
        obtain ⟨⟨y1, y2⟩, y3, y4⟩ := hnb
        simp only [] at x1 x2 x3 x4 y1 y2 y3 y4 HNX
        obtain ⟨m1, m2⟩ := pmul_bd (a := ax) (b := by_) (by omega) (by omega)
        obtain ⟨m3, m4⟩ := pmul_bd (a := ay) (b := bx) (by omega) (by omega)
        obtain ⟨s, hs⟩ : ∃ s, s = areaTo p 0 i := ⟨_, rfl⟩
        rw [← hs] at hbd HNX
        obtain ⟨s1, s2⟩ := hbd
        have s3 : -300000000000 ≤ s := by omega
        have s4 : s ≤ 300000000000 := by omega
        rw [← hs]
        clear hj hbb hlt hs s1 s2
        go_upto_region 7 with fail
        go_cut [5, 6] (fun s7 s8 wx => Two wr (ax, ay) (bx, by_) s7 s8 wx)
        case first =>
          go_region_held3 (fun W => b < W.heap.size ∧ W.cell? ⟨b, off + i * 2, none⟩ = some (.int .i64 ax) ∧ W.cell? ⟨b, off + i * 2 + 1, none⟩ = some (.int .i64 ay) ∧ W.cell? ⟨b, off + j * 2, none⟩ = some (.int .i64 bx) ∧ W.cell? ⟨b, off + j * 2 + 1, none⟩ = some (.int .i64 by_))
            (first
              | exact ⟨hbl, c0, c1, d0, d1⟩
              | exact four_of hbl c0 c1 d0 d1 (by (repeat (first | exact Below.refl _ _ | refine Below.drew ?_ | refine Below.alloc ?_ (by simp <;> omega) _ | refine Below.setCell ?_ (by simp <;> omega) _))))
            (fail)
          all_goals
            go_wp2
            go_meet
            first
              | exact two_is (two_blks wr (ax, ay) (bx, by_))
              | exact two_is1 (two_blks wr (bx, by_) (ax, ay))
        case rest =>
          clear c0 c1 d0 d1 hbl hrem htm hwk hji
          obtain ⟨g1, g2, rfl, rfl, -, -, B1, B2, hb2⟩ := hcut
          have hb := bstep hb hz hb2
          have k0 := B1.c20
          have k1 := B1.c21
          have k2 := B2.c20
          have k3 := B2.c21
          simp only [] at k0 k1 k2 k3
          go_wp2
          go_roundg (gk - 1)
          case measure => omega
          case rel => exact ⟨i + 1, by omega, by go_num, by rw [HNX.out], hb⟩
      · have hli : ¬ (i : Int) < (p.length : Int) := by omega
        have HE : Hid (areaTo p 0 i = area12 p) := by
          have : i = p.length := by omega
          show _ = _
          rw [HA.out, this]
          rfl
        clear hlt hbd
        go_wp2
        go_ret
        exact ⟨ret_int HE.out, hb⟩
  · have hc1 : (check12 p != 0) = true := by simp [hc]
    have HA : Hid (area12 p = 0) := by show _ = _; unfold area12; rw [if_neg hc]
    generalize check12 p = k at HK hc1
    rw [HA.out]
    clear hc
    go_enter Try.func18, Try.ntmps18
    go_wp2_with fail
    refine (HK.out _ hp).mono ?_
    rintro e w1 ⟨rfl, hb1⟩
    go_wp2
    go_ret
    exact ⟨rfl, hb1⟩
end Go.Proofs.Ytcnkocnajamclaa
