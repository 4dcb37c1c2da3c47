/- Chapter 12: where a point is, by walking the reference's text. -/
import Derived.Test.YtcnkocnajamclaaTopW5
namespace Go.Proofs.Ytcnkocnajamclaa
open Go Go.RowKit

def stepW (q a b : Pt) : Bool := if a.2 ≤ q.2 ∧ q.2 < b.2 then decide (0 < turnP a b q) else if b.2 ≤ q.2 ∧ q.2 < a.2 then decide (turnP a b q < 0) else false
def whereL (p : List Pt) (q : Pt) : Nat → Nat → Bool → Int
  | 0, _, ins => if ins then 1 else -1
  | f + 1, i, ins => if onP q (cn p i) (cn p (i + 1)) then 0 else whereL p q f (i + 1) (ins ^^ stepW q (cn p i) (cn p (i + 1)))
def where12 (p : List Pt) (q : Pt) : Int := if check12 p = 0 ∧ nearQ q = true then whereL p q p.length 0 false else -1
theorem where_on {p : List Pt} {q a b : Pt} {f i : Nat} {ins : Bool} {r : Int} (h : whereL p q f i ins = r) (hf : 0 < f) (ha : cn p i = a) (hb : cn p (i + 1) = b) (ho : onP q a b = true) : r = 0 := by
  obtain ⟨f', rfl⟩ : ∃ f', f = f' + 1 := ⟨f - 1, by omega⟩
  rw [whereL, ha, hb, ho, if_pos rfl] at h
  exact h.symm
theorem where_next {p : List Pt} {q a b : Pt} {f i : Nat} {ins s : Bool} {r : Int} (h : whereL p q f i ins = r) (hf : 0 < f) (ha : cn p i = a) (hb : cn p (i + 1) = b) (ho : onP q a b = false) (hs : stepW q a b = s) : whereL p q (f - 1) (i + 1) (ins ^^ s) = r := by
  obtain ⟨f', rfl⟩ : ∃ f', f = f' + 1 := ⟨f - 1, by omega⟩
  rw [whereL, ha, hb, ho, if_neg (by decide), hs] at h
  exact h
set_option maxRecDepth 100000 in
set_option maxHeartbeats 4000000 in
theorem where12_any (A : Option Addr) (n c : Nat) (p : List Pt) (x y : Int) (w : World) (hp : ptsR.R w (Lt w) p [.slice A n c]) :
    Calls Try.prog 31 #[.slice A n c, .agg #[.int .i64 x, .int .i64 y]] w (Ret (.int .i64 (where12 p (x, y))) w) := by
  obtain ⟨rfl, hm⟩ := slice_len hp
  have HK := Lib.hid (fun w1 hp1 => check12_any A p.length c p w1 hp1)
  have hw0 : Below w.heap.size w (w.alloc (.cells #[.int .i64 x, .int .i64 y] 74)) := (Below.refl _ _).alloc (Nat.le_refl _) _
  have BQ := Blk.new w 74 #[.int .i64 x, .int .i64 y]
  by_cases hc : check12 p = 0
  · have hf := check12_fine hc
    have hnq : p.all nearQ = true := List.all_eq_true.2 fun q hq => (nearQ_iff q).2 (by have := hf.near q hq; exact ⟨⟨this.1, this.2.1⟩, this.2.2⟩)
    have hlo := hf.lo
    have hhi := hf.hi
    have HN : Hid (∀ i, NearP (cn p i)) := near_cn hnq (by omega)
    have HC := Lib.hid hc
    rw [HC.out] at HK
    rcases Bool.eq_false_or_eq_true (nearQ (x, y)) with hq | hq
    · have HW : Hid (whereL p (x, y) p.length 0 false = where12 p (x, y)) := by show _ = _; unfold where12; rw [if_pos ⟨hc, hq⟩]
      have HNq := Lib.hid ((nearQ_iff _).1 hq)
      have HQ := Lib.hid hq
      obtain ⟨r, hr⟩ : ∃ r, where12 p (x, y) = r := ⟨_, rfl⟩
      rw [hr] at HW ⊢
      clear hc hf hnq hq hr
      go_enter Try.func31, Try.ntmps31
      go_wp2_with fail
      refine (HK.out _ (Rep.below hp hw0)).mono ?_
      rintro e w1 ⟨rfl, hb1⟩
      have BQ := BQ.below hb1 BQ.lt
      have hb1 := bstep hw0 hw0.size hb1
      have q0 := BQ.c20
      have q1 := BQ.c21
      go_wp2_with fail
      refine (near12_any x y _).mono ?_
      rintro e w2 ⟨rfl, hb2⟩
      rw [HQ.out]
      have BQ := BQ.below hb2 BQ.lt
      have hb2 := bstep hb1 hb1.size hb2
      clear q0 q1 hb1 hw0
      go_wp2
      go_loopg [5, 6] p.length (fun g bv iv wr => ∃ (i : Nat) (ins : Bool), i + g = p.length ∧ iv = .int .i64 i ∧ bv = .bool ins ∧ Hid (whereL p (x, y) g i ins = r) ∧ Blk wr w.heap.size 74 #[.int .i64 x, .int .i64 y] ∧ Below w.heap.size w wr)
      case atStart => exact ⟨0, false, Nat.zero_add _, rfl, rfl, HW.out, BQ, hb2⟩
      case round =>
        clear BQ hb2
        obtain ⟨i, ins, hi, rfl, rfl, hW, BQ, hb⟩ := hrel
        have hz := hb.size
        by_cases hlt : i < p.length
        · have hli : (i : Int) < (p.length : Int) := by omega
          have hgk : 0 < gk := by omega
          have hne0 : ¬ (p.length : Int) = 0 := by omega
          have hne1 : ¬ p.length = 0 := by omega
          have hne2 : ¬ p = [] := fun e => by rw [e] at hlt; simp at hlt
          obtain ⟨j, hj⟩ : ∃ r, (i + 1) % p.length = r := ⟨_, rfl⟩
          have hjl : j < p.length := by rw [← hj]; exact Nat.mod_lt _ (by omega)
          have hrem : ((i : Int) + 1) % (p.length : Int) = (j : Int) := by rw [← hj]; push_cast; rfl
          have htm : ((i : Int) + 1).tmod (p.length : Int) = (j : Int) := by rw [Int.tmod_eq_emod_of_nonneg (by omega)]; exact hrem
          have hwk : IntKind.i64.wrap ((i : Int) + 1) = (i : Int) + 1 := IntWalk.i64_in _ (by omega)
          have hji : (j : Int) < (p.length : Int) := by omega
          obtain ⟨b, off, ⟨ax, ay⟩, rfl, ha, hbD, c0, c1⟩ := pt_of (Rep.at_ hp hb) hlt
          obtain ⟨b', off', ⟨bx, by_⟩, e, hbb, -, d0, d1⟩ := pt_of (Rep.at_ hp hb) hjl
          injection e with e
          injection e with e5 e6 _
          subst e5 e6
          have hbw : b < w.heap.size := hbD
          have hbl : b < wr.heap.size := by omega
          have hB : Hid (cn p (i + 1) = (bx, by_)) := by show _ = _; rw [← cn_mod, hj, hbb.out]
          have HNa : Hid (NearP (ax, ay)) := by show NearP _; rw [← ha.out]; exact HN.out i
          have HNb : Hid (NearP (bx, by_)) := by show NearP _; rw [← hB.out]; exact HN.out (i + 1)
          have HLT := Lib.hid hlt
          clear hj hbb hlt
          go_upto_region 7 with fail
          go_cut [7, 8] (fun s7 s8 wx => Two wr (ax, ay) (bx, by_) s7 s8 wx)
          case first =>
            go_region_held3 (fun W => b < W.heap.size ∧ W.cell? ⟨b, off + i * 2, none⟩ = some (.int .i64 ax) ∧ W.cell? ⟨b, off + i * 2 + 1, none⟩ = some (.int .i64 ay) ∧ W.cell? ⟨b, off + j * 2, none⟩ = some (.int .i64 bx) ∧ W.cell? ⟨b, off + j * 2 + 1, none⟩ = some (.int .i64 by_))
              (first
                | exact ⟨hbl, c0, c1, d0, d1⟩
                | exact four_of hbl c0 c1 d0 d1 (by (repeat (first | exact Below.refl _ _ | refine Below.drew ?_ | refine Below.alloc ?_ (by simp <;> omega) _ | refine Below.setCell ?_ (by simp <;> omega) _))))
              (fail)
            all_goals
              go_wp2
              go_meet
              first
                | exact two_is (two_blks wr (ax, ay) (bx, by_))
                | exact two_is1 (two_blks wr (bx, by_) (ax, ay))
          case rest =>
            clear c0 c1 d0 d1 hbl hrem htm hwk hji
            obtain ⟨g1, g2, rfl, rfl, -, -, B1, B2, hb2⟩ := hcut
            have BQ := BQ.below hb2 BQ.lt
            have hb := bstep hb hz hb2
            simp only [prArr] at B1 B2
            have k0 := B1.c20
            have k1 := B1.c21
            have k2 := B2.c20
            have k3 := B2.c21
            have q0 := BQ.c20
            have q1 := BQ.c21
            clear hb2 hz
            go_wp2_with fail
            refine (on12_any (x, y) (ax, ay) (bx, by_) _ HNq.out HNa.out HNb.out).mono ?_
            rintro e v1 ⟨rfl, hq⟩
            rcases Bool.eq_false_or_eq_true (onP (x, y) (ax, ay) (bx, by_)) with h1 | h1
            · have HE : Hid (r = 0) := where_on hW.out hgk ha.out hB.out h1
              have hb := bstep hb hb.size hq
              rw [h1]
              clear h1
              go_wp2
              go_ret
              exact ⟨ret_int HE.out.symm, hb⟩
            rw [h1]
            have G1 := Lib.hid h1
            clear h1
            have B1 := B1.below hq B1.lt
            have B2 := B2.below hq B2.lt
            have BQ := BQ.below hq BQ.lt
            have hb := bstep hb hb.size hq
            clear k0 k1 k2 k3 q0 q1 hq
            have k0 := B1.c20
            have k1 := B1.c21
            have k2 := B2.c20
            have k3 := B2.c21
            have q0 := BQ.c20
            have q1 := BQ.c21
            rcases (show (ay ≤ y ∧ by_ ≤ y) ∨ (y < ay ∧ y < by_) ∨ (ay ≤ y ∧ y < by_) ∨ (y < ay ∧ by_ ≤ y) from by omega) with ⟨f1, f2⟩ | ⟨f1, f2⟩ | ⟨f1, f2⟩ | ⟨f1, f2⟩
            · have HST : Hid (stepW (x, y) (ax, ay) (bx, by_) = false) := by
                show _ = _
                unfold stepW
                simp only []
                rw [if_neg (by omega), if_neg (by omega)]
              have HX := where_next hW.out hgk ha.out hB.out G1.out HST.out
              rw [Bool.xor_false] at HX
              have HX := Lib.hid HX
              go_wp2
              go_roundg (gk - 1)
              case measure => omega
              case rel => exact ⟨i + 1, _, by omega, by go_num, rfl, HX.out, BQ, hb⟩
            · have HST : Hid (stepW (x, y) (ax, ay) (bx, by_) = false) := by
                show _ = _
                unfold stepW
                simp only []
                rw [if_neg (by omega), if_neg (by omega)]
              have HX := where_next hW.out hgk ha.out hB.out G1.out HST.out
              rw [Bool.xor_false] at HX
              have HX := Lib.hid HX
              go_wp2
              go_roundg (gk - 1)
              case measure => omega
              case rel => exact ⟨i + 1, _, by omega, by go_num, rfl, HX.out, BQ, hb⟩
            · obtain ⟨t, ht⟩ : ∃ t, t = turnP (ax, ay) (bx, by_) (x, y) := ⟨_, rfl⟩
              have HT := Lib.hid (fun w1 => turn12_any (ax, ay) (bx, by_) (x, y) w1 HNa.out HNb.out HNq.out)
              rw [← ht] at HT
              have HST : Hid (stepW (x, y) (ax, ay) (bx, by_) = decide (0 < t)) := by
                show _ = _
                unfold stepW
                simp only []
                rw [if_pos (by omega), ht]
              clear ht
              go_wp2_with fail
              refine (HT.out _).mono ?_
              rintro e v2 ⟨rfl, hq⟩
              have B1 := B1.below hq B1.lt
              have B2 := B2.below hq B2.lt
              have BQ := BQ.below hq BQ.lt
              have hb := bstep hb hb.size hq
              clear k0 k1 k2 k3 q0 q1 hq
              have k0 := B1.c20
              have k1 := B1.c21
              have k2 := B2.c20
              have k3 := B2.c21
              have q0 := BQ.c20
              have q1 := BQ.c21
              by_cases hs : 0 < t
              · have HX := where_next hW.out hgk ha.out hB.out G1.out HST.out
                rw [decide_eq_true hs, Bool.xor_true] at HX
                have HX := Lib.hid HX
                clear HST
                go_wp2
                go_roundg (gk - 1)
                case measure => omega
                case rel => exact ⟨i + 1, _, by omega, by go_num, rfl, HX.out, BQ, hb⟩
              · have HX := where_next hW.out hgk ha.out hB.out G1.out HST.out
                rw [decide_eq_false hs, Bool.xor_false] at HX
                have HX := Lib.hid HX
                clear HST
                go_wp2
                go_roundg (gk - 1)
                case measure => omega
                case rel => exact ⟨i + 1, _, by omega, by go_num, rfl, HX.out, BQ, hb⟩
            · obtain ⟨t, ht⟩ : ∃ t, t = turnP (ax, ay) (bx, by_) (x, y) := ⟨_, rfl⟩
              have HT := Lib.hid (fun w1 => turn12_any (ax, ay) (bx, by_) (x, y) w1 HNa.out HNb.out HNq.out)
              rw [← ht] at HT
              have HST : Hid (stepW (x, y) (ax, ay) (bx, by_) = decide (t < 0)) := by
                show _ = _
                unfold stepW
                simp only []
                rw [if_neg (by omega), if_pos (by omega), ht]
              clear ht
              go_wp2_with fail
              refine (HT.out _).mono ?_
              rintro e v2 ⟨rfl, hq⟩
              have B1 := B1.below hq B1.lt
              have B2 := B2.below hq B2.lt
              have BQ := BQ.below hq BQ.lt
              have hb := bstep hb hb.size hq
              clear k0 k1 k2 k3 q0 q1 hq
              have k0 := B1.c20
              have k1 := B1.c21
              have k2 := B2.c20
              have k3 := B2.c21
              have q0 := BQ.c20
              have q1 := BQ.c21
              by_cases hs : t < 0
              · have HX := where_next hW.out hgk ha.out hB.out G1.out HST.out
                rw [decide_eq_true hs, Bool.xor_true] at HX
                have HX := Lib.hid HX
                clear HST
                go_wp2
                go_roundg (gk - 1)
                case measure => omega
                case rel => exact ⟨i + 1, _, by omega, by go_num, rfl, HX.out, BQ, hb⟩
              · have HX := where_next hW.out hgk ha.out hB.out G1.out HST.out
                rw [decide_eq_false hs, Bool.xor_false] at HX
                have HX := Lib.hid HX
                clear HST
                go_wp2
                go_roundg (gk - 1)
                case measure => omega
                case rel => exact ⟨i + 1, _, by omega, by go_num, rfl, HX.out, BQ, hb⟩
        · have hli : ¬ (i : Int) < (p.length : Int) := by omega
          have HE : Hid (r = if ins then 1 else -1) := by
            have h := hW.out
            rw [show gk = 0 from by omega, whereL] at h
            exact h.symm
          clear hlt
          cases ins
          · go_wp2
            go_ret
            exact ⟨ret_int HE.out.symm, hb⟩
          · go_wp2
            go_ret
            exact ⟨ret_int HE.out.symm, hb⟩
    · have HW : Hid (where12 p (x, y) = -1) := by show _ = _; unfold where12; rw [if_neg (by rintro ⟨_, h⟩; rw [hq] at h; cases h)]
      have HQ := Lib.hid hq
      rw [HW.out]
      clear hc hf hnq hq
      go_enter Try.func31, Try.ntmps31
      go_wp2_with fail
      refine (HK.out _ (Rep.below hp hw0)).mono ?_
      rintro e w1 ⟨rfl, hb1⟩
      have BQ := BQ.below hb1 BQ.lt
      have hb1 := bstep hw0 hw0.size hb1
      have q0 := BQ.c20
      have q1 := BQ.c21
      go_wp2_with fail
      refine (near12_any x y _).mono ?_
      rintro e w2 ⟨rfl, hb2⟩
      rw [HQ.out]
      have hb2 := bstep hb1 hb1.size hb2
      go_wp2
      go_ret
      exact ⟨rfl, hb2⟩
  · have hc1 : (check12 p != 0) = true := by simp [hc]
    have HA : Hid (where12 p (x, y) = -1) := by show _ = _; unfold where12; rw [if_neg (fun h => hc h.1)]
    generalize check12 p = k at HK hc1
    rw [HA.out]
    clear hc
    go_enter Try.func31, Try.ntmps31
    go_wp2_with fail
    refine (HK.out _ (Rep.below hp hw0)).mono ?_
    rintro e w1 ⟨rfl, hb1⟩
    have hb1 := bstep hw0 hw0.size hb1
    go_wp2
    go_ret
    exact ⟨rfl, hb1⟩
end Go.Proofs.Ytcnkocnajamclaa
