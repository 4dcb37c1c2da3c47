/- Chapter 12: Turn, sign, On and Meet of near points, by walking the reference's text. -/
import Derived.Test.YtcnkocnajamclaaTorW1
import Derived.Test.YtcnkocnajamclaaTopRing
namespace Go.Proofs.Ytcnkocnajamclaa
open Go Go.RowKit

def NearP (q : Pt) : Prop := (-32768 ≤ q.1 ∧ q.1 ≤ 32768) ∧ -32768 ≤ q.2 ∧ q.2 ≤ 32768
theorem pmul_bd {a b : Int} (ha : -65536 ≤ a ∧ a ≤ 65536) (hb : -65536 ≤ b ∧ b ≤ 65536) : -4294967296 ≤ a * b ∧ a * b ≤ 4294967296 := by
  have h1 : a.natAbs ≤ 65536 := by omega
  have h2 : b.natAbs ≤ 65536 := by omega
  have h3 : (a * b).natAbs ≤ 65536 * 65536 := by rw [Int.natAbs_mul]; exact Nat.mul_le_mul h1 h2
  omega
set_option maxHeartbeats 400000 in
theorem turn12_any (a b c : Pt) (w : World) (ha : NearP a) (hb : NearP b) (hc : NearP c) :
    Calls Try.prog 67 #[.agg (prArr a), .agg (prArr b), .agg (prArr c)] w (Ret (.int .i64 (turnP a b c)) w) := by
  obtain ⟨a1, a2⟩ := a
  obtain ⟨b1, b2⟩ := b
  obtain ⟨c1, c2⟩ := c
  obtain ⟨⟨h1, h2⟩, h3, h4⟩ := ha
  obtain ⟨⟨h5, h6⟩, h7, h8⟩ := hb
  obtain ⟨⟨h9, g1⟩, g2, g3⟩ := hc
  simp only [prArr, turnP] at h1 h2 h3 h4 h5 h6 h7 h8 h9 g1 g2 g3 ⊢
  obtain ⟨m1, m2⟩ := pmul_bd (a := b1 - a1) (b := c2 - a2) (by omega) (by omega)
  obtain ⟨m3, m4⟩ := pmul_bd (a := b2 - a2) (b := c1 - a1) (by omega) (by omega)
  go_enter Try.func67, Try.ntmps67
  go_wp2
  all_goals
    go_ret
    exact ⟨ret_int (by omega), (((Below.refl _ _).alloc (Nat.le_refl _) _).alloc (by simp) _).alloc (by simp; omega) _⟩
set_option maxHeartbeats 400000 in
theorem sign12_any (n : Int) (w : World) : Calls Try.prog 113 #[.int .i64 n] w (Ret (.int .i64 (signP n)) w) := by
  rcases (show n < 0 ∨ (¬ n < 0 ∧ 0 < n) ∨ (¬ n < 0 ∧ ¬ 0 < n) from by omega) with h | ⟨h, h1⟩ | ⟨h, h1⟩
  · have HS : Hid (signP n = -1) := by show signP n = -1; unfold signP; rw [if_pos h]
    rw [HS.out]
    go_enter Try.func113, Try.ntmps113
    go_wp2
    go_ret
    exact ⟨rfl, Below.refl _ _⟩
  · have HS : Hid (signP n = 1) := by show signP n = 1; unfold signP; rw [if_neg h, if_pos h1]
    rw [HS.out]
    go_enter Try.func113, Try.ntmps113
    go_wp2
    go_ret
    exact ⟨rfl, Below.refl _ _⟩
  · have HS : Hid (signP n = 0) := by show signP n = 0; unfold signP; rw [if_neg h, if_neg h1]
    rw [HS.out]
    go_enter Try.func113, Try.ntmps113
    go_wp2
    go_ret
    exact ⟨rfl, Below.refl _ _⟩
theorem on_eq {q a b : Pt} {t : Int} (h : turnP a b q = t) : onP q a b = (t == 0 && decide (min a.1 b.1 ≤ q.1) && decide (q.1 ≤ max a.1 b.1) && decide (min a.2 b.2 ≤ q.2) && decide (q.2 ≤ max a.2 b.2)) := by unfold onP; rw [h]
set_option maxHeartbeats 800000 in
theorem on12_any (q a b : Pt) (w : World) (hq : NearP q) (ha : NearP a) (hb : NearP b) :
    Calls Try.prog 66 #[.agg (prArr q), .agg (prArr a), .agg (prArr b)] w (Ret (.bool (onP q a b)) w) := by
  have HT : ∀ w1, Calls Try.prog 67 #[.agg (prArr a), .agg (prArr b), .agg (prArr q)] w1 (Ret (.int .i64 (turnP a b q)) w1) := fun w1 => turn12_any a b q w1 ha hb hq
  have HO := Lib.hid (on_eq (q := q) (a := a) (b := b) rfl)
  generalize turnP a b q = t at HT HO
  obtain ⟨q1, q2⟩ := q
  obtain ⟨a1, a2⟩ := a
  obtain ⟨b1, b2⟩ := b
  clear hq ha hb
  simp only [prArr] at HT HO ⊢
  have HT := Lib.hid HT
  go_enter Try.func66, Try.ntmps66
  go_wp2_with fail
  refine (HT.out _).mono ?_
  rintro e w1 ⟨rfl, hb1⟩
  have hbb := (((Below.refl w.heap.size w).alloc (Nat.le_refl _) (.cells #[.int .i64 q1, .int .i64 q2] 74)).alloc (by simp) (.cells #[.int .i64 a1, .int .i64 a2] 74)).alloc (by simp; omega) (.cells #[.int .i64 b1, .int .i64 b2] 74) |>.trans (hb1.mono (by simp; omega))
  have hr := hbb
  have hbA : Below (w.alloc (.cells #[.int .i64 q1, .int .i64 q2] 74)).heap.size (w.alloc (.cells #[.int .i64 q1, .int .i64 q2] 74)) w1 := ((Below.refl _ _).alloc (Nat.le_refl _) (.cells #[.int .i64 a1, .int .i64 a2] 74)).alloc (by simp) (.cells #[.int .i64 b1, .int .i64 b2] 74) |>.trans (hb1.mono (by simp))
  have hbB : Below ((w.alloc (.cells #[.int .i64 q1, .int .i64 q2] 74)).alloc (.cells #[.int .i64 a1, .int .i64 a2] 74)).heap.size ((w.alloc (.cells #[.int .i64 q1, .int .i64 q2] 74)).alloc (.cells #[.int .i64 a1, .int .i64 a2] 74)) w1 := (Below.refl _ _).alloc (Nat.le_refl _) (.cells #[.int .i64 b1, .int .i64 b2] 74) |>.trans (hb1.mono (by simp))
  have B0 := (Blk.new w 74 #[.int .i64 q1, .int .i64 q2]).below hbA (by simp)
  have B1 := (Blk.new (w.alloc (.cells #[.int .i64 q1, .int .i64 q2] 74)) 74 #[.int .i64 a1, .int .i64 a2]).below hbB (by simp)
  have B2 := (Blk.new ((w.alloc (.cells #[.int .i64 q1, .int .i64 q2] 74)).alloc (.cells #[.int .i64 a1, .int .i64 a2] 74)) 74 #[.int .i64 b1, .int .i64 b2]).below hb1 (by simp)
  have i0 := B0.cell 0
  have i1 := B0.cell 1
  have j0 := B1.cell 0
  have j1 := B1.cell 1
  have k0 := B2.cell 0
  have k1 := B2.cell 1
  simp only [List.getElem?_toArray, List.getElem?_cons_zero, List.getElem?_cons_succ, World.size_alloc] at i0 i1 j0 j1 k0 k1
  clear B0 B1 B2 hbA hbB hbb hb1
  by_cases c0 : t = 0
  · subst c0
    go_wp2
    all_goals
      go_ret
      refine ⟨ret_bool ?_, hr⟩
      rw [HO.out, Bool.eq_iff_iff]
      simp only [Bool.and_eq_true, decide_eq_true_eq, beq_iff_eq, Bool.false_eq_true, false_iff, true_and, eq_self]
      omega
  · have hz : (t == 0) = false := by simp [c0]
    have HR : Hid (onP (q1, q2) (a1, a2) (b1, b2) = false) := by show _ = _; rw [HO.out]; simp [c0]
    go_wp2
    go_ret
    exact ⟨ret_bool HR.out.symm, hr⟩
end Go.Proofs.Ytcnkocnajamclaa
