/- Chapter 01: Ceil of the reference, and Round, by walking their text. -/
import Derived.Test.YticohjhohbkmaaaDoorNumW2
namespace Go.Proofs.YticohjhohbkmaaaDoor
open Go Go.RowKit

theorem wrap_left {a m z : Int} (h : z = a - m) (h0 : -9223372036854775808 ≤ m) (h1 : m ≤ 9223372036854775807) : wrap64 (a - wrap64 z) = m := by
  subst h; unfold wrap64; omega

set_option maxHeartbeats 1000000 in
theorem refCeil_any (a b : Int) (w : World) (h0 : -9223372036854775808 ≤ a) (h1 : a ≤ 9223372036854775807) (hb0 : -9223372036854775808 ≤ b) (hb1 : b ≤ 9223372036854775807) :
    Calls Tryd.prog 15 #[.int .i64 a, .int .i64 b] w (QRet (ceilF a b).1 (ceilF a b).2 w) := by
  by_cases hb : b = 0
  · subst hb
    have HZ := Lib.hid (fun w => refFloor_any a 0 w h0 h1 (by omega) (by omega))
    rw [show floorF a 0 = (0, 22) from rfl] at HZ
    go_enter Tryd.func15, Tryd.ntmps15
    go_wp2_with (go_at_call 13; refine (HZ.out _).mono ?_; rintro e w1 ⟨rfl, hq⟩)
    go_ret2
    exact ⟨rfl, hq⟩
  by_cases hn : Bad a b
  · obtain ⟨rfl, rfl⟩ := hn
    have HZ := Lib.hid (fun w => refFloor_any (-9223372036854775808) (-1) w (by omega) (by omega) (by omega) (by omega))
    rw [show floorF (-9223372036854775808) (-1) = (0, 21) from rfl] at HZ
    go_enter Tryd.func15, Tryd.ntmps15
    go_wp2_with (go_at_call 13; refine (HZ.out _).mono ?_; rintro e w1 ⟨rfl, hq⟩)
    go_ret2
    exact ⟨rfl, hq⟩
  have HF0 : ceilF a b = (if lft a b = 0 then fl a b else fl a b + 1, 0) := by unfold ceilF; rw [if_neg hb, if_neg (show ¬ (a = -9223372036854775808 ∧ b = -1) from hn)]
  have hd0 := fun w => refFloor_any a b w h0 h1 hb0 hb1
  have HG : floorF a b = (fl a b, 0) := by unfold floorF; rw [if_neg hb, if_neg (show ¬ (a = -9223372036854775808 ∧ b = -1) from hn)]
  rw [HG] at hd0
  have eb : (b == 0) = false := ieq_f hb
  obtain ⟨q, r, f, m, hq, hr, hf, hm, ⟨t1, t2, t3, t4⟩, hc, -, -⟩ := q_pack h0 h1 hb hn
  rw [hf, hm] at HF0
  rw [hf] at hd0
  have hd := Lib.hid hd0
  clear hd0 hq hf hm HG
  rcases hc with ⟨c0, c1, c2⟩ | ⟨c0, c1, c2, -⟩
  · have e1 : (r != 0) = false := ine_f c0
    rw [if_pos c2] at HF0
    have HF := Lib.hid HF0
    clear c0 HF0 c1 c2
    go_enter Tryd.func15, Tryd.ntmps15
    go_wp2_with (go_at_call 13; refine (hd.out _).mono ?_; rintro e w1 ⟨rfl, hq⟩)
    go_ret2
    exact ⟨ret_2 (by rw [HF.out]) (by rw [HF.out]), hq⟩
  · have e1 : (r != 0) = true := ine_t c0
    rw [if_neg c1] at HF0
    have HF := Lib.hid HF0
    clear c0 HF0
    go_enter Tryd.func15, Tryd.ntmps15
    go_wp2_with (go_at_call 13; refine (hd.out _).mono ?_; rintro e w1 ⟨rfl, hq⟩)
    go_ret2
    exact ⟨ret_2 (by rw [HF.out]) (by rw [HF.out]), hq⟩

set_option maxHeartbeats 1000000 in
theorem round_any (a b : Int) (w : World) (h0 : -9223372036854775808 ≤ a) (h1 : a ≤ 9223372036854775807) (hb0 : -9223372036854775808 ≤ b) (hb1 : b ≤ 9223372036854775807) :
    Calls Tryd.prog 16 #[.int .i64 a, .int .i64 b] w (QRet (roundF a b).1 (roundF a b).2 w) := by
  by_cases hb : b = 0
  · subst hb
    have HZ := Lib.hid (fun w => floor_any a 0 w h0 h1 (by omega) (by omega))
    rw [show floorF a 0 = (0, 22) from rfl] at HZ
    go_enter Tryd.func16, Tryd.ntmps16
    go_wp2_with (go_at_call 12; refine (HZ.out _).mono ?_; rintro e w1 ⟨rfl, hq⟩)
    go_ret2
    exact ⟨rfl, hq⟩
  by_cases hn : Bad a b
  · obtain ⟨rfl, rfl⟩ := hn
    have HZ := Lib.hid (fun w => floor_any (-9223372036854775808) (-1) w (by omega) (by omega) (by omega) (by omega))
    rw [show floorF (-9223372036854775808) (-1) = (0, 21) from rfl] at HZ
    go_enter Tryd.func16, Tryd.ntmps16
    go_wp2_with (go_at_call 12; refine (HZ.out _).mono ?_; rintro e w1 ⟨rfl, hq⟩)
    go_ret2
    exact ⟨rfl, hq⟩
  have HF0 : roundF a b = (if b.natAbs ≤ 2 * (lft a b).natAbs then fl a b + 1 else fl a b, 0) := by unfold roundF; rw [if_neg hb, if_neg (show ¬ (a = -9223372036854775808 ∧ b = -1) from hn)]
  have hd0 := fun w => floor_any a b w h0 h1 hb0 hb1
  have HG : floorF a b = (fl a b, 0) := by unfold floorF; rw [if_neg hb, if_neg (show ¬ (a = -9223372036854775808 ∧ b = -1) from hn)]
  rw [HG] at hd0
  obtain ⟨q, r, f, m, hq, hr, hf, hm, ⟨t1, t2, t3, t4⟩, hc, hl, he⟩ := q_pack h0 h1 hb hn
  rw [hf, hm] at HF0
  rw [hf] at hd0
  have hd := Lib.hid hd0
  have hm0 : -9223372036854775808 ≤ m := by omega
  have hm1 : m ≤ 9223372036854775807 := by omega
  have hc2 : m ≠ 0 → f + 1 ≤ 9223372036854775807 := by omega
  have hw := wrap_left he hm0 hm1
  have M1 := Lib.hid (fun w => mag_any m w hm0 hm1)
  have M2 := Lib.hid (fun w => mag_any b w hb0 hb1)
  have hlt : m.natAbs < b.natAbs := by omega
  have hx : b.natAbs ≤ 9223372036854775808 := by omega
  clear hd0 hq hr hf hm HG hc hl he
  by_cases hrd : b.natAbs ≤ 2 * m.natAbs
  · rw [if_pos hrd] at HF0
    have hf1 : f + 1 ≤ 9223372036854775807 := hc2 (by omega)
    have HF := Lib.hid HF0
    clear HF0 hc2
    generalize m.natAbs = y at *
    generalize b.natAbs = x at *
    have hrd' : (x : Int) - (y : Int) ≤ (y : Int) := by omega
    clear hrd
    go_enter Tryd.func16, Tryd.ntmps16
    go_wp2_with (first | (go_at_call 12; refine (hd.out _).mono ?_; rintro e w1 ⟨rfl, hq⟩) | (go_at_call 31; first | ((with_reducible refine (M1.out _).mono ?_); rintro e w2 ⟨rfl, rfl⟩) | ((with_reducible refine (M2.out _).mono ?_); rintro e w2 ⟨rfl, rfl⟩)))
    go_ret2
    exact ⟨ret_2 (by rw [HF.out]) (by rw [HF.out]), hq⟩
  · rw [if_neg hrd] at HF0
    have HF := Lib.hid HF0
    clear HF0 hc2
    generalize m.natAbs = y at *
    generalize b.natAbs = x at *
    have hrd' : ¬ (x : Int) - (y : Int) ≤ (y : Int) := by omega
    clear hrd
    go_enter Tryd.func16, Tryd.ntmps16
    go_wp2_with (first | (go_at_call 12; refine (hd.out _).mono ?_; rintro e w1 ⟨rfl, hq⟩) | (go_at_call 31; first | ((with_reducible refine (M1.out _).mono ?_); rintro e w2 ⟨rfl, rfl⟩) | ((with_reducible refine (M2.out _).mono ?_); rintro e w2 ⟨rfl, rfl⟩)))
    go_ret2
    exact ⟨ret_2 (by rw [HF.out]) (by rw [HF.out]), hq⟩

set_option maxHeartbeats 1000000 in
theorem refRound_any (a b : Int) (w : World) (h0 : -9223372036854775808 ≤ a) (h1 : a ≤ 9223372036854775807) (hb0 : -9223372036854775808 ≤ b) (hb1 : b ≤ 9223372036854775807) :
    Calls Tryd.prog 17 #[.int .i64 a, .int .i64 b] w (QRet (roundF a b).1 (roundF a b).2 w) := by
  by_cases hb : b = 0
  · subst hb
    have HZ := Lib.hid (fun w => refFloor_any a 0 w h0 h1 (by omega) (by omega))
    rw [show floorF a 0 = (0, 22) from rfl] at HZ
    go_enter Tryd.func17, Tryd.ntmps17
    go_wp2_with (go_at_call 13; refine (HZ.out _).mono ?_; rintro e w1 ⟨rfl, hq⟩)
    go_ret2
    exact ⟨rfl, hq⟩
  by_cases hn : Bad a b
  · obtain ⟨rfl, rfl⟩ := hn
    have HZ := Lib.hid (fun w => refFloor_any (-9223372036854775808) (-1) w (by omega) (by omega) (by omega) (by omega))
    rw [show floorF (-9223372036854775808) (-1) = (0, 21) from rfl] at HZ
    go_enter Tryd.func17, Tryd.ntmps17
    go_wp2_with (go_at_call 13; refine (HZ.out _).mono ?_; rintro e w1 ⟨rfl, hq⟩)
    go_ret2
    exact ⟨rfl, hq⟩
  have HF0 : roundF a b = (if b.natAbs ≤ 2 * (lft a b).natAbs then fl a b + 1 else fl a b, 0) := by unfold roundF; rw [if_neg hb, if_neg (show ¬ (a = -9223372036854775808 ∧ b = -1) from hn)]
  have hd0 := fun w => refFloor_any a b w h0 h1 hb0 hb1
  have HG : floorF a b = (fl a b, 0) := by unfold floorF; rw [if_neg hb, if_neg (show ¬ (a = -9223372036854775808 ∧ b = -1) from hn)]
  rw [HG] at hd0
  obtain ⟨q, r, f, m, hq, hr, hf, hm, ⟨t1, t2, t3, t4⟩, hc, hl, he⟩ := q_pack h0 h1 hb hn
  rw [hf, hm] at HF0
  rw [hf] at hd0
  have hd := Lib.hid hd0
  have hm0 : -9223372036854775808 ≤ m := by omega
  have hm1 : m ≤ 9223372036854775807 := by omega
  have hc2 : m ≠ 0 → f + 1 ≤ 9223372036854775807 := by omega
  have hw := wrap_left he hm0 hm1
  clear hd0 hq hr hf hm HG hc he
  by_cases hrd : b.natAbs ≤ 2 * m.natAbs
  · rw [if_pos hrd] at HF0
    have hf1 : f + 1 ≤ 9223372036854775807 := hc2 (by omega)
    have HF := Lib.hid HF0
    clear HF0 hc2
    rcases hl with ⟨l1, l2, l3⟩ | ⟨l1, l2, l3⟩
    · have k1 : b - m ≤ m := by omega
      go_enter Tryd.func17, Tryd.ntmps17
      go_wp2_with (go_at_call 13; refine (hd.out _).mono ?_; rintro e w1 ⟨rfl, hq⟩)
      go_ret2
      exact ⟨ret_2 (by rw [HF.out]) (by rw [HF.out]), hq⟩
    · have k1 : m ≤ b - m := by omega
      have k2 : ¬ 0 < b := by omega
      go_enter Tryd.func17, Tryd.ntmps17
      go_wp2_with (go_at_call 13; refine (hd.out _).mono ?_; rintro e w1 ⟨rfl, hq⟩)
      go_ret2
      exact ⟨ret_2 (by rw [HF.out]) (by rw [HF.out]), hq⟩
  · rw [if_neg hrd] at HF0
    have HF := Lib.hid HF0
    clear HF0 hc2
    rcases hl with ⟨l1, l2, l3⟩ | ⟨l1, l2, l3⟩
    · have k1 : ¬ b - m ≤ m := by omega
      have k2 : ¬ b < 0 := by omega
      go_enter Tryd.func17, Tryd.ntmps17
      go_wp2_with (go_at_call 13; refine (hd.out _).mono ?_; rintro e w1 ⟨rfl, hq⟩)
      go_ret2
      exact ⟨ret_2 (by rw [HF.out]) (by rw [HF.out]), hq⟩
    · have k1 : ¬ m ≤ b - m := by omega
      have k2 : ¬ 0 < b := by omega
      go_enter Tryd.func17, Tryd.ntmps17
      go_wp2_with (go_at_call 13; refine (hd.out _).mono ?_; rintro e w1 ⟨rfl, hq⟩)
      go_ret2
      exact ⟨ret_2 (by rw [HF.out]) (by rw [HF.out]), hq⟩
end Go.Proofs.YticohjhohbkmaaaDoor
