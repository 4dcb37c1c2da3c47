/- The panel line: Ceil of num and of the reference at thousandths, by walking their text. -/
import Derived.Test.YtcnkocnajamclaaPnPlain
import Derived.Test.YtcnkocnajamclaaFlW7
namespace Go.Proofs.Ytcnkocnajamclaa
open Go Go.RowKit
set_option linter.unusedSimpArgs false

def CeilPost (a : Int) (w : World) (e : Ending) (w' : World) : Prop := e = .returned (.tuple #[.int .i64 (ceilK a), .int .i64 0]) ∧ Below w.heap.size w w'
theorem ceilK_of {a q r : Int} (hq : a.tdiv 1000 = q) (hr : a.tmod 1000 = r) (h0 : 0 ≤ a) : 0 ≤ q ∧ 0 ≤ r ∧ r < 1000 ∧ a = 1000 * q + r ∧ ceilK a = if r = 0 then q else q + 1 := by
  have h1 : a.tdiv 1000 = a / 1000 := Int.tdiv_eq_ediv_of_nonneg h0
  have h2 : a.tmod 1000 = a % 1000 := Int.tmod_eq_emod_of_nonneg h0
  rw [h1] at hq
  rw [h2] at hr
  unfold ceilK
  refine ⟨by omega, by omega, by omega, by omega, ?_⟩
  split <;> omega
set_option maxRecDepth 100000 in
theorem pnDiv_any (a q r : Int) (w : World) (hq : a.tdiv 1000 = q) (hr : a.tmod 1000 = r) (hm : ¬ a = -9223372036854775808) (hq1 : 0 ≤ q ∧ q ≤ 8388608) (hr1 : 0 ≤ r ∧ r < 1000) : Calls Try.prog 97 #[.int .i64 a, .int .i64 1000] w fun e w' => e = .returned (.tuple #[.int .i64 q, .int .i64 r, .int .i64 0]) ∧ Below w.heap.size w w' := by
  go_enter Try.func97, Try.ntmps97
  go_wp2
  go_region
  go_wp2
  go_ret3
  exact ⟨rfl, (Below.refl _ _).drew⟩
set_option maxRecDepth 100000 in
theorem pnCeil_any (a : Int) (w : World) (h0 : 0 ≤ a) (h1 : a ≤ 8388608000) : Calls Try.prog 60 #[.int .i64 a, .int .i64 1000] w (CeilPost a w) := by
  obtain ⟨q, hq⟩ : ∃ q, a.tdiv 1000 = q := ⟨_, rfl⟩
  obtain ⟨r, hr⟩ : ∃ r, a.tmod 1000 = r := ⟨_, rfl⟩
  obtain ⟨q0, r0, r1, e, hc⟩ := ceilK_of hq hr h0
  have HC := Lib.hid hc
  have hql : q ≤ 8388608 := by omega
  have hm : ¬ a = -9223372036854775808 := by omega
  clear hc e
  have CD := Lib.hid (pnDiv_any a q r w hq hr hm ⟨q0, hql⟩ ⟨r0, r1⟩)
  by_cases hz : r = 0
  · have HV : Hid (ceilK a = q) := by show _ = _; rw [HC.out, if_pos hz]
    subst hz
    go_enter Try.func60, Try.ntmps60
    go_wp2_with fail
    refine CD.out.mono ?_
    rintro e w1 ⟨rfl, hb⟩
    go_wp2
    go_ret2
    exact ⟨by rw [HV.out]; rfl, hb⟩
  · have HV : Hid (ceilK a = q + 1) := by show _ = _; rw [HC.out, if_neg hz]
    have z0 : (r != 0) = true := ine_t hz
    have z1 : decide (r < 0) = false := decide_eq_false (by omega)
    go_enter Try.func60, Try.ntmps60
    go_wp2_with fail
    refine CD.out.mono ?_
    rintro e w1 ⟨rfl, hb⟩
    go_wp2
    go_ret2
    exact ⟨by rw [HV.out]; rfl, hb⟩
set_option maxRecDepth 100000 in
theorem rfCeil_any (a : Int) (w : World) (h0 : 0 ≤ a) (h1 : a ≤ 8388608000) : Calls Try.prog 93 #[.int .i64 a, .int .i64 1000] w (CeilPost a w) := by
  obtain ⟨q, hq⟩ : ∃ q, a.tdiv 1000 = q := ⟨_, rfl⟩
  obtain ⟨r, hr⟩ : ∃ r, a.tmod 1000 = r := ⟨_, rfl⟩
  obtain ⟨q0, r0, r1, e, hc⟩ := ceilK_of hq hr h0
  have HC := Lib.hid hc
  have hql : q ≤ 8388608 := by omega
  have hm : ¬ a = -9223372036854775808 := by omega
  have ha0 : ¬ a < 0 := by omega
  clear hc e
  by_cases hz : r = 0
  · have HV : Hid (ceilK a = q) := by show _ = _; rw [HC.out, if_pos hz]
    subst hz
    go_enter Try.func93, Try.ntmps93
    go_wp2
    go_ret2
    exact ⟨by rw [HV.out]; rfl, Below.refl _ _⟩
  · have HV : Hid (ceilK a = q + 1) := by show _ = _; rw [HC.out, if_neg hz]
    have z0 : (r != 0) = true := ine_t hz
    go_enter Try.func93, Try.ntmps93
    go_wp2
    go_ret2
    exact ⟨by rw [HV.out]; rfl, Below.refl _ _⟩
end Go.Proofs.Ytcnkocnajamclaa
