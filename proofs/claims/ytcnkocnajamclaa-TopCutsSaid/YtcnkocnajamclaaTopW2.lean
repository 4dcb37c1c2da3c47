/- Chapter 12: near points. -/
import Derived.Test.YtcnkocnajamclaaTopW1
namespace Go.Proofs.Ytcnkocnajamclaa
open Go Go.RowKit

def nearQ (q : Pt) : Bool := decide (-32768 ≤ q.1) && decide (q.1 ≤ 32768) && decide (-32768 ≤ q.2) && decide (q.2 ≤ 32768)
theorem nearQ_iff (q : Pt) : nearQ q = true ↔ NearP q := by
  unfold nearQ NearP
  simp only [Bool.and_eq_true, decide_eq_true_eq]
  omega
set_option maxHeartbeats 400000 in
theorem near12_any (x y : Int) (w : World) :
    Calls Try.prog 65 #[.agg #[.int .i64 x, .int .i64 y]] w (Ret (.bool (nearQ (x, y))) w) := by
  go_enter Try.func65, Try.ntmps65
  go_wp2
  all_goals
    go_ret
    refine ⟨ret_bool ?_, (Below.refl _ _).alloc (Nat.le_refl _) _⟩
    unfold nearQ
    rw [Bool.eq_iff_iff]
    simp only [Bool.and_eq_true, decide_eq_true_eq, Bool.false_eq_true, false_iff]
    omega
set_option maxHeartbeats 400000 in
/-- all points are near. -/
theorem near12s_any (A : Option Addr) (n c : Nat) (p : List Pt) (w : World) (hp : ptsR.R w (Lt w) p [.slice A n c]) :
    Calls Try.prog 62 #[.slice A n c] w (Ret (.bool (p.all nearQ)) w) := by
  obtain ⟨rfl, hm⟩ := slice_len hp
  go_enter Try.func62, Try.ntmps62
  go_wp2
  go_loopw [3] (fun j wr => ∃ k : Nat, k ≤ p.length ∧ j = .int .i64 k ∧ Hid ((p.take k).all nearQ = true) ∧ Below w.heap.size w wr) (fun j _ => p.length - (intOf j).toNat)
  case atStart => exact ⟨0, Nat.zero_le _, rfl, rfl, Below.refl _ _⟩
  case round =>
    obtain ⟨k, hk, rfl, hall, hb⟩ := hrel
    have hz := hb.size
    by_cases hlt : k < p.length
    · obtain ⟨b, off, x, y, rfl, hx, -, c0, c1, -⟩ := pairs_at (Rep.at_ hp hb) hlt
      rcases Bool.eq_false_or_eq_true (nearQ (x, y)) with hq | hq
      · have HQ := Lib.hid hq
        go_wp2_with fail
        refine (near12_any x y _).mono ?_
        rintro e w1 ⟨rfl, hb1⟩
        rw [HQ.out]
        have hb2 := hb.trans (hb1.mono hz)
        clear hq
        go_wp2
        go_roundw
        case rel => exact ⟨k + 1, by omega, by go_num, all_take_succ hall.out hx.out HQ.out, hb2⟩
        case measure => simp [intOf]; omega
      · have HQ := Lib.hid hq
        have HA := Lib.hid (all_bad hx.out HQ.out)
        go_wp2_with fail
        refine (near12_any x y _).mono ?_
        rintro e w1 ⟨rfl, hb1⟩
        rw [HQ.out]
        have hb2 := hb.trans (hb1.mono hz)
        clear hq
        go_wp2
        go_ret
        exact ⟨ret_bool HA.out.symm, hb2⟩
    · have h3 := hall.out
      rw [List.take_of_length_le (by omega)] at h3
      have HK := Lib.hid h3
      clear h3
      go_wp2
      go_ret
      exact ⟨ret_bool HK.out.symm, hb⟩
end Go.Proofs.Ytcnkocnajamclaa
