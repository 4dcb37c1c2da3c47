/- Chapter 34: the edges' ends, by walking their text. -/
import Derived.Test.YtgiphdjblnfjcaaWsW1
namespace Go.Proofs.Ytgiphdjblnfjcaa
open Go Go.RowKit

def inE (n : Nat) (a b : Int) : Prop := 0 ≤ a ∧ a < (n : Int) ∧ 0 ≤ b ∧ b < (n : Int)
theorem not_inE {n : Nat} {a b : Int} (h : ¬ inE n a b) : badE n (a, b) = 9 := badE_range (by unfold inE at h; omega)
theorem inE_same {n : Nat} {a b : Int} (h : inE n a b) (he : a = b) : badE n (a, b) = 2 := badE_same (by unfold inE at h; omega) he
theorem inE_ok {n : Nat} {a b : Int} (h : inE n a b) (he : a ≠ b) : badE n (a, b) = 0 := badE_ok (by unfold inE at h; omega) he
set_option maxHeartbeats 400000 in
theorem ends_any (v : Value) (before : List (Int × Int)) (n : Nat) (w : World) (hx : prR.slice.R w (Lt w) before [v]) :
    Calls Try.prog 47 #[.int .i64 n, v] w (Ret (.int .i64 (endsF n before)) w) := by
  obtain ⟨A, c, rfl, hm, _⟩ := slice_inv hx
  go_enter Try.func47, Try.ntmps47
  go_wp2
  go_loopw [9] (fun i wr => ∃ k : Nat, k ≤ before.length ∧ i = .int .i64 k ∧ Hid (endsF n before = endsF n (before.drop k)) ∧ Below w.heap.size w wr) (fun i _ => before.length - (intOf i).toNat)
  case atStart => exact ⟨0, Nat.zero_le _, rfl, rfl, Below.refl _ _⟩
  case round =>
    obtain ⟨k, hk, rfl, he, hb⟩ := hrel
    have hz := hb.size
    by_cases hlt : k < before.length
    · obtain ⟨b, off, p, s, rfl, hxk, -, c0, c1, -⟩ := pairs_at (Rep.at_ hx hb) hlt
      by_cases hin : inE n p s
      · by_cases hps : p = s
        · have HE := Lib.hid (endsF_stop he.out hxk.out (inE_same hin hps) (by omega))
          have hb1 : (p == s) = true := ieq_t hps
          obtain ⟨h1, h2, h3, h4⟩ := hin
          clear hps
          go_wp2
          go_ret
          exact ⟨ret_int HE.out.symm, hb.alloc hz _⟩
        · have HE := Lib.hid (endsF_next he.out hxk.out (inE_ok hin hps))
          have hb1 : (p == s) = false := ieq_f hps
          obtain ⟨h1, h2, h3, h4⟩ := hin
          clear hps
          go_wp2
          go_roundw
          case rel => exact ⟨k + 1, by omega, by go_num, HE.out, hb.alloc hz _⟩
          case measure => simp [intOf]; omega
      · have HE := Lib.hid (endsF_stop he.out hxk.out (not_inE hin) (by omega))
        unfold inE at hin
        rcases or4 hin with h5 | ⟨h5, h6⟩ | ⟨h5, h6, h7⟩ | ⟨h5, h6, h7, h8⟩
        all_goals
          clear hin
          go_wp2
          go_ret
          exact ⟨ret_int HE.out.symm, hb.alloc hz _⟩
    · go_wp2
      go_ret
      exact ⟨ret_int (endsF_end he.out (by omega)).symm, hb⟩
set_option maxHeartbeats 400000 in
theorem refEnds_any (v : Value) (before : List (Int × Int)) (n : Nat) (w : World) (hx : prR.slice.R w (Lt w) before [v]) :
    Calls Try.prog 48 #[.int .i64 n, v] w fun e w' => e = .returned (.int .i64 (endsF n before)) ∧ Qt w w' := by
  obtain ⟨A, c, rfl, hm, _⟩ := slice_inv hx
  go_enter Try.func48, Try.ntmps48
  go_wp2
  go_loopw [5] (fun i wr => ∃ k : Nat, k ≤ before.length ∧ i = .int .i64 k ∧ Hid (endsF n before = endsF n (before.drop k)) ∧ Qt w wr) (fun i _ => before.length - (intOf i).toNat)
  case atStart => exact ⟨0, Nat.zero_le _, rfl, rfl, Qt.refl _⟩
  case round =>
    obtain ⟨k, hk, rfl, he, hb⟩ := hrel
    by_cases hlt : k < before.length
    · obtain ⟨b, off, p, s, rfl, hxk, -, c0, c1, -⟩ := pairs_at (hb.rep hx) hlt
      by_cases hin : inE n p s
      · by_cases hps : p = s
        · have HE := Lib.hid (endsF_stop he.out hxk.out (inE_same hin hps) (by omega))
          have hb1 : (p == s) = true := ieq_t hps
          obtain ⟨h1, h2, h3, h4⟩ := hin
          clear hps
          go_wp2
          go_quiet (fail)
          go_wp2
          go_ret
          exact ⟨ret_int HE.out.symm, hb.drewN _⟩
        · have HE := Lib.hid (endsF_next he.out hxk.out (inE_ok hin hps))
          have hb1 : (p == s) = false := ieq_f hps
          obtain ⟨h1, h2, h3, h4⟩ := hin
          clear hps
          go_wp2
          go_quiet (fail)
          go_wp2
          go_roundw
          case rel => exact ⟨k + 1, by omega, by go_num, HE.out, hb.drewN _⟩
          case measure => simp [intOf]; omega
      · have HE := Lib.hid (endsF_stop he.out hxk.out (not_inE hin) (by omega))
        unfold inE at hin
        rcases or4 hin with h5 | ⟨h5, h6⟩ | ⟨h5, h6, h7⟩ | ⟨h5, h6, h7, h8⟩
        all_goals
          clear hin
          go_wp2
          go_quiet (fail)
          go_wp2
          go_ret
          exact ⟨ret_int HE.out.symm, hb.drewN _⟩
    · go_wp2
      go_ret
      exact ⟨ret_int (endsF_end he.out (by omega)).symm, hb⟩
end Go.Proofs.Ytgiphdjblnfjcaa
