/- Chapter 33: what the program's and the reference's functions do, by walking their text: Check, isOrder. -/
import Derived.Test.YtgiphdjblnfjcaaChecked
import Derived.Test.YtgiphdjblnfjcaaBase
import Derived.Test.YtgiphdjblnfjcaaDistSpec
namespace Go.Proofs.Ytgiphdjblnfjcaa
open Go Go.RowKit

def beadR : Rep Bead := (Rep.int.pair Rep.int).iso fun b => (b.pos, b.shr)
theorem beads_at {w : World} {D : Nat → Prop} {l : List Bead} {A : Option Addr} {n c : Nat} (h : beadR.slice.R w D l [.slice A n c]) {k : Nat} (hk : k < l.length) :
    ∃ b off p s, A = some ⟨b, off, none⟩ ∧ Hid (l[k]? = some ⟨p, s⟩) ∧ D b ∧ w.cell? ⟨b, off + k * 2, none⟩ = some (.int .i64 p) ∧ w.cell? ⟨b, off + k * 2 + 1, none⟩ = some (.int .i64 s) ∧
      -9223372036854775808 ≤ p ∧ p ≤ 9223372036854775807 ∧ -9223372036854775808 ≤ s ∧ s ≤ 9223372036854775807 := by
  obtain ⟨A', c', e, _, _, h3⟩ := h
  injection e with e _
  injection e with e1 e2 e3
  subst e1
  obtain ⟨b, off, es, rfl, hb, ⟨c1, c2, rfl, ⟨rfl, h1, h1'⟩, ⟨rfl, h2, h2'⟩⟩, hc⟩ := h3 k hk
  exact ⟨b, off, _, _, rfl, List.getElem?_eq_getElem hk, hb, hc 0 (by decide), hc 1 (by decide), h1, h1', h2, h2'⟩
set_option maxHeartbeats 400000 in
theorem from_any (n lo hi : Int) (w : World) :
    Calls Try.prog 39 #[.int .i64 n, .int .i64 lo, .int .i64 hi] w fun e w' => e = .returned (.bool (fromB n lo hi)) ∧ w = w' := by
  by_cases h1 : lo ≤ n
  · by_cases h2 : n ≤ hi
    all_goals
      go_enter Try.func39, Try.ntmps39
      go_wp2
      go_ret
      exact ⟨by simp [fromB, h1, h2], rfl⟩
  · go_enter Try.func39, Try.ntmps39
    go_wp2
    go_ret
    exact ⟨by simp [fromB]; intro h; omega, rfl⟩

theorem checkF_long {l : List Bead} {r s : Int} (h : 32 < l.length) : checkF l r s = 4 := by simp [checkF, h]
theorem checkF_restr {l : List Bead} {r s : Int} (h : ¬ 32 < l.length) (h' : restrOk r s = false) : checkF l r s = 9 := by simp [checkF, h, h']
theorem checkF_bead {l : List Bead} {r s : Int} (h : ¬ 32 < l.length) (h' : l.all okBead = false) : checkF l r s = 9 := by simp only [checkF, h, h']; simp
theorem checkF_yes {l : List Bead} {r s : Int} (h : ¬ 32 < l.length) (h' : restrOk r s = true) (h'' : l.all okBead = true) : checkF l r s = 0 := by simp [checkF, h, h', h'']

theorem fromB_iff {n lo hi : Int} : fromB n lo hi = true ↔ lo ≤ n ∧ n ≤ hi := by simp [fromB]
set_option maxHeartbeats 400000 in
theorem check_any (v : Value) (l : List Bead) (reach stiff : Int) (w : World) (hs : beadR.slice.R w (Lt w) l [v]) :
    Calls Try.prog 35 #[v, .agg #[.int .i64 reach, .int .i64 stiff]] w (Ret (.int .i64 (checkF l reach stiff)) w) := by
  obtain ⟨A, c, rfl, hm, _⟩ := slice_inv hs
  by_cases h0 : restrOk reach stiff = true
  · have h1 : fromB reach 0 32768 = true := by simp_all [restrOk]
    have h2 : fromB stiff 0 1000 = true := by simp_all [restrOk]
    have H0 := Lib.hid h0
    clear h0
    by_cases hl : 32 < l.length
    · go_enter Try.func35, Try.ntmps35
      go_wp2
      go_ret
      exact ⟨ret_int (checkF_long (by omega)).symm, (Below.refl _ _).alloc (Nat.le_refl _) _⟩
    · go_enter Try.func35, Try.ntmps35
      go_wp2_with (first | (go_at_call 39; refine (from_any _ _ _ _).mono ?_; rintro e w' ⟨rfl, rfl⟩))
      go_loopw [22] (fun i wr => ∃ k : Nat, k ≤ l.length ∧ i = .int .i64 k ∧ Hid ((l.take k).all okBead = true) ∧ Below w.heap.size w wr) (fun i _ => l.length - (intOf i).toNat)
      case atStart => exact ⟨0, Nat.zero_le _, rfl, rfl, (Below.refl _ _).alloc (Nat.le_refl _) _⟩
      case round =>
        obtain ⟨k, hk, rfl, hall, hb⟩ := hrel
        have hz := hb.size
        by_cases hlt : k < l.length
        · obtain ⟨b, off, p, s, rfl, hx, -, c0, c1, -⟩ := beads_at (Rep.at_ hs hb) hlt
          go_wp2_with (first | (go_at_call 39; refine (from_any _ _ _ _).mono ?_; rintro e w' ⟨rfl, rfl⟩))
          · go_ret
            exact ⟨ret_int (checkF_bead hl (all_bad hx.out (by simp_all [okBead]))).symm, hb.alloc hz _⟩
          · go_roundw
            case rel => exact ⟨k + 1, by omega, by go_num, all_take_succ hall.out hx.out (by simp_all [okBead]), hb.alloc hz _⟩
            case measure => simp [intOf]; omega
          · go_ret
            exact ⟨ret_int (checkF_bead hl (all_bad hx.out (by simp_all [okBead]))).symm, hb.alloc hz _⟩
        · go_wp2
          go_ret
          have h3 := hall.out
          rw [List.take_of_length_le (by omega)] at h3
          exact ⟨ret_int (checkF_yes hl H0.out h3).symm, hb⟩
  · by_cases hl : 32 < l.length
    · go_enter Try.func35, Try.ntmps35
      go_wp2
      go_ret
      exact ⟨ret_int (checkF_long (by omega)).symm, (Below.refl _ _).alloc (Nat.le_refl _) _⟩
    · have H0 : Hid (restrOk reach stiff = false) := bool_of_not h0
      clear h0
      rcases Bool.eq_false_or_eq_true (fromB reach 0 32768) with h1 | h1
      · have h2 : fromB stiff 0 1000 = false := by have := H0.out; simp_all [restrOk]
        go_enter Try.func35, Try.ntmps35
        go_wp2_with (first | (go_at_call 39; refine (from_any _ _ _ _).mono ?_; rintro e w' ⟨rfl, rfl⟩))
        go_ret
        exact ⟨ret_int (checkF_restr (by omega) H0.out).symm, (Below.refl _ _).alloc (Nat.le_refl _) _⟩
      · go_enter Try.func35, Try.ntmps35
        go_wp2_with (first | (go_at_call 39; refine (from_any _ _ _ _).mono ?_; rintro e w' ⟨rfl, rfl⟩))
        go_ret
        exact ⟨ret_int (checkF_restr (by omega) H0.out).symm, (Below.refl _ _).alloc (Nat.le_refl _) _⟩

theorem okBead_iff {p s : Int} : okBead ⟨p, s⟩ = true ↔ -32768 ≤ p ∧ p ≤ 32768 ∧ 0 ≤ s ∧ s ≤ 100000 := by simp [okBead, fromB]; omega
theorem restrOk_iff {r s : Int} : restrOk r s = true ↔ 0 ≤ r ∧ r ≤ 32768 ∧ 0 ≤ s ∧ s ≤ 1000 := by simp [restrOk, fromB]; omega
set_option maxHeartbeats 400000 in
theorem refCheck_any (v : Value) (l : List Bead) (reach stiff : Int) (w : World) (hs : beadR.slice.R w (Lt w) l [v]) :
    Calls Try.prog 40 #[v, .agg #[.int .i64 reach, .int .i64 stiff]] w (Ret (.int .i64 (checkF l reach stiff)) w) := by
  obtain ⟨A, c, rfl, hm, _⟩ := slice_inv hs
  by_cases hl : 32 < l.length
  · go_enter Try.func40, Try.ntmps40
    go_wp2
    go_ret
    exact ⟨ret_int (checkF_long (by omega)).symm, (Below.refl _ _).alloc (Nat.le_refl _) _⟩
  · by_cases h0 : 0 ≤ reach ∧ reach ≤ 32768 ∧ 0 ≤ stiff ∧ stiff ≤ 1000
    · obtain ⟨h1, h2, h3, h4⟩ := h0
      go_enter Try.func40, Try.ntmps40
      go_wp2
      go_loopw [5] (fun i wr => ∃ k : Nat, k ≤ l.length ∧ i = .int .i64 k ∧ Hid ((l.take k).all okBead = true) ∧ Below w.heap.size w wr) (fun i _ => l.length - (intOf i).toNat)
      case atStart => exact ⟨0, Nat.zero_le _, rfl, rfl, (Below.refl _ _).alloc (Nat.le_refl _) _⟩
      case round =>
        obtain ⟨k, hk, rfl, hall, hb⟩ := hrel
        by_cases hlt : k < l.length
        · obtain ⟨b, off, p, s, rfl, hx, -, c0, c1, -⟩ := beads_at (Rep.at_ hs hb) hlt
          by_cases hbd : -32768 ≤ p ∧ p ≤ 32768 ∧ 0 ≤ s ∧ s ≤ 100000
          · obtain ⟨h5, h6, h7, h8⟩ := hbd
            go_wp2
            go_roundw
            case rel => exact ⟨k + 1, by omega, by go_num, all_take_succ hall.out hx.out (okBead_iff.2 ⟨h5, h6, h7, h8⟩), hb⟩
            case measure => simp [intOf]; omega
          · have HB : Hid (okBead ⟨p, s⟩ = false) := bool_of_not (fun h => hbd (okBead_iff.1 h))
            rcases or4 hbd with h5 | ⟨h5, h6⟩ | ⟨h5, h6, h7⟩ | ⟨h5, h6, h7, h8⟩
            all_goals
              clear hbd
              go_wp2
              go_ret
              exact ⟨ret_int (checkF_bead hl (all_bad hx.out HB.out)).symm, hb⟩
        · go_wp2
          go_ret
          have h3 := hall.out
          rw [List.take_of_length_le (by omega)] at h3
          exact ⟨ret_int (checkF_yes hl (restrOk_iff.2 ⟨h1, h2, by omega, h4⟩) h3).symm, hb⟩
    · have HB : Hid (restrOk reach stiff = false) := bool_of_not (fun h => h0 (restrOk_iff.1 h))
      rcases or4 h0 with h5 | ⟨h5, h6⟩ | ⟨h5, h6, h7⟩ | ⟨h5, h6, h7, h8⟩
      all_goals
        clear h0
        go_enter Try.func40, Try.ntmps40
        go_wp2
        go_ret
        exact ⟨ret_int (checkF_restr hl HB.out).symm, (Below.refl _ _).alloc (Nat.le_refl _) _⟩

end Go.Proofs.Ytgiphdjblnfjcaa
