/- Chapter 34: Same, light and awake, by walking their text. -/
import Derived.Test.YtgiphdjblnfjcaaWsB1
import Derived.Test.YtgiphdjblnfjcaaWsAw
namespace Go.Proofs.Ytgiphdjblnfjcaa
open Go Go.RowKit

set_option maxHeartbeats 400000 in
theorem same_any (vx vy : Value) (xs ys : List Int) (w : World) (hx : Rep.int.slice.R w (Lt w) xs [vx]) (hy : Rep.int.slice.R w (Lt w) ys [vy]) :
    Calls Try.prog 16 #[vx, vy] w fun e w' => e = .returned (.bool (decide (xs = ys))) ∧ Qt w w' := by
  obtain ⟨A, c, rfl, hm, _⟩ := slice_inv hx
  obtain ⟨B, d, rfl, hm', _⟩ := slice_inv hy
  by_cases hl : xs.length = ys.length
  · have hne : ((xs.length : Int) != (ys.length : Int)) = false := by simp [hl]
    have hll : ys.length ≤ xs.length := by omega
    have HL := Lib.hid hl
    clear hl
    go_enter Try.func16, Try.ntmps16
    go_wp2
    clear hne
    go_loopw [5] (fun i wr => ∃ k : Nat, k ≤ xs.length ∧ i = .int .i64 k ∧ Hid (xs.take k = ys.take k) ∧ Qt w wr) (fun i _ => xs.length - (intOf i).toNat)
    case atStart => exact ⟨0, Nat.zero_le _, rfl, rfl, Qt.refl _⟩
    case round =>
      obtain ⟨k, hk, rfl, HT, hq⟩ := hrel
      by_cases hlt : k < xs.length
      · obtain ⟨b, off, x, rfl, hxk, -, hc, -⟩ := ints_at (hq.rep hx) hlt
        obtain ⟨b', off', y, rfl, hyk, -, hc', -⟩ := ints_at (hq.rep hy) (k := k) (by have := HL.out; omega)
        have hlt' : k < ys.length := by have := HL.out; omega
        by_cases he : x = y
        · subst he
          have hb : (x != x) = false := by simp
          go_wp2
          go_quiet (fail)
          go_wp2
          go_roundw
          case rel => exact ⟨k + 1, by omega, by go_num, take_ext HT.out hxk.out hyk.out, hq.drewN _⟩
          case measure => simp [intOf]; omega
        · have hb : (x != y) = true := by simp [he]
          have HE := Lib.hid he
          clear he
          go_wp2
          go_quiet (fail)
          go_wp2
          go_ret
          refine ⟨?_, hq.drewN _⟩
          have hne : ¬ xs = ys := by
            rintro rfl
            exact HE.out (by have := hxk.out.symm.trans hyk.out; injection this)
          simp [hne]
      · go_wp2
        go_ret
        refine ⟨?_, hq⟩
        have h1 := HT.out
        rw [List.take_of_length_le (by omega), List.take_of_length_le (by omega)] at h1
        simp [h1]
  · have hne : ((xs.length : Int) != (ys.length : Int)) = true := by simp; omega
    go_enter Try.func16, Try.ntmps16
    go_wp2
    go_ret
    exact ⟨by simp; intro h; exact hl (by rw [h]), Qt.refl _⟩

def lightB (l : List Bead) (before : List (Int × Int)) (most : Nat) : Bool := decide (l.length ≤ most) && decide (before.length ≤ 100)
theorem lightB_yes {l : List Bead} {before : List (Int × Int)} {most : Nat} (h1 : l.length ≤ most) (h2 : before.length ≤ 100) : lightB l before most = true := by simp [lightB, h1, h2]
theorem lightB_no1 {l : List Bead} {before : List (Int × Int)} {most : Nat} (h1 : ¬ l.length ≤ most) : lightB l before most = false := by simp only [lightB, h1, decide_false]; rfl
theorem lightB_no2 {l : List Bead} {before : List (Int × Int)} {most : Nat} (h1 : ¬ before.length ≤ 100) : lightB l before most = false := by simp only [lightB, h1, decide_false, Bool.and_false]
set_option maxHeartbeats 400000 in
theorem light_any (A B : Option Addr) (c d : Nat) (l : List Bead) (before : List (Int × Int)) (reach stiff : Int) (most : Nat) (w : World) :
    Calls Try.prog 10 #[.agg #[.slice A l.length c, .int .i64 reach, .int .i64 stiff, .slice B before.length d], .int .i64 most] w (Ret (.bool (lightB l before most)) w) := by
  by_cases h1 : l.length ≤ most
  · by_cases h2 : before.length ≤ 100
    · have HL := Lib.hid (lightB_yes (l := l) (before := before) h1 h2)
      have d1 : decide ((l.length : Int) ≤ (most : Int)) = true := by simp; omega
      have d2 : decide ((before.length : Int) ≤ 100) = true := by simp; omega
      go_enter Try.func10, Try.ntmps10
      go_wp2
      go_ret
      exact ⟨by rw [HL.out]; rfl, (Below.refl _ _).alloc (Nat.le_refl _) _⟩
    · have HL := Lib.hid (lightB_no2 (l := l) (before := before) (most := most) h2)
      have d1 : decide ((l.length : Int) ≤ (most : Int)) = true := by simp; omega
      have d2 : decide ((before.length : Int) ≤ 100) = false := by simp; omega
      go_enter Try.func10, Try.ntmps10
      go_wp2
      go_ret
      exact ⟨by rw [HL.out]; rfl, (Below.refl _ _).alloc (Nat.le_refl _) _⟩
  · have HL := Lib.hid (lightB_no1 (l := l) (before := before) (most := most) h1)
    have d1 : decide ((l.length : Int) ≤ (most : Int)) = false := by simp; omega
    go_enter Try.func10, Try.ntmps10
    go_wp2
    go_ret
    exact ⟨by rw [HL.out]; rfl, (Below.refl _ _).alloc (Nat.le_refl _) _⟩
end Go.Proofs.Ytgiphdjblnfjcaa
