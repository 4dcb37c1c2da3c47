/- Sum, of the program and of the reference: what they return, by walking their text. -/
import Derived.Test.YticohjhohbkmaaaDoorNumW1
import Derived.Laws.Externs
namespace Go.Proofs.YticohjhohbkmaaaDoor
open Go Go.RowKit

def sumF (xs : List Int) : Int × Int := if -9223372036854775808 ≤ xs.sum ∧ xs.sum ≤ 9223372036854775807 then (xs.sum, 0) else (0, 21)
def SumPost (xs : List Int) (w : World) (e : Ending) (w' : World) : Prop := e = .returned (.tuple #[.int .i64 (sumF xs).1, .int .i64 (sumF xs).2]) ∧ w = w'

theorem add64_run (x y : Int) (hx : 0 ≤ x) (hy : 0 ≤ y) (w : World) : (callFunc 37 #[.int .u64 x, .int .u64 y, .int .u64 0]).run Tryd.prog w =
    .ok (.value (.tuple #[.int .u64 ((x + y) % 18446744073709551616), .int .u64 ((x + y) / 18446744073709551616)])) w := by
  have h := run_callFunc_extern (w := w) (args := #[.int .u64 x, .int .u64 y, .int .u64 0]) Tryd.func37 (by kernel_rfl) (by kernel_rfl) (by kernel_rfl) (e := add64Entry) (by kernel_rfl)
  rw [h, run_add64 x y 0 hx hy (by omega) (by omega)]
  simp only [Result.andThen, Int.add_zero]

theorem add64_word (l x : Int) (hl0 : 0 ≤ l) (hl1 : l ≤ 18446744073709551615) (hx0 : -9223372036854775808 ≤ x) (hx1 : x ≤ 9223372036854775807) (w : World) :
    ∃ y sm cy : Int, IntKind.u64.wrap x = y ∧ (callFunc 37 #[.int .u64 l, .int .u64 y, .int .u64 0]).run Tryd.prog w = .ok (.value (.tuple #[.int .u64 sm, .int .u64 cy])) w ∧
      y = (if x < 0 then x + 18446744073709551616 else x) ∧ 0 ≤ sm ∧ sm ≤ 18446744073709551615 ∧ 0 ≤ cy ∧ cy ≤ 1 ∧ l + y = cy * 18446744073709551616 + sm := by
  have hw : IntKind.u64.wrap x = (if x < 0 then x + 18446744073709551616 else x) := by
    rw [IntKind.wrap_u64]
    split <;> omega
  refine ⟨_, _, _, rfl, add64_run l _ hl0 (by rw [hw]; split <;> omega) w, hw, ?_⟩
  rw [hw]
  split <;> omega
theorem sumF_yes {xs : List Int} {h l n : Int} (hs : xs.sum = h * 18446744073709551616 + l) (hn : n = h * 18446744073709551616 + l) (h0 : -9223372036854775808 ≤ n) (h1 : n ≤ 9223372036854775807) : sumF xs = (n, 0) := by
  rw [← hn] at hs
  unfold sumF
  rw [hs, if_pos ⟨h0, h1⟩]
theorem sumF_no {xs : List Int} {h l : Int} (hs : xs.sum = h * 18446744073709551616 + l) (hn : h * 18446744073709551616 + l < -9223372036854775808 ∨ 9223372036854775807 < h * 18446744073709551616 + l) : sumF xs = (0, 21) := by
  unfold sumF
  rw [hs, if_neg (by omega)]
theorem SumPost.of {xs : List Int} {w : World} {a b : Int} (h : sumF xs = (a, b)) : SumPost xs w (.returned (.tuple #[.int .i64 a, .int .i64 b])) w := ⟨by rw [h], rfl⟩

set_option maxHeartbeats 400000 in
theorem sum_any (v : Value) (xs : List Int) (w : World) (hs : Rep.int.slice.R w (Lt w) xs [v]) (hn : xs.length ≤ 1000000000) :
    Calls Tryd.prog 24 #[v] w (SumPost xs w) := by
  obtain ⟨A, c, rfl, hm, -⟩ := slice_inv hs
  go_enter Tryd.func24, Tryd.ntmps24
  go_wp2
  go_loop [4, 5, 13] (fun hi lo i => ∃ (k : Nat) (h l : Int), k ≤ xs.length ∧ i = .int .i64 k ∧ hi = .int .i64 h ∧ lo = .int .u64 l ∧ 0 ≤ l ∧ l ≤ 18446744073709551615 ∧ -(k : Int) ≤ h ∧ h ≤ k ∧ Hid ((xs.take k).sum = h * 18446744073709551616 + l))
    (fun _ _ i => xs.length - (intOf i).toNat)
  case atStart => exact ⟨0, 0, 0, Nat.zero_le _, rfl, rfl, rfl, by omega, by omega, by omega, by omega, by show (xs.take 0).sum = _; simp⟩
  case round =>
    obtain ⟨k, h, l, hk, rfl, rfl, rfl, hl0, hl1, hh0, hh1, hsum⟩ := hrel
    by_cases hlt : k < xs.length
    · obtain ⟨b, off, x, rfl, hx, -, c0, hx0, hx1⟩ := ints_at hs hlt
      obtain ⟨y, sm, cy, hw, hadd, hy, hs0, hs1, hc0, hc1, heq⟩ := add64_word l x hl0 hl1 hx0 hx1 w
      have HY := Lib.hid hy
      have HEQ := Lib.hid heq
      have HN : Hid ((xs.take (k + 1)).sum = (xs.take k).sum + x) := by show (xs.take (k + 1)).sum = _; rw [take_one hx.out, List.sum_append]; simp
      have hcw : IntKind.i64.wrap cy = cy := IntWalk.i64_in _ (by omega)
      clear hy heq
      by_cases hneg : x < 0
      · go_wp2
        go_round
        case rel => exact ⟨k + 1, h + cy - 1, sm, by omega, by go_num, by go_num, rfl, hs0, hs1, by omega, by omega, by
          have h1 := HY.out; have h2 := HEQ.out; have h3 := hsum.out
          show (xs.take (k + 1)).sum = _
          rw [HN.out, h3]; rw [if_pos hneg] at h1; omega⟩
        case measure => simp [intOf]; omega
      · go_wp2
        go_round
        case rel => exact ⟨k + 1, h + cy, sm, by omega, by go_num, by go_num, rfl, hs0, hs1, by omega, by omega, by
          have h1 := HY.out; have h2 := HEQ.out; have h3 := hsum.out
          show (xs.take (k + 1)).sum = _
          rw [HN.out, h3]; rw [if_neg hneg] at h1; omega⟩
        case measure => simp [intOf]; omega
    · have hall : (xs.take k).sum = xs.sum := by rw [List.take_of_length_le (by omega)]
      have HS : Hid (xs.sum = h * 18446744073709551616 + l) := by show xs.sum = _; rw [← hall]; exact hsum.out
      clear hall hsum
      have hlw : ∃ n : Int, IntKind.i64.wrap l = n ∧ ((l ≤ 9223372036854775807 ∧ n = l) ∨ (9223372036854775807 < l ∧ n = l - 18446744073709551616)) := by
        refine ⟨_, rfl, ?_⟩
        rw [IntKind.wrap_i64]
        omega
      obtain ⟨n, hwn, hn2⟩ := hlw
      have HN := Lib.hid hn2
      by_cases hn0 : 0 ≤ n
      · have HL : Hid (n = l ∧ l ≤ 9223372036854775807) := by show n = l ∧ _; omega
        clear hn2
        by_cases h0 : h = 0
        · subst h0
          go_wp2
          go_ret2
          exact SumPost.of (sumF_yes HS.out (by have := HL.out; omega) (by omega) (by have := HL.out; omega))
        · have hc1 : (h == 0) = false := by simp [h0]
          have H0 := Lib.hid h0
          clear h0
          by_cases hm1 : h = -1
          · subst hm1
            go_wp2
            go_ret2
            exact SumPost.of (sumF_no HS.out (by have := HL.out; omega))
          · have hc2 : (h == -1) = false := by simp [hm1]
            have H1 := Lib.hid hm1
            clear hm1
            go_wp2
            go_ret2
            exact SumPost.of (sumF_no HS.out (by have := HL.out; have := H0.out; have := H1.out; omega))
      · have HL : Hid (n = l - 18446744073709551616 ∧ 9223372036854775807 < l) := by show n = l - _ ∧ _; omega
        clear hn2
        by_cases h0 : h = 0
        · subst h0
          go_wp2
          go_ret2
          exact SumPost.of (sumF_no HS.out (by have := HL.out; omega))
        · have hc1 : (h == 0) = false := by simp [h0]
          have H0 := Lib.hid h0
          clear h0
          by_cases hm1 : h = -1
          · subst hm1
            go_wp2
            go_ret2
            exact SumPost.of (sumF_yes HS.out (by have := HL.out; omega) (by have := HL.out; omega) (by have := HL.out; omega))
          · have hc2 : (h == -1) = false := by simp [hm1]
            have H1 := Lib.hid hm1
            clear hm1
            go_wp2
            go_ret2
            exact SumPost.of (sumF_no HS.out (by have := HL.out; have := H0.out; have := H1.out; omega))

theorem and_low32_i64 (x : Int) : bits .and .i64 x 4294967295 = x % 4294967296 := by
  show IntKind.i64.wrap ((BitVec.ofInt 64 x &&& BitVec.ofInt 64 4294967295).toNat : Int) = _
  rw [BitVec.toNat_and, BitVec.toNat_ofInt]
  have e : (BitVec.ofInt 64 4294967295).toNat = 2 ^ 32 - 1 := by decide
  rw [e, Nat.and_two_pow_sub_one_eq_mod, IntKind.wrap_i64]
  have h2 : ((x % ((2 ^ 64 : Nat) : Int)).toNat : Int) = x % 18446744073709551616 := by
    rw [Int.toNat_of_nonneg (Int.emod_nonneg _ (by decide))]; rfl
  have h3 : (((x % ((2 ^ 64 : Nat) : Int)).toNat % 2 ^ 32 : Nat) : Int) = (x % 18446744073709551616) % 4294967296 := by
    rw [Int.natCast_emod, h2]; rfl
  rw [h3]
  omega
theorem and32 (x : Int) : ∃ r : Int, bits .and .i64 x 4294967295 = r ∧ 0 ≤ r ∧ r ≤ 4294967295 ∧ x = x / 4294967296 * 4294967296 + r := by
  refine ⟨_, rfl, ?_⟩
  rw [and_low32_i64]
  omega

set_option maxHeartbeats 400000 in
theorem refSum_any (v : Value) (xs : List Int) (w : World) (hs : Rep.int.slice.R w (Lt w) xs [v]) (hn : xs.length ≤ 1000000000) :
    Calls Tryd.prog 25 #[v] w (SumPost xs w) := by
  obtain ⟨A, c, rfl, hm, -⟩ := slice_inv hs
  go_enter Tryd.func25, Tryd.ntmps25
  go_wp2
  go_loop [4, 5, 6] (fun hi lo i => ∃ (k : Nat) (h l : Int), k ≤ xs.length ∧ i = .int .i64 k ∧ hi = .int .i64 h ∧ lo = .int .i64 l ∧ 0 ≤ l ∧ l ≤ (k : Int) * 4294967295 ∧ -(k : Int) * 2147483648 ≤ h ∧ h ≤ (k : Int) * 2147483648 ∧ Hid ((xs.take k).sum = h * 4294967296 + l))
    (fun _ _ i => xs.length - (intOf i).toNat)
  case atStart => exact ⟨0, 0, 0, Nat.zero_le _, rfl, rfl, rfl, by omega, by omega, by omega, by omega, by show (xs.take 0).sum = _; simp⟩
  case round =>
    obtain ⟨k, h, l, hk, rfl, rfl, rfl, hl0, hl1, hh0, hh1, hsum⟩ := hrel
    by_cases hlt : k < xs.length
    · obtain ⟨b, off, x, rfl, hx, -, c0, hx0, hx1⟩ := ints_at hs hlt
      have HN : Hid ((xs.take (k + 1)).sum = (xs.take k).sum + x) := by show (xs.take (k + 1)).sum = _; rw [take_one hx.out, List.sum_append]; simp
      obtain ⟨r, hr, hr0, hr1, heq⟩ := and32 x
      have HEQ := Lib.hid heq
      clear heq
      have hq0 : -2147483648 ≤ x / 4294967296 := by omega
      have hq1 : x / 4294967296 ≤ 2147483647 := by omega
      go_wp2
      go_round
      case rel => exact ⟨k + 1, h + x / 4294967296, l + r, by omega, by go_num, rfl, rfl, by omega, by omega, by omega, by omega, by
          have h2 := HEQ.out; have h3 := hsum.out
          show (xs.take (k + 1)).sum = _
          rw [HN.out, h3]; omega⟩
      case measure => simp [intOf]; omega
    · have hall : (xs.take k).sum = xs.sum := by rw [List.take_of_length_le (by omega)]
      have HS : Hid (xs.sum = h * 4294967296 + l) := by show xs.sum = _; rw [← hall]; exact hsum.out
      clear hall hsum
      obtain ⟨r, hr, hr0, hr1, heq⟩ := and32 l
      have HEQ := Lib.hid heq
      clear heq
      have hq0 : 0 ≤ l / 4294967296 := by omega
      have hq1 : l / 4294967296 ≤ k := by omega
      by_cases hok : -2147483648 ≤ h + l / 4294967296 ∧ h + l / 4294967296 < 2147483648
      · obtain ⟨ho1, ho2⟩ := hok
        go_wp2
        go_ret2
        exact SumPost.of (sumF_yes (xs := xs) (h := 0) (l := xs.sum) (by omega) (by have := HEQ.out; have := HS.out; omega) (by have := HEQ.out; omega) (by have := HEQ.out; omega))
      · by_cases ho1 : h + l / 4294967296 < -2147483648
        · clear hok
          go_wp2
          go_ret2
          exact SumPost.of (sumF_no (xs := xs) (h := 0) (l := xs.sum) (by omega) (by have := HEQ.out; have := HS.out; omega))
        · have ho2 : 2147483648 ≤ h + l / 4294967296 := by omega
          clear hok
          go_wp2
          go_ret2
          exact SumPost.of (sumF_no (xs := xs) (h := 0) (l := xs.sum) (by omega) (by have := HEQ.out; have := HS.out; omega))
end Go.Proofs.YticohjhohbkmaaaDoor
