/- Chapter 34: places, edges and permutations, by walking their text. -/
import Derived.Test.YtgiphdjblnfjcaaWsPlain
import Derived.Test.YtgiphdjblnfjcaaWsShelf
import Derived.Test.YtgiphdjblnfjcaaDistWalks
namespace Go.Proofs.Ytgiphdjblnfjcaa
open Go Go.RowKit

def prR : Rep (Int × Int) := Rep.int.pair Rep.int
theorem pairs_at {w : World} {D : Nat → Prop} {l : List (Int × Int)} {A : Option Addr} {n c : Nat} (h : prR.slice.R w D l [.slice A n c]) {k : Nat} (hk : k < l.length) :
    ∃ b off p s, A = some ⟨b, off, none⟩ ∧ Hid (l[k]? = some (p, s)) ∧ D b ∧ w.cell? ⟨b, off + k * 2, none⟩ = some (.int .i64 p) ∧ w.cell? ⟨b, off + k * 2 + 1, none⟩ = some (.int .i64 s) ∧
      -9223372036854775808 ≤ p ∧ p ≤ 9223372036854775807 ∧ -9223372036854775808 ≤ s ∧ s ≤ 9223372036854775807 := by
  obtain ⟨A', c', e, _, _, h3⟩ := h
  injection e with e _
  injection e with e1 e2 e3
  subst e1
  obtain ⟨b, off, es, rfl, hb, ⟨c1, c2, rfl, ⟨rfl, h1, h1'⟩, ⟨rfl, h2, h2'⟩⟩, hc⟩ := h3 k hk
  exact ⟨b, off, _, _, rfl, List.getElem?_eq_getElem hk, hb, hc 0 (by decide), hc 1 (by decide), h1, h1', h2, h2'⟩
theorem ints_cellsD {w : World} {D : Nat → Prop} {xs : List Int} {b off n c : Nat} (h : Rep.int.slice.R w D xs [.slice (some ⟨b, off, none⟩) n c]) : ∀ j, j < xs.length → w.cell? ⟨b, off + j, none⟩ = some (.int .i64 (xs.getD j 0)) := by
  intro j hj
  obtain ⟨b', off', x, e, hx, -, hc, -⟩ := ints_at h hj
  injection e with e
  injection e with e1 e2 _
  subst e1 e2
  rw [getD_of' hx.out]; exact hc
/-- slices.Index and slices.Contains, of what reads as a list. -/
theorem index_any (v : Value) (xs : List Int) (x : Int) (w : World) (h : Rep.int.slice.R w (Lt w) xs [v]) :
    Calls Try.prog 22 #[v, .int .i64 x] w fun e w' => e = .returned (.int .i64 (placeF xs x)) ∧ w' = w := by
  obtain ⟨A, c, rfl, hm, _⟩ := slice_inv h
  by_cases h0 : 0 < xs.length
  · obtain ⟨b, off, y, rfl, -⟩ := ints_at h h0
    have := Try.slices_Index_int b off xs.length c xs x w (Nat.le_refl _) hm (ints_cellsD h)
    rw [List.take_length] at this
    exact this
  · obtain rfl : xs = [] := List.eq_nil_of_length_eq_zero (by omega)
    exact Try.slices_Index_int_empty A c x w
theorem contains_any (v : Value) (xs : List Int) (x : Int) (w : World) (h : Rep.int.slice.R w (Lt w) xs [v]) :
    Calls Try.prog 45 #[v, .int .i64 x] w fun e w' => e = .returned (.bool (xs.contains x)) ∧ w' = w := by
  obtain ⟨A, c, rfl, hm, _⟩ := slice_inv h
  by_cases h0 : 0 < xs.length
  · obtain ⟨b, off, y, rfl, -⟩ := ints_at h h0
    have := Try.slices_Contains_int b off xs.length c xs x w (Nat.le_refl _) hm (ints_cellsD h)
    rw [List.take_length] at this
    exact this
  · obtain rfl : xs = [] := List.eq_nil_of_length_eq_zero (by omega)
    exact Try.slices_Contains_int_empty A c x w
theorem placeF_hit {xs : List Int} {k : Nat} {x : Int} (hx : xs[k]? = some x) (hne : x ∉ xs.take k) : placeF xs x = k := by
  have hk := lt_of_get hx
  have := Lib.idxOf_hit xs xs.length k x hk (Nat.le_refl _) (getD_of' hx) (fun j hj e => hne (by
    have hj' : j < xs.length := by omega
    rw [getD_lt hj'] at e
    exact List.mem_of_getElem? (i := j) (by rw [List.getElem?_take, if_pos hj, List.getElem?_eq_getElem hj', e])))
  rw [List.take_length] at this
  exact this
theorem placeF_miss {xs : List Int} {x : Int} (h : x ∉ xs) : placeF xs x = -1 := by
  have := Lib.idxOf_miss xs xs.length x (fun j hj e => h (by rw [getD_lt hj] at e; exact e ▸ List.getElem_mem hj))
  rw [List.take_length] at this
  exact this
theorem first_at {x : Int} : ∀ {xs : List Int}, x ∈ xs → ∃ k, xs[k]? = some x ∧ x ∉ xs.take k
  | [], h => by cases h
  | y :: ys, h => by
    by_cases e : y = x
    · exact ⟨0, by rw [e]; rfl, by simp⟩
    · have h' : x ∈ ys := by
        rcases List.mem_cons.1 h with h | h
        · exact absurd h.symm e
        · exact h
      obtain ⟨k, h1, h2⟩ := first_at h'
      refine ⟨k + 1, by simpa using h1, ?_⟩
      rw [List.take_succ_cons, List.mem_cons]
      rintro (h3 | h3)
      · exact e h3.symm
      · exact h2 h3
theorem placeF_mem {xs : List Int} {x : Int} (h : x ∈ xs) : 0 ≤ placeF xs x ∧ placeF xs x < xs.length := by
  obtain ⟨k, hk, hx⟩ := first_at h
  rw [placeF_hit hk hx]
  have := lt_of_get hk
  omega
theorem placeF_neg {xs : List Int} {x : Int} : decide (placeF xs x < 0) = !xs.contains x := by
  by_cases h : x ∈ xs
  · have := placeF_mem h
    have h1 : ¬ placeF xs x < 0 := by omega
    simp [h, h1]
  · rw [placeF_miss h]; simp [h]
theorem placeF_pos {xs : List Int} {x : Int} : decide (0 ≤ placeF xs x) = xs.contains x := by
  by_cases h : x ∈ xs
  · have := placeF_mem h
    simp [h, this.1]
  · rw [placeF_miss h]; simp [h]
theorem mem_take_one {xs : List Int} {k : Nat} {x y : Int} (h : x ∉ xs.take k) (hy : xs[k]? = some y) (hne : y ≠ x) : x ∉ xs.take (k + 1) := by
  rw [take_one hy]
  intro hm
  rcases List.mem_append.1 hm with hm | hm
  · exact h hm
  · simp at hm; exact hne hm.symm
set_option maxHeartbeats 400000 in
theorem place_any (v : Value) (xs : List Int) (x : Int) (w : World) (hx : Rep.int.slice.R w (Lt w) xs [v]) :
    Calls Try.prog 25 #[v, .int .i64 x] w fun e w' => e = .returned (.int .i64 (placeF xs x)) ∧ Qt w w' := by
  obtain ⟨A, c, rfl, hm, _⟩ := slice_inv hx
  go_enter Try.func25, Try.ntmps25
  go_wp2
  go_loopw [5] (fun i wr => ∃ k : Nat, k ≤ xs.length ∧ i = .int .i64 k ∧ Hid (x ∉ xs.take k) ∧ Qt w wr) (fun i _ => xs.length - (intOf i).toNat)
  case atStart => exact ⟨0, Nat.zero_le _, rfl, by show x ∉ xs.take 0; simp, Qt.refl _⟩
  case round =>
    obtain ⟨k, hk, rfl, hno, hq⟩ := hrel
    by_cases hlt : k < xs.length
    · obtain ⟨b, off, y, rfl, hxk, -, hc, -⟩ := ints_at (hq.rep hx) hlt
      by_cases he : y = x
      · subst he
        have hb : (y == y) = true := by simp
        have HE := Lib.hid (placeF_hit hxk.out hno.out)
        go_wp2
        go_ret
        exact ⟨ret_int HE.out.symm, hq⟩
      · have hb : (y == x) = false := ieq_f he
        have HE := Lib.hid he
        clear he
        go_wp2
        go_roundw
        case rel => exact ⟨k + 1, by omega, by go_num, mem_take_one hno.out hxk.out HE.out, hq⟩
        case measure => simp [intOf]; omega
    · go_wp2
      go_ret
      have h := hno.out
      rw [List.take_of_length_le (by omega)] at h
      exact ⟨ret_int (placeF_miss h).symm, hq⟩
def allTo (xs : List Int) (k : Nat) : Prop := ∀ i : Nat, i < k → (i : Int) ∈ xs
set_option maxHeartbeats 400000 in
theorem permutation_any (v : Value) (xs : List Int) (n : Nat) (w : World) (hn : n ≤ 9223372036854775807) (hx : Rep.int.slice.R w (Lt w) xs [v]) :
    Calls Try.prog 24 #[v, .int .i64 n] w fun e w' => e = .returned (.bool (orderB xs n)) ∧ Qt w w' := by
  obtain ⟨A, c, rfl, hm, _⟩ := slice_inv hx
  go_enter Try.func24, Try.ntmps24
  go_wp2
  go_loopw [5] (fun i wr => ∃ k : Nat, k ≤ n ∧ i = .int .i64 k ∧ Hid (allTo xs k) ∧ Qt w wr) (fun i _ => n - (intOf i).toNat)
  case atStart => exact ⟨0, Nat.zero_le _, rfl, fun i hi => absurd hi (by omega), Qt.refl _⟩
  case round =>
    obtain ⟨k, hk, rfl, hall, hq⟩ := hrel
    by_cases hlt : k < n
    · have HP := Lib.hid (@placeF_neg xs (k : Int))
      by_cases hp : placeF xs (k : Int) < 0
      · go_wp2_with (go_at_call 25; refine (place_any _ xs _ _ (Rep.below hx (hq.below _))).mono ?_; rintro e w1 ⟨rfl, hq1⟩)
        go_ret
        refine ⟨ret_bool ?_, hq.trans hq1⟩
        rcases Bool.eq_false_or_eq_true (orderB xs n) with h | h
        · have h1 := (perm_iff.1 h).1 k hlt
          have h2 := (placeF_mem h1).1
          omega
        · exact h.symm
      · have HC : Hid ((k : Int) ∈ xs) := by
          show (k : Int) ∈ xs
          have := HP.out
          simp only [hp, decide_false] at this
          simpa using this.symm
        go_wp2_with (go_at_call 25; refine (place_any _ xs _ _ (Rep.below hx (hq.below _))).mono ?_; rintro e w1 ⟨rfl, hq1⟩)
        go_roundw
        case rel =>
          refine ⟨k + 1, by omega, by go_num, ?_, hq.trans hq1⟩
          intro i hi
          by_cases h : i = k
          · subst h; exact HC.out
          · exact hall.out i (by omega)
        case measure => simp [intOf]; omega
    · obtain rfl : k = n := by omega
      go_wp2
      go_ret
      refine ⟨ret_bool ?_, hq⟩
      rcases Bool.eq_false_or_eq_true (orderB xs k) with h | h
      · rw [h]; have := (perm_iff.1 h).2; simp [this]
      · rw [h]
        have : xs.length ≠ k := fun e => by
          rw [perm_iff.2 ⟨hall.out, e⟩] at h; cases h
        first | (rw [beq_eq_false_iff_ne]; omega) | (simp; omega)
end Go.Proofs.Ytgiphdjblnfjcaa
