/- Chapter 33: the law DistortSums, by walking its text. -/
import Derived.Test.YtlhkidiieajamaaDistLaws
import Derived.Test.YtlhkidiieajamaaDistPlain
import Derived.Deep.RegionHeld3
import Derived.Deep.DeepCutAuto
namespace Go.Proofs.Ytlhkidiieajamaa
open Go Go.RowKit

theorem opens_ints2 : Opens Try.prog 41 (Rep.int.pair Rep.int) := opens_array2 Try.underlying41 (by kernel_rfl) (by kernel_rfl) opens_i

/-! ### Plain -/
theorem sum_le_of {xs : List Int} (h : ∀ x ∈ xs, 0 ≤ x) : 0 ≤ xs.sum := by
  induction xs with
  | nil => simp
  | cons x xs ih => have := ih (fun y hy => h y (by simp [hy])); have := h x (by simp); rw [List.sum_cons]; omega
theorem sum_bd {xs : List Int} {B : Int} (h : ∀ x ∈ xs, 0 ≤ x ∧ x ≤ B) : xs.sum ≤ xs.length * B := by
  induction xs with
  | nil => simp
  | cons x xs ih =>
    have := ih (fun y hy => h y (by simp [hy]))
    have := (h x (by simp)).2
    rw [List.sum_cons, List.length_cons, Int.natCast_add, Int.add_mul]; omega
theorem sumF_small {xs : List Int} (h : ∀ x ∈ xs, 0 ≤ x ∧ x ≤ 100000) (hl : xs.length ≤ 1000000) : (sumF xs).1 = xs.sum := by
  have h1 := sum_le_of (fun x hx => (h x hx).1)
  have h2 := sum_bd h
  have h3 : (xs.length : Int) * 100000 ≤ 1000000 * 100000 := Int.mul_le_mul_of_nonneg_right (by omega) (by omega)
  unfold sumF
  rw [if_pos (by omega)]
theorem below_sum {l : List Bead} {s : List Int} (hs : ∀ x ∈ s, 0 ≤ x) {a b : Int} (hab : a ≤ b) (k : Nat) (hk : k ≤ s.length) :
    (belowTo l s a k).sum ≤ (belowTo l s b k).sum ∧ (belowTo l s b k).sum ≤ (s.take k).sum ∧ 0 ≤ (belowTo l s a k).sum := by
  induction k with
  | zero => simp [belowTo]
  | succ k ih =>
    have ih := ih (by omega)
    have hks : k < s.length := by omega
    have hx : 0 ≤ s[k] := hs _ (List.getElem_mem hks)
    have e : s.getD k 0 = s[k] := by rw [List.getD_eq_getElem?_getD, List.getElem?_eq_getElem hks]; rfl
    have et : (s.take (k + 1)).sum = (s.take k).sum + s[k] := by rw [take_snoc _ _ hks, List.sum_append]; simp
    rw [et]
    unfold belowTo
    rw [e]
    split <;> split <;> (try simp only [List.sum_append, List.sum_cons, List.sum_nil]) <;> omega
theorem getD_lt {s : List Int} {k : Nat} (h : k < s.length) : s.getD k 0 = s[k] := by rw [List.getD_eq_getElem?_getD, List.getElem?_eq_getElem h]; rfl
theorem below_all {l : List Bead} {s : List Int} {b : Int} (hb : ∀ i, i < l.length → (l.getD i default).pos < b) (k : Nat) (hk : k ≤ s.length) (hk' : k ≤ l.length) : belowTo l s b k = s.take k := by
  induction k with
  | zero => simp [belowTo]
  | succ k ih =>
    have hks : k < s.length := by omega
    rw [belowTo, if_pos (hb k (by omega)), ih (by omega) (by omega), take_snoc _ _ hks]
    rw [getD_lt hks]
theorem offF_law {l : List Bead} {s : List Int} (hs : ∀ x ∈ s, 0 ≤ x ∧ x ≤ 100000) (hl : s.length = l.length) (h32 : l.length ≤ 32) {a b : Int} (hab : a ≤ b) :
    0 ≤ offF l s a ∧ offF l s a ≤ offF l s b ∧ offF l s b ≤ s.sum ∧ 0 ≤ s.sum ∧ s.sum ≤ 3200000 := by
  have hm : min l.length s.length = s.length := by omega
  have hlen := fun x => belowTo_length l s x s.length
  have e : ∀ x, offF l s x = (belowTo l s x s.length).sum := fun x => by
    unfold offF; rw [hm]; exact sumF_small (fun y hy => hs y (belowTo_mem (Nat.le_refl _) y hy)) (by have := hlen x; omega)
  have h := below_sum (l := l) (fun x hx => (hs x hx).1) hab s.length (Nat.le_refl _)
  rw [List.take_length] at h
  have h2 := sum_bd hs
  have h3 : (s.length : Int) * 100000 ≤ 32 * 100000 := Int.mul_le_mul_of_nonneg_right (by omega) (by omega)
  rw [e, e]; omega
theorem offF_end {l : List Bead} {s : List Int} (hok : l.all okBead = true) (hs : ∀ x ∈ s, 0 ≤ x ∧ x ≤ 100000) (hl : s.length = l.length) (h32 : l.length ≤ 32) : offF l s 32769 = s.sum := by
  have hm : min l.length s.length = s.length := by omega
  unfold offF
  rw [hm, below_all (fun i hi => by
    have := okBead_bd (List.all_eq_true.1 hok l[i] (List.getElem_mem hi))
    rw [List.getD_eq_getElem?_getD, List.getElem?_eq_getElem hi]
    simp only [Option.getD_some]; omega) s.length (Nat.le_refl _) (by omega), List.take_length]
  exact sumF_small hs (by omega)
theorem take_sum_bd {s : List Int} (hs : ∀ x ∈ s, 0 ≤ x ∧ x ≤ 100000) (h32 : s.length ≤ 32) (k : Nat) : 0 ≤ (s.take k).sum ∧ (s.take k).sum ≤ 3200000 := by
  have h1 := sum_le_of (xs := s.take k) (fun x hx => (hs x (List.mem_of_mem_take hx)).1)
  have h2 := sum_bd (xs := s.take k) (B := 100000) (fun x hx => hs x (List.mem_of_mem_take hx))
  have h3 : ((s.take k).length : Int) * 100000 ≤ 32 * 100000 := Int.mul_le_mul_of_nonneg_right (by have := List.length_take_le k s; rw [List.length_take]; omega) (by omega)
  omega
theorem take_sum_succ {s : List Int} {k : Nat} {x : Int} (h : s[k]? = some x) : (s.take (k + 1)).sum = (s.take k).sum + x := by rw [take_one h, List.sum_append]; simp

set_option maxHeartbeats 2000000 in
theorem sums_law (vl vo : Value) (csx : Array Value) (l : List Bead) (order : List Int) (x : Int × Int) (w : World) (hl : beadR.slice.R w (Lt w) l [vl]) (ho : Rep.int.slice.R w (Lt w) order [vo]) (hx : (Rep.int.pair Rep.int).R w (Lt w) x csx.toList) :
    Calls Try.prog 8 #[vl, vo, .agg csx] w (Ret (.bool true) w) := by
  obtain rfl := pair_inv hx
  obtain ⟨x0, x1⟩ := x
  clear hx
  simp only
  obtain ⟨A, c, rfl, hm, -⟩ := slice_inv hl
  obtain ⟨F, d, rfl, hm', -⟩ := slice_inv ho
  have hw0 : Below w.heap.size w ((w.alloc (.cells #[.int .i64 x0, .int .i64 x1] 41)).alloc (.cells #[.int .i64 100, .int .i64 30] 24)) := ((Below.refl _ _).alloc (Nat.le_refl _) _).alloc (by simp) _
  have b0 := (Blk.new w 41 #[.int .i64 x0, .int .i64 x1]).alloc (.cells #[.int .i64 100, .int .i64 30] 24)
  by_cases h1 : 60 < l.length
  · go_enter Try.func8, Try.ntmps8
    go_wp2_with (go_at_call 9; refine (alive_any _).mono ?_; rintro e w1 ⟨rfl, hb⟩)
    go_ret
    exact ⟨rfl, bstep hw0 hw0.size hb⟩
  · by_cases h2 : 60 < order.length
    · go_enter Try.func8, Try.ntmps8
      go_wp2_with (go_at_call 9; refine (alive_any _).mono ?_; rintro e w1 ⟨rfl, hb⟩)
      go_ret
      exact ⟨rfl, bstep hw0 hw0.size hb⟩
    · by_cases hz : (runF l 100 30 order).2 = 0
      · have hb1 : ((runF l 100 30 order).2 != 0) = false := by simp [hz]
        obtain ⟨hC, hO, hR⟩ := runF_zero hz
        obtain ⟨h32, hrs, hok⟩ := checkF_ok hC
        have hal : (runF l 100 30 order).1.length = l.length := by rw [hR, runTo_length]
        have hsb : ∀ y ∈ (runF l 100 30 order).1, 0 ≤ y ∧ y ≤ 100000 := by rw [hR]; exact runTo_bd hrs hok _
        have HSB := Lib.hid hsb
        have HAL := Lib.hid hal
        have HK := Lib.hid hok
        clear hz hC hO hR hok hrs hal hsb
        go_enter Try.func8, Try.ntmps8
        go_wp2_with fail
        refine (run_any _ _ _ _ _ _ _ (Rep.below hl hw0) (Rep.below ho hw0)).mono ?_
        rintro e w1 ⟨v1, rfl, hv1, hb⟩
        have hw1 := bstep hw0 hw0.size hb
        have hz1 := hb.size
        have b1 := b0.below hb (by simp; omega)
        simp only [World.size_alloc] at hz1
        clear hb b0 hw0
        generalize hs : (runF l 100 30 order).1 = s at *
        have HS := Lib.hid hs
        clear hs
        obtain ⟨V1, c1, rfl, hm1, -⟩ := slice_inv hv1
        have hs32 : s.length ≤ 32 := by rw [HAL.out]; exact h32
        go_wp2_with fail
        go_loopw [10, 11] (fun sm i wr => ∃ k : Nat, k ≤ s.length ∧ i = .int .i64 k ∧ sm = .int .i64 (s.take k).sum ∧ wr = w1) (fun _ i _ => s.length - (intOf i).toNat)
        case atStart => exact ⟨0, Nat.zero_le _, rfl, by simp, rfl⟩
        case round =>
          obtain ⟨k, hk, rfl, rfl, rfl⟩ := hrel
          have HB := Lib.hid (take_sum_bd HSB.out hs32 k)
          have hq0 := HB.out.1
          have hq1 := HB.out.2
          by_cases hlt : k < s.length
          · obtain ⟨b, off, y, rfl, hy, -, g0, -⟩ := ints_at hv1 hlt
            have HY := Lib.hid (HSB.out y (List.mem_of_getElem? hy.out))
            have hy0 := HY.out.1
            have hy1 := HY.out.2
            have HT := Lib.hid (take_sum_succ hy.out)
            generalize hsm : (s.take k).sum = sm at *
            have HSM := Lib.hid hsm
            clear hsm
            go_wp2
            go_roundw
            case rel => exact ⟨k + 1, by omega, by go_num, by rw [HT.out], by trivial⟩
            case measure => simp [intOf]; omega
          · have hke : s.take k = s := List.take_of_length_le (by omega)
            rw [hke] at hq0 hq1 ⊢
            clear hke HB
            have HL := fun (a b : Int) (hab : a ≤ b) => Lib.hid (offF_law (l := l) HSB.out HAL.out h32 hab)
            have HE := Lib.hid (offF_end HK.out HSB.out HAL.out h32)
            have k0 := b1.c20
            have k1 := b1.c21
            have hlt0 : w.heap.size < wr.heap.size := by omega
            generalize hsm : s.sum = sm at *
            have HSM := Lib.hid hsm
            clear hsm
            by_cases hx : x1 < x0
            · have HF := HL x1 x0 (by omega)
              have hmn : (if x1 < x0 then x1 else x0) = x1 := if_pos hx
              have hmx : (if x0 < x1 then x1 else x0) = x0 := if_neg (by omega)
              clear HL
              have ha0 := HF.out.1
              have ha1 := HF.out.2.1
              have ha2 : offF l s x0 ≤ sm := by have := HF.out.2.2.1; have := HSM.out; omega
              have hee : (offF l s 32769 == sm) = true := by simp [HE.out]
              generalize hoa : offF l s x1 = oa at *
              generalize hob : offF l s x0 = ob at *
              have HOA := Lib.hid hoa
              have HOB := Lib.hid hob
              clear hoa hob
              go_wp2_with fail
              go_region_held3 (fun W => Below wr.heap.size wr W ∧ W.cell? ⟨w.heap.size, 0, none⟩ = some (.int .i64 x0) ∧ W.cell? ⟨w.heap.size, 1, none⟩ = some (.int .i64 x1))
                (first
                  | exact ⟨(Below.refl _ _).drew, k0, k1⟩
                  | exact ⟨hSa, (hSa.cell (p := ⟨w.heap.size, 0, none⟩) hlt0).trans k0, (hSa.cell (p := ⟨w.heap.size, 1, none⟩) hlt0).trans k1⟩)
                (first
                  | (go_at_call 17
                     go_split_ands
                     refine (offset_any _ _ _ _ _ _ (Rep.below hl (bstep hw1 hw1.size (by assumption))) (Rep.below hv1 (by assumption)) (by omega)).mono ?_
                     rintro e W1 ⟨he, hb⟩
                     try simp only [hmn, hmx] at he
                     first | rw [HOA.out] at he | rw [HOB.out] at he
                     subst he
                     have hSa := bstep (B := wr.heap.size) (a := wr) (by assumption) (Below.size (by assumption)) hb))
              all_goals
                go_split_ands
                go_wp2_with fail
                refine (offset_any _ _ _ _ _ _ (Rep.below hl (bstep hw1 hw1.size (by assumption))) (Rep.below hv1 (by assumption)) (by omega)).mono ?_
                rintro e W3 ⟨rfl, hb3⟩
                have hS3 := bstep (B := wr.heap.size) (a := wr) (by assumption) (Below.size (by assumption)) hb3
                go_wp2_with fail
                refine (alive_any _).mono ?_
                rintro e W4 ⟨rfl, hb4⟩
                have hS4 := bstep hS3 hS3.size hb4
                go_wp2
                go_ret
                exact ⟨rfl, bstep hw1 hw1.size hS4⟩
            · have HF := HL x0 x1 (by omega)
              have hmn : (if x1 < x0 then x1 else x0) = x0 := if_neg hx
              have hmx : (if x0 < x1 then x1 else x0) = x1 := by split <;> omega
              clear HL
              have ha0 := HF.out.1
              have ha1 := HF.out.2.1
              have ha2 : offF l s x1 ≤ sm := by have := HF.out.2.2.1; have := HSM.out; omega
              have hee : (offF l s 32769 == sm) = true := by simp [HE.out]
              generalize hoa : offF l s x0 = oa at *
              generalize hob : offF l s x1 = ob at *
              have HOA := Lib.hid hoa
              have HOB := Lib.hid hob
              clear hoa hob
              go_wp2_with fail
              go_region_held3 (fun W => Below wr.heap.size wr W ∧ W.cell? ⟨w.heap.size, 0, none⟩ = some (.int .i64 x0) ∧ W.cell? ⟨w.heap.size, 1, none⟩ = some (.int .i64 x1))
                (first
                  | exact ⟨(Below.refl _ _).drew, k0, k1⟩
                  | exact ⟨hSa, (hSa.cell (p := ⟨w.heap.size, 0, none⟩) hlt0).trans k0, (hSa.cell (p := ⟨w.heap.size, 1, none⟩) hlt0).trans k1⟩)
                (first
                  | (go_at_call 17
                     go_split_ands
                     refine (offset_any _ _ _ _ _ _ (Rep.below hl (bstep hw1 hw1.size (by assumption))) (Rep.below hv1 (by assumption)) (by omega)).mono ?_
                     rintro e W1 ⟨he, hb⟩
                     try simp only [hmn, hmx] at he
                     first | rw [HOA.out] at he | rw [HOB.out] at he
                     subst he
                     have hSa := bstep (B := wr.heap.size) (a := wr) (by assumption) (Below.size (by assumption)) hb))
              all_goals
                go_split_ands
                go_wp2_with fail
                refine (offset_any _ _ _ _ _ _ (Rep.below hl (bstep hw1 hw1.size (by assumption))) (Rep.below hv1 (by assumption)) (by omega)).mono ?_
                rintro e W3 ⟨rfl, hb3⟩
                have hS3 := bstep (B := wr.heap.size) (a := wr) (by assumption) (Below.size (by assumption)) hb3
                go_wp2_with fail
                refine (alive_any _).mono ?_
                rintro e W4 ⟨rfl, hb4⟩
                have hS4 := bstep hS3 hS3.size hb4
                go_wp2
                go_ret
                exact ⟨rfl, bstep hw1 hw1.size hS4⟩
      · have hb1 : ((runF l 100 30 order).2 != 0) = true := by simp [hz]
        clear hz
        go_enter Try.func8, Try.ntmps8
        go_wp2_with fail
        refine (run_any _ _ _ _ _ _ _ (Rep.below hl hw0) (Rep.below ho hw0)).mono ?_
        rintro e w1 ⟨v1, rfl, hv1, hb⟩
        have hw1 := bstep hw0 hw0.size hb
        clear hb
        go_wp2_with (go_at_call 9; refine (alive_any _).mono ?_; rintro e w2 ⟨rfl, hb⟩)
        go_ret
        exact ⟨rfl, bstep hw1 hw1.size hb⟩
end Go.Proofs.Ytlhkidiieajamaa
