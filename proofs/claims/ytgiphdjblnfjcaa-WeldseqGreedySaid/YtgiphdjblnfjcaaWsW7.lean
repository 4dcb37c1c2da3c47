/- Chapter 34: with, free: the program's, by walking their text. -/
import Derived.Test.YtgiphdjblnfjcaaWsW6
namespace Go.Proofs.Ytgiphdjblnfjcaa
open Go Go.RowKit

theorem clone_any (v : Value) (xs : List Int) (w : World) (h : Rep.int.slice.R w (Lt w) xs [v]) (hn : xs.length ≤ 1000000) :
    Calls Try.prog 33 #[v] w fun e w' => ∃ v', e = .returned v' ∧ OwnI w' w.heap.size v' xs ∧ Below w.heap.size w w' := by
  obtain ⟨A, c, rfl, hm, _⟩ := slice_inv h
  cases A with
  | none =>
    have h0 : xs = [] := by
      by_cases h0 : 0 < xs.length
      · obtain ⟨b, off, y, e, -⟩ := ints_at h h0
        cases e
      · exact List.eq_nil_of_length_eq_zero (by omega)
    subst h0
    refine (Try.slices_Clone_int_nil 0 c w).mono ?_
    rintro e w' ⟨rfl, rfl⟩
    exact ⟨_, rfl, World.ownsRow_nil _ _ _ _, Below.refl _ _⟩
  | some a =>
    by_cases h0 : 0 < xs.length
    · obtain ⟨b, off, y, e, -⟩ := ints_at h h0
      injection e with e
      subst e
      refine (Try.slices_Clone_int b off xs.length c xs w (Nat.le_refl _) (by omega) (ints_cellsD h)).mono ?_
      rintro e w' ⟨v', rfl, h1, -, h2⟩
      rw [List.take_length] at h1
      exact ⟨v', rfl, h1, h2⟩
    · obtain rfl : xs = [] := List.eq_nil_of_length_eq_zero (by omega)
      refine (Try.slices_Clone_int_zero a c w).mono ?_
      rintro e w' ⟨v', rfl, h1, -, h2⟩
      exact ⟨v', rfl, h1, h2⟩
set_option maxHeartbeats 400000 in
theorem with_any (v : Value) (xs : List Int) (i : Int) (w : World) (h : Rep.int.slice.R w (Lt w) xs [v]) (hn : xs.length ≤ 1000000) (hi : inI64 i) :
    Calls Try.prog 29 #[v, .int .i64 i] w fun e w' => ∃ v', e = .returned v' ∧ Rep.int.slice.R w' (Lt w') (xs ++ [i]) [v'] ∧ Below w.heap.size w w' := by
  have HB := Lib.hid (ints_bd h)
  have HI := Lib.hid hi
  clear hi
  obtain ⟨i0, hi, hz0, hz1, hz2⟩ := info_parts int_info
  go_enter Try.func29, Try.ntmps29
  go_wp2_with fail
  refine (clone_any v xs w h hn).mono ?_
  rintro e w1 ⟨v1, rfl, hown, hb1⟩
  have hz := hb1.size
  go_wp2_with (at_builtin; refine wpList_append_own _ rfl _ _ 28 rfl w.heap.size 3 i0 (.int .i64 0) 1 8 Try.underlying28 hi hz0 hz1 hz2 rfl (by decide) _ _ _ rfl (World.ownsRow.alloc hown _) ⟨w1.heap.size, 0, none⟩ 1 1 [.int .i64 i] rfl rfl (new1_cells _ _ _) (one_oneCell rfl) (by unfold maxLen; omega) (by omega) (by simp; omega) ?_; intro v2 w2 hown2 hg2 _)
  go_ret
  have hbx : ∀ x ∈ xs ++ [i], inI64 x := fun x hx => by
    rcases List.mem_append.1 hx with hx | hx
    · exact HB.out x hx
    · simp at hx; subst hx; exact HI.out
  exact ⟨v2, rfl, own_ints (ownI_snoc hown2) hbx, (hb1.alloc hz _).grown hg2 (by simp; omega) (fun j hj => (World.ownsRow.lt hown j hj).1)⟩
end Go.Proofs.Ytgiphdjblnfjcaa
