/- Chapter 27: many moves to and fro: what running them adds up to, and how they lie in memory: no program in sight. -/
import Derived.Test.YthfnncnmggkfaaaDoorTopRunM
import Derived.Test.YthfnncnmggkfaaaDoorNcOpM
namespace Go.Proofs.YthfnncnmggkfaaaDoor
open Go Go.RowKit

def altS (i : Nat) : Stp := (1, (((i % 2 : Nat) : Int), 0))
def altL (n : Nat) : List Stp := (List.range n).map altS
theorem altL_len (n : Nat) : (altL n).length = n := by unfold altL; rw [List.length_map, List.length_range]
theorem altL_snoc (n : Nat) : altL (n + 1) = altL n ++ [altS n] := by unfold altL; rw [List.range_succ, List.map_append]; rfl
theorem alt_run : ∀ k, runTo Mc.start (altL (k + 1)) = (0, ⟨(k : Int), 0, 0, (((k % 2 : Nat) : Int), 0), false, [], []⟩)
  | 0 => by
    rw [show altL (0 + 1) = [altS 0] from rfl]
    unfold altS
    rw [runTo_one (do_move (by decide) rfl), runTo]
    rfl
  | k + 1 => by
    have ih := alt_run k
    rw [altL_snoc, runTo_app (by rw [ih]), ih]
    have h2 : (k % 2 = 0 ∧ (k + 1) % 2 = 1) ∨ (k % 2 = 1 ∧ (k + 1) % 2 = 0) := by omega
    unfold altS
    rcases h2 with ⟨h1, h2⟩ | ⟨h1, h2⟩
    · rw [h1, h2, runTo_one (do_move (by decide) rfl), runTo]
      simp only [show moveF (((0 : Nat) : Int), 0) (((1 : Nat) : Int), 0) = 1 from by decide]
      push_cast
      rfl
    · rw [h1, h2, runTo_one (do_move (by decide) rfl), runTo]
      simp only [show moveF (((1 : Nat) : Int), 0) (((0 : Nat) : Int), 0) = 1 from by decide]
      push_cast
      rfl
theorem alt_fit {n : Nat} (h : ¬ 20000 < n) (h0 : 1 ≤ n) : ∃ a, runF (altL n) = (⟨((n - 1 : Nat) : Int), 0, 0, a, false, [], []⟩, 0) := by
  obtain ⟨k, rfl⟩ : ∃ k, n = k + 1 := ⟨n - 1, by omega⟩
  exact ⟨_, runF_ok (by rw [altL_len]; exact h) (alt_run k) rfl⟩
theorem alt_many {n : Nat} (h : 20000 < n) : runF (altL n) = (Mc.start, 4) := runF_long (by rw [altL_len]; exact h)
/-- the cells when the first k of n steps are set. -/
def altC (n k : Nat) : Array Value := ((altL k).flatMap stEnc ++ List.replicate (3 * (n - k)) (Value.int .i64 0)).toArray
theorem altE_len (k : Nat) : ((altL k).flatMap stEnc).length = 3 * k := by
  induction k with
  | zero => rfl
  | succ k ih => rw [altL_snoc, List.flatMap_append, List.length_append, ih]; simp [stEnc]; omega
theorem altC_zero (n : Nat) : altC n 0 = (List.replicate (3 * n) (Value.int .i64 0)).toArray := rfl
theorem altC_at {n k j : Nat} (hk : k < n) (hj : j < 3) : (altC n k)[3 * k + j]? = some (.int .i64 0) := by
  unfold altC
  rw [List.getElem?_toArray, List.getElem?_append_right (by rw [altE_len]; omega), altE_len, Nat.add_sub_cancel_left, List.getElem?_replicate, if_pos (by omega)]
theorem altC_set {n k : Nat} (hk : k < n) : (((altC n k).setIfInBounds (3 * k) (.int .i64 1)).setIfInBounds (3 * k + 1) (.int .i64 ((k % 2 : Nat) : Int))).setIfInBounds (3 * k + 2) (.int .i64 0) = altC n (k + 1) := by
  obtain ⟨m, hm⟩ : ∃ m, n - k = m + 1 := ⟨n - k - 1, by omega⟩
  unfold altC
  rw [altL_snoc, List.flatMap_append, hm, show n - (k + 1) = m by omega, show 3 * (m + 1) = 3 * m + 1 + 1 + 1 by omega, List.replicate_succ, List.replicate_succ, List.replicate_succ]
  have hl := altE_len k
  generalize (altL k).flatMap stEnc = P at *
  simp only [List.setIfInBounds_toArray]
  congr 1
  rw [List.set_append_right _ _ (by omega), List.set_append_right _ _ (by omega), List.set_append_right _ _ (by omega), hl, Nat.sub_self, Nat.add_sub_cancel_left, Nat.add_sub_cancel_left]
  simp [altS, stEnc]
theorem altC_end (n : Nat) : (altC n n).toList = (altL n).flatMap stEnc := by
  unfold altC
  rw [Nat.sub_self, Nat.mul_zero, List.replicate_zero, List.append_nil]
theorem alt_inI {n : Nat} : ∀ s ∈ altL n, inI64 s.1 ∧ inI64 s.2.1 ∧ inI64 s.2.2 := by
  intro s hs
  unfold altL at hs
  obtain ⟨i, -, rfl⟩ := List.mem_map.1 hs
  unfold altS inI64
  simp only
  omega
theorem alt_rep {w : World} {g : Nat} {t : TypeId} {n : Nat} (h : Blk w g t (altC n n)) (hn : n ≤ 20010) : stR.slice.R w (Lt w) (altL n) [.slice (some ⟨g, 0, none⟩) n n] := by
  have := Blk.slice_enc (E := stR) (enc := stEnc) (fun _ => rfl) (xs := altL n) h (by
    rw [altC_end]
    refine List.take_of_length_le ?_
    rw [altE_len, altL_len]
    show 3 * n ≤ n * 3
    omega) (fun q hq => by
      have hi := alt_inI q hq
      exact ⟨[.int .i64 q.1], [.int .i64 q.2.1, .int .i64 q.2.2], rfl, ⟨rfl, hi.1⟩, ⟨[.int .i64 q.2.1], [.int .i64 q.2.2], rfl, ⟨rfl, hi.2.1⟩, ⟨rfl, hi.2.2⟩⟩⟩) (c := n) (by rw [altL_len]; exact Nat.le_refl _) (by omega)
  rw [altL_len] at this
  exact this
end Go.Proofs.YthfnncnmggkfaaaDoor
