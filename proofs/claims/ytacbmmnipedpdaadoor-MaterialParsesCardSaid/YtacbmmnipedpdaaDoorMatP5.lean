/- Chapter 15: how the lexemes of a text are read, step by step: no program in sight. -/
import Derived.Test.YtacbmmnipedpdaaDoorMatP3
namespace Go.Proofs.YtacbmmnipedpdaaDoor
open Go

theorem parseL_bd15 (s : List UInt8) : -1099511627776 ≤ (parseL s).1 ∧ (parseL s).1 ≤ 1099511627776 := by
  unfold parseL parseD
  split
  · simp
  · split
    · simp
    · split
      · simp
      · split
        · split
          · simp
          · split <;> simp only <;> omega
        · simp
theorem one_i64 (l : List UInt8) : inI64 (lxOne l).2.2.1 := by
  unfold lxOne
  cases l with
  | nil => show inI64 0; unfold inI64; decide
  | cons c t =>
    simp only
    repeat' split
    all_goals first
      | (show inI64 0; unfold inI64; decide)
      | (show inI64 (parseL _).1; have := parseL_bd15 ((c :: t).take (dgLen (c :: t))); unfold inI64; omega)
theorem lexes_i64 {i : Int} {l : List UInt8} {ls : List Lx} (h : Lexes i l ls) : ∀ x ∈ ls, inI64 x.2.2.1 := by
  induction h with
  | done h =>
    intro x hx
    rw [List.mem_singleton] at hx
    subst hx
    show inI64 0; unfold inI64; decide
  | step h ho hr ih =>
    intro x hx
    rcases List.mem_cons.1 hx with rfl | hx
    · exact one_i64 _
    · exact ih x hx
theorem lexes_nums {i : Int} {l : List UInt8} {ls : List Lx} (h : Lexes i l ls) : Nums15 ls := by
  intro k
  unfold lxN
  rw [List.getD_eq_getElem?_getD]
  cases hx : ls[k]? with
  | none => show inI64 0; unfold inI64; decide
  | some x => exact lexes_i64 h x (List.mem_of_getElem? hx)
theorem lexes_ends {D : List UInt8} {L : List Lx} (h : Lexes 0 D L) : Ends15 L := by
  have h1 := offs_plain (s := D) h 0 rfl (by simp) (by omega)
  intro k hk
  obtain ⟨a, -, -, h2, -⟩ := h1 k L[k] (List.getElem?_eq_getElem hk)
  have e : lxN L k = L[k] := by unfold lxN; rw [List.getD_eq_getElem?_getD, List.getElem?_eq_getElem hk]; rfl
  rw [e]
  exact h2
theorem lexes_cnt {D : List UInt8} {L : List Lx} (h : Lexes 0 D L) : L.length ≤ D.length + 1 := by
  have h1 := offs_plain (s := D) h 0 rfl (by simp) (by omega)
  have key : ∀ (k : Nat) (x : Lx), L[k]? = some x → (k : Int) ≤ x.2.2.2 := by
    intro k
    induction k with
    | zero =>
      intro x hx
      obtain ⟨a, ⟨e, -⟩, -⟩ := h1 0 x hx
      rw [e]; omega
    | succ k ih =>
      intro x hx
      have hk := lt_of_get hx
      have hk' : L[k]? = some L[k] := List.getElem?_eq_getElem (by omega)
      obtain ⟨a, ⟨e, -⟩, -, -, -, h2⟩ := h1 k _ hk'
      have h3 := ih _ hk'
      have h4 := h2 x hx
      rw [e] at h3
      omega
  cases hL : L.length with
  | zero => omega
  | succ n =>
    have hk : L[n]? = some (L[n]'(by omega)) := List.getElem?_eq_getElem (by omega)
    obtain ⟨a, ⟨e, h2, -⟩, -⟩ := h1 n _ hk
    have h3 := key n _ hk
    rw [e] at h3
    omega
/-! places do not go back -/
theorem take_ge (L : List Lx) (x : Rd) (kd : Int) (t : List UInt8) : x.1 ≤ (takeR L x kd t).2.1 := by
  unfold takeR; split <;> simp
theorem num_ge (L : List Lx) (x : Rd) (t : List UInt8) : x.1 ≤ (numR L x t).2.1 := by
  unfold numR
  exact Nat.le_trans (take_ge L x 1 t) (take_ge L _ 2 [])
theorem gauges_ge (L : List Lx) : ∀ (f : Nat) (x : Rd) (acc : List Int), x.1 ≤ (gaugesR L f x acc).2.1
  | 0, x, acc => by rw [gaugesR]; exact Nat.le_refl _
  | f + 1, x, acc => by
    rw [gaugesR]
    split
    · exact Nat.le_refl _
    · exact Nat.le_trans (Nat.le_succ _) (gauges_ge L f (x.1 + 1, false) _)
theorem grade_ge (L : List Lx) (x : Rd) : x.1 ≤ (gradeR L x).2.1 := by
  unfold gradeR
  exact Nat.le_trans (take_ge L x 1 []) (Nat.le_trans (num_ge L _ tDensity) (Nat.le_trans (num_ge L _ tYield) (Nat.le_trans (num_ge L _ tGauges) (Nat.le_trans (gauges_ge L _ _ _) (take_ge L _ 4 [59])))))
theorem sect_ge (L : List Lx) (x : Rd) : x.1 ≤ (sectR L x).2.1 := by
  unfold sectR
  exact Nat.le_trans (take_ge L x 1 []) (Nat.le_trans (num_ge L _ tArea) (Nat.le_trans (num_ge L _ tHeight) (Nat.le_trans (num_ge L _ tStock) (take_ge L _ 4 [59]))))
/-! one more -/
theorem many_no {α : Type} {L : List Lx} {word : List UInt8} {one : List Lx → Rd → α × Rd} {f k : Nat} {acc : List α} (h : fitB (lxN L k) 1 word = false) : manyR L word one f (k, false) acc = (acc, (k, false)) := by
  cases f with
  | zero => rfl
  | succ f => rw [manyR, if_pos (.inr h)]
theorem many_bad {α : Type} {L : List Lx} {word : List UInt8} {one : List Lx → Rd → α × Rd} {f k : Nat} {acc : List α} : manyR L word one f (k, true) acc = (acc, (k, true)) := by
  cases f with
  | zero => rfl
  | succ f => rw [manyR, if_pos (.inl rfl)]
theorem many_yes {α : Type} {L : List Lx} {word : List UInt8} {one : List Lx → Rd → α × Rd} {f k : Nat} {acc : List α} (h : fitB (lxN L k) 1 word = true) : manyR L word one (f + 1) (k, false) acc = manyR L word one f (one L (k + 1, false)).2 (acc ++ [(one L (k + 1, false)).1]) := by
  rw [manyR, if_neg (by simp [h])]
/-! what Parse answers -/
theorem parse_err {D : List UInt8} {L : List Lx} {e a : Int} (h : scanS D = (L, e, a)) (he : e ≠ 0) : parseM D = (([], []), e, a) := by
  unfold parseM; rw [h, if_pos he]
theorem parse_syn {D : List UInt8} {L : List Lx} {m : Mat} {k : Nat} {a : Int} (h : scanS D = (L, 0, a)) (hr : readM L = (m, (k, true))) : parseM D = (([], []), 5, (lxN L k).2.2.2) := by
  unfold parseM; rw [h]; simp only [hr]; rw [if_neg (fun h => h rfl), if_pos (by simp)]
theorem parse_syn2 {D : List UInt8} {L : List Lx} {m : Mat} {k : Nat} {a : Int} (h : scanS D = (L, 0, a)) (hr : readM L = (m, (k, false))) (hf : fitB (lxN L k) 0 [] = false) : parseM D = (([], []), 5, (lxN L k).2.2.2) := by
  unfold parseM; rw [h]; simp only [hr]; rw [if_neg (fun h => h rfl), if_pos (by simp [hf])]
theorem parse_chk {D : List UInt8} {L : List Lx} {m : Mat} {k : Nat} {a : Int} (h : scanS D = (L, 0, a)) (hr : readM L = (m, (k, false))) (hf : fitB (lxN L k) 0 [] = true) (hc : checkM m ≠ 0) : parseM D = (([], []), checkM m, 0) := by
  unfold parseM; rw [h]; simp only [hr]; rw [if_neg (fun h => h rfl), if_neg (by simp [hf]), if_pos hc]
theorem parse_okM {D : List UInt8} {L : List Lx} {m : Mat} {k : Nat} {a : Int} (h : scanS D = (L, 0, a)) (hr : readM L = (m, (k, false))) (hf : fitB (lxN L k) 0 [] = true) (hc : checkM m = 0) : parseM D = (m, 0, 0) := by
  unfold parseM; rw [h]; simp only [hr]; rw [if_neg (fun h => h rfl), if_neg (by simp [hf]), if_neg (by simp [hc])]
theorem read_1bad {L : List Lx} {gs : List Gr} {k : Nat} (h : manyR L tGrade gradeR L.length (0, false) [] = (gs, (k, true))) : readM L = ((gs, []), (k, true)) := by
  unfold readM; simp only [h, many_bad]
theorem read_2 {L : List Lx} {gs : List Gr} {ss : List Sc} {k : Nat} {r : Rd} (h : manyR L tGrade gradeR L.length (0, false) [] = (gs, (k, false))) (h2 : manyR L tSection sectR L.length (k, false) [] = (ss, r)) : readM L = ((gs, ss), r) := by
  unfold readM; simp only [h, h2]
theorem scan_ok_of {D : List UInt8} {L : List Lx} {a : Int} (h : scanS D = (L, 0, a)) : Lexes 0 D L ∧ D.length ≤ 16384 := by
  unfold scanS at h
  split at h
  · injection h with h1 h2
    injection h2 with h2 h3
    cases h2
  · rename_i h3
    have := scan_lexes D.length 0 D (Nat.le_refl _) (by rw [h])
    rw [h] at this
    exact ⟨this, by omega⟩
end Go.Proofs.YtacbmmnipedpdaaDoor
