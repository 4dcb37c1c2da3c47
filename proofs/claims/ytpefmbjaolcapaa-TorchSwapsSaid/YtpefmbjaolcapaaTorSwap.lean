/- Chapter 26: the travel is at least the move to each start; what exchanging two successive contours changes. In plain words. -/
import Derived.Test.YtpefmbjaolcapaaTorOpt
namespace Go.Proofs.Ytpefmbjaolcapaa
open Go Go.RowKit

theorem move_tri (a b c : Pt) : moveF a c ≤ moveF a b + moveF b c := by unfold moveF; omega
theorem move_sym (a b : Pt) : moveF a b = moveF b a := by unfold moveF; omega
theorem travel_pos {shapes : List Shp} : ∀ (r : List Pt) (a : Pt), 0 ≤ travelTo shapes a r
  | [], _ => by rw [travelTo]; omega
  | c :: r, a => by
    have h1 := travel_pos (shapes := shapes) r (beginF shapes c)
    have h2 := move_pos a (beginF shapes c)
    rw [travelTo]; omega
theorem travel_ge {shapes : List Shp} : ∀ (r : List Pt) (a c : Pt), c ∈ r → moveF a (beginF shapes c) ≤ travelTo shapes a r
  | [], _, _, h => by cases h
  | d :: r, a, c, h => by
    have h0 := travel_pos (shapes := shapes) r (beginF shapes d)
    rw [travelTo]
    rcases List.mem_cons.1 h with rfl | h
    · omega
    · have h1 := travel_ge (shapes := shapes) r (beginF shapes d) c h
      have h2 := move_tri a (beginF shapes d) (beginF shapes c)
      omega
def lastB (shapes : List Shp) : Pt → List Pt → Pt
  | a, [] => a
  | _, c :: r => lastB shapes (beginF shapes c) r
theorem travel_app {shapes : List Shp} : ∀ (p q : List Pt) (a : Pt), travelTo shapes a (p ++ q) = travelTo shapes a p + travelTo shapes (lastB shapes a p) q
  | [], q, a => by rw [List.nil_append, travelTo, lastB]; omega
  | c :: p, q, a => by rw [List.cons_append, travelTo, travelTo, travel_app p q, lastB]; omega
theorem travel_swap {shapes : List Shp} (p r : List Pt) (x y a : Pt) :
    travelTo shapes a (p ++ y :: x :: r) - travelTo shapes a (p ++ x :: y :: r) =
      (match r with
        | [] => moveF (lastB shapes a p) (beginF shapes y) - moveF (lastB shapes a p) (beginF shapes x)
        | z :: _ => (moveF (lastB shapes a p) (beginF shapes y) + moveF (beginF shapes x) (beginF shapes z)) - (moveF (lastB shapes a p) (beginF shapes x) + moveF (beginF shapes y) (beginF shapes z))) := by
  have hs := move_sym (beginF shapes x) (beginF shapes y)
  rw [travel_app, travel_app]
  cases r with
  | nil => simp only [travelTo]; omega
  | cons z r => simp only [travelTo]; omega
theorem err_congr {all b b' : List Pt} {c : Pt} (h : ∀ a ∈ all, b.contains a = b'.contains a) : errC all b c = errC all b' c := by
  unfold errC
  cases hc : all.contains c with
  | false => rfl
  | true =>
    have hm : c ∈ all := by simpa using hc
    rw [h c hm, free_congr h]
theorem first_congr {all : List Pt} : ∀ (r b b' : List Pt), (∀ a ∈ all, b.contains a = b'.contains a) → firstErr all b r = firstErr all b' r
  | [], _, _, _ => rfl
  | c :: r, b, b', h => by
    have h2 : ∀ a ∈ all, (b ++ [c]).contains a = (b' ++ [c]).contains a := fun a ha => by
      have := h a ha
      simp only [List.contains_eq_mem, List.mem_append, List.mem_singleton] at this ⊢
      rw [Bool.eq_iff_iff] at this ⊢
      simp only [decide_eq_true_eq] at this ⊢
      rw [this]
    rw [firstErr, firstErr, err_congr h, first_congr r _ _ h2]
theorem err_zero {all b : List Pt} {c : Pt} (h : errC all b c = 0) : all.contains c = true ∧ b.contains c = false ∧ freeC all b c = true := by
  unfold errC at h
  cases h1 : all.contains c with
  | false => rw [h1] at h; simp at h
  | true =>
    rw [h1, if_pos rfl] at h
    cases h2 : b.contains c with
    | true => rw [h2] at h; simp at h
    | false =>
      rw [h2] at h
      cases h3 : freeC all b c with
      | true => exact ⟨rfl, rfl, rfl⟩
      | false => rw [h3] at h; simp at h
theorem free_more {all b : List Pt} {c d : Pt} (h : freeC all b c = true) : freeC all (b ++ [d]) c = true := by
  unfold freeC at h ⊢
  rw [Bool.or_eq_true] at h ⊢
  rcases h with h | h
  · exact .inl h
  · refine .inr ?_
    rw [List.all_eq_true] at h ⊢
    intro a ha
    have := h a ha
    rw [Bool.or_eq_true] at this ⊢
    rcases this with h1 | h1
    · exact .inl h1
    · exact .inr (by simp only [List.contains_eq_mem, List.mem_append, decide_eq_true_eq] at h1 ⊢; exact .inl h1)
theorem first_app {all : List Pt} : ∀ (p b q : List Pt), firstErr all b p = 0 → firstErr all b (p ++ q) = firstErr all (b ++ p) q
  | [], b, q, _ => by rw [List.nil_append, List.append_nil]
  | c :: p, b, q, h => by
    have h0 : errC all b c = 0 := by
      by_cases h0 : errC all b c = 0
      · exact h0
      · rw [firstErr, if_pos h0] at h; exact absurd h h0
    rw [first_next h0] at h
    rw [List.cons_append, first_next h0, first_app p _ q h, List.append_assoc]; rfl
theorem first_pre {all : List Pt} : ∀ (p b q : List Pt), firstErr all b (p ++ q) = 0 → firstErr all b p = 0
  | [], _, _, _ => rfl
  | c :: p, b, q, h => by
    have h0 : errC all b c = 0 := by
      by_cases h0 : errC all b c = 0
      · exact h0
      · rw [List.cons_append, firstErr, if_pos h0] at h; exact absurd h h0
    rw [List.cons_append, first_next h0] at h
    rw [first_next h0]
    exact first_pre p _ q h
theorem first_head {all b r : List Pt} {c : Pt} (h : firstErr all b (c :: r) = 0) : errC all b c = 0 ∧ firstErr all (b ++ [c]) r = 0 := by
  have h0 : errC all b c = 0 := by
    by_cases h0 : errC all b c = 0
    · exact h0
    · rw [firstErr, if_pos h0] at h; exact absurd h h0
  exact ⟨h0, by rw [first_next h0] at h; exact h⟩
/-- exchanged, the order is permitted, or the second is an outer contour whose hole was the first. -/
theorem first_swap {all p r : List Pt} {x y : Pt} (hp : ∀ c ∈ all, 0 ≤ c.2) (h : firstErr all [] (p ++ x :: y :: r) = 0) :
    firstErr all [] (p ++ y :: x :: r) = 0 ∨ (firstErr all [] (p ++ y :: x :: r) = 11 ∧ x.1 = y.1 ∧ y.2 = 0) := by
  have hpp := first_pre _ _ _ h
  rw [first_app _ _ _ hpp, List.nil_append] at h ⊢
  obtain ⟨hx, h⟩ := first_head h
  obtain ⟨hy, h⟩ := first_head h
  obtain ⟨x1, x2, x3⟩ := err_zero hx
  obtain ⟨y1, y2, y3⟩ := err_zero hy
  have hym : y ∈ all := by simpa using y1
  have hyp : y ∉ p := by
    intro hm
    have : (p ++ [x]).contains y = true := by simp [hm]
    rw [this] at y2; cases y2
  have hyx : y ≠ x := by
    intro e
    have : (p ++ [x]).contains y = true := by simp [e]
    rw [this] at y2; cases y2
  have hpy : p.contains y = false := by simpa using hyp
  cases hf : freeC all p y with
  | true =>
    left
    have e1 : errC all p y = 0 := by unfold errC; rw [y1, hpy, hf]; rfl
    have e2 : errC all (p ++ [y]) x = 0 := by
      have h2 : (p ++ [y]).contains x = false := by
        have hx2 : x ∉ p := by simpa using x2
        simp [hx2]
        exact fun e => hyx e.symm
      unfold errC; rw [x1, h2, free_more x3]; rfl
    rw [first_next e1, first_next e2, ← h]
    exact first_congr _ _ _ (fun a _ => by
      rw [Bool.eq_iff_iff]
      simp only [List.contains_eq_mem, List.mem_append, List.mem_singleton, decide_eq_true_eq]
      constructor
      · rintro ((h | h) | h)
        · exact .inl (.inl h)
        · exact .inr h
        · exact .inl (.inr h)
      · rintro ((h | h) | h)
        · exact .inl (.inl h)
        · exact .inr h
        · exact .inl (.inr h))
  | false =>
    right
    have e1 : errC all p y = 11 := by unfold errC; rw [y1, hpy, hf]; rfl
    refine ⟨first_stop e1 (by decide), ?_⟩
    have hy0 := hp y hym
    unfold freeC at hf y3
    rw [Bool.or_eq_false_iff] at hf
    have hy2 : ¬ 0 < y.2 := by simpa using hf.1
    rw [List.all_eq_false] at hf
    obtain ⟨a, ha, hn⟩ := hf.2
    rw [Bool.or_eq_true] at y3
    rcases y3 with h3 | h3
    · exact absurd (by simpa using h3) hy2
    · rw [List.all_eq_true] at h3
      have h4 := h3 a ha
      simp only [Bool.or_eq_true, Bool.not_eq_true', Bool.and_eq_false_iff, not_or, Bool.not_eq_true] at hn h4
      obtain ⟨⟨n0, n3⟩, n2⟩ := hn
      have ha1 : a.1 = y.1 := by simpa using n0
      have hax : a = x := by
        rcases h4 with (h4 | h4) | h4
        · exact absurd h4 n0
        · exact absurd h4 n3
        · have h5 : a ∈ p ++ [x] := by simpa using h4
          rcases List.mem_append.1 h5 with h6 | h6
          · have : p.contains a = true := by simpa using h6
            rw [this] at n2; cases n2
          · simpa using h6
      subst hax
      exact ⟨ha1, by omega⟩
end Go.Proofs.Ytpefmbjaolcapaa
